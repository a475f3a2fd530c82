/- The statement on frame.Sum. -/
import Derived.Test.YtblabipgehkllaaFrameSum2
namespace Go.Proofs.Ytblabipgehkllaa
open Go.ChangeShapes Go.WideShapes Go.ChangeAt Go.RowKit
set_option linter.unusedVariables false
set_option maxHeartbeats 1000000 in
theorem law_FrameSums (w : World) (l : List Int) (A : Option Addr) (c : Nat) (hf : Flat w w.heap.size 1 1 u8c A c l) (hb : ∀ x ∈ l, 0 ≤ x ∧ x ≤ 255) :
    Calls Try.prog 18 #[.slice A l.length c] w fun e w' => e = .returned (.bool true) ∧ Below w.heap.size w w' := by
  obtain ⟨f1, f2, f3, f4⟩ := hf
  have c1 := hid (sum_walk l)
  have c2 := hid (summed_walk l)
  have HB := hid hb
  clear hb
  generalize sumV l = v at c1 c2
  generalize hL : l.length = n at *
  have HL := hid hL
  clear hL
  go_enter Try.func18, Try.ntmps18
  go_wp2_with fail
  refine (octets_copy l w A n c _ f4 (by omega)).mono ?_
  rintro e w1 ⟨A1, k1, rfl, o1, b1⟩
  go_wp2_with fail
  refine (c1.out w1 A1 n k1 (rd_own o1) rfl HB.out (by omega)).mono ?_
  rintro e w2 ⟨rfl, b2⟩
  go_wp2_with fail
  refine (c2.out w2 A n c (rdb f4 (by decide) (bT b1 b2)) rfl HB.out (by omega)).mono ?_
  rintro e w3 ⟨rfl, rfl⟩
  go_wp2_with fail
  go_ret
  exact ⟨by simp, bT b1 b2⟩
end Go.Proofs.Ytblabipgehkllaa
