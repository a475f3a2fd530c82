/- The statement on frame.Unwrap. -/
import Derived.Test.YtafnbackjjaelaaUnwrapR
namespace Go.Proofs.Ytafnbackjjaelaa
open Go.ChangeShapes Go.WideShapes Go.ChangeAt Go.RowKit
set_option linter.unusedVariables false
set_option maxHeartbeats 1000000 in
theorem law_FrameUnwraps (w : World) (l : List Int) (A : Option Addr) (c : Nat) (hf : Flat w w.heap.size 1 1 u8c A c l) (hb : ∀ x ∈ l, 0 ≤ x ∧ x ≤ 255) :
    Calls Try.prog 12 #[.slice A l.length c] w fun e w' => e = .returned (.bool true) ∧ Below w.heap.size w w' := by
  obtain ⟨f1, f2, f3, f4⟩ := hf
  have hv := (unwV_len l hb).1
  have c1 := hid (unwrap_walk l)
  have c2 := hid (unwrapped_walk l)
  have HB := hid hb
  clear hb
  generalize unwV l = z at c1 c2 hv
  obtain ⟨v, k, r⟩ := z
  simp only at hv c1 c2
  generalize hL : l.length = n at *
  have HL := hid hL
  clear hL
  go_enter Try.func12, Try.ntmps12
  go_wp2_with fail
  refine (octets_copy l w A n c _ f4 (by omega)).mono ?_
  rintro e w1 ⟨A1, k1, rfl, o1, b1⟩
  go_wp2_with fail
  refine (c1.out w1 A1 n k1 (rd_own o1) rfl HB.out (by omega) (own_cap o1)).mono ?_
  rintro e w2 ⟨A2, k2, rfl, o2, b2⟩
  go_wp2_with fail
  refine (c2.out w2 A n c (rdb f4 (by decide) (bT b1 b2)) rfl HB.out (by omega) f1).mono ?_
  rintro e w3 ⟨A3, k3, rfl, o3, b3⟩
  go_wp2_with fail
  refine (sameBytes_walk v _ _ _ _ _ _ _ (own_rdb o2 (by decide) b3) (rd_own o3)).mono ?_
  rintro e w4 ⟨rfl, rfl⟩
  go_wp2_with fail
  refine (sameBytes_walk l _ _ _ _ _ _ _ (own_rdb o1 (by decide) (bT b2 b3)) (rdb f4 (by decide) (bT (bT b1 b2) b3))).mono ?_
  rintro e w5 ⟨rfl, rfl⟩
  go_wp2_with fail
  go_ret
  exact ⟨rfl, bT (bT b1 b2) b3⟩
end Go.Proofs.Ytafnbackjjaelaa
