/- The statement on varint.Gaps. -/
import Derived.Test.YtblabipgehkllaaGapsRef
namespace Go.Proofs.Ytblabipgehkllaa
open Go.ChangeShapes Go.WideShapes Go.ChangeAt Go.RowKit
set_option linter.unusedVariables false
set_option maxHeartbeats 1000000 in
theorem law_VarintGaps (w : World) (l : List Int) (A : Option Addr) (c : Nat) (hf : Flat w w.heap.size 8 1 i64c A c l) (hb : ∀ x ∈ l, I64 x) :
    Calls Try.prog 22 #[.slice A l.length c] w fun e w' => e = .returned (.bool true) ∧ Below w.heap.size w w' := by
  obtain ⟨f1, f2, f3, f4⟩ := hf
  clear hb
  have c1 := hid (gaps_walk l)
  have c2 := hid (gapsOf_walk l)
  generalize gapsV l = z at c1 c2
  obtain ⟨v, r⟩ := z
  generalize hL : l.length = n at *
  have HL := hid hL
  clear hL
  go_enter Try.func22, Try.ntmps22
  go_wp2_with fail
  refine (ints_copy l w A n c _ f4 (by omega)).mono ?_
  rintro e w1 ⟨A1, k1, rfl, o1, b1⟩
  have r1 := rd_own o1
  have r0 := (f4.below b1).any (by decide)
  go_wp2_with fail
  refine (c1.out w1 A1 n k1 r1 rfl (by omega)).mono ?_
  rintro e w2 ⟨A2, k2, rfl, o2, b2⟩
  go_wp2_with fail
  refine (c2.out w2 A n c ((r0.below b2).any (by decide)) rfl (by omega)).mono ?_
  rintro e w3 ⟨A3, k3, rfl, o3, b3⟩
  go_wp2_with fail
  refine (sameBytes_walk v _ _ _ _ _ _ _ (((rd_own o2).below b3).any (by decide)) (rd_own o3)).mono ?_
  rintro e w4 ⟨rfl, rfl⟩
  have q1 := ((((r1.any (by decide)).below b2).any (by decide)).below b3).any (by decide)
  have q2 := ((((r0.any (by decide)).below b2).any (by decide)).below b3).any (by decide)
  rw [← HL.out] at q1 q2 ⊢
  go_wp2_with fail
  refine (sameInts_walk l _ A1 A k1 c q1 q2 (by have := HL.out; omega)).mono ?_
  rintro e w5 ⟨rfl, b5⟩
  go_wp2_with fail
  go_ret
  exact ⟨rfl, bT (bT (bT b1 b2) b3) b5⟩
end Go.Proofs.Ytblabipgehkllaa
