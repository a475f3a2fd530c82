/- The statement on frame.All. -/
import Derived.Test.YtdmakcenfbfpaaaAllW
import Derived.Test.YtdmakcenfbfpaaaSameL
import Derived.Test.YtdmakcenfbfpaaaCopy
namespace Go.Proofs.Ytdmakcenfbfpaaa
open Go.ChangeShapes Go.WideShapes Go.ChangeAt Go.RowKit
set_option linter.unusedVariables false
set_option linter.unusedSimpArgs false
set_option maxHeartbeats 1000000 in
theorem law_FrameAlls (w : World) (l : List Int) (A : Option Addr) (c : Nat) (hf : Flat w w.heap.size 1 1 u8c A c l) (hb : ∀ x ∈ l, 0 ≤ x ∧ x ≤ 255) (hs : l.length ≤ 1048576) :
    Calls Try.prog 4 #[.slice A l.length c] w fun e w' => e = .returned (.bool true) ∧ Below w.heap.size w w' := by
  obtain ⟨f1, f2, f3, f4⟩ := hf
  have hv := allV_len l.length l (Nat.le_refl _) hb
  have c1 := hid (all_walk l)
  have c2 := hid (allOf_walk l)
  have HB := hid hb
  clear hb
  generalize allV l = z at c1 c2 hv
  obtain ⟨v, k⟩ := z
  simp only at hv
  unfold RetGN at c1 c2
  simp only at c1 c2
  have hvn : v.length ≤ 140737488355328 := by have := hv.2.2; omega
  clear hv
  generalize hL : l.length = n at *
  have HL := hid hL
  clear hL
  go_enter Try.func4, Try.ntmps4
  go_wp2_with fail
  refine (octets_copy l w A n c _ f4 (by omega)).mono ?_
  rintro e w1 ⟨A1, k1, rfl, o1, b1⟩
  go_wp2_with fail
  refine (c1.out w1 A1 n k1 (rd_own o1) rfl HB.out (by omega) (own_cap o1)).mono ?_
  rintro e w2 ⟨A2, k2, m2, rfl, h2, g2, b2⟩
  have H2 := hid h2
  clear h2
  go_wp2_with fail
  refine (c2.out w2 A n c (rdb f4 (by decide) (bT b1 b2)) rfl HB.out (by omega) f1).mono ?_
  rintro e w3 ⟨A3, k3, m3, rfl, h3, g3, b3⟩
  have H3 := hid h3
  clear h3
  go_wp2_with fail
  refine (sameList_walk m2 m3 _ _ _ _ _ _ _ (H3.out.trans H2.out.symm) (by rw [← H2.out, lists_length]) (by rw [← H2.out, lists_length]) (Grid.b g2 (by decide) b3) g3 hvn).mono ?_
  rintro e w4 ⟨rfl, b4⟩
  go_wp2_with fail
  refine (sameBytes_walk l _ _ _ _ _ _ _ (own_rdb o1 (by decide) (bT (bT b2 b3) b4)) (rdb f4 (by decide) (bT (bT (bT b1 b2) b3) b4))).mono ?_
  rintro e w5 ⟨rfl, rfl⟩
  go_wp2_with fail
  go_ret
  exact ⟨rfl, bT (bT (bT b1 b2) b3) b4⟩
end Go.Proofs.Ytdmakcenfbfpaaa
