/- The statement on play.Show. -/
import Derived.Test.YtbanabjhlmcchaaDoorMshW
namespace Go.Proofs.YtbanabjhlmcchaaDoor
open Go.RowKit Go.ChangeShapes Go.WideShapes Go.ChangeAt
set_option linter.unusedVariables false
set_option linter.unusedSimpArgs false
set_option maxRecDepth 100000 in
set_option maxHeartbeats 4000000 in
theorem law_PlayShows (w : World) (l : List Move) (A : Option Addr) (c : Nat) (hf : Flat w w.heap.size 24 3 Move.cells A c l) (hw : ∀ x ∈ l, x.wf) (hF : FormsAt w) (hP : PowAt w) :
    Calls Tryd.prog 3 #[.slice A l.length c] w fun e w' => e = .returned (.bool true) ∧ Below w.heap.size w w' := by
  obtain ⟨f1, f2, f3, f4⟩ := hf
  have h24 : l.length * 24 ≤ 140737488355328 := by omega
  have HC := hid (moves_copy l w A l.length c w.heap.size f4 h24)
  have HR := hid f4
  clear hw f1 f2 f3 f4
  go_enter Tryd.func3, Tryd.ntmps3
  go_wp2_with fail
  refine HC.out.mono ?_
  rintro e w1 ⟨A1, c1, rfl, o1, b1⟩
  have HO1 := hid o1
  have HB1 := hid b1
  have HS := hid (show_walk l w1 A1 c1 (rd_own o1) (by omega) (hF.below b1) (hP.below b1))
  clear o1 b1 HC
  go_wp2_with fail
  refine HS.out.mono ?_
  rintro e w2 ⟨rfl, b2⟩
  have HB2 := hid (bT HB1.out b2)
  have HO2 := hid (own_below HO1.out b2 (Nat.le_refl _))
  have HM := hid (movesShown_walk l w2 A c (rdb HR.out (by decide) HB2.out) (by omega))
  clear b2 HS
  generalize showV l = z at HM
  obtain ⟨s, er⟩ := z
  dsimp only at HM
  go_wp2_with fail
  refine HM.out.mono ?_
  rintro e w3 ⟨rfl, b3⟩
  have HB3 := hid (bT HB2.out b3)
  have HO3 := hid (own_below HO2.out b3 (Nat.le_refl _))
  have HSM := hid (sameMoves_walk l w3 A1 A c1 c (rd_own HO3.out) (rdb HR.out (by decide) HB3.out) (by omega))
  clear b3
  go_wp2_with fail
  refine HSM.out.mono ?_
  rintro e w4 ⟨rfl, b4⟩
  go_wp2_with fail
  go_ret
  exact ⟨by simp, bT HB3.out b4⟩
end Go.Proofs.YtbanabjhlmcchaaDoor
