/- The statement on rounds.Answer. -/
import Derived.Test.YteefemiieidpaaaAnsA
import Derived.Test.YteefemiieidpaaaLBegin
namespace Go.Proofs.Yteefemiieidpaaa
open Go.ChangeShapes Go.WideShapes Go.ChangeAt Go.RowKit
set_option linter.unusedVariables false
set_option linter.unusedSimpArgs false
theorem manyM_lists : ∀ {m m' : List (ML Int)}, lists m' = lists m → manyM m' = manyM m
  | [], [], _ => rfl
  | [], a :: m', h => by simp [lists] at h
  | a :: m, [], h => by simp [lists] at h
  | a :: m, b :: m', h => by
    simp only [lists, List.map_cons, List.cons.injEq] at h
    simp only [manyM]
    rw [h.1, manyM_lists (m := m) (m' := m') h.2]
theorem stOk_lists {j : Job} {s : State} {m : List (ML Int)} (h : lists m = lists s.mail) (hs : stOk j s) : stOk j { s with mail := m } := by
  obtain ⟨h1, h2, h3, h4, h5, h6, h7, h8, h9⟩ := hs
  have hm := manyM_lists h
  refine ⟨h1, h2, h3, by have := lists_len h; dsimp only; omega, h5, fun i x hx => ?_, h7, by dsimp only; omega, by dsimp only; rw [hm]; exact h9⟩
  obtain ⟨x', hx', he⟩ := lists_get h.symm hx
  rw [← he]
  exact h6 i x' hx'
theorem stB_lists {j : Job} {s : State} {m : List (ML Int)} (h : lists m = lists s.mail) : stB j { s with mail := m } = stB j s := by
  cases hb : stB j s with
  | true => exact stB_yes (stOk_lists h (stB_ok hb))
  | false =>
    refine stB_no fun hc => ?_
    have h2 := stOk_lists (s := { s with mail := m }) (m := s.mail) h.symm hc
    rw [stB_yes (s := s) h2] at hb; cases hb
theorem ansV_lists {j : Job} {s : State} {m : List (ML Int)} (h : lists m = lists s.mail) : ansV j { s with mail := m } = ansV j s := by
  unfold ansV; rw [stB_lists h]
end Go.Proofs.Yteefemiieidpaaa
