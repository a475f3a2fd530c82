/- The statement on rounds.Begin. -/
import Derived.Test.YteefemiieidpaaaBegin
namespace Go.Proofs.Yteefemiieidpaaa
open Go.ChangeShapes Go.WideShapes Go.ChangeAt Go.RowKit
set_option linter.unusedVariables false
set_option linter.unusedSimpArgs false
theorem begV_ok (j : Job) : (begV j).1.vals.length ≤ 200 ∧ (begV j).1.mail.length ≤ 200 ∧ ∀ x ∈ (begV j).1.mail, x.l = [] := by
  unfold begV
  split
  · rename_i h
    have := jobV_n h
    refine ⟨by simp [begS]; omega, by simp [begS]; omega, fun x hx => ?_⟩
    have h2 : x ∈ List.replicate j.graph.n.toNat (⟨none, 0, []⟩ : ML Int) := hx
    rw [(List.mem_replicate.1 h2).2]
  · exact ⟨by simp [zeroS], by simp [zeroS], fun x hx => by simp [zeroS] at hx⟩
theorem lists_mem {α : Type} {m m' : List (ML α)} (h : lists m' = lists m) {x : ML α} (hx : x ∈ m') : ∃ y ∈ m, y.l = x.l := by
  have h1 : x.l ∈ lists m' := List.mem_map.2 ⟨x, hx, rfl⟩
  rw [h] at h1
  obtain ⟨y, hy, he⟩ := List.mem_map.1 h1
  exact ⟨y, hy, he⟩
end Go.Proofs.Yteefemiieidpaaa
