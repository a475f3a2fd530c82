/- rounds.Begin, the document's Begun. -/
import Derived.Test.YtifpngjipkmdcaaSameS
import Derived.Test.YtifpngjipkmdcaaTaskC
import Derived.Test.YtifpngjipkmdcaaMem
namespace Go.Proofs.Ytifpngjipkmdcaa
open Go.ChangeShapes Go.WideShapes Go.ChangeAt Go.RowKit
set_option linter.unusedVariables false
set_option linter.unusedSimpArgs false
def none2 : Val := ⟨-1, -1⟩
theorem jobV_n {j : Job} (h : jobV j = 0) : 0 ≤ j.graph.n ∧ j.graph.n ≤ 200 := by
  unfold jobV at h
  by_cases hg : graphV j.graph = 0
  · exact graphV_n hg
  · rw [if_pos hg] at h; exact absurd h hg
/-- The state that a job over n vertices begins with. -/
def begS (n : Nat) : State := ⟨0, 0, decide (0 < n), decide (n = 0), List.replicate n none2, List.replicate n ⟨none, 0, []⟩⟩
def zeroS : State := ⟨0, 0, false, false, [], []⟩
noncomputable def begV (j : Job) : State × Int := if jobV j = 0 then (begS j.graph.n.toNat, 0) else (zeroS, jobV j)
/-- A state and an error number come back. -/
def RetSt (w : World) (s : State) (err : Int) (e : Ending) (w' : World) : Prop :=
  ∃ A c B k m, e = .returned (.tuple #[.agg (stCells { s with mail := m } A c B k), .int .i64 err]) ∧ lists m = lists s.mail ∧ Rd w' w'.heap.size A 2 s.vals.length (s.vals.flatMap Val.cells) ∧ Grid i64c 1 w' w'.heap.size B m ∧ Below w.heap.size w w'
theorem flat_rep_ml (n : Nat) : (List.replicate n (Value.slice none 0 0)) = (List.replicate n (⟨none, 0, []⟩ : ML Int)).flatMap ML.cells := by
  rw [flat_ML, List.map_replicate]; rfl
theorem grid_rep {w : World} {base n c : Nat} {e : TypeId} {A : Option Addr} (h : w.ownsRow base e 1 (.slice A n c) n (List.replicate n (Value.slice none 0 0))) : Grid i64c 1 w w.heap.size A (List.replicate n ⟨none, 0, []⟩) := by
  rw [flat_rep_ml] at h
  refine ⟨by have := rd_own h; simpa using this, fun x hx p hp => ?_⟩
  obtain rfl := (List.mem_replicate.1 hx).2
  obtain rfl := List.mem_singleton.1 hp
  exact Rd.nil_
theorem rep_snoc {α : Type} (n : Nat) (x : α) : List.replicate (n + 1) x = List.replicate n x ++ [x] := List.replicate_succ'
theorem one2 (a b : Int) : ∀ u ∈ (#[Value.int .i64 a, Value.int .i64 b] : Array Value).toList, u.oneCell' = true := by
  intro u hu; simp at hu; rcases hu with rfl | rfl <;> rfl
theorem one_nil (x : Value) (h : x.oneCell' = true) : ∀ u ∈ (#[x] : Array Value).toList, u.oneCell' = true := by
  intro u hu; simp at hu; subst hu; exact h
end Go.Proofs.Ytifpngjipkmdcaa
