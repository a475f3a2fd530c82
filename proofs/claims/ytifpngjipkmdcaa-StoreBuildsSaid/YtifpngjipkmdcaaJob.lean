/- rounds.Check, the document's JobFault, the copy of a job; the statement on rounds.Check. -/
import Derived.Test.YtifpngjipkmdcaaGraphRef
namespace Go.Proofs.Ytifpngjipkmdcaa
open Go.ChangeShapes Go.WideShapes Go.ChangeAt Go.RowKit
set_option linter.unusedVariables false
set_option linter.unusedSimpArgs false
noncomputable def jobV (j : Job) : Int := if graphV j.graph ≠ 0 then graphV j.graph else if ¬ (1 ≤ j.kind ∧ j.kind ≤ 3) then 3 else if j.kind = 1 ∧ ¬ (0 ≤ j.source ∧ j.source < j.graph.n) then 2 else 0
def jobVal (j : Job) (A : Option Addr) (c : Nat) : Value := .agg #[.int .i64 j.graph.n, .slice A j.graph.edges.length c, .int .i64 j.kind, .int .i64 j.source]
theorem graphV_cases (g : Graph) : graphV g = 0 ∨ graphV g = 1 ∨ graphV g = 2 := by
  unfold graphV; split <;> (try split) <;> simp
theorem graphV_n {g : Graph} (h : graphV g = 0) : 0 ≤ g.n ∧ g.n ≤ 200 := by
  have := (graphV_ok.1 h).1
  exact ⟨this.1, this.2.1⟩
end Go.Proofs.Ytifpngjipkmdcaa
