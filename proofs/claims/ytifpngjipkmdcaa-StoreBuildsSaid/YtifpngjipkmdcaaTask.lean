/- engine.Check, the document's TaskFault, the copy of a task; the statement on engine.Check. -/
import Derived.Test.YtifpngjipkmdcaaJobRef
import Derived.Test.YtifpngjipkmdcaaMem
namespace Go.Proofs.Ytifpngjipkmdcaa
open Go.ChangeShapes Go.WideShapes Go.ChangeAt Go.RowKit
set_option linter.unusedVariables false
set_option linter.unusedSimpArgs false
def taskFits (t : Task) : Prop := (1 ≤ t.workers ∧ t.workers ≤ 8) ∧ (1 ≤ t.every ∧ t.every ≤ 100000) ∧ 1 ≤ t.budget ∧ t.budget ≤ 1000
instance (t : Task) : Decidable (taskFits t) := inferInstanceAs (Decidable (_ ∧ _))
noncomputable def taskV (t : Task) : Int := if jobV t.job ≠ 0 then jobV t.job else if taskFits t then 0 else 2
def taskVal (t : Task) (A : Option Addr) (c : Nat) : Value := .agg #[.int .i64 t.job.graph.n, .slice A t.job.graph.edges.length c, .int .i64 t.job.kind, .int .i64 t.job.source, .int .i64 t.workers, .int .i64 t.every, .int .i64 t.budget]
end Go.Proofs.Ytifpngjipkmdcaa
