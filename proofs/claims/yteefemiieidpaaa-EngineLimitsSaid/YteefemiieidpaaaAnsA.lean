/- rounds.Answer, the document's Answered. -/
import Derived.Test.YteefemiieidpaaaAnsR
import Derived.Test.YteefemiieidpaaaStCopy
namespace Go.Proofs.Yteefemiieidpaaa
open Go.ChangeShapes Go.WideShapes Go.ChangeAt Go.RowKit
set_option linter.unusedVariables false
set_option linter.unusedSimpArgs false
theorem ansV_len (j : Job) (s : State) : (ansV j s).1.length ≤ s.vals.length := by
  unfold ansV; split
  · simp
  · split
    · simp
    · split <;> simp
def AnRel (j : Job) (s : State) (w W : World) (o i : Value) (wr : World) : Prop :=
  ∃ (k c : Nat) (A : Option Addr), k ≤ s.vals.length ∧ i = .int .i64 k ∧ o = .slice A k c ∧ wr.ownsRow W.heap.size 3 1 (.slice A k c) k (((s.vals.take k).map (pickV j.kind)).flatMap i64c) ∧ Below W.heap.size W wr
theorem retL_noneI (w w' : World) (err : Int) (b : Below w.heap.size w w') : RetL 3 1 w 0 [] err (.returned (.tuple #[.slice none 0 0, .int .i64 err])) w' := ⟨none, 0, rfl, World.ownsRow_nil _ _ _ _, b⟩
end Go.Proofs.Yteefemiieidpaaa
