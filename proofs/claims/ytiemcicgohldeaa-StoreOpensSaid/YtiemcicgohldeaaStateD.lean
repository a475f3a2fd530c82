/- States between two rounds, in memory. -/
import Derived.Test.YtiemcicgohldeaaMem
namespace Go.Proofs.Ytiemcicgohldeaa
open Go.RowKit Go.ChangeShapes Go.WideShapes Go.ChangeAt
set_option linter.unusedVariables false
set_option linter.unusedSimpArgs false
structure State where
  step : Int
  phase : Int
  fresh : Bool
  done : Bool
  vals : List Val
  mail : List (ML Int)
def State.cells (s : State) (A : Option Addr) (c : Nat) (A' : Option Addr) (c' : Nat) : List Value := [.int .i64 s.step, .int .i64 s.phase, .bool s.fresh, .bool s.done, .slice A s.vals.length c, .slice A' s.mail.length c']
section
variable {H : Type} {enc : TypeId × Value → H} {W : World}
def StateArg (W : World) (cs : List Value) (s : State) : Prop :=
  ∃ A c A' c', cs = s.cells A c A' c' ∧ I64 s.step ∧ I64 s.phase ∧ Flat W W.heap.size 16 2 Val.cells A c s.vals ∧ (∀ x ∈ s.vals, x.wf) ∧ Flat W W.heap.size 24 1 ML.cells A' c' s.mail ∧ ∀ x ∈ s.mail, x.wf i64c 1 8 I64 W
theorem opn_grid_mail : Opn enc Try.prog W 88 (FlatArg W 24 1 ML.cells (ML.wf Mail.cells 2 16 Mail.wf W)) := opn_flat Try.underlying88 (by kernel_rfl) (by kernel_rfl) (by decide) (fun _ => rfl) (opn_ML opn_mails)
end
end Go.Proofs.Ytiemcicgohldeaa
