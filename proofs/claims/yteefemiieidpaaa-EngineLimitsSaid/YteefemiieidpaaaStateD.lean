/- States between two rounds, in memory. -/
import Derived.Test.YteefemiieidpaaaMem
namespace Go.Proofs.Yteefemiieidpaaa
open Go.RowKit Go.ChangeShapes Go.WideShapes Go.ChangeAt
set_option linter.unusedVariables false
set_option linter.unusedSimpArgs false
structure State where
  step : Int
  phase : Int
  fresh : Bool
  done : Bool
  vals : List Val
  mail : List (ML Int)
def State.cells (s : State) (A : Option Addr) (c : Nat) (A' : Option Addr) (c' : Nat) : List Value := [.int .i64 s.step, .int .i64 s.phase, .bool s.fresh, .bool s.done, .slice A s.vals.length c, .slice A' s.mail.length c']
section
variable {H : Type} {enc : TypeId × Value → H} {W : World}
def StateArg (W : World) (cs : List Value) (s : State) : Prop :=
  ∃ A c A' c', cs = s.cells A c A' c' ∧ I64 s.step ∧ I64 s.phase ∧ Flat W W.heap.size 16 2 Val.cells A c s.vals ∧ (∀ x ∈ s.vals, x.wf) ∧ Flat W W.heap.size 24 1 ML.cells A' c' s.mail ∧ ∀ x ∈ s.mail, x.wf i64c 1 8 I64 W
theorem opn_grid_int : Opn enc Try.prog W 28 (FlatArg W 24 1 ML.cells (ML.wf i64c 1 8 I64 W)) := opn_flat Try.underlying28 (by kernel_rfl) (by kernel_rfl) (by decide) (fun _ => rfl) (opn_ML opn_ints)
theorem opn_State : Opn enc Try.prog W 30 (StateArg W) :=
  (opn_struct Try.underlying30 (by kernel_rfl) (opnF_cons (n := 1) rfl (by kernel_rfl) opn_i64 (opnF_cons (n := 1) rfl (by kernel_rfl) opn_i64 (opnF_cons (n := 1) rfl (by kernel_rfl) (opn_bool Try.underlying4) (opnF_cons (n := 1) rfl (by kernel_rfl) (opn_bool Try.underlying4) (opnF_cons (n := 1) rfl (by kernel_rfl) opn_vals (opnF_cons (n := 1) rfl (by kernel_rfl) opn_grid_int opnF_nil))))))).mono (fun cs x h => by
    obtain ⟨a, b, d, e, f, g, _⟩ := x
    obtain ⟨⟨h0, z0⟩, ⟨h1, z1⟩, h2, h3, ⟨A, c, h4, w4, w5⟩, ⟨A', c', h5, w6, w7⟩, hn⟩ := h
    exact ⟨⟨a, b, d, e, f, g⟩, A, c, A', c', glue h0 (glue h1 (glue h2 (glue h3 (glue h4 (glue h5 hn))))), z0, z1, w4, w5, w6, w7⟩)
end
end Go.Proofs.Yteefemiieidpaaa
