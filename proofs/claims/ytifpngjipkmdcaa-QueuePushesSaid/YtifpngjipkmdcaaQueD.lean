/- Queues in memory; what they hold. -/
import Derived.Test.YtifpngjipkmdcaaRuns
namespace Go.Proofs.Ytifpngjipkmdcaa
open Go.RowKit Go.ChangeShapes Go.WideShapes Go.ChangeAt
set_option linter.unusedVariables false
set_option linter.unusedSimpArgs false
structure Queue where
  budget : Int
  loose : List Mail
  runs : List (ML Int)
def Byte (n : Int) : Prop := 0 ≤ n ∧ n ≤ 255
section
variable {H : Type} {enc : TypeId × Value → H} {W : World}
def QueueArg (W : World) (cs : List Value) (q : Queue) : Prop :=
  ∃ A c B d, cs = [.int .i64 q.budget, .slice A q.loose.length c, .slice B q.runs.length d] ∧ I64 q.budget ∧ Flat W W.heap.size 16 2 Mail.cells A c q.loose ∧ (∀ x ∈ q.loose, x.wf) ∧ Flat W W.heap.size 24 1 ML.cells B d q.runs ∧ ∀ x ∈ q.runs, x.wf u8c 1 1 Byte W
theorem opn_grid_u8 : Opn enc Try.prog W 51 (FlatArg W 24 1 ML.cells (ML.wf u8c 1 1 Byte W)) := opn_flat Try.underlying51 (by kernel_rfl) (by kernel_rfl) (by decide) (fun _ => rfl) (opn_ML opn_bytes)
theorem opn_Queue : Opn enc Try.prog W 53 (QueueArg W) :=
  (opn_struct Try.underlying53 (by kernel_rfl) (opnF_cons (n := 1) rfl (by kernel_rfl) opn_i64 (opnF_cons (n := 1) rfl (by kernel_rfl) opn_mails (opnF_cons (n := 1) rfl (by kernel_rfl) opn_grid_u8 opnF_nil)))).mono (fun cs x h => by
    obtain ⟨a, b, d, _⟩ := x
    obtain ⟨⟨h0, z0⟩, ⟨A, c, h4, w4, w5⟩, ⟨A', c', h5, w6, w7⟩, hn⟩ := h
    exact ⟨⟨a, b, d⟩, A, c, A', c', glue h0 (glue h4 (glue h5 hn)), z0, w4, w5, w6, w7⟩)
end
open Classical in
/-- How much the runs hold, till it is too much or one is none. -/
noncomputable def manyGo : List (ML Int) → Nat → Option Nat
  | [], n => some n
  | r :: rs, n => if runV r.l = [] ∨ 5000 < n + (runV r.l).length then none else manyGo rs (n + (runV r.l).length)
end Go.Proofs.Ytifpngjipkmdcaa
