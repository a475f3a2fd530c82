/- varint.Ungap. -/
import Derived.Test.YtdmakcenfbfpaaaUngap
namespace Go.Proofs.Ytdmakcenfbfpaaa
open Go.ChangeShapes Go.WideShapes Go.ChangeAt Go.RowKit
set_option linter.unusedVariables false
set_option linter.unusedSimpArgs false
/-- A list, a number and an error number come back; the list is new memory. -/
def RetLN (E sz : Nat) (w : World) (n : Nat) (xs : List Value) (k err : Int) (e : Ending) (w' : World) : Prop :=
  ∃ A c, e = .returned (.tuple #[.slice A n c, .int .i64 k, .int .i64 err]) ∧ w'.ownsRow w.heap.size E sz (.slice A n c) n xs ∧ Below w.heap.size w w'
theorem retLN_nil (E sz : Nat) (w w' : World) (err : Int) (b : Below w.heap.size w w') : RetLN E sz w 0 [] 0 err (.returned (.tuple #[.slice none 0 0, .int .i64 0, .int .i64 err])) w' :=
  ⟨none, 0, rfl, World.ownsRow_nil _ _ _ _, b⟩
def UngRel (l : List Int) (V : List Int × Int × Int) (R : Nat) (v0 : Value) (M : Nat) (w : World) (s t i : Value) (wr : World) : Prop :=
  ∃ (j m c a : Nat) (A : Option Addr) (q : Int) (acc : List Int), j ≤ M ∧ Hid (acc.length = m) ∧ m ≤ j ∧ a ≤ l.length ∧ i = .int .u64 j ∧ t = .int .u64 q ∧ s = .slice A m c ∧ 0 ≤ q ∧ q ≤ 1152921504606846976 ∧ Hid (V = ungGo l (M - j) a q acc) ∧
    wr.ownsRow (R + 1) 3 1 (.slice A m c) m (acc.flatMap i64c) ∧ Below w.heap.size w wr ∧ R < wr.heap.size ∧ wr.cell? ⟨R, 0, none⟩ = some v0 ∧ wr.cell? ⟨R, 1, none⟩ = some (.int .i64 a) ∧ wr.frozen? ⟨R, 1, none⟩ = false
end Go.Proofs.Ytdmakcenfbfpaaa
