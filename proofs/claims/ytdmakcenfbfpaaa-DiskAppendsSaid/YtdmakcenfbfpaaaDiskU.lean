/- slices.DeleteFunc at files, walked. -/
import Derived.Test.YtdmakcenfbfpaaaDiskV
namespace Go.Proofs.Ytdmakcenfbfpaaa
open Go.ChangeShapes Go.WideShapes Go.ChangeAt Go.RowKit
set_option linter.unusedVariables false
set_option linter.unusedSimpArgs false
theorem zero_File (w : World) : (zeroValue 67).run Try.prog w = .ok (.agg #[.string ByteArray.empty, .slice none 0 0, .int .i64 0]) w := by kernel_rfl
def DelRel (l : List MFile) (n : ByteArray) (base B c g : Nat) (w : World) (i j : Value) (wr : World) : Prop :=
  ∃ (a k : Nat) (L : List MFile), j = .int .i64 k ∧ i = .int .i64 a ∧ Hid (DelIn l L n a k) ∧ Heaped MFile.cells MFile.parts wr B 67 3 (some ⟨g, 0, none⟩) c L ∧ Below base w wr ∧ a < k ∧ k ≤ l.length
end Go.Proofs.Ytdmakcenfbfpaaa
