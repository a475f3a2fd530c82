/- varint.Ungap: the reader. -/
import Derived.Test.YtdmakcenfbfpaaaUngapP
import Derived.Test.YtdmakcenfbfpaaaUnpackW
import Derived.Test.YtdmakcenfbfpaaaMem
namespace Go.Proofs.Ytdmakcenfbfpaaa
open Go.ChangeShapes Go.WideShapes Go.ChangeAt Go.RowKit
set_option linter.unusedVariables false
set_option linter.unusedSimpArgs false
def NextR (w : World) (R : Nat) (r : Int × Int × Int) (at_ : Nat) (e : Ending) (w' : World) : Prop :=
  e = .returned (.tuple #[.int .u64 r.1, .int .i64 r.2.2]) ∧ ∃ q, w' = (w.drewN q).setCell ⟨R, 1, none⟩ (.int .i64 ((at_ : Int) + r.2.1))
end Go.Proofs.Ytdmakcenfbfpaaa
