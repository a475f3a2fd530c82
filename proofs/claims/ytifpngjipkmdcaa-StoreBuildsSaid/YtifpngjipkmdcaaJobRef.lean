/- The document's JobFault; the copy of a job; the statement on rounds.Check. -/
import Derived.Test.YtifpngjipkmdcaaJob
namespace Go.Proofs.Ytifpngjipkmdcaa
open Go.ChangeShapes Go.WideShapes Go.ChangeAt Go.RowKit
set_option linter.unusedVariables false
set_option linter.unusedSimpArgs false
end Go.Proofs.Ytifpngjipkmdcaa
