/- The copy of a task; the statement on engine.Check. -/
import Derived.Test.YtifpngjipkmdcaaTask
namespace Go.Proofs.Ytifpngjipkmdcaa
open Go.ChangeShapes Go.WideShapes Go.ChangeAt Go.RowKit
set_option linter.unusedVariables false
set_option linter.unusedSimpArgs false
end Go.Proofs.Ytifpngjipkmdcaa
