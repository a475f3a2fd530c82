/- The document's GraphFault; the statement's copy of a graph. -/
import Derived.Test.YtphgdpjfolkafaaDoorGraph
import Derived.Test.YtphgdpjfolkafaaDoorMem
namespace Go.Proofs.YtphgdpjfolkafaaDoor
open Go.ChangeShapes Go.WideShapes Go.ChangeAt Go.RowKit
set_option linter.unusedVariables false
set_option linter.unusedSimpArgs false
end Go.Proofs.YtphgdpjfolkafaaDoor
