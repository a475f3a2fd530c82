/- The files of a disk. -/
import Derived.Test.YtphgdpjfolkafaaDoorDiskD
import Derived.Test.YtphgdpjfolkafaaDoorMem
import Derived.Test.YtphgdpjfolkafaaDoorDegrees
namespace Go.Proofs.YtphgdpjfolkafaaDoor
/-- The files of a disk. -/
def files (l : List MFile) : List File := l.map (·.f)
end Go.Proofs.YtphgdpjfolkafaaDoor
