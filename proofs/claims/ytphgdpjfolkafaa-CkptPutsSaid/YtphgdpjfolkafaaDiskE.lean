/- The files of a disk. -/
import Derived.Test.YtphgdpjfolkafaaDiskD
import Derived.Test.YtphgdpjfolkafaaMem
import Derived.Test.YtphgdpjfolkafaaDegrees
namespace Go.Proofs.Ytphgdpjfolkafaa
/-- The files of a disk. -/
def files (l : List MFile) : List File := l.map (·.f)
end Go.Proofs.Ytphgdpjfolkafaa
