/- The files of a disk. -/
import Derived.Test.YtdmakcenfbfpaaaDiskD
import Derived.Test.YtdmakcenfbfpaaaMem
import Derived.Test.YtdmakcenfbfpaaaDegrees
namespace Go.Proofs.Ytdmakcenfbfpaaa
/-- The files of a disk. -/
def files (l : List MFile) : List File := l.map (·.f)
end Go.Proofs.Ytdmakcenfbfpaaa
