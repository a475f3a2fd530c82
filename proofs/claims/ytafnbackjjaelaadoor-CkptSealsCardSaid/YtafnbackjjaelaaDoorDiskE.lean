/- The files of a disk. -/
import Derived.Test.YtafnbackjjaelaaDoorDiskD
import Derived.Test.YtafnbackjjaelaaDoorLibF
import Derived.Test.YtafnbackjjaelaaDoorDegrees
namespace Go.Proofs.YtafnbackjjaelaaDoor
/-- The files of a disk. -/
def files (l : List MFile) : List File := l.map (·.f)
end Go.Proofs.YtafnbackjjaelaaDoor
