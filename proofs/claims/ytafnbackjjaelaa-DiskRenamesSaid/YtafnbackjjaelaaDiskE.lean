/- The files of a disk. -/
import Derived.Test.YtafnbackjjaelaaDiskD
import Derived.Test.YtafnbackjjaelaaLibF
import Derived.Test.YtafnbackjjaelaaDegrees
namespace Go.Proofs.Ytafnbackjjaelaa
/-- The files of a disk. -/
def files (l : List MFile) : List File := l.map (·.f)
end Go.Proofs.Ytafnbackjjaelaa
