/- link: the small functions. -/
import Derived.Test.YtdmakcenfbfpaaaBase
import Derived.Test.YtdmakcenfbfpaaaMem
import Derived.Test.YtdmakcenfbfpaaaPack
namespace Go.Proofs.Ytdmakcenfbfpaaa
open Go.ChangeShapes Go.WideShapes Go.ChangeAt Go.RowKit
set_option linter.unusedVariables false
set_option linter.unusedSimpArgs false
def endsB (e n : Int) : Bool := decide (0 ≤ e ∧ e ≤ 1099511627776 ∧ 0 ≤ n ∧ n ≤ 1099511627776)
def senderB (e b : Int) (n : Nat) : Bool := decide (0 ≤ e ∧ e ≤ 1099511627776 ∧ 0 ≤ b ∧ b ≤ 1099511627776 ∧ n ≤ 5000)
end Go.Proofs.Ytdmakcenfbfpaaa
