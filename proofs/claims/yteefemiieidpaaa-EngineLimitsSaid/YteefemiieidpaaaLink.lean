/- link: the small functions. -/
import Derived.Test.YteefemiieidpaaaBase
import Derived.Test.YteefemiieidpaaaMem
import Derived.Test.YteefemiieidpaaaPack
namespace Go.Proofs.Yteefemiieidpaaa
open Go.ChangeShapes Go.WideShapes Go.ChangeAt Go.RowKit
set_option linter.unusedVariables false
set_option linter.unusedSimpArgs false
def endsB (e n : Int) : Bool := decide (0 ≤ e ∧ e ≤ 1099511627776 ∧ 0 ≤ n ∧ n ≤ 1099511627776)
def senderB (e b : Int) (n : Nat) : Bool := decide (0 ≤ e ∧ e ≤ 1099511627776 ∧ 0 ≤ b ∧ b ≤ 1099511627776 ∧ n ≤ 5000)
end Go.Proofs.Yteefemiieidpaaa
