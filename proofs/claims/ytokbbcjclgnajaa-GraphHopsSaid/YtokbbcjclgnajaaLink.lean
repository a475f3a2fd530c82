/- link: the small functions. -/
import Derived.Test.YtokbbcjclgnajaaIn
import Derived.Test.YtokbbcjclgnajaaLibB
import Derived.Test.YtokbbcjclgnajaaPack
namespace Go.Proofs.Ytokbbcjclgnajaa
open Go.ChangeShapes Go.WideShapes Go.ChangeAt Go.RowKit
set_option linter.unusedVariables false
def endsB (e n : Int) : Bool := decide (0 ≤ e ∧ e ≤ 1099511627776 ∧ 0 ≤ n ∧ n ≤ 1099511627776)
def senderB (e b : Int) (n : Nat) : Bool := decide (0 ≤ e ∧ e ≤ 1099511627776 ∧ 0 ≤ b ∧ b ≤ 1099511627776 ∧ n ≤ 5000)
end Go.Proofs.Ytokbbcjclgnajaa
