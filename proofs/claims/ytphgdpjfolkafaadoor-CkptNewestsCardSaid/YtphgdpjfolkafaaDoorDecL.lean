/- How much is saved. -/
import Derived.Test.YtphgdpjfolkafaaDoorCkJ
namespace Go.Proofs.YtphgdpjfolkafaaDoor
set_option linter.unusedVariables false
theorem decV_len (b : List Int) : (decV b).1.vals.length ≤ 200 ∧ (decV b).1.mail.length ≤ 5000 := by
  unfold decV
  split
  · exact ⟨Nat.zero_le _, Nat.zero_le _⟩
  · split
    · rename_i h
      have h2 := (Classical.choose_spec h).1.1
      exact ⟨h2.2.2.1, h2.2.2.2⟩
    · exact ⟨Nat.zero_le _, Nat.zero_le _⟩
end Go.Proofs.YtphgdpjfolkafaaDoor
