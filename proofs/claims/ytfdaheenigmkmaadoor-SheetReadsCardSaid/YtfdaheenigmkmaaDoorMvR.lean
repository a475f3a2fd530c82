/- The document's MoveLine. -/
import Derived.Test.YtfdaheenigmkmaaDoorMvL
namespace Go.Proofs.YtfdaheenigmkmaaDoor
open Go.RowKit Go.ChangeShapes Go.WideShapes Go.ChangeAt
set_option linter.unusedVariables false
set_option linter.unusedSimpArgs false
theorem word_some {k : Int} (h : ¬ (k < 1 ∨ 8 < k)) : (wordB k == ⟨#[]⟩) = false := by
  rcases kind_cases h with rfl | rfl | rfl | rfl | rfl | rfl | rfl | rfl <;> decide
theorem word_none {k : Int} (h : k < 1 ∨ 8 < k) : wordB k = ⟨#[]⟩ ∧ atB k = false ∧ keepB k = false := ⟨by unfold wordB; repeat rw [if_neg (by omega)], by unfold atB; simp; omega, by unfold keepB; simp; omega⟩
theorem word_list {k : Int} (h : ¬ (k < 1 ∨ 8 < k)) : (wordB k).toList.isEmpty = false := by
  rcases kind_cases h with rfl | rfl | rfl | rfl | rfl | rfl | rfl | rfl
  all_goals
    rw [ByteArray.toList_eq]
    rfl
end Go.Proofs.YtfdaheenigmkmaaDoor
