/- The document's 'In'. -/
import Derived.Test.YtaipjckcckfnaaaSame
namespace Go.Proofs.Ytaipjckcckfnaaa
open Go.ChangeShapes Go.WideShapes Go.ChangeAt Go.RowKit
set_option linter.unusedVariables false
def inB (n lo hi : Int) : Bool := decide (lo ≤ n ∧ n ≤ hi)
theorem inB_yes {n lo hi : Int} (h : lo ≤ n ∧ n ≤ hi) : inB n lo hi = true := by simp [inB, h]
theorem inB_no {n lo hi : Int} (h : ¬ (lo ≤ n ∧ n ≤ hi)) : inB n lo hi = false := by simp only [inB, decide_eq_false_iff_not]; exact h
theorem In_walk (n lo hi : Int) (w : World) :
    Calls Try.prog 24 #[.int .i64 n, .int .i64 lo, .int .i64 hi] w fun e w' => e = .returned (.bool (inB n lo hi)) ∧ w = w' := by
  by_cases h : lo ≤ n
  · by_cases h2 : n ≤ hi
    · have H := hid (inB_yes ⟨h, h2⟩)
      go_enter Try.func24, Try.ntmps24
      go_wp2
      go_ret
      exact ⟨retb H.out.symm, rfl⟩
    · have H := hid (inB_no (n := n) (lo := lo) (hi := hi) (by omega))
      go_enter Try.func24, Try.ntmps24
      go_wp2
      go_ret
      exact ⟨retb H.out.symm, rfl⟩
  · have H := hid (inB_no (n := n) (lo := lo) (hi := hi) (by omega))
    go_enter Try.func24, Try.ntmps24
    go_wp2
    go_ret
    exact ⟨retb H.out.symm, rfl⟩
end Go.Proofs.Ytaipjckcckfnaaa
