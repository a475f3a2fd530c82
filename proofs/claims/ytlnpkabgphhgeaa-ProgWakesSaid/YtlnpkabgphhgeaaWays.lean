/- prog.Ways and the document's answer; the statement. -/
import Derived.Test.YtlnpkabgphhgeaaIn
import Derived.Test.YtlnpkabgphhgeaaLibB
namespace Go.Proofs.Ytlnpkabgphhgeaa
open Go.ChangeShapes Go.WideShapes Go.ChangeAt Go.RowKit
set_option linter.unusedVariables false
/-- May there be such a kind, in such a phase? -/
def kindB (k p : Int) : Bool := inB k 1 3 && (decide (p = 0) || (decide (k = 3) && decide (p = 1)))
/-- The job of a kind. -/
def jobI (k : Int) : Value := if k = 1 then .iface 46 (.agg #[]) else if k = 2 then .iface 47 (.agg #[]) else if k = 3 then .iface 49 (.agg #[]) else .nilIface
theorem jobOf_walk (k : Int) (w : World) : Calls Try.prog 11 #[.int .i64 k] w fun e w' => e = .returned (jobI k) ∧ w = w' := by
  by_cases h1 : k = 1
  · subst h1
    go_enter Try.func11, Try.ntmps11
    go_wp2
    go_ret
    exact ⟨rfl, rfl⟩
  · by_cases h2 : k = 2
    · subst h2
      go_enter Try.func11, Try.ntmps11
      go_wp2
      go_ret
      exact ⟨rfl, rfl⟩
    · by_cases h3 : k = 3
      · subst h3
        go_enter Try.func11, Try.ntmps11
        go_wp2
        go_ret
        exact ⟨rfl, rfl⟩
      · have HJ : Hid (jobI k = .nilIface) := hid (by simp [jobI, h1, h2, h3])
        go_enter Try.func11, Try.ntmps11
        go_wp2
        go_ret
        rw [HJ.out]
        exact ⟨rfl, rfl⟩
theorem phases_walk (k p : Int) (w : World) : Calls Try.prog 12 #[.int .i64 k, .int .i64 p] w fun e w' => e = .returned (.bool (decide (p = 0) || (decide (k = 3) && decide (p = 1)))) ∧ w = w' := by
  by_cases h0 : p = 0
  · subst h0
    go_enter Try.func12, Try.ntmps12
    go_wp2
    go_ret
    exact ⟨rfl, rfl⟩
  · by_cases h1 : p = 1
    · subst h1
      go_enter Try.func12, Try.ntmps12
      go_wp2
      go_ret
      exact ⟨retb (by rw [Bool.eq_iff_iff]; simp), rfl⟩
    · go_enter Try.func12, Try.ntmps12
      go_wp2
      go_ret
      exact ⟨retb (by simp [h0, h1]), rfl⟩
theorem kindMay_walk (k p : Int) (w : World) : Calls Try.prog 14 #[.int .i64 k, .int .i64 p] w fun e w' => e = .returned (.bool (kindB k p)) ∧ w = w' := by
  have HF : Hid (kindB k p = (inB k 1 3 && (decide (p = 0) || (decide (k = 3) && decide (p = 1))))) := hid rfl
  cases hi : inB k 1 3
  · rw [hi] at HF
    go_enter Try.func14, Try.ntmps14
    go_wp2_with (go_at_call 16; refine (In_walk _ _ _ _).mono ?_; rintro e w' ⟨rfl, rfl⟩)
    go_ret
    exact ⟨by rw [HF.out]; rfl, rfl⟩
  · rw [hi] at HF
    have h3 : k = 3 ∨ (decide (k = 3) = false ∧ k ≠ 3) := by by_cases h : k = 3 <;> simp [h]
    have hp : p = 0 ∨ p = 1 ∨ (p ≠ 0 ∧ p ≠ 1) := by omega
    rcases hp with rfl | rfl | ⟨hp1, hp2⟩ <;> rcases h3 with rfl | ⟨h3, h3'⟩
    all_goals
      go_enter Try.func14, Try.ntmps14
      go_wp2_with (go_at_call 16; refine (In_walk _ _ _ _).mono ?_; rintro e w' ⟨rfl, rfl⟩)
      go_ret
      rw [HF.out]
      exact ⟨retb (by simp [*]), rfl⟩
/-- What both say. -/
def waysV (k p : Int) : Bool × Bool × Int := if kindB k p = true then (decide (k ≠ 3) || decide (p = 0), decide (k = 2) || decide (p = 1), 0) else (false, false, 3)
end Go.Proofs.Ytlnpkabgphhgeaa
