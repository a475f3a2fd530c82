/- frame.All: the frames that bytes begin with. Plain. -/
import Derived.Test.YtdmakcenfbfpaaaUnwrapP
import Derived.Test.YtdmakcenfbfpaaaSameS
namespace Go.Proofs.Ytdmakcenfbfpaaa
set_option linter.unusedVariables false
set_option linter.unusedSimpArgs false
def allGo : Nat → List Int → List (List Int) × Nat
  | 0, _ => ([], 0)
  | f + 1, l => if l = [] then ([], 0) else if (unwV l).2.2 ≠ 0 then ([], 0) else
    ((unwV l).1 :: (allGo f (l.drop (unwV l).2.1.toNat)).1, (unwV l).2.1.toNat + (allGo f (l.drop (unwV l).2.1.toNat)).2)
def allV (l : List Int) : List (List Int) × Nat := allGo (l.length + 1) l
theorem allGo_fuel : ∀ (f g : Nat) (l : List Int), (∀ x ∈ l, 0 ≤ x ∧ x ≤ 255) → l.length < f → l.length < g → allGo f l = allGo g l
  | 0, g, l, _, h, _ => by omega
  | f + 1, 0, l, _, _, h => by omega
  | f + 1, g + 1, l, hl, h1, h2 => by
    unfold allGo
    by_cases h : l = []
    · rw [if_pos h, if_pos h]
    · rw [if_neg h, if_neg h]
      by_cases hr : (unwV l).2.2 = 0
      · rw [if_neg (not_not_intro hr), if_neg (not_not_intro hr)]
        have h5 := (unwV_len l hl).2.2.2.2.2 hr
        have h6 := (unwV_len l hl).2.2.1
        rw [allGo_fuel f g (l.drop (unwV l).2.1.toNat) (fun x hx => hl x (List.mem_of_mem_drop hx)) (by rw [List.length_drop]; omega) (by rw [List.length_drop]; omega)]
      · rw [if_pos hr, if_pos hr]
theorem allV_nil : allV [] = ([], 0) := by simp [allV, allGo]
theorem allV_bad {l : List Int} (h : l ≠ []) (hr : (unwV l).2.2 ≠ 0) : allV l = ([], 0) := by unfold allV allGo; rw [if_neg h, if_pos hr]
theorem allV_step {l : List Int} (hl : ∀ x ∈ l, 0 ≤ x ∧ x ≤ 255) (h : l ≠ []) (hr : (unwV l).2.2 = 0) : allV l = ((unwV l).1 :: (allV (l.drop (unwV l).2.1.toNat)).1, (unwV l).2.1.toNat + (allV (l.drop (unwV l).2.1.toNat)).2) := by
  have h5 := (unwV_len l hl).2.2.2.2.2 hr
  have h6 := (unwV_len l hl).2.2.1
  have e := allGo_fuel l.length ((l.drop (unwV l).2.1.toNat).length + 1) (l.drop (unwV l).2.1.toNat) (fun x hx => hl x (List.mem_of_mem_drop hx)) (by rw [List.length_drop]; omega) (by omega)
  unfold allV
  rw [← e]
  conv => lhs; unfold allGo
  rw [if_neg h, if_neg (not_not_intro hr)]
theorem allV_len : ∀ (n : Nat) (l : List Int), l.length ≤ n → (∀ x ∈ l, 0 ≤ x ∧ x ≤ 255) → (allV l).2 ≤ l.length ∧ (∀ x ∈ (allV l).1, x.length ≤ 20000) ∧ (allV l).1.length * 5 ≤ l.length := by
  intro n
  induction n with
  | zero =>
    intro l h hl
    obtain rfl : l = [] := List.eq_nil_of_length_eq_zero (by omega)
    rw [allV_nil]; simp
  | succ n ih =>
    intro l h hl
    by_cases h0 : l = []
    · subst h0; rw [allV_nil]; simp
    · by_cases hr : (unwV l).2.2 = 0
      · have hv := unwV_len l hl
        have h5 := hv.2.2.2.2.2 hr
        have h6 := hv.2.2.1
        have hd := ih (l.drop (unwV l).2.1.toNat) (by rw [List.length_drop]; omega) (fun x hx => hl x (List.mem_of_mem_drop hx))
        rw [allV_step hl h0 hr]
        rw [List.length_drop] at hd
        refine ⟨by simp only; omega, fun x hx => ?_, by simp only [List.length_cons]; omega⟩
        rcases List.mem_cons.1 hx with rfl | hx
        · exact hv.1
        · exact hd.2.1 x hx
      · rw [allV_bad h0 hr]; simp
end Go.Proofs.Ytdmakcenfbfpaaa
