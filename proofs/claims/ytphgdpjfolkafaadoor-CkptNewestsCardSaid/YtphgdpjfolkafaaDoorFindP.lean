/- First places in lists; elements apart. Plain. -/
namespace Go.Proofs.YtphgdpjfolkafaaDoor
set_option linter.unusedVariables false
set_option linter.unusedSimpArgs false
def atI : Option Nat → Int
  | none => -1
  | some i => i
section
variable {α κ : Type} {l : List α}
/-- No element ahead of the place k has it. -/
def NoneTo (p : α → Bool) (l : List α) (k : Nat) : Prop := ∀ j x, j < k → l[j]? = some x → p x = false
theorem NoneTo.zero {p : α → Bool} : NoneTo p l 0 := fun j x h => absurd h (by omega)
theorem NoneTo.next {p : α → Bool} {k : Nat} {x : α} (h : NoneTo p l k) (hx : l[k]? = some x) (hp : p x = false) : NoneTo p l (k + 1) := fun j y hj hy => by
  by_cases e : j = k
  · subst e; rw [hx] at hy; cases hy; exact hp
  · exact h j y (by omega) hy
theorem find_none {p : α → Bool} (h : NoneTo p l l.length) : l.findIdx? p = none := by
  rw [List.findIdx?_eq_none_iff]
  intro x hx
  obtain ⟨i, hi, rfl⟩ := List.getElem_of_mem hx
  exact h i _ hi (List.getElem?_eq_getElem hi)
theorem find_at {p : α → Bool} {k : Nat} {x : α} (h : NoneTo p l k) (hx : l[k]? = some x) (hp : p x = true) : l.findIdx? p = some k := by
  rw [List.findIdx?_eq_some_iff_getElem]
  have hk := (List.getElem?_eq_some_iff.1 hx)
  obtain ⟨hk, rfl⟩ := hk
  refine ⟨hk, hp, fun j hj => ?_⟩
  have := h j _ hj (List.getElem?_eq_getElem (by omega))
  simpa using this
theorem find_some {p : α → Bool} {k : Nat} (h : l.findIdx? p = some k) : ∃ x, l[k]? = some x ∧ p x = true ∧ NoneTo p l k := by
  rw [List.findIdx?_eq_some_iff_getElem] at h
  obtain ⟨hk, h1, h2⟩ := h
  refine ⟨_, List.getElem?_eq_getElem hk, h1, fun j x hj hx => ?_⟩
  obtain ⟨hj2, rfl⟩ := List.getElem?_eq_some_iff.1 hx
  simpa using h2 j hj
/-- Good and apart, element by element. -/
def OkTo (good : α → Prop) (key : α → κ) (l : List α) (k : Nat) : Prop := ∀ j x, j < k → l[j]? = some x → good x ∧ ∀ i y, i < j → l[i]? = some y → key y ≠ key x
theorem OkTo.zero {good : α → Prop} {key : α → κ} : OkTo good key l 0 := fun j x h => absurd h (by omega)
theorem OkTo.next {good : α → Prop} {key : α → κ} {k : Nat} {x : α} (h : OkTo good key l k) (hx : l[k]? = some x) (hp : good x) (hk : ∀ i y, i < k → l[i]? = some y → key y ≠ key x) : OkTo good key l (k + 1) := fun j y hj hy => by
  by_cases e : j = k
  · subst e; rw [hx] at hy; cases hy; exact ⟨hp, hk⟩
  · exact h j y (by omega) hy
theorem okTo_all {good : α → Prop} {key : α → κ} : OkTo good key l l.length ↔ (∀ x ∈ l, good x) ∧ l.Pairwise fun a b => key a ≠ key b := by
  constructor
  · intro h
    refine ⟨fun x hx => ?_, List.pairwise_iff_getElem.2 fun i j hi hj hij => ?_⟩
    · obtain ⟨i, hi, rfl⟩ := List.getElem_of_mem hx
      exact (h i _ hi (List.getElem?_eq_getElem hi)).1
    · exact (h j _ hj (List.getElem?_eq_getElem hj)).2 i _ hij (List.getElem?_eq_getElem hi)
  · intro ⟨h1, h2⟩ j x hj hx
    obtain ⟨hj2, rfl⟩ := List.getElem?_eq_some_iff.1 hx
    refine ⟨h1 _ (List.getElem_mem hj2), fun i y hi hy => ?_⟩
    obtain ⟨hi2, rfl⟩ := List.getElem?_eq_some_iff.1 hy
    exact List.pairwise_iff_getElem.1 h2 i j hi2 hj2 hi
end
end Go.Proofs.YtphgdpjfolkafaaDoor
