/- What grows by one a round is whole after n rounds. Plain. -/
namespace Go.Proofs.Ytifpngjipkmdcaa
open Classical in
theorem grows (n : Nat) (good : Nat → Nat → Prop) (mono : ∀ k v, v < n → good k v → good (k + 1) v)
    (step : ∀ k, (∃ v, v < n ∧ ¬ good k v) → ∃ v, v < n ∧ ¬ good k v ∧ good (k + 1) v) : ∀ v, v < n → good n v := by
  have cnt : ∀ (p q : Nat → Prop) (m : Nat), (∀ v, v < m → p v → q v) → (List.range m).countP (fun v => decide (p v)) ≤ (List.range m).countP (fun v => decide (q v)) := by
    intro p q m h
    induction m with
    | zero => simp
    | succ m ih =>
      rw [List.range_succ, List.countP_append, List.countP_append]
      have h1 := ih (fun v hv => h v (by omega))
      have h2 : List.countP (fun v => decide (p v)) [m] ≤ List.countP (fun v => decide (q v)) [m] := by
        by_cases hp : p m
        · simp [hp, h m (by omega) hp]
        · simp [hp]
      omega
  have cnt1 : ∀ (p q : Nat → Prop) (m : Nat), (∀ v, v < m → p v → q v) → (∃ v, v < m ∧ ¬ p v ∧ q v) → (List.range m).countP (fun v => decide (p v)) + 1 ≤ (List.range m).countP (fun v => decide (q v)) := by
    intro p q m h hx
    induction m with
    | zero => obtain ⟨v, hv, _⟩ := hx; omega
    | succ m ih =>
      rw [List.range_succ, List.countP_append, List.countP_append]
      by_cases hm : ¬ p m ∧ q m
      · have h1 := cnt p q m (fun v hv => h v (by omega))
        have h2 : List.countP (fun v => decide (p v)) [m] = 0 := by simp [hm.1]
        have h3 : List.countP (fun v => decide (q v)) [m] = 1 := by simp [hm.2]
        omega
      · have h1 := ih (fun v hv => h v (by omega)) (by
          obtain ⟨v, hv, h4⟩ := hx
          refine ⟨v, ?_, h4⟩
          rcases Nat.lt_or_ge v m with h5 | h5
          · exact h5
          · obtain rfl : v = m := by omega
            exact absurd h4 hm)
        have h2 : List.countP (fun v => decide (p v)) [m] ≤ List.countP (fun v => decide (q v)) [m] := by
          by_cases hp : p m
          · simp [hp, h m (by omega) hp]
          · simp [hp]
        omega
  have main : ∀ k, (∀ v, v < n → good k v) ∨ k ≤ (List.range n).countP (fun v => decide (good k v)) := by
    intro k
    induction k with
    | zero => right; omega
    | succ k ih =>
      rcases ih with h | h
      · left; intro v hv; exact mono k v hv (h v hv)
      · by_cases ha : ∀ v, v < n → good k v
        · left; intro v hv; exact mono k v hv (ha v hv)
        · right
          have ha' : ∃ v, v < n ∧ ¬ good k v := by
            refine Classical.byContradiction fun hc => ha fun v hv => Classical.byContradiction fun hg => hc ⟨v, hv, hg⟩
          have := cnt1 (good k) (good (k + 1)) n (mono k) (step k ha')
          omega
  rcases main n with h | h
  · exact h
  · intro v hv
    have hle : (List.range n).countP (fun v => decide (good n v)) ≤ (List.range n).length := List.countP_le_length
    have heq : (List.range n).countP (fun v => decide (good n v)) = (List.range n).length := by
      rw [List.length_range] at hle ⊢
      omega
    have := List.countP_eq_length.1 heq v (List.mem_range.2 hv)
    simpa using this
/-- A function below n as a list of numbers. -/
def fl (n : Nat) (f : Nat → Int) : List Int := (List.range n).map f
def upd {α : Type} (f : Nat → α) (a : Nat) (x : α) : Nat → α := fun v => if v = a then x else f v
theorem fl_len (n : Nat) (f : Nat → Int) : (fl n f).length = n := by simp [fl]
theorem fl_get {n v : Nat} (f : Nat → Int) (h : v < n) : (fl n f)[v]? = some (f v) := by simp [fl, h]
theorem fl_set {n a : Nat} (f : Nat → Int) (x : Int) (h : a < n) : (fl n f).set a x = fl n (upd f a x) := by
  apply List.ext_getElem?
  intro j
  rw [List.getElem?_set, fl_len]
  by_cases hj : j < n
  · rw [fl_get _ hj]
    unfold upd
    by_cases e : a = j
    · subst e; rw [if_pos rfl, if_pos h, fl_get _ h, if_pos rfl]
    · rw [if_neg e, fl_get _ hj, if_neg (fun h => e h.symm)]
  · rw [List.getElem?_eq_none (by rw [fl_len]; omega)]
    by_cases e : a = j
    · omega
    · rw [if_neg e, List.getElem?_eq_none (by rw [fl_len]; omega)]
theorem fl_ext {n : Nat} {f g : Nat → Int} (h : ∀ v, v < n → f v = g v) : fl n f = fl n g := by
  unfold fl
  exact List.map_congr_left (fun v hv => h v (List.mem_range.1 hv))
end Go.Proofs.Ytifpngjipkmdcaa
