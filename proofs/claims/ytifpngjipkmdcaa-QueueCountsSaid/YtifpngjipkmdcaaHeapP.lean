/- Heaps in a list: sifting up, sifting down. No program in sight. -/
import Derived.Test.YtifpngjipkmdcaaRows
namespace Go.Proofs.Ytifpngjipkmdcaa
section
variable {α : Type} (lt : α → α → Bool)
/-- 'lt' is the strict part of an order in which all are comparable. -/
structure Ord2 : Prop where
  asym : ∀ x y, lt x y = true → lt y x = false
  trans : ∀ x y z, lt y x = false → lt z y = false → lt z x = false
/-- Ordered as a heap, the first n. -/
def HeapF (f : Nat → α) (n : Nat) : Prop := ∀ k, 0 < k → k < n → lt (f k) (f ((k - 1) / 2)) = false
def UpAt (f : Nat → α) (n j : Nat) : Prop :=
  (∀ k, 0 < k → k < n → k ≠ j → lt (f k) (f ((k - 1) / 2)) = false) ∧ (0 < j → ∀ k, 0 < k → k < n → (k - 1) / 2 = j → lt (f k) (f ((j - 1) / 2)) = false)
def DownAt (f : Nat → α) (n i : Nat) : Prop :=
  (∀ k, 0 < k → k < n → (k - 1) / 2 ≠ i → lt (f k) (f ((k - 1) / 2)) = false) ∧ (0 < i → ∀ k, 0 < k → k < n → (k - 1) / 2 = i → lt (f k) (f ((i - 1) / 2)) = false)
def swapF (f : Nat → α) (i j : Nat) : Nat → α := fun k => if k = i then f j else if k = j then f i else f k
variable {lt}
theorem swapF_i {f : Nat → α} {i j : Nat} : swapF f i j i = f j := by simp [swapF]
theorem swapF_j {f : Nat → α} {i j : Nat} : swapF f i j j = f i := by unfold swapF; split <;> simp_all
theorem swapF_ne {f : Nat → α} {i j k : Nat} (h1 : k ≠ i) (h2 : k ≠ j) : swapF f i j k = f k := by simp [swapF, h1, h2]
theorem up_start {f : Nat → α} {n : Nat} (h : HeapF lt f n) : UpAt lt f (n + 1) n :=
  ⟨fun k h0 h1 h2 => h k h0 (by omega), fun _ k h0 h1 h2 => by omega⟩
theorem up_stop {f : Nat → α} {n j : Nat} (h : UpAt lt f n j) (hj : j = 0 ∨ lt (f j) (f ((j - 1) / 2)) = false) : HeapF lt f n := fun k h0 h1 => by
  by_cases e : k = j
  · subst e
    rcases hj with hj | hj
    · omega
    · exact hj
  · exact h.1 k h0 h1 e
theorem up_step (O : Ord2 lt) {f : Nat → α} {n j : Nat} (h : UpAt lt f n j) (hj : 0 < j) (hn : j < n) (hlt : lt (f j) (f ((j - 1) / 2)) = true) : UpAt lt (swapF f ((j - 1) / 2) j) n ((j - 1) / 2) := by
  obtain ⟨i, hi⟩ : ∃ i, i = (j - 1) / 2 := ⟨_, rfl⟩
  rw [← hi] at hlt ⊢
  have hij : i < j := by omega
  have hle := O.asym _ _ hlt
  refine ⟨fun k h0 h1 hk => ?_, fun hi0 k h0 h1 hk => ?_⟩
  · by_cases e : k = j
    · subst e
      rw [swapF_j, ← hi, swapF_i]
      exact hle
    · rw [swapF_ne hk e]
      by_cases e1 : (k - 1) / 2 = i
      · rw [e1, swapF_i]
        have := h.1 k h0 h1 e
        rw [e1] at this
        exact O.trans _ _ _ hle this
      · by_cases e2 : (k - 1) / 2 = j
        · rw [e2, swapF_j]
          have := h.2 hj k h0 h1 e2
          rw [← hi] at this
          exact this
        · rw [swapF_ne e1 e2]
          exact h.1 k h0 h1 e
  · have hp : (i - 1) / 2 ≠ i := by omega
    have hp2 : (i - 1) / 2 ≠ j := by omega
    rw [swapF_ne hp hp2]
    have hpi := h.1 i hi0 (by omega) (by omega)
    by_cases e : k = j
    · subst e
      rw [swapF_j]
      exact hpi
    · have hki : k ≠ i := by omega
      rw [swapF_ne hki e]
      have := h.1 k h0 h1 e
      rw [hk] at this
      exact O.trans _ _ _ hpi this
theorem down_start {f : Nat → α} {n : Nat} (h : ∀ k, 0 < k → k < n → (k - 1) / 2 ≠ 0 → lt (f k) (f ((k - 1) / 2)) = false) : DownAt lt f n 0 := ⟨h, fun h0 => by omega⟩
theorem down_stop {f : Nat → α} {n i : Nat} (h : DownAt lt f n i) (hs : ∀ k, 0 < k → k < n → (k - 1) / 2 = i → lt (f k) (f i) = false) : HeapF lt f n := fun k h0 h1 => by
  by_cases e : (k - 1) / 2 = i
  · rw [e]; exact hs k h0 h1 e
  · exact h.1 k h0 h1 e
theorem down_step (O : Ord2 lt) {f : Nat → α} {n i j : Nat} (h : DownAt lt f n i) (hj0 : 0 < j) (hj : (j - 1) / 2 = i) (hn : j < n) (hleast : ∀ k, 0 < k → k < n → (k - 1) / 2 = i → lt (f k) (f j) = false) (hlt : lt (f j) (f i) = true) : DownAt lt (swapF f i j) n j := by
  have hij : i < j := by omega
  have hle := O.asym _ _ hlt
  refine ⟨fun k h0 h1 hk => ?_, fun _ k h0 h1 hk => ?_⟩
  · by_cases e : k = i
    · subst e
      rw [swapF_i]
      have hp : (k - 1) / 2 ≠ k := by omega
      have hp2 : (k - 1) / 2 ≠ j := hk
      rw [swapF_ne hp hp2]
      exact h.2 h0 j hj0 hn hj
    · by_cases e2 : k = j
      · subst e2
        rw [swapF_j, hj, swapF_i]
        exact hle
      · rw [swapF_ne e e2]
        by_cases e3 : (k - 1) / 2 = i
        · rw [e3, swapF_i]
          exact hleast k h0 h1 e3
        · rw [swapF_ne e3 hk]
          exact h.1 k h0 h1 e3
  · have hki : k ≠ i := by omega
    have hkj : k ≠ j := by omega
    rw [swapF_ne hki hkj, hj, swapF_i]
    have := h.1 k h0 h1 (by omega)
    rw [hk] at this
    exact this
theorem heap_least (O : Ord2 lt) {f : Nat → α} {n : Nat} (h : HeapF lt f n) (hr : ∀ x, lt x x = false) : ∀ k, k < n → lt (f k) (f 0) = false := by
  intro k
  induction k using Nat.strongRecOn with
  | _ k ih =>
    intro hk
    rcases Nat.eq_zero_or_pos k with rfl | h0
    · exact hr _
    · exact O.trans _ _ _ (ih ((k - 1) / 2) (by omega) (by omega)) (h k h0 hk)
end
/-- A list as a function of the place. -/
def nthL {α : Type} (d : α) (l : List α) (k : Nat) : α := (l[k]?).getD d
def swapL {α : Type} (l : List α) (i j : Nat) : List α := match l[i]?, l[j]? with
  | some x, some y => (l.set i y).set j x
  | _, _ => l
theorem swapL_eq {α : Type} {l : List α} {i j : Nat} {x y : α} (hx : l[i]? = some x) (hy : l[j]? = some y) : swapL l i j = (l.set i y).set j x := by unfold swapL; rw [hx, hy]
theorem swapL_len {α : Type} {l : List α} {i j : Nat} : (swapL l i j).length = l.length := by
  unfold swapL; split <;> simp
theorem nthL_swap {α : Type} {d : α} {l : List α} {i j : Nat} (hi : i < l.length) (hj : j < l.length) : nthL d (swapL l i j) = swapF (nthL d l) i j := by
  funext k
  rw [swapL_eq (List.getElem?_eq_getElem hi) (List.getElem?_eq_getElem hj)]
  unfold nthL swapF
  by_cases e : k = j
  · subst e
    rw [List.getElem?_set_self (by simpa using hj)]
    by_cases e2 : k = i
    · subst e2; simp [List.getElem?_eq_getElem hi]
    · simp [e2, List.getElem?_eq_getElem hi]
  · rw [List.getElem?_set_ne (fun h => e h.symm)]
    by_cases e2 : k = i
    · subst e2
      rw [List.getElem?_set_self hi]; simp [List.getElem?_eq_getElem hj]
    · rw [List.getElem?_set_ne (fun h => e2 h.symm), if_neg e2, if_neg e]
theorem nthL_get {α : Type} {d : α} {l : List α} {k : Nat} {x : α} (h : l[k]? = some x) : nthL d l k = x := by unfold nthL; rw [h]; rfl
theorem nthL_take {α : Type} {d : α} {l : List α} {n k : Nat} (h : k < n) : nthL d (l.take n) k = nthL d l k := by unfold nthL; rw [List.getElem?_take_of_lt h]
theorem nthL_append {α : Type} {d : α} {l m : List α} {k : Nat} (h : k < l.length) : nthL d (l ++ m) k = nthL d l k := by unfold nthL; rw [List.getElem?_append_left h]
theorem swapL_perm {α : Type} (l : List α) (i j : Nat) (hi : i < l.length) (hj : j < l.length) : (swapL l i j).Perm l := by
  rw [swapL_eq (List.getElem?_eq_getElem hi) (List.getElem?_eq_getElem hj)]
  classical
  rw [List.perm_iff_count]
  intro a
  rw [List.count_set (by simpa using hj), List.count_set hi]
  by_cases e : j = i
  · subst e
    simp
    by_cases h : l[j] = a
    · simp [h]
      have : 0 < l.count a := List.count_pos_iff.2 (by rw [← h]; exact List.getElem_mem hj)
      omega
    · simp [h]
  · rw [List.getElem_set_ne (fun h => e h.symm)]
    have h1 : (if l[i] == a then 1 else 0) ≤ l.count a := by
      by_cases h : l[i] = a
      · have : 0 < l.count a := List.count_pos_iff.2 (by rw [← h]; exact List.getElem_mem hi)
        rw [if_pos (by simpa using h)]; omega
      · rw [if_neg (by simpa using h)]; omega
    generalize (if (l[i] == a) = true then 1 else 0) = p at *
    generalize (if (l[j] == a) = true then 1 else 0) = q at *
    omega
end Go.Proofs.Ytifpngjipkmdcaa
