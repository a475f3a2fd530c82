/- Of mail to one vertex the first alone stays. Plain. -/
import Derived.Test.YtifpngjipkmdcaaMSrt
namespace Go.Proofs.Ytifpngjipkmdcaa
set_option linter.unusedVariables false
set_option linter.unusedSimpArgs false
def keepAt (l : List Mail) (i : Nat) : Bool := i == 0 || (l[i]?.map (·.to)) != (l[i - 1]?.map (·.to))
/-- What stays of the first k. -/
def compT (l : List Mail) : Nat → List Mail
  | 0 => []
  | k + 1 => compT l k ++ (if keepAt l k = true then l[k]?.toList else [])
theorem compT_one {l : List Mail} {x : Mail} (hx : l[0]? = some x) : compT l 1 = [x] := by simp [compT, keepAt, hx]
theorem compT_keep {l : List Mail} {m : Nat} {x y : Mail} (hx : l[m + 1]? = some x) (hy : l[m]? = some y) (h : x.to ≠ y.to) : compT l (m + 1 + 1) = compT l (m + 1) ++ [x] := by
  have : keepAt l (m + 1) = true := by simp [keepAt, hx, hy, h]
  rw [compT, this, hx]; rfl
theorem compT_skip {l : List Mail} {m : Nat} {x y : Mail} (hx : l[m + 1]? = some x) (hy : l[m]? = some y) (h : x.to = y.to) : compT l (m + 1 + 1) = compT l (m + 1) := by
  have : keepAt l (m + 1) = false := by simp [keepAt, hx, hy, h]
  rw [compT, this]; simp
theorem compT_len (l : List Mail) : ∀ k, (compT l k).length ≤ k
  | 0 => by simp [compT]
  | k + 1 => by
    have := compT_len l k
    rw [compT, List.length_append]
    split
    · cases l[k]? <;> simp <;> omega
    · simp; omega
/-- No two alike side by side ahead of k. -/
def Apts (l : List Mail) (k : Nat) : Prop := ∀ i x y, i + 1 < k → l[i + 1]? = some x → l[i]? = some y → x.to ≠ y.to
theorem compT_all {l : List Mail} : ∀ {k : Nat}, k ≤ l.length → Apts l k → compT l k = l.take k
  | 0, _, _ => by simp [compT]
  | 1, hk, h => by
    obtain ⟨x, hx⟩ : ∃ x, l[0]? = some x := ⟨_, List.getElem?_eq_getElem (by omega)⟩
    rw [compT_one hx, List.take_add_one, hx]; simp
  | k + 2, hk, h => by
    have ih := compT_all (k := k + 1) (by omega) (fun i x y hi => h i x y (by omega))
    obtain ⟨x, hx⟩ : ∃ x, l[k + 1]? = some x := ⟨_, List.getElem?_eq_getElem (by omega)⟩
    obtain ⟨y, hy⟩ : ∃ y, l[k]? = some y := ⟨_, List.getElem?_eq_getElem (by omega)⟩
    rw [compT_keep hx hy (h k x y (by omega) hx hy), ih]
    rw [show k + 2 = (k + 1) + 1 from rfl, List.take_add_one (i := k + 1), hx]; rfl
theorem Apts.next {l : List Mail} {k : Nat} {x y : Mail} (h : Apts l (k + 1)) (hx : l[k + 1]? = some x) (hy : l[k]? = some y) (hn : x.to ≠ y.to) : Apts l (k + 1 + 1) := fun i u v hi hu hv => by
  rcases Nat.lt_or_ge (i + 1) (k + 1) with h1 | h1
  · exact h i u v h1 hu hv
  · obtain rfl : i = k := by omega
    rw [hx] at hu; rw [hy] at hv
    injection hu with hu; injection hv with hv
    rw [← hu, ← hv]; exact hn
/-- The row while the others move up: a stay of the first j. -/
structure CompIn (l L : List Mail) (a j : Nat) : Prop where
  len : L.length = l.length
  at_ : a = (compT l (j + 1)).length
  head : L.take a = compT l (j + 1)
  tail : L.drop j = l.drop j
  lt : a < j + 1
  le : j + 1 ≤ l.length
theorem CompIn.get0 {l L : List Mail} {a j : Nat} (h : CompIn l L a j) : L[j]? = l[j]? := by
  have := congrArg (·[0]?) h.tail
  simpa [List.getElem?_drop] using this
theorem CompIn.get1 {l L : List Mail} {a j : Nat} (h : CompIn l L a j) : L[j + 1]? = l[j + 1]? := by
  have := congrArg (·[1]?) h.tail
  simpa [List.getElem?_drop] using this
theorem drop_up {α : Type} {l L : List α} {j : Nat} (h : L.drop j = l.drop j) : L.drop (j + 1) = l.drop (j + 1) := by
  have := congrArg (List.drop 1) h
  rwa [List.drop_drop, List.drop_drop] at this
theorem CompIn.skip {l L : List Mail} {a j : Nat} {x y : Mail} (h : CompIn l L a j) (hx : l[j + 1]? = some x) (hy : l[j]? = some y) (he : x.to = y.to) : CompIn l L a (j + 1) := by
  have hj := (List.getElem?_eq_some_iff.1 hx).1
  have e := compT_skip hx hy he
  exact ⟨h.len, by rw [e]; exact h.at_, by rw [e]; exact h.head, drop_up h.tail, by have := h.lt; omega, by omega⟩
theorem CompIn.put {l L : List Mail} {a j : Nat} {x y : Mail} (h : CompIn l L a j) (hx : l[j + 1]? = some x) (hy : l[j]? = some y) (he : x.to ≠ y.to) : CompIn l (L.set a x) (a + 1) (j + 1) := by
  have hj := (List.getElem?_eq_some_iff.1 hx).1
  have e := compT_keep hx hy he
  have hl := h.len
  have hlt := h.lt
  refine ⟨by rw [List.length_set]; exact hl, by rw [e, List.length_append, ← h.at_]; rfl, ?_, ?_, by omega, by omega⟩
  · rw [e, List.take_add_one, List.take_set_of_le (Nat.le_refl _), h.head, List.getElem?_set_self (by omega)]; rfl
  · rw [List.drop_set_of_lt (by omega)]
    exact drop_up h.tail
theorem CompIn.start {l : List Mail} {k : Nat} {x y : Mail} (h : Apts l (k + 1)) (hx : l[k + 1]? = some x) (hy : l[k]? = some y) (he : x.to = y.to) : CompIn l l (k + 1) (k + 1) := by
  have hj := (List.getElem?_eq_some_iff.1 hx).1
  have e : compT l (k + 1 + 1) = l.take (k + 1) := by rw [compT_skip hx hy he, compT_all (by omega) h]
  exact ⟨rfl, by rw [e, List.length_take]; omega, e.symm, rfl, by omega, by omega⟩
theorem CompIn.done {l L : List Mail} {a j : Nat} (h : CompIn l L a j) (hj : j + 1 = l.length) : L.take a = compT l l.length := by rw [h.head, hj]
end Go.Proofs.Ytifpngjipkmdcaa
