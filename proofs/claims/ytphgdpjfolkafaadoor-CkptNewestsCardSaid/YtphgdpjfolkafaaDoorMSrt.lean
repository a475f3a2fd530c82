/- Is mail in order? slices.IsSortedFunc, the document's IsOrdered. -/
import Derived.Test.YtphgdpjfolkafaaDoorMOrd
namespace Go.Proofs.YtphgdpjfolkafaaDoor
open Go.ChangeShapes Go.WideShapes Go.ChangeAt Go.RowKit
set_option linter.unusedVariables false
set_option linter.unusedSimpArgs false
/-- The pair at i and i + 1 is in order. -/
def adj (l : List Mail) (i : Nat) : Prop := ∀ x y, l[i]? = some x → l[i + 1]? = some y → mlt y x = false
section
open Classical
noncomputable def ordB (l : List Mail) : Bool := decide (∀ i, adj l i)
end
theorem ordB_yes {l : List Mail} (h : ∀ i, adj l i) : ordB l = true := by unfold ordB; exact @decide_eq_true _ (_) h
theorem ordB_no {l : List Mail} {i : Nat} {x y : Mail} (hx : l[i]? = some x) (hy : l[i + 1]? = some y) (h : mlt y x = true) : ordB l = false := by
  unfold ordB; rw [decide_eq_false_iff_not]; intro h2; have := h2 i x y hx hy; rw [h] at this; cases this
theorem adj_out {l : List Mail} {i : Nat} (h : l.length ≤ i + 1) : adj l i := fun x y hx hy => by
  have := (List.getElem?_eq_some_iff.1 hy).1; omega
theorem ordB_srt {l : List Mail} (h : ordB l = true) : Srt mlt l := by
  unfold ordB at h
  have h2 : ∀ i, adj l i := @of_decide_eq_true _ (_) h
  unfold Srt
  rw [List.pairwise_iff_getElem]
  intro i j hi hj hij
  obtain ⟨d, rfl⟩ : ∃ d, j = i + 1 + d := ⟨j - (i + 1), by omega⟩
  clear hij
  induction d with
  | zero => exact h2 i _ _ (List.getElem?_eq_getElem hi) (List.getElem?_eq_getElem hj)
  | succ d ih =>
    have h3 := ih (by omega)
    have h4 := h2 (i + 1 + d) _ _ (List.getElem?_eq_getElem (by omega)) (List.getElem?_eq_getElem (by omega))
    exact mlt_strict.le_trans h3 h4
/-- The cells of the mail 'k'. -/
theorem mcells {w : World} {B n k : Nat} {A : Option Addr} {l : List Mail} {x : Mail} (h : Rd w B A 2 n (l.flatMap Mail.cells)) (hl : l.length = n) (hk : l[k]? = some x) :
    ∃ b off, A = some ⟨b, off, none⟩ ∧ b < B ∧ w.cell? ⟨b, off + k * 2, none⟩ = some (.int .i64 x.to) ∧ w.cell? ⟨b, off + k * 2 + 1, none⟩ = some (.int .i64 x.val) := by
  have hkl := (List.getElem?_eq_some_iff.1 hk).1
  obtain ⟨b, off, rfl, hb, hc⟩ := h.2 (show 0 < n by omega)
  have hg := (flatMap_get (l := l) (cells := Mail.cells) (sz := 2) (fun _ _ => rfl)).2 k x
  have c0 := hc _ _ (hg 0 _ hk rfl)
  have c1 := hc _ _ (hg 1 _ hk rfl)
  simp only [Nat.add_zero, ← Nat.add_assoc] at c0 c1
  exact ⟨b, off, rfl, hb, c0, c1⟩
end Go.Proofs.YtphgdpjfolkafaaDoor
