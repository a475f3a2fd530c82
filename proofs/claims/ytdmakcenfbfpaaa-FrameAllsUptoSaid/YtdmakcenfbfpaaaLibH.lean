/- Words for memory, eighth part: a cell of an element of an own row, stored. -/
import Derived.Test.YtdmakcenfbfpaaaLibG
namespace Go.Proofs.Ytdmakcenfbfpaaa
open Go.RowKit Go.ChangeShapes Go.WideShapes Go.ChangeAt
set_option linter.unusedVariables false
set_option linter.unusedSimpArgs false
theorem flat_set {α : Type} {cells : α → List Value} {sz : Nat} (h : ∀ x, (cells x).length = sz) {v : Value} {y : α} {j : Nat} (hj : j < sz) : ∀ (l : List α) (k : Nat) (x : α), l[k]? = some x → cells y = (cells x).set j v → (l.set k y).flatMap cells = (l.flatMap cells).set (k * sz + j) v
  | [], k, x, hx, _ => by simp at hx
  | a :: l, 0, x, hx, he => by
    simp at hx
    subst hx
    rw [List.set_cons_zero, List.flatMap_cons, List.flatMap_cons, he, Nat.zero_mul, Nat.zero_add, List.set_append_left _ _ (by rw [h]; exact hj)]
  | a :: l, k + 1, x, hx, he => by
    rw [List.set_cons_succ, List.flatMap_cons, List.flatMap_cons, flat_set h hj l k x (by simpa using hx) he, List.set_append_right _ _ (by rw [h, Nat.add_mul]; omega), h]
    congr 1
    have : (k + 1) * sz + j - sz = k * sz + j := by rw [Nat.add_mul]; omega
    rw [this]
theorem Part.ok.storeOwn {w : World} {B g : Nat} {p : Part} (h : p.ok w B (some g)) (o : Nat) (u : Value) : p.ok (w.setCell ⟨g, o, none⟩ u) B (some g) :=
  ⟨h.1, fun hn => by
    obtain ⟨b, off, e, hb, hne, h2, hc⟩ := h.2 hn
    refine ⟨b, off, e, by simpa using hb, hne, h2, fun j v hv => ?_⟩
    exact (World.cell?_setCell_other (w := w) (a := ⟨g, o, none⟩) (b := ⟨b, off + j, none⟩) (v := u) (by intro e; injection e with e; exact hne (by rw [e]))).trans (hc j v hv)⟩
section
variable {β : Type} {cells : β → List Value} {parts : β → List Part}
/-- A cell of the element 'k' of such a row is stored. -/
theorem heap_set {w : World} {base sz c : Nat} {e : TypeId} {A : Option Addr} {l : List β} (hlen : ∀ x, (cells x).length = sz) (hown : Heaped cells parts w base e sz A c l) {k j : Nat} {x y : β} {v : Value} (hx : l[k]? = some x) (hj : j < sz) (hy : cells y = (cells x).set j v)
    (hp : ∀ p ∈ parts y, p.ok w base (Value.slice A l.length c).ownBlock) :
    ∃ g, A = some ⟨g, 0, none⟩ ∧ base ≤ g ∧ g < w.heap.size ∧ (∀ i u, (cells x)[i]? = some u → w.cell? ⟨g, k * sz + i, none⟩ = some u) ∧ (∀ i, w.frozen? ⟨g, i, none⟩ = false) ∧ Heaped cells parts (w.setCell ⟨g, k * sz + j, none⟩ v) base e sz A c (l.set k y) := by
  have hk := (List.getElem?_eq_some_iff.1 hx).1
  obtain ⟨h1, h2⟩ := hown
  rcases h1.2 with ⟨hv, h0⟩ | ⟨g, cap, cur, hv, hb, hg, r⟩
  · omega
  · injection hv with e1 e2 e3
    subst e1
    have h1' : w.ownsRow base e sz (.slice (some ⟨g, 0, none⟩) l.length c) l.length (l.flatMap cells) := h1
    have hgs := (Array.getElem?_eq_some_iff.1 hg).1
    refine ⟨g, rfl, hb, hgs, fun i u hu => ?_, fun i => h1'.frozenAt i, ?_⟩
    · have hh := (flatMap_get (cells := cells) (sz := sz) (l := l) (fun x _ => hlen x)).2 k x i u hx hu
      have hlt := (List.getElem?_eq_some_iff.1 hh).1
      rw [h1'.1] at hlt
      exact (h1'.cellAt _ hlt).trans hh
    · have hs := (h1'.stored (k * sz + j) v).1
      rw [← flat_set hlen hj l k x hx hy] at hs
      refine ⟨by rw [List.length_set]; exact hs, fun z hz p hpz => ?_⟩
      rw [List.length_set]
      rcases List.mem_or_eq_of_mem_set hz with hz | rfl
      · exact (h2 z hz p hpz).storeOwn _ _
      · exact (hp p hpz).storeOwn _ _
end
end Go.Proofs.Ytdmakcenfbfpaaa
