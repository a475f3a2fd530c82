/- Words for memory, ninth part: an own row made shorter; what is behind is cleared. -/
import Derived.Test.YtdmakcenfbfpaaaLibH
namespace Go.Proofs.Ytdmakcenfbfpaaa
open Go.RowKit Go.ChangeShapes Go.WideShapes Go.ChangeAt
set_option linter.unusedVariables false
set_option linter.unusedSimpArgs false
theorem own_shrink {w : World} {base sz n m c : Nat} {e : TypeId} {A : Option Addr} {xs : List Value} (h : w.ownsRow base e sz (.slice A n c) n xs) (hm : m ≤ n) : w.ownsRow base e sz (.slice A m c) m (xs.take (m * sz)) := by
  refine ⟨by rw [List.length_take, h.1, Nat.min_eq_left (Nat.mul_le_mul_right _ hm)], ?_⟩
  rcases h.2 with ⟨hv, h0⟩ | ⟨g, cap, cur, hv, hb, hg, hnc, hcm, hcs, ht⟩
  · injection hv with e1 e2 e3
    subst e1 e3
    have : m = 0 := by omega
    subst this
    exact .inl ⟨rfl, rfl⟩
  · injection hv with e1 e2 e3
    subst e1 e3
    refine .inr ⟨g, c, cur, rfl, hb, hg, by omega, hcm, hcs, ?_⟩
    rw [← ht, List.take_take, Nat.min_eq_left (Nat.mul_le_mul_right _ hm)]
theorem flat_take {α : Type} {cells : α → List Value} {sz : Nat} (h : ∀ x, (cells x).length = sz) (l : List α) (m : Nat) : (l.flatMap cells).take (m * sz) = (l.take m).flatMap cells := by
  exact take_flat h l m
section
variable {β : Type} {cells : β → List Value} {parts : β → List Part}
theorem Heaped.shrink {w : World} {base sz c : Nat} {e : TypeId} {A : Option Addr} {l : List β} (h : Heaped cells parts w base e sz A c l) (hl : ∀ x, (cells x).length = sz) (m : Nat) (hm : m ≤ l.length) : Heaped cells parts w base e sz A c (l.take m) := by
  have e1 : (l.take m).length = m := by rw [List.length_take]; omega
  refine ⟨by rw [e1, ← flat_take hl]; exact own_shrink h.1 hm, fun x hx p hp => ?_⟩
  rw [e1]
  have := h.2 x (List.mem_of_mem_take hx) p hp
  cases A with
  | none => exact this
  | some a => exact this
end
theorem Heaped.sameHeap {β : Type} {cells : β → List Value} {parts : β → List Part} {w w' : World} {base sz c : Nat} {e : TypeId} {A : Option Addr} {l : List β} (h : Heaped cells parts w base e sz A c l) (he : w'.heap = w.heap) : Heaped cells parts w' base e sz A c l :=
  ⟨⟨h.1.1, by rw [he]; exact h.1.2⟩, fun x hx p hp => ⟨(h.2 x hx p hp).1, fun hn => by
    obtain ⟨b, off, e, hb, hne, hB, hc⟩ := (h.2 x hx p hp).2 hn
    exact ⟨b, off, e, by rw [he]; exact hb, hne, hB, fun j u hu => (World.cell?_of_block (w := w) (by rw [he])).trans (hc j u hu)⟩⟩⟩
theorem grown_setCells (g : Nat) : ∀ (vs : List Value) (o : Nat) (w : World), w.grownBy (w.setCells g o vs) (some g)
  | [], o, w => ⟨rfl, rfl, rfl, Nat.le_refl _, fun _ _ _ => rfl⟩
  | v :: vs, o, w => by
    have h := grown_setCells g vs (o + 1) (w.setCell ⟨g, o, none⟩ v)
    refine ⟨h.os, h.tape, h.output, by have := h.size; simp at this; exact this, fun k hk hne => ?_⟩
    exact (h.block k (by simpa using hk) hne).trans (heap_setCell_other w ⟨g, o, none⟩ k v (fun e => hne (by simp [e])))
theorem own_setCells {w : World} {base sz n c g : Nat} {e : TypeId} : ∀ (vs xs : List Value) (o : Nat) (w : World), w.ownsRow base e sz (.slice (some ⟨g, 0, none⟩) n c) n xs → ∃ ys, (w.setCells g o vs).ownsRow base e sz (.slice (some ⟨g, 0, none⟩) n c) n ys ∧ ys.take o = xs.take o
  | [], xs, o, w, h => ⟨xs, h, rfl⟩
  | v :: vs, xs, o, w, h => by
    obtain ⟨ys, h1, h2⟩ := own_setCells (w := w) vs (xs.set o v) (o + 1) (w.setCell ⟨g, o, none⟩ v) (h.stored o v).1
    refine ⟨ys, h1, ?_⟩
    have h3 := congrArg (List.take o) h2
    rw [List.take_take, List.take_take, Nat.min_eq_left (by omega), List.take_set_of_le (by omega)] at h3
    exact h3
theorem own_setAll {base sz n c g : Nat} {e : TypeId} : ∀ (vs xs : List Value) (o : Nat) (w : World), o + vs.length ≤ xs.length → w.ownsRow base e sz (.slice (some ⟨g, 0, none⟩) n c) n xs → (w.setCells g o vs).ownsRow base e sz (.slice (some ⟨g, 0, none⟩) n c) n (xs.take o ++ (vs ++ xs.drop (o + vs.length)))
  | [], xs, o, w, ho, h => by
    rw [List.nil_append, List.length_nil, Nat.add_zero, List.take_append_drop]
    exact h
  | v :: vs, xs, o, w, ho, h => by
    rw [List.length_cons] at ho
    have h1 := own_setAll vs (xs.set o v) (o + 1) (w.setCell ⟨g, o, none⟩ v) (by rw [List.length_set]; omega) (h.stored o v).1
    have e1 : (xs.set o v).take (o + 1) = xs.take o ++ [v] := by
      rw [List.take_add_one, List.take_set_of_le (Nat.le_refl _), List.getElem?_set_self (by omega)]; rfl
    have e2 : (xs.set o v).drop (o + 1 + vs.length) = xs.drop (o + (v :: vs).length) := by
      rw [List.drop_set_of_lt (by omega), List.length_cons]; congr 1; omega
    rw [e1, e2, List.append_assoc] at h1
    exact h1
theorem flat_put {α : Type} {cells : α → List Value} {sz : Nat} (h : ∀ x, (cells x).length = sz) (l : List α) (k : Nat) (y : α) (hk : k < l.length) : (l.flatMap cells).take (k * sz) ++ (cells y ++ (l.flatMap cells).drop (k * sz + (cells y).length)) = (l.set k y).flatMap cells := by
  have e0 : l.flatMap cells = (l.take (k + 1)).flatMap cells ++ (l.drop (k + 1)).flatMap cells := by rw [← List.flatMap_append, List.take_append_drop]
  have el : ((l.take (k + 1)).flatMap cells).length = k * sz + (cells y).length := by
    rw [(flatMap_get (cells := cells) (sz := sz) (fun x _ => h x)).1, List.length_take, Nat.min_eq_left (by omega), h, Nat.add_mul, Nat.one_mul]
  rw [flat_take h, List.set_eq_take_append_cons_drop, if_pos hk, List.flatMap_append, List.flatMap_cons]
  congr 2
  rw [e0, ← el, List.drop_left]
section
variable {β : Type} {cells : β → List Value} {parts : β → List Part}
/-- All cells of the element 'k' of such a row are stored. -/
theorem heap_put {w : World} {base sz c : Nat} {e : TypeId} {A : Option Addr} {l : List β} (hlen : ∀ x, (cells x).length = sz) (hown : Heaped cells parts w base e sz A c l) {k : Nat} {x : β} (hx : l[k]? = some x) (y : β) (hp : ∀ p ∈ parts y, p.ok w base (Value.slice A l.length c).ownBlock) (hsz : 0 < sz) :
    ∃ g, A = some ⟨g, 0, none⟩ ∧ base ≤ g ∧ g < w.heap.size ∧ (∀ i u, (cells x)[i]? = some u → w.cell? ⟨g, k * sz + i, none⟩ = some u) ∧ (∀ i, w.frozen? ⟨g, i, none⟩ = false) ∧ Heaped cells parts (w.setCells g (k * sz) (cells y)) base e sz A c (l.set k y) := by
  have hk := (List.getElem?_eq_some_iff.1 hx).1
  obtain ⟨h1, h2⟩ := hown
  rcases h1.2 with ⟨hv, h0⟩ | ⟨g, cap, cur, hv, hb, hg, r⟩
  · omega
  · injection hv with e1 e2 e3
    subst e1
    have h1' : w.ownsRow base e sz (.slice (some ⟨g, 0, none⟩) l.length c) l.length (l.flatMap cells) := h1
    have hgs := (Array.getElem?_eq_some_iff.1 hg).1
    refine ⟨g, rfl, hb, hgs, fun i u hu => ?_, fun i => h1'.frozenAt i, ?_⟩
    · have hh := (flatMap_get (cells := cells) (sz := sz) (l := l) (fun x _ => hlen x)).2 k x i u hx hu
      have hlt := (List.getElem?_eq_some_iff.1 hh).1
      rw [h1'.1] at hlt
      exact (h1'.cellAt _ hlt).trans hh
    · have hle : k * sz + (cells y).length ≤ (l.flatMap cells).length := by
        rw [h1.1, hlen]
        have := Nat.mul_le_mul_right sz (show k + 1 ≤ l.length by omega)
        rw [Nat.add_mul, Nat.one_mul] at this
        exact this
      have hs := own_setAll (cells y) (l.flatMap cells) (k * sz) w hle h1'
      rw [flat_put hlen l k y hk] at hs
      have hgr := grown_setCells g (cells y) (k * sz) w
      refine ⟨by rw [List.length_set]; exact hs, fun z hz p hpz => ?_⟩
      rw [List.length_set]
      rcases List.mem_or_eq_of_mem_set hz with hz | rfl
      · exact (h2 z hz p hpz).grown hgr
      · exact (hp p hpz).grown hgr
end
/-- 'clear(s[i:])' at an own row: what is ahead stays. -/
theorem run_clear_own {P : Program} {w : World} {t e et : TypeId} {z : Value} {base sz n c g : Nat} {xs : List Value} (ht : P.underlying t = some (.slice et)) (hv : ∀ w, (zeroValue et).run P w = .ok z w) (hz : z.cells.size = sz) (h1 : z.cells.all (·.oneCell') = true)
    (h : w.ownsRow base e sz (.slice (some ⟨g, 0, none⟩) n c) n xs) {i k o c' : Nat} (hi : i + k = n) (ho : o = i * sz) :
    ∃ w', (∀ ty, (Builtin.clear_ #[t] ty #[.slice (some ⟨g, o, none⟩) k c']).run P w = .ok (.tuple #[]) w') ∧ w'.ownsRow base e sz (.slice (some ⟨g, 0, none⟩) i c) i (xs.take (i * sz)) ∧ w.grownBy w' (some g) := by
  subst ho
  rcases Nat.eq_zero_or_pos k with rfl | hk
  · refine ⟨w, fun ty => by simp [Builtin.clear_, run_underlying ht], own_shrink h (by omega), ⟨rfl, rfl, rfl, Nat.le_refl _, fun _ _ _ => rfl⟩⟩
  · have hxl := h.1
    have hlen : (Builtin.zeroCells z.cells k).toList.length = k * sz := by simp [Builtin.zeroCells, hz, Nat.mul_comm]
    have hone : ∀ v ∈ (Builtin.zeroCells z.cells k).toList, v.oneCell' = true := by
      intro v hv
      simp only [Builtin.zeroCells, Array.toList_map, List.mem_map] at hv
      obtain ⟨j, hj, rfl⟩ := hv
      have hjr : j < k * sz := by
        have := hj
        simp [hz, Nat.mul_comm] at this
        rw [Nat.mul_comm] at this
        exact this
      have hs0 : 0 < sz := by
        rcases Nat.eq_zero_or_pos sz with h0 | h0
        · subst h0; omega
        · exact h0
      have hjs : j % z.cells.size < z.cells.size := by rw [hz]; exact Nat.mod_lt _ hs0
      have := Array.all_eq_true.1 h1 (j % z.cells.size) hjs
      rw [getElem!_pos z.cells _ hjs]
      exact this
    have hst := run_storeCells_cells (P := P) g (i * sz) (Builtin.zeroCells z.cells k).toList 0 w (fun j hj => by
        rw [hlen] at hj
        have hb : i * sz + 0 + j < xs.length := by rw [hxl, ← hi, Nat.add_mul]; omega
        rw [h.cellAt _ (by rw [hxl] at hb; exact hb)]
        rw [List.getElem?_eq_getElem hb]; rfl) (fun j hj => h.frozenAt _) hone
    simp only [Nat.add_zero] at hst
    obtain ⟨ys, hy1, hy2⟩ := own_setCells (w := w) (Builtin.zeroCells z.cells k).toList xs (i * sz) w h
    obtain ⟨m, rfl⟩ : ∃ m, k = m + 1 := ⟨k - 1, by omega⟩
    refine ⟨w.setCells g (i * sz) (Builtin.zeroCells z.cells (m + 1)).toList, fun ty => ?_, ?_, grown_setCells _ _ _ _⟩
    · simp [Builtin.clear_, run_underlying ht, hv, hst]
    · have := own_shrink (m := i) hy1 (by omega)
      rw [hy2] at this
      exact this
end Go.Proofs.Ytdmakcenfbfpaaa
