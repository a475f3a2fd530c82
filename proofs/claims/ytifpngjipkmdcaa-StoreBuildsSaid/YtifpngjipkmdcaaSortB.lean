/- From the sort's words on rows (the kit's shelf) to an own row that holds the sorted list. -/
import Derived.Test.YtifpngjipkmdcaaOrds
import Derived.Test.YtifpngjipkmdcaaMem
import Derived.Shelf.SlSortCmp.WholeK
import Derived.Lib.RowBridge
namespace Go.Proofs.Ytifpngjipkmdcaa
open Go.ChangeShapes Go.WideShapes Go.ChangeAt Go.RowKit
set_option linter.unusedVariables false
set_option linter.unusedSimpArgs false
theorem below_grow {w w' : World} (h : Below w.heap.size w w') (hd : w.drawn ≤ w'.drawn) : ∃ q os', w' = Go.Sort.grow (w.drewN q) os' := by
  obtain ⟨q, hq⟩ : ∃ q, w'.drawn = w.drawn + q := ⟨w'.drawn - w.drawn, by omega⟩
  refine ⟨q, w'.heap.extract w.heap.size w'.heap.size, ?_⟩
  have hh : w'.heap = w.heap ++ w'.heap.extract w.heap.size w'.heap.size := by
    have hsz := h.size
    apply Array.ext_getElem?
    intro i
    by_cases hi : i < w.heap.size
    · rw [h.block i hi, Array.getElem?_append_left hi]
    · rw [Array.getElem?_append_right (by omega), Array.getElem?_extract]
      by_cases hi2 : i < w'.heap.size
      · rw [if_pos (by omega)]; congr 1; omega
      · rw [if_neg (by omega), Array.getElem?_eq_none (by omega)]
  obtain ⟨hp, t, d, os, out⟩ := w'
  obtain ⟨h1, h2, h3, _, _⟩ := h
  simp only at h1 h2 h3 hq hh
  subst h1 h2 h3 hq
  unfold Go.Sort.grow World.drewN
  simp only
  rw [← hh]
theorem grow_below (w : World) (os : Array Obj) {B : Nat} (hB : B ≤ w.heap.size) : Below B w (Go.Sort.grow w os) :=
  ⟨rfl, rfl, rfl, by simp [Go.Sort.grow], fun k hk => by unfold Go.Sort.grow; exact Array.getElem?_append_left (by omega)⟩
section
variable {α : Type} [Inhabited α] {enc : α → List Value} {k : Nat}
theorem flatK_flat (hk : ∀ x, (enc x).length = k) (d : Array α) : (Go.Sort.flatK enc k d).toList = d.toList.flatMap enc := by
  have hf := flatMap_get (cells := enc) (sz := k) (l := d.toList) (fun x _ => hk x)
  apply List.ext_getElem?
  intro t
  by_cases ht : t < d.size * k
  · have k0 : 0 < k := by
      rcases Nat.eq_zero_or_pos k with h | h
      · subst h; simp at ht
      · exact h
    have hd : t / k < d.size := Nat.div_lt_of_lt_mul (by rw [Nat.mul_comm]; exact ht)
    have hm := Nat.mod_lt t k0
    have h1 := Go.Sort.get_flatK enc k d t ht
    have h2 : (enc d[t / k]!)[t % k]? = some ((enc d[t / k]!)[t % k]!) := by
      rw [List.getElem!_eq_getElem?_getD, List.getElem?_eq_getElem (by rw [hk]; exact hm)]; rfl
    have h3 : d.toList[t / k]? = some d[t / k]! := by
      rw [Array.getElem?_toList, Array.getElem!_eq_getD, Array.getD_eq_getD_getElem?, Array.getElem?_eq_getElem hd]; rfl
    have h4 := hf.2 (t / k) _ (t % k) _ h3 h2
    have e : t / k * k + t % k = t := by rw [Nat.mul_comm]; exact Nat.div_add_mod t k
    rw [e] at h4
    rw [h4, ← h1, Array.getElem?_toList, getElem!_pos _ t (by simpa using ht), Array.getElem?_eq_getElem (by simpa using ht)]
  · rw [List.getElem?_eq_none (by simp; omega), List.getElem?_eq_none (by rw [hf.1]; simp; omega)]
theorem holds_own {w : World} {base e c g : Nat} {l : List α} (hk : ∀ x, (enc x).length = k) (h : w.ownsRow base e k (.slice (some ⟨g, 0, none⟩) l.length c) l.length (l.flatMap enc)) : Go.Sort.HoldsK enc k w g 0 l.toArray := by
  intro j hj
  have hj' : j < l.length * k := by simpa using hj
  have h2 := h.cellAt j (by omega)
  have h3 : (l.flatMap enc)[j]? = some ((Go.Sort.flatK enc k l.toArray)[j]!) := by
    have e1 := flatK_flat hk l.toArray
    simp only at e1
    rw [← e1, Array.getElem?_toList, getElem!_pos _ j hj, Array.getElem?_eq_getElem hj]
  refine ⟨?_, h.frozenAt _⟩
  rw [Nat.zero_add, h2, h3]; rfl
/-- The row behind the sort. -/
theorem sort_own {lt : α → α → Bool} {cf : α → α → Int} (hlt : Strict lt) (hcf : Go.Proofs.ltOf cf = lt) {w : World} {base e c g : Nat} {l : List α} (hk : ∀ x, (enc x).length = k) (h : w.ownsRow base e k (.slice (some ⟨g, 0, none⟩) l.length c) l.length (l.flatMap enc)) (hbase : base ≤ w.heap.size)
    {d : Array α} (hp : Go.Sort.PermIn 0 l.length l.toArray d) (hs : Go.Sort.SortedIn (Go.Proofs.ltOf cf) 0 l.length d) (n : Nat) (os : Array Obj) :
    (Go.Proofs.sortWorldK enc k w g 0 n d os).ownsRow base e k (.slice (some ⟨g, 0, none⟩) l.length c) l.length ((srtOf lt l).flatMap enc) ∧ Below base w (Go.Proofs.sortWorldK enc k w g 0 n d os) := by
  obtain ⟨p1, _, p3⟩ := hp
  simp only [List.size_toArray] at p1
  have hperm : d.toList.Perm l := by
    have e1 : d.extract 0 l.length = d := by rw [← p1]; simp
    have e2 : l.toArray.extract 0 l.length = l.toArray := by simp
    rw [e1, e2] at p3
    exact p3
  have hsrt : Srt lt d.toList := by
    unfold Srt
    rw [List.pairwise_iff_getElem]
    intro i j hi hj hij
    have hj' : j < d.size := by simpa using hj
    have hi' : i < d.size := by simpa using hi
    have := hs i j (Nat.zero_le _) hij (by omega)
    rw [hcf, getElem!_pos d j hj', getElem!_pos d i hi'] at this
    simpa using this
  have hl : srtOf lt l = d.toList := srtOf_eq hlt hperm hsrt
  have hH := holds_own hk h
  have hflat := flatK_flat hk d
  have hlen : (d.toList.flatMap enc).length = (Go.Sort.flatK enc k l.toArray).size := by
    rw [← hflat]; simp [p1]
  have hpr := Go.Lib.putRow_eq_setCells id w g 0 (Go.Sort.flatK enc k l.toArray) (d.toList.flatMap enc) n hH hlen
  have hw : Go.Proofs.sortWorldK enc k w g 0 n d os = Go.Sort.grow ((w.drewN n).setCells g 0 (d.toList.flatMap enc)) os := by
    unfold Go.Proofs.sortWorldK Go.Sort.putRowK
    rw [← List.map_id (d.toList.flatMap enc), ← hpr, ← hflat]
  have hxl : (l.flatMap enc).length = l.length * k := h.1
  have hdl : (d.toList.flatMap enc).length = l.length * k := by rw [hlen]; simp
  have h0 : (w.drewN n).ownsRow base e k (.slice (some ⟨g, 0, none⟩) l.length c) l.length (l.flatMap enc) := own_below h (below_drewN (Below.refl _ _) n) (Nat.le_refl _)
  have h1 := own_setAll (d.toList.flatMap enc) (l.flatMap enc) 0 (w.drewN n) (by omega) h0
  rw [List.take_zero, List.nil_append, Nat.zero_add, List.drop_eq_nil_of_le (by omega), List.append_nil] at h1
  have hgb : base ≤ g := (h.lt g rfl).1
  have hg0 := grown_setCells g (d.toList.flatMap enc) 0 (w.drewN n)
  have hb1 : Below base w ((w.drewN n).setCells g 0 (d.toList.flatMap enc)) := (below_drewN (Below.refl base w) n).grown hg0 (by simpa using hbase) (fun k hk => by injection hk with hk; omega)
  have hb2 := grow_below ((w.drewN n).setCells g 0 (d.toList.flatMap enc)) os (Nat.le_refl _)
  rw [hw, hl]
  exact ⟨own_below h1 hb2 (Nat.le_refl _), hb1.trans (hb2.mono (Nat.le_trans hbase (by have := hb1.size; exact this)))⟩
end
end Go.Proofs.Ytifpngjipkmdcaa
