/- paths.search. -/
import Derived.Test.YtifpngjipkmdcaaHopW
import Derived.Test.YtifpngjipkmdcaaBegin
namespace Go.Proofs.Ytifpngjipkmdcaa
open Go.ChangeShapes Go.WideShapes Go.ChangeAt Go.RowKit
set_option linter.unusedVariables false
set_option linter.unusedSimpArgs false
def fb (n : Nat) (f : Nat → Bool) : List Bool := (List.range n).map f
theorem fb_len (n : Nat) (f : Nat → Bool) : (fb n f).length = n := by simp [fb]
theorem fb_get {n v : Nat} (f : Nat → Bool) (h : v < n) : (fb n f)[v]? = some (f v) := by simp [fb, h]
theorem fb_getv {n v : Nat} (f : Nat → Bool) (h : v < n) : ((fb n f).map Value.bool)[v]? = some (.bool (f v)) := by rw [List.getElem?_map, fb_get f h]; rfl
theorem fb_set {n a : Nat} (f : Nat → Bool) (x : Bool) (h : a < n) : ((fb n f).map Value.bool).set a (.bool x) = (fb n (upd f a x)).map Value.bool := by
  apply List.ext_getElem?
  intro i
  rw [List.getElem?_set]
  by_cases e : a = i
  · subst e
    rw [if_pos rfl, if_pos (by simpa [fb] using h), fb_getv _ h]
    simp [upd]
  · rw [if_neg e]
    by_cases hi : i < n
    · rw [fb_getv _ hi, fb_getv _ hi]
      simp [upd, Ne.symm e]
    · rw [List.getElem?_eq_none (by simp [fb]; omega), List.getElem?_eq_none (by simp [fb]; omega)]
theorem fb_ext {n : Nat} {f g : Nat → Bool} (h : ∀ v, v < n → f v = g v) : fb n f = fb n g := by
  unfold fb; exact List.map_congr_left fun v hv => h v (List.mem_range.1 hv)
theorem fb_zero (n : Nat) : List.replicate n (Value.bool false) = (fb n (fun _ => false)).map Value.bool := by
  unfold fb; rw [List.map_map]
  apply List.ext_getElem?
  intro i
  by_cases h : i < n
  · simp [h]
  · rw [List.getElem?_eq_none (by simp; omega), List.getElem?_eq_none (by simp; omega)]
/-- How many are not marked. -/
def cnt (n : Nat) (f : Nat → Bool) : Nat := (List.range n).countP fun j => !f j
def isOn (v : Option Value) : Bool := match v with | some (.bool true) => true | _ => false
def unseen (w : World) (g n : Nat) : Nat := (List.range n).countP fun j => !isOn (w.cell? ⟨g, j, none⟩)
def lenV (v : Value) : Nat := match v with | .slice _ n _ => n | _ => 0
theorem unseen_of {w : World} {g n : Nat} {f : Nat → Bool} (h : ∀ j, j < n → w.cell? ⟨g, j, none⟩ = some (.bool (f j))) : unseen w g n = cnt n f := by
  unfold unseen cnt
  apply List.countP_congr
  intro j hj
  rw [h j (List.mem_range.1 hj)]
  cases f j <;> simp [isOn]
theorem countP_upd (f : Nat → Bool) (a : Nat) (ha : f a = false) : ∀ n, a < n → (List.range n).countP (fun j => !(upd f a true) j) + 1 = (List.range n).countP fun j => !f j
  | 0, h => by omega
  | n + 1, h => by
    rw [List.range_succ, List.countP_append, List.countP_append]
    by_cases e : a = n
    · subst e
      have h1 : (List.range a).countP (fun j => !(upd f a true) j) = (List.range a).countP fun j => !f j := by
        apply List.countP_congr
        intro j hj
        have := List.mem_range.1 hj
        have hne : j ≠ a := by omega
        simp [upd, hne]
      rw [h1]; simp [upd, ha]
    · have h1 := countP_upd f a ha n (by omega)
      have hne : n ≠ a := fun e2 => e e2.symm
      simp [upd, hne] at h1 ⊢
      omega
theorem cnt_upd {n a : Nat} {f : Nat → Bool} (ha : f a = false) (h : a < n) : cnt n (upd f a true) + 1 = cnt n f := countP_upd f a ha n h
theorem cnt_le (n : Nat) (f : Nat → Bool) : cnt n f ≤ n := by unfold cnt; exact Nat.le_trans List.countP_le_length (by simp)
def ti (t : List Nat) : List Int := t.map fun x : Nat => (x : Int)
theorem ti_len (t : List Nat) : (ti t).length = t.length := by simp [ti]
theorem ti_snoc (t : List Nat) (u : Nat) : ti (t ++ [u]) = ti t ++ [(u : Int)] := by simp [ti]
theorem gb_below {w a b : World} {g : Nat} (h : w.grownBy a (some g)) (hb : Below w.heap.size a b) : w.grownBy b (some g) :=
  ⟨hb.os.trans h.os, hb.tape.trans h.tape, hb.output.trans h.output, Nat.le_trans h.size hb.size, fun k hk hne => (hb.block k hk).trans (h.block k hk hne)⟩
theorem gb_store {w a : World} {g : Nat} (h : w.grownBy a (some g)) (j : Nat) (u : Value) : w.grownBy (a.setCell ⟨g, j, none⟩ u) (some g) := by
  have h2 := grown_setCells g [u] j a
  refine ⟨h2.os.trans h.os, h2.tape.trans h.tape, h2.output.trans h.output, Nat.le_trans h.size h2.size, fun k hk hne => ?_⟩
  exact (h2.block k (Nat.lt_of_lt_of_le hk h.size) hne).trans (h.block k hk hne)
/-- A row stays where a cell is stored whose value is none of its own. -/
theorem Rd.setOther {w : World} {B sz n : Nat} {A : Option Addr} {xs : List Value} {b o : Nat} {v0 : Value} (h : Rd w B A sz n xs) (hp : w.cell? ⟨b, o, none⟩ = some v0) (hne : ∀ u ∈ xs, u ≠ v0) (v : Value) : Rd (w.setCell ⟨b, o, none⟩ v) B A sz n xs :=
  ⟨h.1, fun hn => by
    obtain ⟨b', off, e, hb, hc⟩ := h.2 hn
    refine ⟨b', off, e, hb, fun j u hu => ?_⟩
    by_cases he : b' = b ∧ off + j = o
    · obtain ⟨rfl, rfl⟩ := he
      have := hc j u hu
      rw [this] at hp
      injection hp with hp
      exact absurd hp (hne u (List.mem_of_getElem? hu))
    · exact (World.cell?_setCell_other (w := w) (a := ⟨b, o, none⟩) (b := ⟨b', off + j, none⟩) (v := v) (by intro e2; injection e2 with e3 e4; exact he ⟨e3.symm, e4.symm⟩)).trans (hc j u hu)⟩
theorem hops_setBool {w : World} {B : Nat} {A : Option Addr} {m : List (ML Hop)} {b o : Nat} {x : Bool} (h : Grid Hop.cells 2 w B A m) (hp : w.cell? ⟨b, o, none⟩ = some (.bool x)) (v : Value) : Grid Hop.cells 2 (w.setCell ⟨b, o, none⟩ v) B A m := by
  refine ⟨Rd.setOther h.1 hp (fun u hu e => ?_) v, fun y hy p hp2 => ?_⟩
  · subst e
    obtain ⟨z, _, hz⟩ := List.mem_flatMap.1 hu
    simp [ML.cells] at hz
  · have h2 := h.2 y hy p hp2
    obtain rfl := List.mem_singleton.1 hp2
    refine Rd.setOther h2 hp (fun u hu e => ?_) v
    subst e
    obtain ⟨z, _, hz⟩ := List.mem_flatMap.1 hu
    simp [Hop.cells] at hz
theorem own_new (w : World) (cs : Array Value) (e : TypeId) {sz n base : Nat} (hs : cs.size = n * sz) (hb : base ≤ w.heap.size) (hn : n ≤ maxLen) : (w.alloc (.cells cs e)).ownsRow base e sz (.slice (some ⟨w.heap.size, 0, none⟩) n n) n cs.toList :=
  ⟨by simpa using hs, .inr ⟨w.heap.size, n, cs, rfl, hb, heap_alloc_new w _, Nat.le_refl _, hn, hs, List.take_of_length_le (by simp [hs])⟩⟩
/-- What the search's loops know. -/
structure Sk (l : List Edge) (n v g c base : Nat) (A : Option Addr) (m : List (ML Hop)) (w : World) (o : Value) (wr : World) (todo : List Nat) (seen : Nat → Bool) : Prop where
  row : ∃ c' A', o = .slice A' todo.length c' ∧ wr.ownsRow w.heap.size 3 1 (.slice A' todo.length c') todo.length ((ti todo).flatMap i64c)
  mark : wr.ownsRow base 4 1 (.slice (some ⟨g, 0, none⟩) n c) n ((fb n seen).map Value.bool)
  grid : Grid Hop.cells 2 wr w.heap.size A m
  grown : w.grownBy wr (some g)
def SkOut (l : List Edge) (n v g c base : Nat) (A : Option Addr) (m : List (ML Hop)) (w : World) (o : Value) (wr : World) : Prop :=
  ∃ todo seen hand, Sk l n v g c base A m w o wr todo seen ∧ Hid (Seek n (prs l) v seen todo hand []) ∧ Hid (2 * cnt n seen + todo.length ≤ 2 * n + 1)
def SkIn (l : List Edge) (n v g c base : Nat) (A : Option Addr) (m : List (ML Hop)) (w : World) (u : Nat) (hs : List Hop) (most : Nat) (o i : Value) (wr : World) : Prop :=
  ∃ todo seen k, k ≤ hs.length ∧ i = .int .i64 (k : Nat) ∧ Sk l n v g c base A m w o wr todo seen ∧ Hid (Seek n (prs l) v seen todo u ((hs.drop k).map fun h => h.to.toNat)) ∧ Hid (2 * cnt n seen + todo.length ≤ most)
theorem Sk.cells {l : List Edge} {n v g c base : Nat} {A : Option Addr} {m : List (ML Hop)} {w wr : World} {o : Value} {todo : List Nat} {seen : Nat → Bool} (h : Sk l n v g c base A m w o wr todo seen) : ∀ j, j < n → wr.cell? ⟨g, j, none⟩ = some (.bool (seen j)) :=
  fun j hj => (own_at h.mark (fb_getv seen hj)).1
theorem Sk.below {l : List Edge} {n v g c base : Nat} {A : Option Addr} {m : List (ML Hop)} {w a b : World} {o : Value} {todo : List Nat} {seen : Nat → Bool} (h : Sk l n v g c base A m w o a todo seen) (hb : Below a.heap.size a b) : Sk l n v g c base A m w o b todo seen := by
  obtain ⟨⟨c', A', ho, hr⟩, hm, hg, hgr⟩ := h
  have hb2 := hb.mono hgr.size
  exact ⟨⟨c', A', ho, own_below hr hb (Nat.le_refl _)⟩, own_below hm hb (Nat.le_refl _), hg.below hb2, gb_below hgr hb2⟩
theorem Sk.store {l : List Edge} {n v g c base : Nat} {A : Option Addr} {m : List (ML Hop)} {w a : World} {o : Value} {todo : List Nat} {seen : Nat → Bool} (h : Sk l n v g c base A m w o a todo seen) (hgw : g < w.heap.size) {x : Nat} (hx : x < n) : Sk l n v g c base A m w o (a.setCell ⟨g, x, none⟩ (.bool true)) todo (upd seen x true) := by
  have hc := h.cells x hx
  obtain ⟨⟨c', A', ho, hr⟩, hm, hg, hgr⟩ := h
  have hs := (hm.stored x (.bool true)).1
  rw [fb_set _ _ hx] at hs
  exact ⟨⟨c', A', ho, ownsRow_setCell_below hr hgw _⟩, hs, hops_setBool hg hc _, gb_store hgr _ _⟩
theorem Sk.push {l : List Edge} {n v g c base : Nat} {A : Option Addr} {m : List (ML Hop)} {w a b : World} {o : Value} {todo : List Nat} {seen : Nat → Bool} (h : Sk l n v g c base A m w o a todo seen) (hgw : g < w.heap.size) {x c2 : Nat} {A2 : Option Addr} (hr : b.ownsRow w.heap.size 3 1 (.slice A2 (todo.length + 1) c2) (todo.length + 1) ((ti todo).flatMap i64c ++ [Value.int .i64 (x : Int)])) (hb : Below w.heap.size a b) : Sk l n v g c base A m w (.slice A2 (todo.length + 1) c2) b (todo ++ [x]) seen := by
  obtain ⟨⟨c', A', ho, _⟩, hm, hg, hgr⟩ := h
  refine ⟨⟨c2, A2, by rw [List.length_append]; rfl, ?_⟩, own_blk hm (hb.block g hgw), hg.below hb, gb_below hgr hb⟩
  rw [ti_snoc, List.flatMap_append, List.length_append]
  exact hr
/-- The cells of the hop 'k'. -/
theorem hcells {w : World} {B n k : Nat} {A : Option Addr} {l : List Hop} {x : Hop} (h : Rd w B A 2 n (l.flatMap Hop.cells)) (hl : l.length = n) (hk : l[k]? = some x) :
    ∃ b off, A = some ⟨b, off, none⟩ ∧ b < B ∧ w.cell? ⟨b, off + k * 2, none⟩ = some (.int .i64 x.to) ∧ w.cell? ⟨b, off + k * 2 + 1, none⟩ = some (.int .i64 x.wt) := by
  have hkl := (List.getElem?_eq_some_iff.1 hk).1
  obtain ⟨b, off, rfl, hb, hc⟩ := h.2 (show 0 < n by omega)
  have hg := (flatMap_get (l := l) (cells := Hop.cells) (sz := 2) (fun _ _ => rfl)).2 k x
  have c0 := hc _ _ (hg 0 _ hk rfl)
  have c1 := hc _ _ (hg 1 _ hk rfl)
  simp only [Nat.add_zero, ← Nat.add_assoc] at c0 c1
  exact ⟨b, off, rfl, hb, c0, c1⟩
theorem prs_ltN {n : Nat} {l : List Edge} (hE : NatEdges n l) : ∀ e ∈ prs l, e.1 < n ∧ e.2 < n := by
  intro e he
  obtain ⟨x, hx, rfl⟩ := List.mem_map.1 he
  obtain ⟨k, hk⟩ := List.mem_iff_getElem?.1 hx
  obtain ⟨a, b, ha, hb, h1, h2⟩ := hE k x hk
  exact ⟨by show x.src.toNat < n; rw [ha]; simpa using h1, by show x.dst.toNat < n; rw [hb]; simpa using h2⟩
theorem drop_cons {α : Type} {l : List α} {k : Nat} {x : α} (h : l[k]? = some x) : l.drop k = x :: l.drop (k + 1) := by
  obtain ⟨hk, rfl⟩ := List.getElem?_eq_some_iff.1 h
  exact List.drop_eq_getElem_cons hk
end Go.Proofs.Ytifpngjipkmdcaa
