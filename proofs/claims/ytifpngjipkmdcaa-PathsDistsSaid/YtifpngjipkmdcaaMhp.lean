/- HeapP, MergP, HpD, HpU, HpV: joined. -/
import Derived.Test.YtifpngjipkmdcaaRows
import Derived.Test.YtifpngjipkmdcaaOrds
import Derived.Test.YtifpngjipkmdcaaRegF
import Derived.Deep.DeepCutAuto
/- Heaps in a list: sifting up, sifting down. No program in sight. -/
namespace Go.Proofs.Ytifpngjipkmdcaa
section
variable {α : Type} (lt : α → α → Bool)
/-- 'lt' is the strict part of an order in which all are comparable. -/
structure Ord2 : Prop where
  asym : ∀ x y, lt x y = true → lt y x = false
  trans : ∀ x y z, lt y x = false → lt z y = false → lt z x = false
/-- Ordered as a heap, the first n. -/
def HeapF (f : Nat → α) (n : Nat) : Prop := ∀ k, 0 < k → k < n → lt (f k) (f ((k - 1) / 2)) = false
def UpAt (f : Nat → α) (n j : Nat) : Prop :=
  (∀ k, 0 < k → k < n → k ≠ j → lt (f k) (f ((k - 1) / 2)) = false) ∧ (0 < j → ∀ k, 0 < k → k < n → (k - 1) / 2 = j → lt (f k) (f ((j - 1) / 2)) = false)
def DownAt (f : Nat → α) (n i : Nat) : Prop :=
  (∀ k, 0 < k → k < n → (k - 1) / 2 ≠ i → lt (f k) (f ((k - 1) / 2)) = false) ∧ (0 < i → ∀ k, 0 < k → k < n → (k - 1) / 2 = i → lt (f k) (f ((i - 1) / 2)) = false)
def swapF (f : Nat → α) (i j : Nat) : Nat → α := fun k => if k = i then f j else if k = j then f i else f k
variable {lt}
theorem swapF_i {f : Nat → α} {i j : Nat} : swapF f i j i = f j := by simp [swapF]
theorem swapF_j {f : Nat → α} {i j : Nat} : swapF f i j j = f i := by unfold swapF; split <;> simp_all
theorem swapF_ne {f : Nat → α} {i j k : Nat} (h1 : k ≠ i) (h2 : k ≠ j) : swapF f i j k = f k := by simp [swapF, h1, h2]
theorem up_start {f : Nat → α} {n : Nat} (h : HeapF lt f n) : UpAt lt f (n + 1) n :=
  ⟨fun k h0 h1 h2 => h k h0 (by omega), fun _ k h0 h1 h2 => by omega⟩
theorem up_stop {f : Nat → α} {n j : Nat} (h : UpAt lt f n j) (hj : j = 0 ∨ lt (f j) (f ((j - 1) / 2)) = false) : HeapF lt f n := fun k h0 h1 => by
  by_cases e : k = j
  · subst e
    rcases hj with hj | hj
    · omega
    · exact hj
  · exact h.1 k h0 h1 e
theorem up_step (O : Ord2 lt) {f : Nat → α} {n j : Nat} (h : UpAt lt f n j) (hj : 0 < j) (hn : j < n) (hlt : lt (f j) (f ((j - 1) / 2)) = true) : UpAt lt (swapF f ((j - 1) / 2) j) n ((j - 1) / 2) := by
  obtain ⟨i, hi⟩ : ∃ i, i = (j - 1) / 2 := ⟨_, rfl⟩
  rw [← hi] at hlt ⊢
  have hij : i < j := by omega
  have hle := O.asym _ _ hlt
  refine ⟨fun k h0 h1 hk => ?_, fun hi0 k h0 h1 hk => ?_⟩
  · by_cases e : k = j
    · subst e
      rw [swapF_j, ← hi, swapF_i]
      exact hle
    · rw [swapF_ne hk e]
      by_cases e1 : (k - 1) / 2 = i
      · rw [e1, swapF_i]
        have := h.1 k h0 h1 e
        rw [e1] at this
        exact O.trans _ _ _ hle this
      · by_cases e2 : (k - 1) / 2 = j
        · rw [e2, swapF_j]
          have := h.2 hj k h0 h1 e2
          rw [← hi] at this
          exact this
        · rw [swapF_ne e1 e2]
          exact h.1 k h0 h1 e
  · have hp : (i - 1) / 2 ≠ i := by omega
    have hp2 : (i - 1) / 2 ≠ j := by omega
    rw [swapF_ne hp hp2]
    have hpi := h.1 i hi0 (by omega) (by omega)
    by_cases e : k = j
    · subst e
      rw [swapF_j]
      exact hpi
    · have hki : k ≠ i := by omega
      rw [swapF_ne hki e]
      have := h.1 k h0 h1 e
      rw [hk] at this
      exact O.trans _ _ _ hpi this
theorem down_start {f : Nat → α} {n : Nat} (h : ∀ k, 0 < k → k < n → (k - 1) / 2 ≠ 0 → lt (f k) (f ((k - 1) / 2)) = false) : DownAt lt f n 0 := ⟨h, fun h0 => by omega⟩
theorem down_stop {f : Nat → α} {n i : Nat} (h : DownAt lt f n i) (hs : ∀ k, 0 < k → k < n → (k - 1) / 2 = i → lt (f k) (f i) = false) : HeapF lt f n := fun k h0 h1 => by
  by_cases e : (k - 1) / 2 = i
  · rw [e]; exact hs k h0 h1 e
  · exact h.1 k h0 h1 e
theorem down_step (O : Ord2 lt) {f : Nat → α} {n i j : Nat} (h : DownAt lt f n i) (hj0 : 0 < j) (hj : (j - 1) / 2 = i) (hn : j < n) (hleast : ∀ k, 0 < k → k < n → (k - 1) / 2 = i → lt (f k) (f j) = false) (hlt : lt (f j) (f i) = true) : DownAt lt (swapF f i j) n j := by
  have hij : i < j := by omega
  have hle := O.asym _ _ hlt
  refine ⟨fun k h0 h1 hk => ?_, fun _ k h0 h1 hk => ?_⟩
  · by_cases e : k = i
    · subst e
      rw [swapF_i]
      have hp : (k - 1) / 2 ≠ k := by omega
      have hp2 : (k - 1) / 2 ≠ j := hk
      rw [swapF_ne hp hp2]
      exact h.2 h0 j hj0 hn hj
    · by_cases e2 : k = j
      · subst e2
        rw [swapF_j, hj, swapF_i]
        exact hle
      · rw [swapF_ne e e2]
        by_cases e3 : (k - 1) / 2 = i
        · rw [e3, swapF_i]
          exact hleast k h0 h1 e3
        · rw [swapF_ne e3 hk]
          exact h.1 k h0 h1 e3
  · have hki : k ≠ i := by omega
    have hkj : k ≠ j := by omega
    rw [swapF_ne hki hkj, hj, swapF_i]
    have := h.1 k h0 h1 (by omega)
    rw [hk] at this
    exact this
theorem heap_least (O : Ord2 lt) {f : Nat → α} {n : Nat} (h : HeapF lt f n) (hr : ∀ x, lt x x = false) : ∀ k, k < n → lt (f k) (f 0) = false := by
  intro k
  induction k using Nat.strongRecOn with
  | _ k ih =>
    intro hk
    rcases Nat.eq_zero_or_pos k with rfl | h0
    · exact hr _
    · exact O.trans _ _ _ (ih ((k - 1) / 2) (by omega) (by omega)) (h k h0 hk)
end
/-- A list as a function of the place. -/
def nthL {α : Type} (d : α) (l : List α) (k : Nat) : α := (l[k]?).getD d
def swapL {α : Type} (l : List α) (i j : Nat) : List α := match l[i]?, l[j]? with
  | some x, some y => (l.set i y).set j x
  | _, _ => l
theorem swapL_eq {α : Type} {l : List α} {i j : Nat} {x y : α} (hx : l[i]? = some x) (hy : l[j]? = some y) : swapL l i j = (l.set i y).set j x := by unfold swapL; rw [hx, hy]
theorem swapL_len {α : Type} {l : List α} {i j : Nat} : (swapL l i j).length = l.length := by
  unfold swapL; split <;> simp
theorem nthL_swap {α : Type} {d : α} {l : List α} {i j : Nat} (hi : i < l.length) (hj : j < l.length) : nthL d (swapL l i j) = swapF (nthL d l) i j := by
  funext k
  rw [swapL_eq (List.getElem?_eq_getElem hi) (List.getElem?_eq_getElem hj)]
  unfold nthL swapF
  by_cases e : k = j
  · subst e
    rw [List.getElem?_set_self (by simpa using hj)]
    by_cases e2 : k = i
    · subst e2; simp [List.getElem?_eq_getElem hi]
    · simp [e2, List.getElem?_eq_getElem hi]
  · rw [List.getElem?_set_ne (fun h => e h.symm)]
    by_cases e2 : k = i
    · subst e2
      rw [List.getElem?_set_self hi]; simp [List.getElem?_eq_getElem hj]
    · rw [List.getElem?_set_ne (fun h => e2 h.symm), if_neg e2, if_neg e]
theorem nthL_get {α : Type} {d : α} {l : List α} {k : Nat} {x : α} (h : l[k]? = some x) : nthL d l k = x := by unfold nthL; rw [h]; rfl
theorem nthL_take {α : Type} {d : α} {l : List α} {n k : Nat} (h : k < n) : nthL d (l.take n) k = nthL d l k := by unfold nthL; rw [List.getElem?_take_of_lt h]
theorem nthL_append {α : Type} {d : α} {l m : List α} {k : Nat} (h : k < l.length) : nthL d (l ++ m) k = nthL d l k := by unfold nthL; rw [List.getElem?_append_left h]
theorem swapL_perm {α : Type} (l : List α) (i j : Nat) (hi : i < l.length) (hj : j < l.length) : (swapL l i j).Perm l := by
  rw [swapL_eq (List.getElem?_eq_getElem hi) (List.getElem?_eq_getElem hj)]
  classical
  rw [List.perm_iff_count]
  intro a
  rw [List.count_set (by simpa using hj), List.count_set hi]
  by_cases e : j = i
  · subst e
    simp
    by_cases h : l[j] = a
    · simp [h]
      have : 0 < l.count a := List.count_pos_iff.2 (by rw [← h]; exact List.getElem_mem hj)
      omega
    · simp [h]
  · rw [List.getElem_set_ne (fun h => e h.symm)]
    have h1 : (if l[i] == a then 1 else 0) ≤ l.count a := by
      by_cases h : l[i] = a
      · have : 0 < l.count a := List.count_pos_iff.2 (by rw [← h]; exact List.getElem_mem hi)
        rw [if_pos (by simpa using h)]; omega
      · rw [if_neg (by simpa using h)]; omega
    generalize (if (l[i] == a) = true then 1 else 0) = p at *
    generalize (if (l[j] == a) = true then 1 else 0) = q at *
    omega
end Go.Proofs.Ytifpngjipkmdcaa

/- Lists in order made one, head by head. Plain. -/
namespace Go.Proofs.Ytifpngjipkmdcaa
set_option linter.unusedVariables false
set_option linter.unusedSimpArgs false
/-- What is left of a list, and which list it is. -/
structure Hd where
  m : ML Mail
  i : Nat
def Hd.top (h : Hd) : Mail := (h.m.l[0]?).getD ⟨0, 0⟩
def hdC (a b : Hd) : Int := orV (ordV a.top b.top) ((a.i : Int) - (b.i : Int))
def hdlt (a b : Hd) : Bool := decide (hdC a b < 0)
theorem ordV_rev (a b : Mail) : (ordV a b < 0 ↔ 0 < ordV b a) ∧ (ordV a b = 0 ↔ a = b) := by
  obtain ⟨x, y⟩ := a
  obtain ⟨u, v⟩ := b
  unfold ordV orV cmp3
  simp only [Mail.mk.injEq]
  constructor
  · constructor <;> intro h <;> (repeat' split at h) <;> (repeat' split) <;> omega
  · constructor
    · intro h; (repeat' split at h) <;> omega
    · rintro ⟨rfl, rfl⟩; simp
theorem hdlt_iff (a b : Hd) : hdlt a b = true ↔ (mlt a.top b.top = true ∨ (a.top = b.top ∧ a.i < b.i)) := by
  unfold hdlt hdC
  rw [decide_eq_true_eq, ← ordV_neg, decide_eq_true_eq]
  have h := ordV_rev a.top b.top
  unfold orV
  by_cases h0 : ordV a.top b.top = 0
  · rw [if_neg (by omega), h0]
    have := h.2.1 h0
    constructor
    · intro h1; exact .inr ⟨this, by omega⟩
    · rintro (h1 | ⟨_, h1⟩) <;> omega
  · rw [if_pos h0]
    constructor
    · intro h1; exact .inl h1
    · rintro (h1 | ⟨h1, _⟩)
      · exact h1
      · exact absurd (h.2.2 h1) h0
theorem hdlt_no {a b : Hd} : hdlt a b = false ↔ (mlt a.top b.top = false ∧ (a.top = b.top → b.i ≤ a.i)) := by
  have h := hdlt_iff a b
  constructor
  · intro h1
    rw [h1] at h
    have h2 : ¬ (mlt a.top b.top = true ∨ (a.top = b.top ∧ a.i < b.i)) := fun h3 => by have := h.2 h3; cases this
    refine ⟨by cases hm : mlt a.top b.top with | false => rfl | true => exact absurd (.inl hm) h2, fun e => ?_⟩
    rcases Nat.lt_or_ge a.i b.i with h4 | h4
    · exact absurd (.inr ⟨e, h4⟩) h2
    · exact h4
  · rintro ⟨h1, h2⟩
    cases hh : hdlt a b with
    | false => rfl
    | true =>
      rcases h.1 hh with h3 | ⟨h3, h4⟩
      · rw [h1] at h3; cases h3
      · have := h2 h3; omega
theorem hdlt_irr (a : Hd) : hdlt a a = false := hdlt_no.2 ⟨mlt_strict.irrefl _, fun _ => Nat.le_refl _⟩
theorem hdlt_ord : Ord2 hdlt where
  asym x y h := by
    rw [hdlt_no]
    rcases (hdlt_iff x y).1 h with h | ⟨h, h2⟩
    · exact ⟨mlt_strict.asymm h, fun e => by rw [e, mlt_strict.irrefl] at h; cases h⟩
    · exact ⟨by rw [h]; exact mlt_strict.irrefl _, fun _ => by omega⟩
  trans x y z h1 h2 := by
    rw [hdlt_no] at *
    refine ⟨mlt_strict.le_trans h1.1 h2.1, fun e => ?_⟩
    have e1 : y.top = x.top := mlt_strict.total _ _ h1.1 (by rw [← e]; exact h2.1)
    have e2 : z.top = y.top := by rw [e, e1]
    have := h1.2 e1
    have := h2.2 e2
    omega
/-- What is out, and what is left, of all. -/
def MInv (all : List Mail) (H : List Hd) (out : List Mail) : Prop :=
  (out ++ H.flatMap (fun h => h.m.l)).Perm all ∧ Srt mlt out ∧ (∀ x ∈ out, ∀ h ∈ H, ∀ y ∈ h.m.l, mlt y x = false) ∧ ∀ h ∈ H, h.m.l ≠ [] ∧ Srt mlt h.m.l
theorem top_cons {h : Hd} {x : Mail} {t : List Mail} (e : h.m.l = x :: t) : h.top = x := by unfold Hd.top; rw [e]; rfl
theorem MInv.perm {all : List Mail} {H H' : List Hd} {out : List Mail} (h : MInv all H out) (hp : H.Perm H') : MInv all H' out :=
  ⟨((hp.symm.flatMap_right _).append_left out).trans h.1, h.2.1, fun x hx k hk => h.2.2.1 x hx k (hp.mem_iff.2 hk), fun k hk => h.2.2.2 k (hp.mem_iff.2 hk)⟩
theorem MInv.push {all : List Mail} {H : List Hd} {k : Hd} {more : List Mail} (h : MInv all H []) (h1 : k.m.l ≠ []) (h2 : Srt mlt k.m.l) (e : more = all ++ k.m.l) : MInv more (H ++ [k]) [] := by
  subst e
  refine ⟨?_, h.2.1, fun x hx => (by cases hx), fun y hy => ?_⟩
  · rw [List.flatMap_append, ← List.append_assoc]
    simp only [List.flatMap_cons, List.flatMap_nil, List.append_nil]
    exact h.1.append_right _
  · rcases List.mem_append.1 hy with hy | hy
    · exact h.2.2.2 y hy
    · obtain rfl := List.mem_singleton.1 hy
      exact ⟨h1, h2⟩
theorem MInv.pop {all : List Mail} {H : List Hd} {k : Hd} {x : Mail} {t : List Mail} {out : List Mail} (h : MInv all (k :: H) out) (hx : k.m.l = x :: t) (hl : ∀ y ∈ H, hdlt y k = false) :
    MInv all H (out ++ [x]) ∨ t ≠ [] := by
  by_cases ht : t = []
  · refine .inl ⟨?_, ?_, ?_, fun y hy => h.2.2.2 y (List.mem_cons_of_mem _ hy)⟩
    · have := h.1
      rw [List.flatMap_cons, hx, ht] at this
      simpa using this
    · unfold Srt
      rw [List.pairwise_append]
      refine ⟨h.2.1, List.pairwise_singleton _ _, fun a ha b hb => ?_⟩
      obtain rfl := List.mem_singleton.1 hb
      exact h.2.2.1 a ha k (List.mem_cons_self ..) b (by rw [hx]; exact List.mem_cons_self ..)
    · intro a ha y hy b hb
      rcases List.mem_append.1 ha with ha | ha
      · exact h.2.2.1 a ha y (List.mem_cons_of_mem _ hy) b hb
      · obtain rfl := List.mem_singleton.1 ha
        have h1 := (hdlt_no.1 (hl y hy)).1
        rw [top_cons hx] at h1
        obtain ⟨h2, h3⟩ := h.2.2.2 y (List.mem_cons_of_mem _ hy)
        obtain ⟨z, r, hz⟩ := List.exists_cons_of_ne_nil h2
        rw [top_cons hz] at h1
        rw [hz] at hb h3
        rcases List.mem_cons.1 hb with rfl | hb
        · exact h1
        · exact mlt_strict.le_trans h1 ((List.pairwise_cons.1 h3).1 b hb)
  · exact .inr ht
theorem MInv.less {all : List Mail} {H : List Hd} {k k' : Hd} {x : Mail} {t : List Mail} {out : List Mail} (h : MInv all (k :: H) out) (hx : k.m.l = x :: t) (hl : ∀ y ∈ H, hdlt y k = false) (hk : k'.m.l = t) (ht : t ≠ []) :
    MInv all (H ++ [k']) (out ++ [x]) := by
  have hs := (h.2.2.2 k (List.mem_cons_self ..)).2
  rw [hx] at hs
  refine ⟨?_, ?_, ?_, fun y hy => ?_⟩
  · have := h.1
    rw [List.flatMap_cons, hx] at this
    refine List.Perm.trans ?_ this
    rw [List.flatMap_append]
    simp only [List.flatMap_cons, List.flatMap_nil, List.append_nil, hk, List.append_assoc, List.cons_append, List.nil_append]
    exact (List.Perm.cons x List.perm_append_comm).append_left out
  · unfold Srt
    rw [List.pairwise_append]
    refine ⟨h.2.1, List.pairwise_singleton _ _, fun a ha b hb => ?_⟩
    obtain rfl := List.mem_singleton.1 hb
    exact h.2.2.1 a ha k (List.mem_cons_self ..) b (by rw [hx]; exact List.mem_cons_self ..)
  · intro a ha y hy b hb
    rcases List.mem_append.1 hy with hy | hy
    · rcases List.mem_append.1 ha with ha | ha
      · exact h.2.2.1 a ha y (List.mem_cons_of_mem _ hy) b hb
      · obtain rfl := List.mem_singleton.1 ha
        have h1 := (hdlt_no.1 (hl y hy)).1
        rw [top_cons hx] at h1
        obtain ⟨h2, h3⟩ := h.2.2.2 y (List.mem_cons_of_mem _ hy)
        obtain ⟨z, r, hz⟩ := List.exists_cons_of_ne_nil h2
        rw [top_cons hz] at h1
        rw [hz] at hb h3
        rcases List.mem_cons.1 hb with rfl | hb
        · exact h1
        · exact mlt_strict.le_trans h1 ((List.pairwise_cons.1 h3).1 b hb)
    · obtain rfl := List.mem_singleton.1 hy
      rw [hk] at hb
      rcases List.mem_append.1 ha with ha | ha
      · exact h.2.2.1 a ha k (List.mem_cons_self ..) b (by rw [hx]; exact List.mem_cons_of_mem _ hb)
      · obtain rfl := List.mem_singleton.1 ha
        exact (List.pairwise_cons.1 hs).1 b hb
  · rcases List.mem_append.1 hy with hy | hy
    · exact h.2.2.2 y (List.mem_cons_of_mem _ hy)
    · obtain rfl := List.mem_singleton.1 hy
      rw [hk]
      exact ⟨ht, (List.pairwise_cons.1 hs).2⟩
theorem MInv.done {all out : List Mail} (h : MInv all [] out) : srtOf mlt all = out :=
  srtOf_eq mlt_strict (by simpa using h.1) h.2.1
theorem MInv.start : MInv [] [] [] := ⟨by simp, List.Pairwise.nil, fun x hx => (by cases hx), fun h hh => by cases hh⟩
end Go.Proofs.Ytifpngjipkmdcaa

/- The methods of merge's heap. -/
namespace Go.Proofs.Ytifpngjipkmdcaa
open Go.ChangeShapes Go.WideShapes Go.ChangeAt Go.RowKit
set_option linter.unusedVariables false
set_option linter.unusedSimpArgs false
def Hd.cells (h : Hd) : List Value := [.slice h.m.A h.m.l.length h.m.c, .int .i64 (h.i : Nat)]
/-- What a call on a heap at G leaves as it was: all but G, the heap's row, and what is new. -/
def HF (w w' : World) (G : Nat) (a a' : Option Nat) : Prop :=
  Below G w w' ∧ (∀ k, k < w.heap.size → k ≠ G → a ≠ some k → w'.heap[k]? = w.heap[k]?) ∧ (∀ k, a' = some k → a = some k ∨ w.heap.size ≤ k)
theorem HF.trans {w w1 w2 : World} {G : Nat} {a a1 a2 : Option Nat} (h : HF w w1 G a a1) (k : HF w1 w2 G a1 a2) : HF w w2 G a a2 := by
  refine ⟨h.1.trans k.1, fun i hi hG ha => ?_, fun i hi => ?_⟩
  · refine (k.2.1 i (Nat.lt_of_lt_of_le hi h.1.size) hG fun e => ?_).trans (h.2.1 i hi hG ha)
    rcases h.2.2 i e with e2 | e2
    · exact ha e2
    · omega
  · rcases k.2.2 i hi with e | e
    · exact h.2.2 i e
    · exact .inr (Nat.le_trans h.1.size e)
theorem HF.below {w w' : World} {G : Nat} {a : Option Nat} (h : Below w.heap.size w w') (hG : G ≤ w.heap.size) : HF w w' G a a :=
  ⟨h.mono hG, fun k hk _ _ => h.block k hk, fun k hk => .inl hk⟩
theorem own_hf {w w' : World} {base e sz n G : Nat} {v : Value} {xs : List Value} {a a' : Option Nat} (h : w.ownsRow base e sz v n xs) (hf : HF w w' G a a') (hne : ∀ x, v.ownBlock = some x → x ≠ G ∧ a ≠ some x) : w'.ownsRow base e sz v n xs := by
  refine ⟨h.1, ?_⟩
  rcases h.2 with h0 | ⟨g', cap, cur, h1, h2, h3, r⟩
  · exact .inl h0
  · refine .inr ⟨g', cap, cur, h1, h2, ?_, r⟩
    have := hne g' (by rw [h1]; rfl)
    rw [hf.2.1 g' (Array.getElem?_eq_some_iff.1 h3).1 this.1 this.2]
    exact h3
/-- A heap of heads lies at G; the lists lie below B. -/
structure HO (w : World) (B G : Nat) (A : Option Addr) (c : Nat) (H : List Hd) : Prop where
  le : B ≤ G
  all : w.cell? ⟨G, 0, none⟩ = some (.slice A H.length c)
  ord : w.cell? ⟨G, 1, none⟩ = some (.func (.func 43) #[] #[])
  fz : w.frozen? ⟨G, 0, none⟩ = false
  row : Heaped Hd.cells (fun _ => []) w (G + 1) 142 2 A c H
  rd : ∀ h ∈ H, Rd w B h.m.A 2 h.m.l.length (h.m.l.flatMap Mail.cells)
abbrev hdBlk (A : Option Addr) (c : Nat) (H : List Hd) : Option Nat := (Value.slice A H.length c).ownBlock
theorem HO.lt {w : World} {B G : Nat} {A : Option Addr} {c : Nat} {H : List Hd} (h : HO w B G A c H) : G < w.heap.size := World.block_lt_of_cell? w _ h.all
theorem HO.below {w w' : World} {B G : Nat} {A : Option Addr} {c : Nat} {H : List Hd} (h : HO w B G A c H) (b : Below w.heap.size w w') : HO w' B G A c H :=
  ⟨h.le, keepb b h.all, keepb b h.ord, keepf b h.fz h.lt, h.row.below b (Nat.le_refl _), fun x hx => (h.rd x hx).below (b.mono (Nat.le_trans h.le (Nat.le_of_lt h.lt)))⟩
theorem HO.at_ {w : World} {B G : Nat} {A : Option Addr} {c : Nat} {H : List Hd} (h : HO w B G A c H) {k : Nat} {x : Hd} (hx : H[k]? = some x) :
    ∃ g, A = some ⟨g, 0, none⟩ ∧ G < g ∧ g < w.heap.size ∧ w.cell? ⟨g, k * 2, none⟩ = some (.slice x.m.A x.m.l.length x.m.c) ∧ w.cell? ⟨g, k * 2 + 1, none⟩ = some (.int .i64 (x.i : Nat)) ∧ H.length ≤ c := by
  obtain ⟨g, hg, h1, h2, h3, _⟩ := heap_put (cells := Hd.cells) (sz := 2) (fun _ => rfl) h.row hx x (fun p hp => (by cases hp)) (by decide)
  exact ⟨g, hg, h1, h2, h3 0 _ rfl, h3 1 _ rfl, own_cap h.row.1⟩
theorem HO.top {w : World} {B G : Nat} {A : Option Addr} {c : Nat} {H : List Hd} (h : HO w B G A c H) {x : Hd} (hx : x ∈ H) (hn : x.m.l ≠ []) :
    ∃ b off, x.m.A = some ⟨b, off, none⟩ ∧ b < B ∧ w.cell? ⟨b, off, none⟩ = some (.int .i64 x.top.to) ∧ w.cell? ⟨b, off + 1, none⟩ = some (.int .i64 x.top.val) ∧ 0 < x.m.l.length := by
  have hr := h.rd x hx
  obtain ⟨y, t, e⟩ := List.exists_cons_of_ne_nil hn
  have hp : 0 < x.m.l.length := by rw [e]; simp
  obtain ⟨b, off, hA, hb, hc⟩ := hr.2 hp
  refine ⟨b, off, hA, hb, ?_, ?_, hp⟩
  · rw [top_cons e]; exact hc 0 _ (by rw [e]; rfl)
  · rw [top_cons e]; exact hc 1 _ (by rw [e]; rfl)
theorem hdLen_walk {w : World} {B G : Nat} {A : Option Addr} {c : Nat} {H : List Hd} (h : HO w B G A c H) :
    Calls Try.prog 84 #[.pointer (some ⟨G, 0, none⟩)] w fun e w' => e = .returned (.int .i64 (H.length : Nat)) ∧ w = w' := by
  have h0 := h.all
  go_enter Try.func84, Try.ntmps84
  go_wp2
  go_ret
  exact ⟨rfl, rfl⟩
set_option maxRecDepth 100000 in
set_option maxHeartbeats 4000000 in
theorem hdLess_walk {w : World} {B G : Nat} {A : Option Addr} {c : Nat} {H : List Hd} (h : HO w B G A c H) {i j : Nat} (hi : i < H.length) (hj : j < H.length) (hne : ∀ x ∈ H, x.m.l ≠ [] ∧ x.i ≤ 5000) {x y : Hd} (hx : H[i]? = some x) (hy : H[j]? = some y) :
    Calls Try.prog 166 #[.pointer (some ⟨G, 0, none⟩), .int .i64 (i : Nat), .int .i64 (j : Nat)] w fun e w' => e = .returned (.bool (hdlt x y)) ∧ Below w.heap.size w w' := by
  obtain ⟨g, hA, hG, hgs, a0, a1, hlc⟩ := h.at_ hx
  obtain ⟨g', hA', _, _, e0, e1, _⟩ := h.at_ hy
  rw [hA] at hA'
  injection hA' with hA'
  injection hA' with hA'
  subst hA'
  obtain ⟨bx, ox, hxA, hbx, u0, u1, hxp⟩ := h.top (List.mem_of_getElem? hx) (hne x (List.mem_of_getElem? hx)).1
  obtain ⟨by_, oy, hyA, hby, v0, v1, hyp⟩ := h.top (List.mem_of_getElem? hy) (hne y (List.mem_of_getElem? hy)).1
  have hxi := (hne x (List.mem_of_getElem? hx)).2
  have hyi := (hne y (List.mem_of_getElem? hy)).2
  have HV : Hid (hdlt x y = decide (orV (ordV x.top y.top) ((x.i : Int) - (y.i : Int)) < 0)) := hid rfl
  have k0 := h.all
  have k1 := h.ord
  rw [hxA] at a0
  rw [hyA] at e0
  rw [hA] at k0
  generalize hdlt x y = r at *
  generalize hxt : x.top = tx at *
  generalize hyt : y.top = ty at *
  obtain ⟨xt, xv⟩ := tx
  obtain ⟨yt, yv⟩ := ty
  simp only at u0 u1 v0 v1
  generalize x.m.l.length = nx at *
  generalize y.m.l.length = ny at *
  generalize x.m.c = cx at *
  generalize y.m.c = cy at *
  obtain ⟨xi, hxi'⟩ : ∃ z : Int, z = (x.i : Nat) := ⟨_, rfl⟩
  obtain ⟨yi, hyi'⟩ : ∃ z : Int, z = (y.i : Nat) := ⟨_, rfl⟩
  rw [← hxi'] at a1 HV
  rw [← hyi'] at e1 HV
  generalize H.length = n at *
  have hws : IntKind.i64.wrap (xi - yi) = xi - yi := IntWalk.i64_in _ (by omega)
  have hiz : (i : Int) < (n : Int) := by omega
  have hjz : (j : Int) < (n : Int) := by omega
  have hxz : (0 : Int) < (nx : Int) := by omega
  have hyz : (0 : Int) < (ny : Int) := by omega
  have HK : Hid (∀ V, Below w.heap.size w V → ((fun V => Below w.heap.size w V ∧ V.cell? ⟨G, 0, none⟩ = some (.slice (some ⟨g, 0, none⟩) n c) ∧ V.cell? ⟨G, 1, none⟩ = some (.func (.func 43) #[] #[]) ∧ V.cell? ⟨g, i * 2, none⟩ = some (.slice (some ⟨bx, ox, none⟩) nx cx) ∧ V.cell? ⟨g, i * 2 + 1, none⟩ = some (.int .i64 xi) ∧ V.cell? ⟨g, j * 2, none⟩ = some (.slice (some ⟨by_, oy, none⟩) ny cy) ∧ V.cell? ⟨g, j * 2 + 1, none⟩ = some (.int .i64 yi) ∧ V.cell? ⟨bx, ox, none⟩ = some (.int .i64 xt) ∧ V.cell? ⟨bx, ox + 1, none⟩ = some (.int .i64 xv) ∧ V.cell? ⟨by_, oy, none⟩ = some (.int .i64 yt) ∧ V.cell? ⟨by_, oy + 1, none⟩ = some (.int .i64 yv)) : World → Prop) V) := hid fun V hV => ⟨hV, keepb hV k0, keepb hV k1, keepb hV a0, keepb hV a1, keepb hV e0, keepb hV e1, keepb hV u0, keepb hV u1, keepb hV v0, keepb hV v1⟩
  clear hx hy h hne hxA hyA hA hxt hyt hxi' hyi' a0 a1 e0 e1 u0 u1 v0 v1 k0 k1
  go_enter Try.func166, Try.ntmps166
  go_wp2_with fail
  refine wp_region_F (S := (fun V => Below w.heap.size w V ∧ V.cell? ⟨G, 0, none⟩ = some (.slice (some ⟨g, 0, none⟩) n c) ∧ V.cell? ⟨G, 1, none⟩ = some (.func (.func 43) #[] #[]) ∧ V.cell? ⟨g, i * 2, none⟩ = some (.slice (some ⟨bx, ox, none⟩) nx cx) ∧ V.cell? ⟨g, i * 2 + 1, none⟩ = some (.int .i64 xi) ∧ V.cell? ⟨g, j * 2, none⟩ = some (.slice (some ⟨by_, oy, none⟩) ny cy) ∧ V.cell? ⟨g, j * 2 + 1, none⟩ = some (.int .i64 yi) ∧ V.cell? ⟨bx, ox, none⟩ = some (.int .i64 xt) ∧ V.cell? ⟨bx, ox + 1, none⟩ = some (.int .i64 xv) ∧ V.cell? ⟨by_, oy, none⟩ = some (.int .i64 yt) ∧ V.cell? ⟨by_, oy + 1, none⟩ = some (.int .i64 yv))) [] (by kernel_rfl) (HK.out _ (bD (Below.refl _ _))) (fun hHeld => ?_)
  refine wpAnyF_pure (i := 0) (v := ?vg1_1_0) rfl (by kernel_rfl) (by kernel_rfl) (by kernel_rfl) (fun _ _ _ h => h) (Or.inl ⟨by rfl, ?hyg1_1_0⟩) ?restg1_1_0
  case hyg1_1_0 => (intro w hSw; clear hSw; go_simp; (all_goals with_reducible rfl))
  try simp only [Act.put, List.setIfInBounds_toArray, List.set_cons_zero, List.set_cons_succ, List.getElem_toArray, List.getElem_cons_succ, List.getElem_cons_zero]
  refine wpAnyF_pure (i := 1) (v := ?vg1_2_1) rfl (by kernel_rfl) (by kernel_rfl) (by kernel_rfl) (fun _ _ _ h => h) (Or.inl ⟨by rfl, ?hyg1_2_1⟩) ?restg1_2_1
  case hyg1_2_1 => (intro w hSw; clear hSw; go_simp; (all_goals with_reducible rfl))
  try simp only [Act.put, List.setIfInBounds_toArray, List.set_cons_zero, List.set_cons_succ, List.getElem_toArray, List.getElem_cons_succ, List.getElem_cons_zero]
  refine wpAnyF_pure (i := 2) (v := ?vg1_3_2) rfl (by kernel_rfl) (by kernel_rfl) (by kernel_rfl) (fun _ _ _ h => h) (Or.inl ⟨by rfl, ?hyg1_3_2⟩) ?restg1_3_2
  case hyg1_3_2 => (intro w hSw; clear hSw; go_simp; (all_goals with_reducible rfl))
  try simp only [Act.put, List.setIfInBounds_toArray, List.set_cons_zero, List.set_cons_succ, List.getElem_toArray, List.getElem_cons_succ, List.getElem_cons_zero]
  refine wpAnyF_pure (i := 4) (v := ?vg1_4_4) rfl (by kernel_rfl) (by kernel_rfl) (by kernel_rfl) (fun _ _ _ h => h) (Or.inl ⟨by rfl, ?hyg1_4_4⟩) ?restg1_4_4
  case hyg1_4_4 => (intro w hSw; clear hSw; go_simp; (all_goals with_reducible rfl))
  try simp only [Act.put, List.setIfInBounds_toArray, List.set_cons_zero, List.set_cons_succ, List.getElem_toArray, List.getElem_cons_succ, List.getElem_cons_zero]
  refine wpAnyF_pure (i := 5) (v := ?vg1_5_5) rfl (by kernel_rfl) (by kernel_rfl) (by kernel_rfl) (fun _ _ _ h => h) (Or.inl ⟨by rfl, ?hyg1_5_5⟩) ?restg1_5_5
  case hyg1_5_5 => (intro w hSw; clear hSw; go_simp; (all_goals with_reducible rfl))
  try simp only [Act.put, List.setIfInBounds_toArray, List.set_cons_zero, List.set_cons_succ, List.getElem_toArray, List.getElem_cons_succ, List.getElem_cons_zero]
  refine wpAnyF_pure (i := 6) (v := ?vg1_6_6) rfl (by kernel_rfl) (by kernel_rfl) (by kernel_rfl) (fun _ _ _ h => h) (Or.inl ⟨by rfl, ?hyg1_6_6⟩) ?restg1_6_6
  case hyg1_6_6 => (intro w hSw; clear hSw; go_simp; (all_goals with_reducible rfl))
  try simp only [Act.put, List.setIfInBounds_toArray, List.set_cons_zero, List.set_cons_succ, List.getElem_toArray, List.getElem_cons_succ, List.getElem_cons_zero]
  refine wpAnyF_pure (i := 8) (v := ?vg1_7_8) rfl (by kernel_rfl) (by kernel_rfl) (by kernel_rfl) (fun _ _ _ h => h) (Or.inl ⟨by rfl, ?hyg1_7_8⟩) ?restg1_7_8
  case hyg1_7_8 => (intro w hSw; clear hSw; go_simp; (all_goals with_reducible rfl))
  try simp only [Act.put, List.setIfInBounds_toArray, List.set_cons_zero, List.set_cons_succ, List.getElem_toArray, List.getElem_cons_succ, List.getElem_cons_zero]
  refine wpAnyF_pure (i := 14) (v := ?vg1_8_14) rfl (by kernel_rfl) (by kernel_rfl) (by kernel_rfl) (fun _ _ _ h => h) (Or.inl ⟨by rfl, ?hyg1_8_14⟩) ?restg1_8_14
  case hyg1_8_14 => (intro w hSw; clear hSw; go_simp; (all_goals with_reducible rfl))
  try simp only [Act.put, List.setIfInBounds_toArray, List.set_cons_zero, List.set_cons_succ, List.getElem_toArray, List.getElem_cons_succ, List.getElem_cons_zero]
  refine wpAnyF_pure (i := 15) (v := ?vg1_9_15) rfl (by kernel_rfl) (by kernel_rfl) (by kernel_rfl) (fun _ _ _ h => h) (Or.inl ⟨by rfl, ?hyg1_9_15⟩) ?restg1_9_15
  case hyg1_9_15 => (intro w hSw; clear hSw; go_simp; (all_goals with_reducible rfl))
  try simp only [Act.put, List.setIfInBounds_toArray, List.set_cons_zero, List.set_cons_succ, List.getElem_toArray, List.getElem_cons_succ, List.getElem_cons_zero]
  refine wpAnyF_pure (i := 16) (v := ?vg1_10_16) rfl (by kernel_rfl) (by kernel_rfl) (by kernel_rfl) (fun _ _ _ h => h) (Or.inl ⟨by rfl, ?hyg1_10_16⟩) ?restg1_10_16
  case hyg1_10_16 => (intro w hSw; clear hSw; go_simp; (all_goals with_reducible rfl))
  try simp only [Act.put, List.setIfInBounds_toArray, List.set_cons_zero, List.set_cons_succ, List.getElem_toArray, List.getElem_cons_succ, List.getElem_cons_zero]
  refine wpAnyF_pure (i := 18) (v := ?vg1_11_18) rfl (by kernel_rfl) (by kernel_rfl) (by kernel_rfl) (fun _ _ _ h => h) (Or.inl ⟨by rfl, ?hyg1_11_18⟩) ?restg1_11_18
  case hyg1_11_18 => (intro w hSw; clear hSw; go_simp; (all_goals with_reducible rfl))
  try simp only [Act.put, List.setIfInBounds_toArray, List.set_cons_zero, List.set_cons_succ, List.getElem_toArray, List.getElem_cons_succ, List.getElem_cons_zero]
  refine wpAnyF_pure (i := 25) (v := ?vg1_12_25) rfl (by kernel_rfl) (by kernel_rfl) (by kernel_rfl) (fun _ _ _ h => h) (Or.inl ⟨by rfl, ?hyg1_12_25⟩) ?restg1_12_25
  case hyg1_12_25 => (intro w hSw; clear hSw; go_simp; (all_goals with_reducible rfl))
  try simp only [Act.put, List.setIfInBounds_toArray, List.set_cons_zero, List.set_cons_succ, List.getElem_toArray, List.getElem_cons_succ, List.getElem_cons_zero]
  refine wpAnyF_pure (i := 26) (v := ?vg1_13_26) rfl (by kernel_rfl) (by kernel_rfl) (by kernel_rfl) (fun _ _ _ h => h) (Or.inl ⟨by rfl, ?hyg1_13_26⟩) ?restg1_13_26
  case hyg1_13_26 => (intro w hSw; clear hSw; go_simp; (all_goals with_reducible rfl))
  try simp only [Act.put, List.setIfInBounds_toArray, List.set_cons_zero, List.set_cons_succ, List.getElem_toArray, List.getElem_cons_succ, List.getElem_cons_zero]
  refine wpAnyF_pure (i := 27) (v := ?vg1_14_27) rfl (by kernel_rfl) (by kernel_rfl) (by kernel_rfl) (fun _ _ _ h => h) (Or.inl ⟨by rfl, ?hyg1_14_27⟩) ?restg1_14_27
  case hyg1_14_27 => (intro w hSw; clear hSw; go_simp; (all_goals with_reducible rfl))
  try simp only [Act.put, List.setIfInBounds_toArray, List.set_cons_zero, List.set_cons_succ, List.getElem_toArray, List.getElem_cons_succ, List.getElem_cons_zero]
  refine wpAnyF_pure (i := 29) (v := ?vg1_15_29) rfl (by kernel_rfl) (by kernel_rfl) (by kernel_rfl) (fun _ _ _ h => h) (Or.inl ⟨by rfl, ?hyg1_15_29⟩) ?restg1_15_29
  case hyg1_15_29 => (intro w hSw; clear hSw; go_simp; (all_goals with_reducible rfl))
  try simp only [Act.put, List.setIfInBounds_toArray, List.set_cons_zero, List.set_cons_succ, List.getElem_toArray, List.getElem_cons_succ, List.getElem_cons_zero]
  refine wpAnyF_pure (i := 33) (v := ?vg1_16_33) rfl (by kernel_rfl) (by kernel_rfl) (by kernel_rfl) (fun _ _ _ h => h) (Or.inl ⟨by rfl, ?hyg1_16_33⟩) ?restg1_16_33
  case hyg1_16_33 => (intro w hSw; clear hSw; go_simp; (all_goals with_reducible rfl))
  try simp only [Act.put, List.setIfInBounds_toArray, List.set_cons_zero, List.set_cons_succ, List.getElem_toArray, List.getElem_cons_succ, List.getElem_cons_zero]
  refine wpAnyF_pure (i := 34) (v := ?vg1_17_34) rfl (by kernel_rfl) (by kernel_rfl) (by kernel_rfl) (fun _ _ _ h => h) (Or.inl ⟨by rfl, ?hyg1_17_34⟩) ?restg1_17_34
  case hyg1_17_34 => (intro w hSw; clear hSw; go_simp; (all_goals with_reducible rfl))
  try simp only [Act.put, List.setIfInBounds_toArray, List.set_cons_zero, List.set_cons_succ, List.getElem_toArray, List.getElem_cons_succ, List.getElem_cons_zero]
  refine wpAnyF_pure (i := 35) (v := ?vg1_18_35) rfl (by kernel_rfl) (by kernel_rfl) (by kernel_rfl) (fun _ _ _ h => h) (Or.inl ⟨by rfl, ?hyg1_18_35⟩) ?restg1_18_35
  case hyg1_18_35 => (intro w hSw; clear hSw; go_simp; (all_goals with_reducible rfl))
  try simp only [Act.put, List.setIfInBounds_toArray, List.set_cons_zero, List.set_cons_succ, List.getElem_toArray, List.getElem_cons_succ, List.getElem_cons_zero]
  refine wpAnyF_pure (i := 37) (v := ?vg1_19_37) rfl (by kernel_rfl) (by kernel_rfl) (by kernel_rfl) (fun _ _ _ h => h) (Or.inl ⟨by rfl, ?hyg1_19_37⟩) ?restg1_19_37
  case hyg1_19_37 => (intro w hSw; clear hSw; go_simp; (all_goals with_reducible rfl))
  try simp only [Act.put, List.setIfInBounds_toArray, List.set_cons_zero, List.set_cons_succ, List.getElem_toArray, List.getElem_cons_succ, List.getElem_cons_zero]
  refine wpAnyF_take [24, 42, 43, 44, 45] (i := 3) (v := ?vg1_20_3) rfl (by kernel_rfl) (by kernel_rfl) (by kernel_rfl) (by kernel_rfl) (fun _ _ _ h => h) (Or.inl ⟨by rfl, ?hyg1_20_3⟩) (by assumption) ?restg1_20_3
  case hyg1_20_3 => (intro w hSw; (try dsimp only at hSw); go_simp; (all_goals with_reducible rfl))
  try simp only [Act.put, List.setIfInBounds_toArray, List.set_cons_zero, List.set_cons_succ, List.getElem_toArray, List.getElem_cons_succ, List.getElem_cons_zero]
  refine wpAnyF_take [9, 10, 11, 12, 13, 24, 42, 43, 44, 45] (i := 7) (v := ?vg1_21_7) rfl (by kernel_rfl) (by kernel_rfl) (by kernel_rfl) (by kernel_rfl) (fun _ _ _ h => h) (Or.inl ⟨by rfl, ?hyg1_21_7⟩) (by assumption) ?restg1_21_7
  case hyg1_21_7 => (intro w hSw; (try dsimp only at hSw); go_simp; (all_goals with_reducible rfl))
  try simp only [Act.put, List.setIfInBounds_toArray, List.set_cons_zero, List.set_cons_succ, List.getElem_toArray, List.getElem_cons_succ, List.getElem_cons_zero]
  refine wpAnyF_pure (i := 9) (v := ?vg1_22_9) rfl (by kernel_rfl) (by kernel_rfl) (by kernel_rfl) (fun _ _ _ h => h) (Or.inl ⟨by rfl, ?hyg1_22_9⟩) ?restg1_22_9
  case hyg1_22_9 => (intro w hSw; clear hSw; go_simp; (all_goals with_reducible rfl))
  try simp only [Act.put, List.setIfInBounds_toArray, List.set_cons_zero, List.set_cons_succ, List.getElem_toArray, List.getElem_cons_succ, List.getElem_cons_zero]
  refine wpAnyF_pure (i := 10) (v := ?vg1_23_10) rfl (by kernel_rfl) (by kernel_rfl) (by kernel_rfl) (fun _ _ _ h => h) (Or.inl ⟨by rfl, ?hyg1_23_10⟩) ?restg1_23_10
  case hyg1_23_10 => (intro w hSw; clear hSw; go_simp; (all_goals with_reducible rfl))
  try simp only [Act.put, List.setIfInBounds_toArray, List.set_cons_zero, List.set_cons_succ, List.getElem_toArray, List.getElem_cons_succ, List.getElem_cons_zero]
  refine wpAnyF_take [12, 13, 24, 42, 43, 44, 45] (i := 11) (v := ?vg1_24_11) rfl (by kernel_rfl) (by kernel_rfl) (by kernel_rfl) (by kernel_rfl) (fun _ _ _ h => h) (Or.inl ⟨by rfl, ?hyg1_24_11⟩) (by assumption) ?restg1_24_11
  case hyg1_24_11 => (intro w hSw; (try dsimp only at hSw); go_simp; (all_goals with_reducible rfl))
  try simp only [Act.put, List.setIfInBounds_toArray, List.set_cons_zero, List.set_cons_succ, List.getElem_toArray, List.getElem_cons_succ, List.getElem_cons_zero]
  refine wpAnyF_pure (i := 12) (v := ?vg1_25_12) rfl (by kernel_rfl) (by kernel_rfl) (by kernel_rfl) (fun _ _ _ h => h) (Or.inl ⟨by rfl, ?hyg1_25_12⟩) ?restg1_25_12
  case hyg1_25_12 => (intro w hSw; clear hSw; go_simp; (all_goals with_reducible rfl))
  try simp only [Act.put, List.setIfInBounds_toArray, List.set_cons_zero, List.set_cons_succ, List.getElem_toArray, List.getElem_cons_succ, List.getElem_cons_zero]
  refine wpAnyF_take [24, 42, 43, 44, 45] (i := 13) (v := ?vg1_26_13) rfl (by kernel_rfl) (by kernel_rfl) (by kernel_rfl) (by kernel_rfl) (fun _ _ _ h => h) (Or.inl ⟨by rfl, ?hyg1_26_13⟩) (by assumption) ?restg1_26_13
  case hyg1_26_13 => (intro w hSw; (try dsimp only at hSw); go_simp; (all_goals with_reducible rfl))
  try simp only [Act.put, List.setIfInBounds_toArray, List.set_cons_zero, List.set_cons_succ, List.getElem_toArray, List.getElem_cons_succ, List.getElem_cons_zero]
  refine wpAnyF_take [19, 20, 21, 22, 23, 24, 42, 43, 44, 45] (i := 17) (v := ?vg1_27_17) rfl (by kernel_rfl) (by kernel_rfl) (by kernel_rfl) (by kernel_rfl) (fun _ _ _ h => h) (Or.inl ⟨by rfl, ?hyg1_27_17⟩) (by assumption) ?restg1_27_17
  case hyg1_27_17 => (intro w hSw; (try dsimp only at hSw); go_simp; (all_goals with_reducible rfl))
  try simp only [Act.put, List.setIfInBounds_toArray, List.set_cons_zero, List.set_cons_succ, List.getElem_toArray, List.getElem_cons_succ, List.getElem_cons_zero]
  refine wpAnyF_pure (i := 19) (v := ?vg1_28_19) rfl (by kernel_rfl) (by kernel_rfl) (by kernel_rfl) (fun _ _ _ h => h) (Or.inl ⟨by rfl, ?hyg1_28_19⟩) ?restg1_28_19
  case hyg1_28_19 => (intro w hSw; clear hSw; go_simp; (all_goals with_reducible rfl))
  try simp only [Act.put, List.setIfInBounds_toArray, List.set_cons_zero, List.set_cons_succ, List.getElem_toArray, List.getElem_cons_succ, List.getElem_cons_zero]
  refine wpAnyF_pure (i := 20) (v := ?vg1_29_20) rfl (by kernel_rfl) (by kernel_rfl) (by kernel_rfl) (fun _ _ _ h => h) (Or.inl ⟨by rfl, ?hyg1_29_20⟩) ?restg1_29_20
  case hyg1_29_20 => (intro w hSw; clear hSw; go_simp; (all_goals with_reducible rfl))
  try simp only [Act.put, List.setIfInBounds_toArray, List.set_cons_zero, List.set_cons_succ, List.getElem_toArray, List.getElem_cons_succ, List.getElem_cons_zero]
  refine wpAnyF_take [22, 23, 24, 42, 43, 44, 45] (i := 21) (v := ?vg1_30_21) rfl (by kernel_rfl) (by kernel_rfl) (by kernel_rfl) (by kernel_rfl) (fun _ _ _ h => h) (Or.inl ⟨by rfl, ?hyg1_30_21⟩) (by assumption) ?restg1_30_21
  case hyg1_30_21 => (intro w hSw; (try dsimp only at hSw); go_simp; (all_goals with_reducible rfl))
  try simp only [Act.put, List.setIfInBounds_toArray, List.set_cons_zero, List.set_cons_succ, List.getElem_toArray, List.getElem_cons_succ, List.getElem_cons_zero]
  refine wpAnyF_pure (i := 22) (v := ?vg1_31_22) rfl (by kernel_rfl) (by kernel_rfl) (by kernel_rfl) (fun _ _ _ h => h) (Or.inl ⟨by rfl, ?hyg1_31_22⟩) ?restg1_31_22
  case hyg1_31_22 => (intro w hSw; clear hSw; go_simp; (all_goals with_reducible rfl))
  try simp only [Act.put, List.setIfInBounds_toArray, List.set_cons_zero, List.set_cons_succ, List.getElem_toArray, List.getElem_cons_succ, List.getElem_cons_zero]
  refine wpAnyF_take [24, 42, 43, 44, 45] (i := 23) (v := ?vg1_32_23) rfl (by kernel_rfl) (by kernel_rfl) (by kernel_rfl) (by kernel_rfl) (fun _ _ _ h => h) (Or.inl ⟨by rfl, ?hyg1_32_23⟩) (by assumption) ?restg1_32_23
  case hyg1_32_23 => (intro w hSw; (try dsimp only at hSw); go_simp; (all_goals with_reducible rfl))
  try simp only [Act.put, List.setIfInBounds_toArray, List.set_cons_zero, List.set_cons_succ, List.getElem_toArray, List.getElem_cons_succ, List.getElem_cons_zero]
  refine wpAnyF_take [30, 31, 32, 41, 42, 43, 44, 45] (i := 28) (v := ?vg1_33_28) rfl (by kernel_rfl) (by kernel_rfl) (by kernel_rfl) (by kernel_rfl) (fun _ _ _ h => h) (Or.inl ⟨by rfl, ?hyg1_33_28⟩) (by assumption) ?restg1_33_28
  case hyg1_33_28 => (intro w hSw; (try dsimp only at hSw); go_simp; (all_goals with_reducible rfl))
  try simp only [Act.put, List.setIfInBounds_toArray, List.set_cons_zero, List.set_cons_succ, List.getElem_toArray, List.getElem_cons_succ, List.getElem_cons_zero]
  refine wpAnyF_pure (i := 30) (v := ?vg1_34_30) rfl (by kernel_rfl) (by kernel_rfl) (by kernel_rfl) (fun _ _ _ h => h) (Or.inl ⟨by rfl, ?hyg1_34_30⟩) ?restg1_34_30
  case hyg1_34_30 => (intro w hSw; clear hSw; go_simp; (all_goals with_reducible rfl))
  try simp only [Act.put, List.setIfInBounds_toArray, List.set_cons_zero, List.set_cons_succ, List.getElem_toArray, List.getElem_cons_succ, List.getElem_cons_zero]
  refine wpAnyF_pure (i := 31) (v := ?vg1_35_31) rfl (by kernel_rfl) (by kernel_rfl) (by kernel_rfl) (fun _ _ _ h => h) (Or.inl ⟨by rfl, ?hyg1_35_31⟩) ?restg1_35_31
  case hyg1_35_31 => (intro w hSw; clear hSw; go_simp; (all_goals with_reducible rfl))
  try simp only [Act.put, List.setIfInBounds_toArray, List.set_cons_zero, List.set_cons_succ, List.getElem_toArray, List.getElem_cons_succ, List.getElem_cons_zero]
  refine wpAnyF_take [41, 42, 43, 44, 45] (i := 32) (v := ?vg1_36_32) rfl (by kernel_rfl) (by kernel_rfl) (by kernel_rfl) (by kernel_rfl) (fun _ _ _ h => h) (Or.inl ⟨by rfl, ?hyg1_36_32⟩) (by assumption) ?restg1_36_32
  case hyg1_36_32 => (intro w hSw; (try dsimp only at hSw); go_simp; (all_goals with_reducible rfl))
  try simp only [Act.put, List.setIfInBounds_toArray, List.set_cons_zero, List.set_cons_succ, List.getElem_toArray, List.getElem_cons_succ, List.getElem_cons_zero]
  refine wpAnyF_take [38, 39, 40, 41, 42, 43, 44, 45] (i := 36) (v := ?vg1_37_36) rfl (by kernel_rfl) (by kernel_rfl) (by kernel_rfl) (by kernel_rfl) (fun _ _ _ h => h) (Or.inl ⟨by rfl, ?hyg1_37_36⟩) (by assumption) ?restg1_37_36
  case hyg1_37_36 => (intro w hSw; (try dsimp only at hSw); go_simp; (all_goals with_reducible rfl))
  try simp only [Act.put, List.setIfInBounds_toArray, List.set_cons_zero, List.set_cons_succ, List.getElem_toArray, List.getElem_cons_succ, List.getElem_cons_zero]
  refine wpAnyF_pure (i := 38) (v := ?vg1_38_38) rfl (by kernel_rfl) (by kernel_rfl) (by kernel_rfl) (fun _ _ _ h => h) (Or.inl ⟨by rfl, ?hyg1_38_38⟩) ?restg1_38_38
  case hyg1_38_38 => (intro w hSw; clear hSw; go_simp; (all_goals with_reducible rfl))
  try simp only [Act.put, List.setIfInBounds_toArray, List.set_cons_zero, List.set_cons_succ, List.getElem_toArray, List.getElem_cons_succ, List.getElem_cons_zero]
  refine wpAnyF_pure (i := 39) (v := ?vg1_39_39) rfl (by kernel_rfl) (by kernel_rfl) (by kernel_rfl) (fun _ _ _ h => h) (Or.inl ⟨by rfl, ?hyg1_39_39⟩) ?restg1_39_39
  case hyg1_39_39 => (intro w hSw; clear hSw; go_simp; (all_goals with_reducible rfl))
  try simp only [Act.put, List.setIfInBounds_toArray, List.set_cons_zero, List.set_cons_succ, List.getElem_toArray, List.getElem_cons_succ, List.getElem_cons_zero]
  refine wpAnyF_take [41, 42, 43, 44, 45] (i := 40) (v := ?vg1_40_40) rfl (by kernel_rfl) (by kernel_rfl) (by kernel_rfl) (by kernel_rfl) (fun _ _ _ h => h) (Or.inl ⟨by rfl, ?hyg1_40_40⟩) (by assumption) ?restg1_40_40
  case hyg1_40_40 => (intro w hSw; (try dsimp only at hSw); go_simp; (all_goals with_reducible rfl))
  try simp only [Act.put, List.setIfInBounds_toArray, List.set_cons_zero, List.set_cons_succ, List.getElem_toArray, List.getElem_cons_succ, List.getElem_cons_zero]
  refine wpAnyF_pure (i := 41) (v := ?vg1_41_41) rfl (by kernel_rfl) (by kernel_rfl) (by kernel_rfl) (fun _ _ _ h => h) (Or.inl ⟨by rfl, ?hyg1_41_41⟩) ?restg1_41_41
  case hyg1_41_41 => (intro w hSw; clear hSw; go_simp; (all_goals with_reducible rfl))
  try simp only [Act.put, List.setIfInBounds_toArray, List.set_cons_zero, List.set_cons_succ, List.getElem_toArray, List.getElem_cons_succ, List.getElem_cons_zero]
  refine wpAnyF_one (i := 24) (by kernel_rfl) rfl (fun K hK => ?_)
  go_simp
  go_at_call 43
  refine (order_walk ⟨xt, xv⟩ ⟨yt, yv⟩ _).mono ?_
  rintro e w2 ⟨rfl, b2⟩
  go_wp2_with fail
  refine hK.out _ _ (HK.out _ (bT hHeld.1 b2)) (fun hHeld => ?_)
  clear hK K
  try simp only [Act.put, List.setIfInBounds_toArray, List.set_cons_zero, List.set_cons_succ, List.getElem_toArray, List.getElem_cons_succ, List.getElem_cons_zero]
  refine wpAnyF_one (i := 42) (by kernel_rfl) rfl (fun K hK => ?_)
  go_simp
  refine hK.out _ _ (HK.out _ (bA hHeld.1 _)) (fun hHeld => ?_)
  clear hK K
  try simp only [Act.put, List.setIfInBounds_toArray, List.set_cons_zero, List.set_cons_succ, List.getElem_toArray, List.getElem_cons_succ, List.getElem_cons_zero]
  refine wpAnyF_one (i := 43) (by kernel_rfl) rfl (fun K hK => ?_)
  go_simp
  go_at_call 82
  refine (or_walk (ordV ⟨xt, xv⟩ ⟨yt, yv⟩) (xi - yi) _ _ _ _ (by go_simp) (by go_simp)).mono ?_
  rintro e w3 ⟨rfl, rfl⟩
  go_wp2_with fail
  refine hK.out _ _ hHeld (fun hHeld => ?_)
  clear hK K
  try simp only [Act.put, List.setIfInBounds_toArray, List.set_cons_zero, List.set_cons_succ, List.getElem_toArray, List.getElem_cons_succ, List.getElem_cons_zero]
  refine wpAnyF_pure (i := 44) (v := ?vg1_45_44) rfl (by kernel_rfl) (by kernel_rfl) (by kernel_rfl) (fun _ _ _ h => h) (Or.inl ⟨by rfl, ?hyg1_45_44⟩) ?restg1_45_44
  case hyg1_45_44 => (intro w hSw; clear hSw; go_simp; (all_goals with_reducible rfl))
  try simp only [Act.put, List.setIfInBounds_toArray, List.set_cons_zero, List.set_cons_succ, List.getElem_toArray, List.getElem_cons_succ, List.getElem_cons_zero]
  refine wpAnyF_pure (i := 45) (v := ?vg1_46_45) rfl (by kernel_rfl) (by kernel_rfl) (by kernel_rfl) (fun _ _ _ h => h) (Or.inl ⟨by rfl, ?hyg1_46_45⟩) ?restg1_46_45
  case hyg1_46_45 => (intro w hSw; clear hSw; go_simp; (all_goals with_reducible rfl))
  try simp only [Act.put, List.setIfInBounds_toArray, List.set_cons_zero, List.set_cons_succ, List.getElem_toArray, List.getElem_cons_succ, List.getElem_cons_zero]
  refine wpAnyF_done (by kernel_rfl) ?_ _
  go_wp2_with fail
  go_ret
  exact ⟨by rw [HV.out]; rfl, hHeld.1⟩
theorem cell_far {w : World} {g o b o' : Nat} {v u : Value} (h : w.cell? ⟨b, o', none⟩ = some u) (hne : b ≠ g) : (w.setCell ⟨g, o, none⟩ v).cell? ⟨b, o', none⟩ = some u :=
  (World.cell?_setCell_other (w := w) (a := ⟨g, o, none⟩) (b := ⟨b, o', none⟩) (v := v) (by intro e; injection e with e; exact hne e.symm)).trans h
theorem cell_offs {w : World} {b o o' : Nat} {v u : Value} (h : w.cell? ⟨b, o', none⟩ = some u) (hne : o' ≠ o) : (w.setCell ⟨b, o, none⟩ v).cell? ⟨b, o', none⟩ = some u :=
  (World.cell?_setCell_other (w := w) (a := ⟨b, o, none⟩) (b := ⟨b, o', none⟩) (v := v) (by intro e; injection e with _ e; exact hne e.symm)).trans h
theorem cell_there {w : World} {g o o' : Nat} {v u : Value} (h : w.cell? ⟨g, o', none⟩ = some u) : ∃ u', (w.setCell ⟨g, o, none⟩ v).cell? ⟨g, o', none⟩ = some u' := by
  by_cases e : o = o'
  · subst e; exact ⟨v, World.cell?_setCell_same _ _ _ h⟩
  · exact ⟨u, (World.cell?_setCell_other (w := w) (a := ⟨g, o, none⟩) (b := ⟨g, o', none⟩) (v := v) (by intro e2; injection e2 with _ e2; exact e e2)).trans h⟩
/-- One store behind: a swap under way. -/
def SwD (w : World) (G g c : Nat) (L : List Hd) (p : Nat) (x0 x1 : Value) (s6 : Value) (wx : World) : Prop :=
  s6 = .pointer (some ⟨p, 0, none⟩) ∧ Heaped Hd.cells (fun _ => []) wx (G + 1) 142 2 (some ⟨g, 0, none⟩) c L ∧ wx.cell? ⟨G, 0, none⟩ = some (.slice (some ⟨g, 0, none⟩) L.length c) ∧ wx.cell? ⟨G, 1, none⟩ = some (.func (.func 43) #[] #[]) ∧ wx.frozen? ⟨G, 0, none⟩ = false ∧ wx.cell? ⟨p, 0, none⟩ = some x0 ∧ wx.cell? ⟨p, 1, none⟩ = some x1 ∧ w.grownBy wx (some g)
theorem hf_of_grown {w w' : World} {G g : Nat} (h : w.grownBy w' (some g)) (hg : G < g) (hG : G < w.heap.size) : HF w w' G (some g) (some g) :=
  ⟨⟨h.os, h.tape, h.output, h.size, fun k hk => h.block k (by omega) (fun e => by injection e with e; omega)⟩, fun k hk _ hne => h.block k hk (fun e => hne e.symm), fun k hk => .inl hk⟩
theorem grown_far {w w' : World} {g : Nat} (b : Below w.heap.size w w') (o o' : Nat) (v v' : Value) : w.grownBy ((w'.setCell ⟨g, o, none⟩ v).setCell ⟨g, o', none⟩ v') (some g) :=
  ⟨b.os, b.tape, b.output, by simpa using b.size, fun k hk hne => by
    have h : ∀ (V : World) (o : Nat) (v : Value), (V.setCell ⟨g, o, none⟩ v).heap[k]? = V.heap[k]? := fun V o v => heap_setCell_other V ⟨g, o, none⟩ k v (fun e => hne (by simp [e]))
    rw [h, h]
    exact b.block k hk⟩
def SwC (x0 x1 y0 y1 : Value) (w : World) (s6 s7 : Value) (wx : World) : Prop :=
  ∃ p q : Nat, s6 = .pointer (some ⟨p, 0, none⟩) ∧ s7 = .pointer (some ⟨q, 0, none⟩) ∧ w.heap.size ≤ p ∧ w.heap.size ≤ q ∧ wx.cell? ⟨p, 0, none⟩ = some x0 ∧ wx.cell? ⟨p, 1, none⟩ = some x1 ∧ wx.cell? ⟨q, 0, none⟩ = some y0 ∧ wx.cell? ⟨q, 1, none⟩ = some y1 ∧ Below w.heap.size w wx
set_option maxRecDepth 100000 in
set_option maxHeartbeats 4000000 in
theorem hdSwap_walk {w : World} {B G : Nat} {A : Option Addr} {c : Nat} {H : List Hd} (h : HO w B G A c H) {i j : Nat} (hi : i < H.length) (hj : j < H.length) :
    Calls Try.prog 169 #[.pointer (some ⟨G, 0, none⟩), .int .i64 (i : Nat), .int .i64 (j : Nat)] w fun e w' => e = .returned (.tuple #[]) ∧ HO w' B G A c (swapL H i j) ∧ HF w w' G (hdBlk A c H) (hdBlk A c H) := by
  obtain ⟨x, hx⟩ : ∃ x, H[i]? = some x := ⟨_, List.getElem?_eq_getElem hi⟩
  obtain ⟨y, hy⟩ : ∃ x, H[j]? = some x := ⟨_, List.getElem?_eq_getElem hj⟩
  obtain ⟨g, hA, hG, hgs, a0, a1, hlc⟩ := h.at_ hx
  obtain ⟨g', hA', _, _, e0, e1, _⟩ := h.at_ hy
  rw [hA] at hA'
  injection hA' with hA'
  injection hA' with hA'
  subst hA'
  subst hA
  have k0 := h.all
  have hk0 := hid k0
  have ha0 := hid a0
  have HSW := hid (swapL_eq hx hy)
  have HH := hid h
  have HX := hid hx
  have HY := hid hy
  have hGs := h.lt
  generalize hxA : x.m.A = xA at *
  generalize hxn : x.m.l.length = xn at *
  generalize hxc : x.m.c = xc at *
  generalize hxi : (x.i : Int) = xi at *
  generalize hyA : y.m.A = yA at *
  generalize hyn : y.m.l.length = yn at *
  generalize hyc : y.m.c = yc at *
  generalize hyi : (y.i : Int) = yi at *
  have HXC : Hid (Hd.cells x = [.slice xA xn xc, .int .i64 xi]) := hid (by rw [← hxA, ← hxn, ← hxc, ← hxi]; rfl)
  have HYC : Hid (Hd.cells y = [.slice yA yn yc, .int .i64 yi]) := hid (by rw [← hyA, ← hyn, ← hyc, ← hyi]; rfl)
  have hn0 := hi
  generalize hn : H.length = n at *
  have HN := hid hn
  have hiz : (i : Int) < (n : Int) := by omega
  have hjz : (j : Int) < (n : Int) := by omega
  have HK : Hid (∀ V, Below w.heap.size w V → ((fun V => Below w.heap.size w V ∧ V.cell? ⟨G, 0, none⟩ = some (.slice (some ⟨g, 0, none⟩) n c) ∧ V.cell? ⟨g, i * 2, none⟩ = some (.slice xA xn xc) ∧ V.cell? ⟨g, i * 2 + 1, none⟩ = some (.int .i64 xi) ∧ V.cell? ⟨g, j * 2, none⟩ = some (.slice yA yn yc) ∧ V.cell? ⟨g, j * 2 + 1, none⟩ = some (.int .i64 yi)) : World → Prop) V) := hid fun V hV => ⟨hV, keepb hV k0, keepb hV a0, keepb hV a1, keepb hV e0, keepb hV e1⟩
  clear hx hy h hxA hxn hxc hxi hyA hyn hyc hyi hn a0 a1 e0 e1 k0
  go_enter Try.func169, Try.ntmps169
  go_upto_region 0 with fail
  go_cut [6, 7] (fun s6 s7 wx => SwC (.slice xA xn xc) (.int .i64 xi) (.slice yA yn yc) (.int .i64 yi) w s6 s7 wx)
  case first =>
    refine wp_region_F (S := (fun V => Below w.heap.size w V ∧ V.cell? ⟨G, 0, none⟩ = some (.slice (some ⟨g, 0, none⟩) n c) ∧ V.cell? ⟨g, i * 2, none⟩ = some (.slice xA xn xc) ∧ V.cell? ⟨g, i * 2 + 1, none⟩ = some (.int .i64 xi) ∧ V.cell? ⟨g, j * 2, none⟩ = some (.slice yA yn yc) ∧ V.cell? ⟨g, j * 2 + 1, none⟩ = some (.int .i64 yi))) [17] (by kernel_rfl) (HK.out _ (bD (Below.refl _ _))) (fun hHeld => ?_)
    refine wpAnyF_pure (i := 0) (v := ?vg2_1_0) rfl (by kernel_rfl) (by kernel_rfl) (by kernel_rfl) (fun _ _ _ h => h) (Or.inl ⟨by rfl, ?hyg2_1_0⟩) ?restg2_1_0
    case hyg2_1_0 => (intro w hSw; clear hSw; go_simp; (all_goals with_reducible rfl))
    try simp only [Act.put, List.setIfInBounds_toArray, List.set_cons_zero, List.set_cons_succ, List.getElem_toArray, List.getElem_cons_succ, List.getElem_cons_zero]
    refine wpAnyF_pure (i := 1) (v := ?vg2_2_1) rfl (by kernel_rfl) (by kernel_rfl) (by kernel_rfl) (fun _ _ _ h => h) (Or.inl ⟨by rfl, ?hyg2_2_1⟩) ?restg2_2_1
    case hyg2_2_1 => (intro w hSw; clear hSw; go_simp; (all_goals with_reducible rfl))
    try simp only [Act.put, List.setIfInBounds_toArray, List.set_cons_zero, List.set_cons_succ, List.getElem_toArray, List.getElem_cons_succ, List.getElem_cons_zero]
    refine wpAnyF_pure (i := 2) (v := ?vg2_3_2) rfl (by kernel_rfl) (by kernel_rfl) (by kernel_rfl) (fun _ _ _ h => h) (Or.inl ⟨by rfl, ?hyg2_3_2⟩) ?restg2_3_2
    case hyg2_3_2 => (intro w hSw; clear hSw; go_simp; (all_goals with_reducible rfl))
    try simp only [Act.put, List.setIfInBounds_toArray, List.set_cons_zero, List.set_cons_succ, List.getElem_toArray, List.getElem_cons_succ, List.getElem_cons_zero]
    refine wpAnyF_pure (i := 4) (v := ?vg2_4_4) rfl (by kernel_rfl) (by kernel_rfl) (by kernel_rfl) (fun _ _ _ h => h) (Or.inl ⟨by rfl, ?hyg2_4_4⟩) ?restg2_4_4
    case hyg2_4_4 => (intro w hSw; clear hSw; go_simp; (all_goals with_reducible rfl))
    try simp only [Act.put, List.setIfInBounds_toArray, List.set_cons_zero, List.set_cons_succ, List.getElem_toArray, List.getElem_cons_succ, List.getElem_cons_zero]
    refine wpAnyF_pure (i := 7) (v := ?vg2_5_7) rfl (by kernel_rfl) (by kernel_rfl) (by kernel_rfl) (fun _ _ _ h => h) (Or.inl ⟨by rfl, ?hyg2_5_7⟩) ?restg2_5_7
    case hyg2_5_7 => (intro w hSw; clear hSw; go_simp; (all_goals with_reducible rfl))
    try simp only [Act.put, List.setIfInBounds_toArray, List.set_cons_zero, List.set_cons_succ, List.getElem_toArray, List.getElem_cons_succ, List.getElem_cons_zero]
    refine wpAnyF_pure (i := 8) (v := ?vg2_6_8) rfl (by kernel_rfl) (by kernel_rfl) (by kernel_rfl) (fun _ _ _ h => h) (Or.inl ⟨by rfl, ?hyg2_6_8⟩) ?restg2_6_8
    case hyg2_6_8 => (intro w hSw; clear hSw; go_simp; (all_goals with_reducible rfl))
    try simp only [Act.put, List.setIfInBounds_toArray, List.set_cons_zero, List.set_cons_succ, List.getElem_toArray, List.getElem_cons_succ, List.getElem_cons_zero]
    refine wpAnyF_pure (i := 9) (v := ?vg2_7_9) rfl (by kernel_rfl) (by kernel_rfl) (by kernel_rfl) (fun _ _ _ h => h) (Or.inl ⟨by rfl, ?hyg2_7_9⟩) ?restg2_7_9
    case hyg2_7_9 => (intro w hSw; clear hSw; go_simp; (all_goals with_reducible rfl))
    try simp only [Act.put, List.setIfInBounds_toArray, List.set_cons_zero, List.set_cons_succ, List.getElem_toArray, List.getElem_cons_succ, List.getElem_cons_zero]
    refine wpAnyF_pure (i := 11) (v := ?vg2_8_11) rfl (by kernel_rfl) (by kernel_rfl) (by kernel_rfl) (fun _ _ _ h => h) (Or.inl ⟨by rfl, ?hyg2_8_11⟩) ?restg2_8_11
    case hyg2_8_11 => (intro w hSw; clear hSw; go_simp; (all_goals with_reducible rfl))
    try simp only [Act.put, List.setIfInBounds_toArray, List.set_cons_zero, List.set_cons_succ, List.getElem_toArray, List.getElem_cons_succ, List.getElem_cons_zero]
    refine wpAnyF_take [5, 6, 16, 17] (i := 3) (v := ?vg2_9_3) rfl (by kernel_rfl) (by kernel_rfl) (by kernel_rfl) (by kernel_rfl) (fun _ _ _ h => h) (Or.inl ⟨by rfl, ?hyg2_9_3⟩) (by assumption) ?restg2_9_3
    case hyg2_9_3 => (intro w hSw; (try dsimp only at hSw); go_simp; (all_goals with_reducible rfl))
    try simp only [Act.put, List.setIfInBounds_toArray, List.set_cons_zero, List.set_cons_succ, List.getElem_toArray, List.getElem_cons_succ, List.getElem_cons_zero]
    refine wpAnyF_pure (i := 5) (v := ?vg2_10_5) rfl (by kernel_rfl) (by kernel_rfl) (by kernel_rfl) (fun _ _ _ h => h) (Or.inl ⟨by rfl, ?hyg2_10_5⟩) ?restg2_10_5
    case hyg2_10_5 => (intro w hSw; clear hSw; go_simp; (all_goals with_reducible rfl))
    try simp only [Act.put, List.setIfInBounds_toArray, List.set_cons_zero, List.set_cons_succ, List.getElem_toArray, List.getElem_cons_succ, List.getElem_cons_zero]
    refine wpAnyF_take [16, 17] (i := 6) (v := ?vg2_11_6) rfl (by kernel_rfl) (by kernel_rfl) (by kernel_rfl) (by kernel_rfl) (fun _ _ _ h => h) (Or.inl ⟨by rfl, ?hyg2_11_6⟩) (by assumption) ?restg2_11_6
    case hyg2_11_6 => (intro w hSw; (try dsimp only at hSw); go_simp; (all_goals with_reducible rfl))
    try simp only [Act.put, List.setIfInBounds_toArray, List.set_cons_zero, List.set_cons_succ, List.getElem_toArray, List.getElem_cons_succ, List.getElem_cons_zero]
    refine wpAnyF_take [12, 13, 17] (i := 10) (v := ?vg2_12_10) rfl (by kernel_rfl) (by kernel_rfl) (by kernel_rfl) (by kernel_rfl) (fun _ _ _ h => h) (Or.inl ⟨by rfl, ?hyg2_12_10⟩) (by assumption) ?restg2_12_10
    case hyg2_12_10 => (intro w hSw; (try dsimp only at hSw); go_simp; (all_goals with_reducible rfl))
    try simp only [Act.put, List.setIfInBounds_toArray, List.set_cons_zero, List.set_cons_succ, List.getElem_toArray, List.getElem_cons_succ, List.getElem_cons_zero]
    refine wpAnyF_pure (i := 12) (v := ?vg2_13_12) rfl (by kernel_rfl) (by kernel_rfl) (by kernel_rfl) (fun _ _ _ h => h) (Or.inl ⟨by rfl, ?hyg2_13_12⟩) ?restg2_13_12
    case hyg2_13_12 => (intro w hSw; clear hSw; go_simp; (all_goals with_reducible rfl))
    try simp only [Act.put, List.setIfInBounds_toArray, List.set_cons_zero, List.set_cons_succ, List.getElem_toArray, List.getElem_cons_succ, List.getElem_cons_zero]
    refine wpAnyF_take [17] (i := 13) (v := ?vg2_14_13) rfl (by kernel_rfl) (by kernel_rfl) (by kernel_rfl) (by kernel_rfl) (fun _ _ _ h => h) (Or.inl ⟨by rfl, ?hyg2_14_13⟩) (by assumption) ?restg2_14_13
    case hyg2_14_13 => (intro w hSw; (try dsimp only at hSw); go_simp; (all_goals with_reducible rfl))
    try simp only [Act.put, List.setIfInBounds_toArray, List.set_cons_zero, List.set_cons_succ, List.getElem_toArray, List.getElem_cons_succ, List.getElem_cons_zero]
    refine wpAnyF_ready (rs := [14, 15]) (by kernel_rfl) (by simp) ?_
    refine AllReadyF.cons rfl (fun K hK => ?_) ?_
    · go_simp
      refine hK.out _ _ (HK.out _ (bA hHeld.1 _)) (fun hHeld => ?_)
      clear hK K
      try simp only [Act.put, List.setIfInBounds_toArray, List.set_cons_zero, List.set_cons_succ, List.getElem_toArray, List.getElem_cons_succ, List.getElem_cons_zero]
      refine wpAnyF_one (i := 15) (by kernel_rfl) rfl (fun K hK => ?_)
      go_simp
      refine hK.out _ _ (HK.out _ (bA hHeld.1 _)) (fun hHeld => ?_)
      clear hK K
      try simp only [Act.put, List.setIfInBounds_toArray, List.set_cons_zero, List.set_cons_succ, List.getElem_toArray, List.getElem_cons_succ, List.getElem_cons_zero]
      refine wpAnyF_one (i := 16) (by kernel_rfl) rfl (fun K hK => ?_)
      go_simp
      refine hK.out _ _ (HK.out _ (bD (bA (bA (Below.refl _ _) _) _))) (fun hHeld => ?_)
      clear hK K
      try simp only [Act.put, List.setIfInBounds_toArray, List.set_cons_zero, List.set_cons_succ, List.getElem_toArray, List.getElem_cons_succ, List.getElem_cons_zero]
      refine wpAnyF_oneD (i := 17) (by kernel_rfl) (by kernel_rfl) rfl (fun K hK => ?_)
      go_simp
      refine hK.out _ _ ?_
      clear hK K
      try simp only [Act.put, List.setIfInBounds_toArray, List.set_cons_zero, List.set_cons_succ, List.getElem_toArray, List.getElem_cons_succ, List.getElem_cons_zero]
      refine wpAnyF_done (by kernel_rfl) ?_ _
      go_wp2_with fail
      go_meet
      refine ⟨_, _, rfl, rfl, by simp, by simp, by go_simp, by go_simp, by go_simp, by go_simp, ?_⟩
      repeat (with_reducible first | refine bD ?_ | refine bA ?_ _)
      exact Below.refl _ _
    refine AllReadyF.cons rfl (fun K hK => ?_) AllReadyF.nil
    go_simp
    refine hK.out _ _ (HK.out _ (bA hHeld.1 _)) (fun hHeld => ?_)
    clear hK K
    try simp only [Act.put, List.setIfInBounds_toArray, List.set_cons_zero, List.set_cons_succ, List.getElem_toArray, List.getElem_cons_succ, List.getElem_cons_zero]
    refine wpAnyF_one (i := 14) (by kernel_rfl) rfl (fun K hK => ?_)
    go_simp
    refine hK.out _ _ (HK.out _ (bA hHeld.1 _)) (fun hHeld => ?_)
    clear hK K
    try simp only [Act.put, List.setIfInBounds_toArray, List.set_cons_zero, List.set_cons_succ, List.getElem_toArray, List.getElem_cons_succ, List.getElem_cons_zero]
    refine wpAnyF_one (i := 16) (by kernel_rfl) rfl (fun K hK => ?_)
    go_simp
    refine hK.out _ _ (HK.out _ (bD (bA (bA (Below.refl _ _) _) _))) (fun hHeld => ?_)
    clear hK K
    try simp only [Act.put, List.setIfInBounds_toArray, List.set_cons_zero, List.set_cons_succ, List.getElem_toArray, List.getElem_cons_succ, List.getElem_cons_zero]
    refine wpAnyF_oneD (i := 17) (by kernel_rfl) (by kernel_rfl) rfl (fun K hK => ?_)
    go_simp
    refine hK.out _ _ ?_
    clear hK K
    try simp only [Act.put, List.setIfInBounds_toArray, List.set_cons_zero, List.set_cons_succ, List.getElem_toArray, List.getElem_cons_succ, List.getElem_cons_zero]
    refine wpAnyF_done (by kernel_rfl) ?_ _
    go_wp2_with fail
    go_meet
    refine ⟨_, _, rfl, rfl, by simp, by simp, by go_simp, by go_simp, by go_simp, by go_simp, ?_⟩
    repeat (with_reducible first | refine bD ?_ | refine bA ?_ _)
    exact Below.refl _ _

  case rest =>
    obtain ⟨p, q, rfl, rfl, hpz, hqz, p0, p1, q0, q1, bX⟩ := hcut
    have HX2 := hid (HH.out.below bX)
    obtain ⟨g', hg', hgB, hgs2, _, hgf, hput⟩ := heap_put (cells := Hd.cells) (sz := 2) (fun _ => rfl) HX2.out.row HX.out y (fun p hp => (by cases hp)) (by decide)
    injection hg' with hg'
    injection hg' with hg'
    subst hg'
    obtain ⟨z, hz⟩ : ∃ z, (H.set i y)[j]? = some z := ⟨_, List.getElem?_eq_getElem (by rw [List.length_set, HN.out]; exact hj)⟩
    obtain ⟨g', hg', _, hgs3, hgc3, hgf3, hput2⟩ := heap_put (cells := Hd.cells) (sz := 2) (fun _ => rfl) hput hz x (fun p hp => (by cases hp)) (by decide)
    injection hg' with hg'
    injection hg' with hg'
    subst hg'
    rw [← HSW.out, HXC.out, HYC.out] at hput2
    have HP := hid hput2
    have k0 := keepb bX hk0.out
    have f0 := hgf (i * 2)
    have f1 := hgf (i * 2 + 1)
    have f2 := hgf (j * 2)
    have f3 := hgf (j * 2 + 1)
    obtain ⟨g', hg', _, _, z0, z1, _⟩ := HX2.out.at_ HX.out
    injection hg' with hg'
    injection hg' with hg'
    subst hg'
    have hpg : p ≠ g := by omega
    have hqg : q ≠ g := by omega
    have hGg : G ≠ g := by omega
    have k1 := HX2.out.ord
    have kf := HX2.out.fz
    have HP1 := hid hput
    have hl1 : (H.set i y).length = n := by rw [List.length_set, HN.out]
    rw [HYC.out] at HP1
    clear hgf hgf3 hgc3 hput hput2
    go_upto_region 1 with fail
    go_cut [6] (fun s6 wx => SwD w G g c (H.set i y) p (.slice xA xn xc) (.int .i64 xi) s6 wx)
    case first =>
      have HL1 := hid hl1
      have HG1 := hid (grown_far (g := g) bX (i * 2) (i * 2 + 1) (.slice yA yn yc) (.int .i64 yi))
      have HE0 := hid (cell_far (v := .int .i64 yi) (o := i * 2 + 1) (cell_far (v := .slice yA yn yc) (o := i * 2) k0 hGg) hGg)
      have HE1 := hid (cell_far (v := .int .i64 yi) (o := i * 2 + 1) (cell_far (v := .slice yA yn yc) (o := i * 2) k1 hGg) hGg)
      have HE2 := hid (cell_far (v := .int .i64 yi) (o := i * 2 + 1) (cell_far (v := .slice yA yn yc) (o := i * 2) p0 hpg) hpg)
      have HE3 := hid (cell_far (v := .int .i64 yi) (o := i * 2 + 1) (cell_far (v := .slice yA yn yc) (o := i * 2) p1 hpg) hpg)
      have HKF := hid kf
      clear hl1 p0 p1 k1 kf
      refine wp_region_F (S := (fun V => V.cell? ⟨G, 0, none⟩ = some (.slice (some ⟨g, 0, none⟩) n c) ∧ V.cell? ⟨q, 0, none⟩ = some (.slice yA yn yc) ∧ V.cell? ⟨q, 1, none⟩ = some (.int .i64 yi))) [7] (by kernel_rfl) ⟨k0, q0, q1⟩ (fun hHeld => ?_)
      refine wpAnyF_pure (i := 0) (v := ?vg3_1_0) rfl (by kernel_rfl) (by kernel_rfl) (by kernel_rfl) (fun _ _ _ h => h) (Or.inl ⟨by rfl, ?hyg3_1_0⟩) ?restg3_1_0
      case hyg3_1_0 => (intro w hSw; clear hSw; go_simp; (all_goals with_reducible rfl))
      try simp only [Act.put, List.setIfInBounds_toArray, List.set_cons_zero, List.set_cons_succ, List.getElem_toArray, List.getElem_cons_succ, List.getElem_cons_zero]
      refine wpAnyF_pure (i := 1) (v := ?vg3_2_1) rfl (by kernel_rfl) (by kernel_rfl) (by kernel_rfl) (fun _ _ _ h => h) (Or.inl ⟨by rfl, ?hyg3_2_1⟩) ?restg3_2_1
      case hyg3_2_1 => (intro w hSw; clear hSw; go_simp; (all_goals with_reducible rfl))
      try simp only [Act.put, List.setIfInBounds_toArray, List.set_cons_zero, List.set_cons_succ, List.getElem_toArray, List.getElem_cons_succ, List.getElem_cons_zero]
      refine wpAnyF_pure (i := 2) (v := ?vg3_3_2) rfl (by kernel_rfl) (by kernel_rfl) (by kernel_rfl) (fun _ _ _ h => h) (Or.inl ⟨by rfl, ?hyg3_3_2⟩) ?restg3_3_2
      case hyg3_3_2 => (intro w hSw; clear hSw; go_simp; (all_goals with_reducible rfl))
      try simp only [Act.put, List.setIfInBounds_toArray, List.set_cons_zero, List.set_cons_succ, List.getElem_toArray, List.getElem_cons_succ, List.getElem_cons_zero]
      refine wpAnyF_pure (i := 4) (v := ?vg3_4_4) rfl (by kernel_rfl) (by kernel_rfl) (by kernel_rfl) (fun _ _ _ h => h) (Or.inl ⟨by rfl, ?hyg3_4_4⟩) ?restg3_4_4
      case hyg3_4_4 => (intro w hSw; clear hSw; go_simp; (all_goals with_reducible rfl))
      try simp only [Act.put, List.setIfInBounds_toArray, List.set_cons_zero, List.set_cons_succ, List.getElem_toArray, List.getElem_cons_succ, List.getElem_cons_zero]
      refine wpAnyF_take [6, 7] (i := 3) (v := ?vg3_5_3) rfl (by kernel_rfl) (by kernel_rfl) (by kernel_rfl) (by kernel_rfl) (fun _ _ _ h => h) (Or.inl ⟨by rfl, ?hyg3_5_3⟩) (by assumption) ?restg3_5_3
      case hyg3_5_3 => (intro w hSw; (try dsimp only at hSw); go_simp; (all_goals with_reducible rfl))
      try simp only [Act.put, List.setIfInBounds_toArray, List.set_cons_zero, List.set_cons_succ, List.getElem_toArray, List.getElem_cons_succ, List.getElem_cons_zero]
      refine wpAnyF_take [6, 7] (i := 5) (v := ?vg3_6_5) rfl (by kernel_rfl) (by kernel_rfl) (by kernel_rfl) (by kernel_rfl) (fun _ _ _ h => h) (Or.inl ⟨by rfl, ?hyg3_6_5⟩) (by assumption) ?restg3_6_5
      case hyg3_6_5 => (intro w hSw; (try dsimp only at hSw); go_simp; (all_goals with_reducible rfl))
      try simp only [Act.put, List.setIfInBounds_toArray, List.set_cons_zero, List.set_cons_succ, List.getElem_toArray, List.getElem_cons_succ, List.getElem_cons_zero]
      refine wpAnyF_pure (i := 6) (v := ?vg3_7_6) rfl (by kernel_rfl) (by kernel_rfl) (by kernel_rfl) (fun _ _ _ h => h) (Or.inl ⟨by rfl, ?hyg3_7_6⟩) ?restg3_7_6
      case hyg3_7_6 => (intro w hSw; clear hSw; go_simp; (all_goals with_reducible rfl))
      try simp only [Act.put, List.setIfInBounds_toArray, List.set_cons_zero, List.set_cons_succ, List.getElem_toArray, List.getElem_cons_succ, List.getElem_cons_zero]
      refine wpAnyF_oneD (i := 7) (by kernel_rfl) (by kernel_rfl) rfl (fun K hK => ?_)
      go_simp
      refine hK.out _ _ ?_
      clear hK K
      try simp only [Act.put, List.setIfInBounds_toArray, List.set_cons_zero, List.set_cons_succ, List.getElem_toArray, List.getElem_cons_succ, List.getElem_cons_zero]
      refine wpAnyF_done (by kernel_rfl) ?_ _
      go_wp2_with fail
      go_meet
      exact ⟨rfl, HP1.out.sameHeap rfl, by rw [HL1.out]; exact HE0.out, HE1.out, by simpa using HKF.out, HE2.out, HE3.out, ⟨HG1.out.os, HG1.out.tape, HG1.out.output, HG1.out.size, HG1.out.block⟩⟩
    case rest =>
      obtain ⟨rfl, hrow, c0, c1, cf, d0, d1, hgr⟩ := hcut
      obtain ⟨g', hg', hgB3, hgs3, hgc3, hgf3, hput2⟩ := heap_put (cells := Hd.cells) (sz := 2) (fun _ => rfl) hrow hz x (fun p hp => (by cases hp)) (by decide)
      injection hg' with hg'
      injection hg' with hg'
      subst hg'
      have z0 : wc.cell? ⟨g, j * 2, none⟩ = some (.slice z.m.A z.m.l.length z.m.c) := hgc3 0 _ rfl
      have z1 : wc.cell? ⟨g, j * 2 + 1, none⟩ = some (.int .i64 (z.i : Nat)) := hgc3 1 _ rfl
      have f2 := hgf3 (j * 2)
      have f3 := hgf3 (j * 2 + 1)
      rw [← HSW.out, HXC.out] at hput2
      have HP := hid hput2
      have HGR := hid hgr
      have HC1 := hid c1
      have HCF := hid cf
      have hlen : (H.set i y).length = n := by rw [List.length_set, HN.out]
      have HSL : Hid ((swapL H i j).length = n) := hid (by rw [swapL_len, HN.out])
      rw [hlen] at c0
      clear hgc3 hgf3 hput2 hrow hgr c1 cf hz hlen hl1
      go_wp2_with fail
      refine wp_region_F (S := (fun V => V.cell? ⟨G, 0, none⟩ = some (.slice (some ⟨g, 0, none⟩) n c) ∧ V.cell? ⟨p, 0, none⟩ = some (.slice xA xn xc) ∧ V.cell? ⟨p, 1, none⟩ = some (.int .i64 xi))) [7] (by kernel_rfl) ⟨c0, d0, d1⟩ (fun hHeld => ?_)
      refine wpAnyF_pure (i := 0) (v := ?vg4_1_0) rfl (by kernel_rfl) (by kernel_rfl) (by kernel_rfl) (fun _ _ _ h => h) (Or.inl ⟨by rfl, ?hyg4_1_0⟩) ?restg4_1_0
      case hyg4_1_0 => (intro w hSw; clear hSw; go_simp; (all_goals with_reducible rfl))
      try simp only [Act.put, List.setIfInBounds_toArray, List.set_cons_zero, List.set_cons_succ, List.getElem_toArray, List.getElem_cons_succ, List.getElem_cons_zero]
      refine wpAnyF_pure (i := 1) (v := ?vg4_2_1) rfl (by kernel_rfl) (by kernel_rfl) (by kernel_rfl) (fun _ _ _ h => h) (Or.inl ⟨by rfl, ?hyg4_2_1⟩) ?restg4_2_1
      case hyg4_2_1 => (intro w hSw; clear hSw; go_simp; (all_goals with_reducible rfl))
      try simp only [Act.put, List.setIfInBounds_toArray, List.set_cons_zero, List.set_cons_succ, List.getElem_toArray, List.getElem_cons_succ, List.getElem_cons_zero]
      refine wpAnyF_pure (i := 2) (v := ?vg4_3_2) rfl (by kernel_rfl) (by kernel_rfl) (by kernel_rfl) (fun _ _ _ h => h) (Or.inl ⟨by rfl, ?hyg4_3_2⟩) ?restg4_3_2
      case hyg4_3_2 => (intro w hSw; clear hSw; go_simp; (all_goals with_reducible rfl))
      try simp only [Act.put, List.setIfInBounds_toArray, List.set_cons_zero, List.set_cons_succ, List.getElem_toArray, List.getElem_cons_succ, List.getElem_cons_zero]
      refine wpAnyF_pure (i := 4) (v := ?vg4_4_4) rfl (by kernel_rfl) (by kernel_rfl) (by kernel_rfl) (fun _ _ _ h => h) (Or.inl ⟨by rfl, ?hyg4_4_4⟩) ?restg4_4_4
      case hyg4_4_4 => (intro w hSw; clear hSw; go_simp; (all_goals with_reducible rfl))
      try simp only [Act.put, List.setIfInBounds_toArray, List.set_cons_zero, List.set_cons_succ, List.getElem_toArray, List.getElem_cons_succ, List.getElem_cons_zero]
      refine wpAnyF_take [6, 7] (i := 3) (v := ?vg4_5_3) rfl (by kernel_rfl) (by kernel_rfl) (by kernel_rfl) (by kernel_rfl) (fun _ _ _ h => h) (Or.inl ⟨by rfl, ?hyg4_5_3⟩) (by assumption) ?restg4_5_3
      case hyg4_5_3 => (intro w hSw; (try dsimp only at hSw); go_simp; (all_goals with_reducible rfl))
      try simp only [Act.put, List.setIfInBounds_toArray, List.set_cons_zero, List.set_cons_succ, List.getElem_toArray, List.getElem_cons_succ, List.getElem_cons_zero]
      refine wpAnyF_take [6, 7] (i := 5) (v := ?vg4_6_5) rfl (by kernel_rfl) (by kernel_rfl) (by kernel_rfl) (by kernel_rfl) (fun _ _ _ h => h) (Or.inl ⟨by rfl, ?hyg4_6_5⟩) (by assumption) ?restg4_6_5
      case hyg4_6_5 => (intro w hSw; (try dsimp only at hSw); go_simp; (all_goals with_reducible rfl))
      try simp only [Act.put, List.setIfInBounds_toArray, List.set_cons_zero, List.set_cons_succ, List.getElem_toArray, List.getElem_cons_succ, List.getElem_cons_zero]
      refine wpAnyF_pure (i := 6) (v := ?vg4_7_6) rfl (by kernel_rfl) (by kernel_rfl) (by kernel_rfl) (fun _ _ _ h => h) (Or.inl ⟨by rfl, ?hyg4_7_6⟩) ?restg4_7_6
      case hyg4_7_6 => (intro w hSw; clear hSw; go_simp; (all_goals with_reducible rfl))
      try simp only [Act.put, List.setIfInBounds_toArray, List.set_cons_zero, List.set_cons_succ, List.getElem_toArray, List.getElem_cons_succ, List.getElem_cons_zero]
      refine wpAnyF_oneD (i := 7) (by kernel_rfl) (by kernel_rfl) rfl (fun K hK => ?_)
      go_simp
      refine hK.out _ _ ?_
      clear hK K
      try simp only [Act.put, List.setIfInBounds_toArray, List.set_cons_zero, List.set_cons_succ, List.getElem_toArray, List.getElem_cons_succ, List.getElem_cons_zero]
      refine wpAnyF_done (by kernel_rfl) ?_ _
      go_wp2_with fail
      go_end0
      have hg2 := HGR.out.trans (grown_far (g := g) (bD (Below.refl wc.heap.size wc)) (j * 2) (j * 2 + 1) (.slice xA xn xc) (.int .i64 xi))
      have hg3 := hf_of_grown hg2 hG hGs
      refine ⟨rfl, ⟨HH.out.le, ?_, ?_, ?_, HP.out.sameHeap rfl, fun x hx => ?_⟩, ⟨hg3.1.os, hg3.1.tape, hg3.1.output, hg3.1.size, hg3.1.block⟩, hg3.2⟩
      · rw [HSL.out]; exact cell_far (cell_far c0 hGg) hGg
      · exact cell_far (cell_far HC1.out hGg) hGg
      · simpa using HCF.out
      · have hr := HH.out.rd x ((swapL_perm H i j (by rw [HN.out]; exact hi) (by rw [HN.out]; exact hj)).mem_iff.1 hx)
        exact hr.below (Below.mono ⟨hg3.1.os, hg3.1.tape, hg3.1.output, hg3.1.size, hg3.1.block⟩ HH.out.le)
theorem el_hd : ElemTy Try.prog 138 142 2 32 := elemTy (z := .agg #[.slice none 0 0, .int .i64 0]) Try.underlying138 (by decide) (by decide) (by kernel_rfl) rfl
theorem one_hd (k : Hd) : ∀ u ∈ Hd.cells k, u.oneCell' = true := by
  intro u hu; simp [Hd.cells] at hu; rcases hu with rfl | rfl <;> rfl
theorem asHd (v : Value) (w : World) : (Instr.typeAssert (.iface 142 v) 20 142 false).run Try.prog w = .ok v w := by kernel_rfl
set_option maxRecDepth 100000 in
set_option maxHeartbeats 4000000 in
theorem hdPush_walk {w : World} {B G : Nat} {A : Option Addr} {c : Nat} {H : List Hd} (h : HO w B G A c H) (k : Hd) (hk : Rd w B k.m.A 2 k.m.l.length (k.m.l.flatMap Mail.cells)) (hn : H.length ≤ 5000) :
    Calls Try.prog 168 #[.pointer (some ⟨G, 0, none⟩), .iface 142 (.agg #[.slice k.m.A k.m.l.length k.m.c, .int .i64 (k.i : Nat)])] w fun e w' => e = .returned (.tuple #[]) ∧ ∃ A' c', HO w' B G A' c' (H ++ [k]) ∧ HF w w' G (hdBlk A c H) (hdBlk A' c' (H ++ [k])) := by
  have hta := asHd
  have h0 := h.all
  have hf := h.fz
  have hGs := h.lt
  have HROW := hid h.row
  have HH := hid h
  have HKR := hid hk
  have hSZ : (H.length + 1) * 32 ≤ 140737488355328 := by omega
  clear h hk
  go_enter Try.func168, Try.ntmps168
  go_wp2_with fail
  refine wp_region_F (S := (fun V => Below w.heap.size w V ∧ V.cell? ⟨G, 0, none⟩ = some (.slice A H.length c))) [8, 11] (by kernel_rfl) ⟨bD (Below.refl _ _), keepb (bD (Below.refl _ _)) h0⟩ (fun hHeld => ?_)
  refine wpAnyF_pure (i := 0) (v := ?vg5_1_0) rfl (by kernel_rfl) (by kernel_rfl) (by kernel_rfl) (fun _ _ _ h => h) (Or.inl ⟨by rfl, ?hyg5_1_0⟩) ?restg5_1_0
  case hyg5_1_0 => (intro w hSw; clear hSw; go_simp; (all_goals with_reducible rfl))
  try simp only [Act.put, List.setIfInBounds_toArray, List.set_cons_zero, List.set_cons_succ, List.getElem_toArray, List.getElem_cons_succ, List.getElem_cons_zero]
  refine wpAnyF_pure (i := 1) (v := ?vg5_2_1) rfl (by kernel_rfl) (by kernel_rfl) (by kernel_rfl) (fun _ _ _ h => h) (Or.inl ⟨by rfl, ?hyg5_2_1⟩) ?restg5_2_1
  case hyg5_2_1 => (intro w hSw; clear hSw; go_simp; (all_goals with_reducible rfl))
  try simp only [Act.put, List.setIfInBounds_toArray, List.set_cons_zero, List.set_cons_succ, List.getElem_toArray, List.getElem_cons_succ, List.getElem_cons_zero]
  refine wpAnyF_pure (i := 2) (v := ?vg5_3_2) rfl (by kernel_rfl) (by kernel_rfl) (by kernel_rfl) (fun _ _ _ h => h) (Or.inl ⟨by rfl, ?hyg5_3_2⟩) ?restg5_3_2
  case hyg5_3_2 => (intro w hSw; clear hSw; go_simp; (all_goals with_reducible rfl))
  try simp only [Act.put, List.setIfInBounds_toArray, List.set_cons_zero, List.set_cons_succ, List.getElem_toArray, List.getElem_cons_succ, List.getElem_cons_zero]
  refine wpAnyF_pure (i := 3) (v := ?vg5_4_3) rfl (by kernel_rfl) (by kernel_rfl) (by kernel_rfl) (fun _ _ _ h => h) (Or.inl ⟨by rfl, ?hyg5_4_3⟩) ?restg5_4_3
  case hyg5_4_3 => (intro w hSw; clear hSw; go_simp; (all_goals with_reducible rfl))
  try simp only [Act.put, List.setIfInBounds_toArray, List.set_cons_zero, List.set_cons_succ, List.getElem_toArray, List.getElem_cons_succ, List.getElem_cons_zero]
  refine wpAnyF_pure (i := 5) (v := ?vg5_5_5) rfl (by kernel_rfl) (by kernel_rfl) (by kernel_rfl) (fun _ _ _ h => h) (Or.inl ⟨by rfl, ?hyg5_5_5⟩) ?restg5_5_5
  case hyg5_5_5 => (intro w hSw; clear hSw; go_simp; (all_goals with_reducible rfl))
  try simp only [Act.put, List.setIfInBounds_toArray, List.set_cons_zero, List.set_cons_succ, List.getElem_toArray, List.getElem_cons_succ, List.getElem_cons_zero]
  refine wpAnyF_pure (i := 6) (v := ?vg5_6_6) rfl (by kernel_rfl) (by kernel_rfl) (by kernel_rfl) (fun _ _ _ h => h) (Or.inl ⟨by rfl, ?hyg5_6_6⟩) ?restg5_6_6
  case hyg5_6_6 => (intro w hSw; clear hSw; go_simp; (all_goals with_reducible rfl))
  try simp only [Act.put, List.setIfInBounds_toArray, List.set_cons_zero, List.set_cons_succ, List.getElem_toArray, List.getElem_cons_succ, List.getElem_cons_zero]
  refine wpAnyF_take [8, 9, 10, 11] (i := 4) (v := ?vg5_7_4) rfl (by kernel_rfl) (by kernel_rfl) (by kernel_rfl) (by kernel_rfl) (fun _ _ _ h => h) (Or.inl ⟨by rfl, ?hyg5_7_4⟩) (by assumption) ?restg5_7_4
  case hyg5_7_4 => (intro w hSw; (try dsimp only at hSw); go_simp; (all_goals with_reducible rfl))
  try simp only [Act.put, List.setIfInBounds_toArray, List.set_cons_zero, List.set_cons_succ, List.getElem_toArray, List.getElem_cons_succ, List.getElem_cons_zero]
  refine wpAnyF_one (i := 7) (by kernel_rfl) rfl (fun K hK => ?_)
  go_simp
  refine hK.out _ _ ⟨bA hHeld.1 _, keepb (bA (Below.refl _ _) _) hHeld.2⟩ (fun hHeld => ?_)
  clear hK K
  try simp only [Act.put, List.setIfInBounds_toArray, List.set_cons_zero, List.set_cons_succ, List.getElem_toArray, List.getElem_cons_succ, List.getElem_cons_zero]
  refine wpAnyF_oneD (i := 8) (by kernel_rfl) (by kernel_rfl) rfl (fun K hK => ?_)
  refine step_app3 rfl rfl el_hd rfl (HROW.out.below hHeld.1 (Nat.le_refl _)).1 rfl (rd_newAt _ _ _ 2 1 _ (by simp) rfl) (one_hd k) hSZ (by simp; omega) ?_
  intro A3 c3 w3 o3 b3 g3 h3
  have HO3 := hid o3
  have HB3 := hid b3
  have HG3 := hid g3
  have H3 := hid h3
  have HB2 := hid hHeld.1
  have c3x : ∃ u, w3.cell? ⟨G, 0, none⟩ = some u := ⟨_, (b3.cell (p := ⟨G, 0, none⟩) (Nat.lt_succ_self G)).trans hHeld.2⟩
  obtain ⟨u3, c3x⟩ := c3x
  have f3x : w3.frozen? ⟨G, 0, none⟩ = false := (b3.frozen (p := ⟨G, 0, none⟩) (Nat.lt_succ_self G)).trans (keepf hHeld.1 hf hGs)
  clear o3 b3 g3 h3
  refine hK.out _ _ ?_
  clear hK K
  try simp only [Act.put, List.setIfInBounds_toArray, List.set_cons_zero, List.set_cons_succ, List.getElem_toArray, List.getElem_cons_succ, List.getElem_cons_zero]
  refine wpAnyF_pure (i := 9) (v := ?vg5_10_9) rfl (by kernel_rfl) (by kernel_rfl) (by kernel_rfl) (fun _ _ _ h => h) (Or.inl ⟨by rfl, ?hyg5_10_9⟩) ?restg5_10_9
  case hyg5_10_9 => (intro w hSw; clear hSw; go_simp; (all_goals with_reducible rfl))
  try simp only [Act.put, List.setIfInBounds_toArray, List.set_cons_zero, List.set_cons_succ, List.getElem_toArray, List.getElem_cons_succ, List.getElem_cons_zero]
  refine wpAnyF_pure (i := 10) (v := ?vg5_11_10) rfl (by kernel_rfl) (by kernel_rfl) (by kernel_rfl) (fun _ _ _ h => h) (Or.inl ⟨by rfl, ?hyg5_11_10⟩) ?restg5_11_10
  case hyg5_11_10 => (intro w hSw; clear hSw; go_simp; (all_goals with_reducible rfl))
  try simp only [Act.put, List.setIfInBounds_toArray, List.set_cons_zero, List.set_cons_succ, List.getElem_toArray, List.getElem_cons_succ, List.getElem_cons_zero]
  refine wpAnyF_oneD (i := 11) (by kernel_rfl) (by kernel_rfl) rfl (fun K hK => ?_)
  go_simp
  refine hK.out _ _ ?_
  clear hK K
  try simp only [Act.put, List.setIfInBounds_toArray, List.set_cons_zero, List.set_cons_succ, List.getElem_toArray, List.getElem_cons_succ, List.getElem_cons_zero]
  refine wpAnyF_done (by kernel_rfl) ?_ _
  go_wp2_with fail
  go_end0
  have HB23 := hid (HB2.out.mono (show G + 1 ≤ w.heap.size by omega) |>.trans HB3.out)
  have HP := heap_push (HROW.out.below HB2.out (Nat.le_refl _)) k (fun p hp => (by cases hp)) HO3.out HG3.out H3.out
  have hl : (H ++ [k]).length = H.length + 1 := by simp
  have hBf : Below G w (w3.setCell ⟨G, 0, none⟩ (.slice A3 (H.length + 1) c3)) := (HB23.out.mono (Nat.le_succ _)).setCell (Nat.le_refl _) _
  refine ⟨rfl, A3, c3, ⟨HH.out.le, ?_, ?_, ?_, HP.store (Nat.lt_succ_self G) _, fun x hx => ?_⟩, hBf, fun i hi hG ha => ?_, fun i hi => ?_⟩
  · rw [hl]; exact World.cell?_setCell_same _ _ _ c3x
  · exact cell_offs ((HB23.out.cell (p := ⟨G, 1, none⟩) (Nat.lt_succ_self G)).trans HH.out.ord) (by decide)
  · simpa using f3x
  · rcases List.mem_append.1 hx with hx | hx
    · exact (HH.out.rd x hx).below (hBf.mono HH.out.le)
    · obtain rfl := List.mem_singleton.1 hx
      exact HKR.out.below (hBf.mono HH.out.le)
  · rw [heap_setCell_other w3 ⟨G, 0, none⟩ i _ (by simpa using hG)]
    refine (HG3.out.block i (Nat.lt_of_lt_of_le hi HB2.out.size) (fun e => ha e.symm)).trans (HB2.out.block i hi)
  · have e : hdBlk A3 c3 (H ++ [k]) = (Value.slice A3 (H.length + 1) c3).ownBlock := by unfold hdBlk; rw [hl]
    rw [e] at hi
    rcases H3.out with h4 | h4
    · rw [h4] at hi; exact .inl hi
    · rw [h4] at hi; injection hi with hi
      exact .inr (by rw [← hi]; exact HB2.out.size)
set_option maxRecDepth 100000 in
set_option maxHeartbeats 4000000 in
theorem hdPop_walk {w : World} {B G : Nat} {A : Option Addr} {c : Nat} {H : List Hd} {k : Hd} (h : HO w B G A c (H ++ [k])) (hn : H.length ≤ 5000) :
    Calls Try.prog 167 #[.pointer (some ⟨G, 0, none⟩)] w fun e w' => e = .returned (.iface 142 (.agg #[.slice k.m.A k.m.l.length k.m.c, .int .i64 (k.i : Nat)])) ∧ HO w' B G A c H ∧ HF w w' G (hdBlk A c (H ++ [k])) (hdBlk A c H) := by
  obtain ⟨g, hA, hG, hgs, a0, a1, hlc⟩ := h.at_ (k := H.length) (x := k) (by simp)
  subst hA
  have hl : (H ++ [k]).length = H.length + 1 := by simp
  have h0 := h.all
  have hf := h.fz
  have hGs := h.lt
  have HH := hid h
  have HL := hid hl
  rw [hl] at h0 hlc
  have hGw : G ≠ w.heap.size := by omega
  have hgw : g ≠ w.heap.size := by omega
  have hwn : IntKind.i64.wrap ((H.length : Int) + 1 - 1) = (H.length : Int) := by rw [Int.add_sub_cancel]; exact IntWalk.i64_in _ (by omega)
  clear h hl
  generalize hm : H.length = m at *
  have HM := hid hm
  clear hm
  have hwn2 : IntKind.i64.wrap (((m + 1 : Nat) : Int) - 1) = (m : Int) := by rw [← hwn]; congr 1
  have hz1 : (m : Int) < ((m + 1 : Nat) : Int) := by omega
  have hz2 : (m : Int) ≤ (c : Int) := by omega
  have hz3 : ((m + 1 : Nat) : Int) = (m : Int) + 1 := by omega
  go_enter Try.func167, Try.ntmps167
  go_wp2_with fail
  go_ret
  have hrow := HH.out.row.shrink (fun _ => rfl) m (by rw [HL.out]; omega)
  rw [show (H ++ [k]).take m = H by rw [← HM.out, List.take_left']; rfl] at hrow
  have hr2 := (hrow.store (a := ⟨G, 0, none⟩) (Nat.lt_succ_self G) (.slice (some ⟨g, 0, none⟩) m c)).alloc (.cells #[.slice k.m.A k.m.l.length k.m.c, .int .i64 (k.i : Nat)] 142)
  have hsz : G ≤ (w.setCell ⟨G, 0, none⟩ (.slice (some ⟨g, 0, none⟩) m c)).heap.size := by simp; omega
  have hBf : Below G w ((w.setCell ⟨G, 0, none⟩ (.slice (some ⟨g, 0, none⟩) m c)).alloc (.cells #[.slice k.m.A k.m.l.length k.m.c, .int .i64 (k.i : Nat)] 142)) := ((Below.refl G w).setCell (Nat.le_refl _) _).alloc hsz _
  have hBa := bA (Below.refl (w.setCell ⟨G, 0, none⟩ (.slice (some ⟨g, 0, none⟩) m c)).heap.size (w.setCell ⟨G, 0, none⟩ (.slice (some ⟨g, 0, none⟩) m c))) (.cells #[.slice k.m.A k.m.l.length k.m.c, .int .i64 (k.i : Nat)] 142)
  refine ⟨rfl, ⟨HH.out.le, ?_, ?_, ?_, hr2, fun x hx => ?_⟩, hBf, fun i hi hG ha => ?_, fun i hi => .inl hi⟩
  · rw [HM.out]; exact keepb hBa (World.cell?_setCell_same _ _ _ h0)
  · exact keepb hBa (cell_offs HH.out.ord (by decide))
  · exact keepf hBa (by simpa using hf) (by simpa using hGs)
  · exact (HH.out.rd x (List.mem_append.2 (.inl hx))).below (hBf.mono HH.out.le)
  · exact (hBa.block i (by simpa using hi)).trans (heap_setCell_other w ⟨G, 0, none⟩ i _ (by simpa using hG))
end Go.Proofs.Ytifpngjipkmdcaa

/- container/heap over merge's heads: sifting, Push, Pop. -/
namespace Go.Proofs.Ytifpngjipkmdcaa
open Go.ChangeShapes Go.WideShapes Go.ChangeAt Go.RowKit
set_option linter.unusedVariables false
set_option linter.unusedSimpArgs false
def hd0 : Hd := ⟨⟨none, 0, []⟩, 0⟩
theorem hdBlk_len {A : Option Addr} {c : Nat} {H H' : List Hd} (h : H'.length = H.length) : hdBlk A c H' = hdBlk A c H := by unfold hdBlk; rw [h]
def HdOk (H : List Hd) : Prop := ∀ x ∈ H, x.m.l ≠ [] ∧ x.i ≤ 5000
theorem HdOk.perm {H H' : List Hd} (h : HdOk H) (hp : H'.Perm H) : HdOk H' := fun x hx => h x (hp.mem_iff.1 hx)
theorem half_int {j : Nat} (h : 0 < j) : ((j : Int) - 1) / 2 = (((j - 1) / 2 : Nat) : Int) := by omega
def UpR (w : World) (B G : Nat) (A : Option Addr) (c : Nat) (H : List Hd) (n : Nat) (jv : Value) (wr : World) : Prop :=
  ∃ (j : Nat) (H' : List Hd), jv = .int .i64 (j : Nat) ∧ j < n ∧ Hid (HO wr B G A c H') ∧ Hid (H'.Perm H) ∧ Hid (H'.length = n) ∧ Hid (UpAt hdlt (nthL hd0 H') n j) ∧ Hid (HF w wr G (hdBlk A c H) (hdBlk A c H))
/-- What sifting hands back. -/
def RetH (w : World) (B G : Nat) (A : Option Addr) (c : Nat) (H : List Hd) (n : Nat) (w' : World) : Prop :=
  ∃ H' : List Hd, H'.Perm H ∧ H'.length = H.length ∧ HeapF hdlt (nthL hd0 H') n ∧ (∀ k, n ≤ k → H'[k]? = H[k]?) ∧ HO w' B G A c H' ∧ HF w w' G (hdBlk A c H) (hdBlk A c H)
set_option maxRecDepth 100000 in
set_option maxHeartbeats 4000000 in
theorem hdUp_walk {w : World} {B G : Nat} {A : Option Addr} {c : Nat} {H : List Hd} (h : HO w B G A c H) {j n : Nat} (hn : H.length = n) (hj : j < n) (hn5 : n ≤ 5001) (hok : HdOk H) (hu : UpAt hdlt (nthL hd0 H) n j) :
    Calls Try.prog 81 #[.iface 137 (.pointer (some ⟨G, 0, none⟩)), .int .i64 (j : Nat)] w fun e w' => e = .returned (.tuple #[]) ∧ RetH w B G A c H n w' := by
  have HH := hid h
  have HN := hid hn
  have HU := hid hu
  have HOK := hid hok
  have hGs := h.lt
  clear h hn hu hok
  go_enter Try.func81, Try.ntmps81
  go_wp2_with fail
  go_loopw [1, 4] (fun jv _ wr => UpR w B G A c H n jv wr) (fun jv _ _ => (intOf jv).toNat)
  case atStart => exact ⟨j, H, rfl, hj, HH, hid (List.Perm.refl _), HN, HU, hid (HF.below (Below.refl _ _) (Nat.le_of_lt hGs))⟩
  case round =>
    clear hj HH HU
    obtain ⟨j, H', rfl, hj, HH, HP, HL, HU, HFr⟩ := hrel
    have HLB : Hid (∀ L : List Hd, L.length = n → hdBlk A c L = hdBlk A c H) := hid fun L hL => hdBlk_len (by rw [hL, HN.out])
    rcases Nat.eq_zero_or_pos j with rfl | hj0
    · have HR := hid (up_stop HU.out (.inl rfl))
      go_wp2_with fail
      go_end0
      exact ⟨rfl, H', HP.out, by rw [HL.out, HN.out], HR.out, fun k hk => by rw [List.getElem?_eq_none (by rw [HL.out]; exact hk), List.getElem?_eq_none (by rw [HN.out]; exact hk)], HH.out, HFr.out⟩
    · obtain ⟨i, hi⟩ : ∃ i, i = (j - 1) / 2 := ⟨_, rfl⟩
      have hq := half_int hj0
      rw [← hi] at hq
      have hin : i < n := by omega
      have hne : ((i : Int) == (j : Int)) = false := by rw [beq_eq_false_iff_ne]; omega
      obtain ⟨x, hx⟩ : ∃ x, H'[j]? = some x := ⟨_, List.getElem?_eq_getElem (by rw [HL.out]; omega)⟩
      obtain ⟨y, hy⟩ : ∃ x, H'[i]? = some x := ⟨_, List.getElem?_eq_getElem (by rw [HL.out]; omega)⟩
      have HC := hid (hdLess_walk HH.out (by rw [HL.out]; exact hj) (by rw [HL.out]; exact hin) (HOK.out.perm HP.out) hx hy)
      have HST := hid (fun h => up_stop (lt := hdlt) HU.out (.inr h))
      have HSU := hid (fun h => up_step hdlt_ord HU.out hj0 hj h)
      rw [← hi, nthL_get hx, nthL_get hy] at HST HSU
      have HI := hid hi
      clear hx hy hi
      generalize hdlt x y = r at *
      clear HU
      cases r with
      | false =>
        have HR := hid (HST.out rfl)
        clear HST HSU
        go_wp2_with fail
        refine HC.out.mono ?_
        rintro e w1 ⟨rfl, b1⟩
        have HB1 := hid b1
        clear b1
        go_wp2_with fail
        go_end0
        have hlt := HH.out.lt
        exact ⟨rfl, H', HP.out, by rw [HL.out, HN.out], HR.out, fun k hk => by rw [List.getElem?_eq_none (by rw [HL.out]; exact hk), List.getElem?_eq_none (by rw [HN.out]; exact hk)], HH.out.below HB1.out, HFr.out.trans (HF.below HB1.out (Nat.le_of_lt hlt))⟩
      | true =>
        have HR := hid (HSU.out rfl)
        clear HST HSU
        go_wp2_with fail
        refine HC.out.mono ?_
        rintro e w1 ⟨rfl, b1⟩
        have HB1 := hid b1
        have HS1 := hid (hdSwap_walk (HH.out.below b1) (i := i) (j := j) (by rw [HL.out]; exact hin) (by rw [HL.out]; exact hj))
        clear b1 HC
        go_wp2_with fail
        refine HS1.out.mono ?_
        rintro e w2 ⟨rfl, o2, f2⟩
        have hlt := HH.out.lt
        have HO2 := hid o2
        have HF2 := hid (HFr.out.trans ((HF.below HB1.out (Nat.le_of_lt hlt)).trans (by rw [HLB.out H' HL.out] at f2; exact f2)))
        have HPS := hid ((swapL_perm H' i j (by rw [HL.out]; exact hin) (by rw [HL.out]; exact hj)).trans HP.out)
        have HLS := hid (show (swapL H' i j).length = n by rw [swapL_len, HL.out])
        have HUS := hid (show UpAt hdlt (nthL hd0 (swapL H' i j)) n i by rw [nthL_swap (by rw [HL.out]; exact hin) (by rw [HL.out]; exact hj)]; exact HR.out)
        clear o2 f2 HS1 HR
        go_wp2_with fail
        go_roundw
        case rel => exact ⟨i, swapL H' i j, rfl, hin, HO2, HPS, HLS, HUS, HF2⟩
        case measure => have := HI.out; (simp [intOf]) <;> omega
theorem swapL_far {α : Type} {l : List α} {i j k : Nat} (hi : i < l.length) (hj : j < l.length) (h1 : k ≠ i) (h2 : k ≠ j) : (swapL l i j)[k]? = l[k]? := by
  rw [swapL_eq (List.getElem?_eq_getElem hi) (List.getElem?_eq_getElem hj), List.getElem?_set_ne (fun e => h2 e.symm), List.getElem?_set_ne (fun e => h1 e.symm)]
theorem down_least {α : Type} {lt : α → α → Bool} (O : Ord2 lt) {f : Nat → α} {n i j : Nat} (h : DownAt lt f n i) (hl : ∀ k, 0 < k → k < n → (k - 1) / 2 = i → lt (f k) (f j) = false) (hj : lt (f j) (f i) = false) : HeapF lt f n :=
  down_stop h fun k h0 h1 h2 => O.trans _ _ _ hj (hl k h0 h1 h2)
theorem hdLess_at {w : World} {B G : Nat} {A : Option Addr} {c : Nat} {H : List Hd} (h : HO w B G A c H) {i j : Nat} {zi zj : Int} (hzi : zi = (i : Nat)) (hzj : zj = (j : Nat)) (hi : i < H.length) (hj : j < H.length) (hne : ∀ x ∈ H, x.m.l ≠ [] ∧ x.i ≤ 5000) {x y : Hd} (hx : H[i]? = some x) (hy : H[j]? = some y) :
    Calls Try.prog 166 #[.pointer (some ⟨G, 0, none⟩), .int .i64 zi, .int .i64 zj] w fun e w' => e = .returned (.bool (hdlt x y)) ∧ Below w.heap.size w w' := by
  subst hzi hzj; exact hdLess_walk h hi hj hne hx hy
theorem hdSwap_at {w : World} {B G : Nat} {A : Option Addr} {c : Nat} {H : List Hd} (h : HO w B G A c H) {i j : Nat} {zi zj : Int} (hzi : zi = (i : Nat)) (hzj : zj = (j : Nat)) (hi : i < H.length) (hj : j < H.length) :
    Calls Try.prog 169 #[.pointer (some ⟨G, 0, none⟩), .int .i64 zi, .int .i64 zj] w fun e w' => e = .returned (.tuple #[]) ∧ HO w' B G A c (swapL H i j) ∧ HF w w' G (hdBlk A c H) (hdBlk A c H) := by
  subst hzi hzj; exact hdSwap_walk h hi hj
def DownR (w : World) (B G : Nat) (A : Option Addr) (c : Nat) (H : List Hd) (n N : Nat) (iv : Value) (wr : World) : Prop :=
  ∃ (i : Nat) (H' : List Hd), iv = .int .i64 (i : Nat) ∧ (i < n ∨ i = 0) ∧ Hid (HO wr B G A c H') ∧ Hid (H'.Perm H) ∧ Hid (H'.length = N) ∧ Hid (DownAt hdlt (nthL hd0 H') n i) ∧ Hid (∀ k, n ≤ k → H'[k]? = H[k]?) ∧ Hid (HF w wr G (hdBlk A c H) (hdBlk A c H))
set_option maxRecDepth 100000 in
set_option maxHeartbeats 4000000 in
theorem hdDown_walk {w : World} {B G : Nat} {A : Option Addr} {c : Nat} {H : List Hd} (h : HO w B G A c H) {n N : Nat} (hN : H.length = N) (hn : n ≤ N) (hn5 : N ≤ 5001) (hok : HdOk H) (hu : DownAt hdlt (nthL hd0 H) n 0) :
    Calls Try.prog 80 #[.iface 137 (.pointer (some ⟨G, 0, none⟩)), .int .i64 0, .int .i64 (n : Nat)] w fun e w' => (∃ b, e = .returned (.bool b)) ∧ RetH w B G A c H n w' := by
  have HH := hid h
  have HN := hid hN
  have HU := hid hu
  have HOK := hid hok
  have hGs := h.lt
  clear h hN hu hok
  go_enter Try.func80, Try.ntmps80
  go_wp2_with fail
  go_loopw [7, 8, 9, 10] (fun iv _ _ _ wr => DownR w B G A c H n N iv wr) (fun iv _ _ _ _ => n - (intOf iv).toNat)
  case atStart => exact ⟨0, H, rfl, .inr rfl, HH, hid (List.Perm.refl _), HN, HU, hid (fun _ _ => rfl), hid (HF.below (Below.refl _ _) (Nat.le_of_lt hGs))⟩
  case round =>
    clear HH HU
    obtain ⟨i, H', rfl, hi, HH, HP, HL, HDN, HBY, HFr⟩ := hrel
    have HLB : Hid (∀ L : List Hd, L.length = N → hdBlk A c L = hdBlk A c H) := hid fun L hL => hdBlk_len (by rw [hL, HN.out])
    by_cases h1 : n ≤ 2 * i + 1
    · have h1z : (n : Int) ≤ 2 * (i : Int) + 1 := by omega
      have HR := hid (down_stop (lt := hdlt) HDN.out (fun k h0 hk h2 => by omega))
      go_wp2_with fail
      go_ret
      exact ⟨⟨_, rfl⟩, H', HP.out, by rw [HL.out, HN.out], HR.out, HBY.out, HH.out, HFr.out⟩
    · have h1z : ¬ (n : Int) ≤ 2 * (i : Int) + 1 := by omega
      have h1y : ¬ 2 * (i : Int) + 1 < 0 := by omega
      obtain ⟨x, hx⟩ : ∃ x, H'[i]? = some x := ⟨_, List.getElem?_eq_getElem (by rw [HL.out]; omega)⟩
      by_cases h2 : 2 * i + 2 < n
      · have h2z : 2 * (i : Int) + 1 + 1 < (n : Int) := by omega
        obtain ⟨y1, hy1⟩ : ∃ x, H'[2 * i + 1]? = some x := ⟨_, List.getElem?_eq_getElem (by rw [HL.out]; omega)⟩
        obtain ⟨y2, hy2⟩ : ∃ x, H'[2 * i + 2]? = some x := ⟨_, List.getElem?_eq_getElem (by rw [HL.out]; omega)⟩
        have HC := hid (hdLess_at HH.out (i := 2 * i + 2) (j := 2 * i + 1) (zi := 2 * (i : Int) + 1 + 1) (zj := 2 * (i : Int) + 1) (by omega) (by omega) (by rw [HL.out]; omega) (by rw [HL.out]; omega) (HOK.out.perm HP.out) hy2 hy1)
        have HB : Hid (hdlt (nthL hd0 H' (2 * i + 2)) (nthL hd0 H' (2 * i + 1)) = hdlt y2 y1) := hid (by rw [nthL_get hy2, nthL_get hy1])
        clear hy1 hy2
        generalize hdlt y2 y1 = r1 at *
        cases r1 with
        | false =>
          go_wp2_with fail
          refine HC.out.mono ?_
          rintro e w1 ⟨rfl, b1⟩
          have hlt := HH.out.lt
          have HOW := hid (HH.out.below b1)
          have HFW := hid (HFr.out.trans (HF.below b1 (Nat.le_of_lt hlt)))
          clear b1 HC hlt
          obtain ⟨y, hy⟩ : ∃ x, H'[2 * i + 1]? = some x := ⟨_, List.getElem?_eq_getElem (by rw [HL.out]; omega)⟩
          have HC2 := hid (fun (V : World) (hV : HO V B G A c H') => hdLess_at hV (i := 2 * i + 1) (j := i) (zi := 2 * (i : Int) + 1) (zj := (i : Int)) (by omega) rfl (by rw [HL.out]; omega) (by rw [HL.out]; omega) (HOK.out.perm HP.out) hy hx)
          have HLE := hid (show ∀ k, 0 < k → k < n → (k - 1) / 2 = i → hdlt (nthL hd0 H' k) (nthL hd0 H' (2 * i + 1)) = false from (by intro k h0 hk h2; by_cases e : k = 2 * i + 1; (subst e; exact hdlt_irr _); obtain rfl : k = 2 * i + 2 := (by omega); exact HB.out))
          have HST := hid (fun h => down_least hdlt_ord HDN.out HLE.out h)
          have HSU := hid (fun h => down_step hdlt_ord HDN.out (j := 2 * i + 1) (by omega) (by omega) (by omega) HLE.out h)
          rw [nthL_get hx, nthL_get hy] at HST HSU
          clear hx hy HLE HDN
          generalize hdlt y x = r at *
          cases r with
          | false =>
            have HR := hid (HST.out rfl)
            clear HST HSU
            go_wp2_with fail
            refine (HC2.out _ HOW.out).mono ?_
            rintro e w2 ⟨rfl, b2⟩
            have HB2 := hid b2
            clear b2
            go_wp2_with fail
            go_ret
            have hlt := HOW.out.lt
            exact ⟨⟨_, rfl⟩, H', HP.out, by rw [HL.out, HN.out], HR.out, HBY.out, HOW.out.below HB2.out, HFW.out.trans (HF.below HB2.out (Nat.le_of_lt hlt))⟩
          | true =>
            have HR := hid (HSU.out rfl)
            clear HST HSU
            go_wp2_with fail
            refine (HC2.out _ HOW.out).mono ?_
            rintro e w2 ⟨rfl, b2⟩
            have HB2 := hid b2
            have HS1 := hid (hdSwap_at (HOW.out.below b2) (i := i) (j := 2 * i + 1) (zi := (i : Int)) (zj := 2 * (i : Int) + 1) rfl (by omega) (by rw [HL.out]; omega) (by rw [HL.out]; omega))
            clear b2 HC2
            go_wp2_with fail
            refine HS1.out.mono ?_
            rintro e w3 ⟨rfl, o3, f3⟩
            have hlt := HOW.out.lt
            have HO3 := hid o3
            have HF3 := hid (HFW.out.trans ((HF.below HB2.out (Nat.le_of_lt hlt)).trans (by rw [HLB.out H' HL.out] at f3; exact f3)))
            have HPS := hid ((swapL_perm H' i (2 * i + 1) (by rw [HL.out]; omega) (by rw [HL.out]; omega)).trans HP.out)
            have HLS := hid (show (swapL H' i (2 * i + 1)).length = N by rw [swapL_len, HL.out])
            have HUS := hid (show DownAt hdlt (nthL hd0 (swapL H' i (2 * i + 1))) n (2 * i + 1) by rw [nthL_swap (by rw [HL.out]; omega) (by rw [HL.out]; omega)]; exact HR.out)
            have HBS := hid (show ∀ k, n ≤ k → (swapL H' i (2 * i + 1))[k]? = H[k]? from fun k hk => (swapL_far (by rw [HL.out]; omega) (by rw [HL.out]; omega) (by omega) (by omega)).trans (HBY.out k hk))
            clear o3 f3 HS1 HR
            go_wp2_with fail
            go_roundw
            case rel => exact ⟨2 * i + 1, swapL H' i (2 * i + 1), by first | rfl | (congr 1; omega), .inl (by omega), HO3, HPS, HLS, HUS, HBS, HF3⟩
            case measure => (simp [intOf]) <;> omega
        | true =>
          go_wp2_with fail
          refine HC.out.mono ?_
          rintro e w1 ⟨rfl, b1⟩
          have hlt := HH.out.lt
          have HOW := hid (HH.out.below b1)
          have HFW := hid (HFr.out.trans (HF.below b1 (Nat.le_of_lt hlt)))
          clear b1 HC hlt
          obtain ⟨y, hy⟩ : ∃ x, H'[2 * i + 2]? = some x := ⟨_, List.getElem?_eq_getElem (by rw [HL.out]; omega)⟩
          have HC2 := hid (fun (V : World) (hV : HO V B G A c H') => hdLess_at hV (i := 2 * i + 2) (j := i) (zi := 2 * (i : Int) + 1 + 1) (zj := (i : Int)) (by omega) rfl (by rw [HL.out]; omega) (by rw [HL.out]; omega) (HOK.out.perm HP.out) hy hx)
          have HLE := hid (show ∀ k, 0 < k → k < n → (k - 1) / 2 = i → hdlt (nthL hd0 H' k) (nthL hd0 H' (2 * i + 2)) = false from (by intro k h0 hk h2; by_cases e : k = 2 * i + 2; (subst e; exact hdlt_irr _); obtain rfl : k = 2 * i + 1 := (by omega); exact hdlt_ord.asym _ _ HB.out))
          have HST := hid (fun h => down_least hdlt_ord HDN.out HLE.out h)
          have HSU := hid (fun h => down_step hdlt_ord HDN.out (j := 2 * i + 2) (by omega) (by omega) (by omega) HLE.out h)
          rw [nthL_get hx, nthL_get hy] at HST HSU
          clear hx hy HLE HDN
          generalize hdlt y x = r at *
          cases r with
          | false =>
            have HR := hid (HST.out rfl)
            clear HST HSU
            go_wp2_with fail
            refine (HC2.out _ HOW.out).mono ?_
            rintro e w2 ⟨rfl, b2⟩
            have HB2 := hid b2
            clear b2
            go_wp2_with fail
            go_ret
            have hlt := HOW.out.lt
            exact ⟨⟨_, rfl⟩, H', HP.out, by rw [HL.out, HN.out], HR.out, HBY.out, HOW.out.below HB2.out, HFW.out.trans (HF.below HB2.out (Nat.le_of_lt hlt))⟩
          | true =>
            have HR := hid (HSU.out rfl)
            clear HST HSU
            go_wp2_with fail
            refine (HC2.out _ HOW.out).mono ?_
            rintro e w2 ⟨rfl, b2⟩
            have HB2 := hid b2
            have HS1 := hid (hdSwap_at (HOW.out.below b2) (i := i) (j := 2 * i + 2) (zi := (i : Int)) (zj := 2 * (i : Int) + 1 + 1) rfl (by omega) (by rw [HL.out]; omega) (by rw [HL.out]; omega))
            clear b2 HC2
            go_wp2_with fail
            refine HS1.out.mono ?_
            rintro e w3 ⟨rfl, o3, f3⟩
            have hlt := HOW.out.lt
            have HO3 := hid o3
            have HF3 := hid (HFW.out.trans ((HF.below HB2.out (Nat.le_of_lt hlt)).trans (by rw [HLB.out H' HL.out] at f3; exact f3)))
            have HPS := hid ((swapL_perm H' i (2 * i + 2) (by rw [HL.out]; omega) (by rw [HL.out]; omega)).trans HP.out)
            have HLS := hid (show (swapL H' i (2 * i + 2)).length = N by rw [swapL_len, HL.out])
            have HUS := hid (show DownAt hdlt (nthL hd0 (swapL H' i (2 * i + 2))) n (2 * i + 2) by rw [nthL_swap (by rw [HL.out]; omega) (by rw [HL.out]; omega)]; exact HR.out)
            have HBS := hid (show ∀ k, n ≤ k → (swapL H' i (2 * i + 2))[k]? = H[k]? from fun k hk => (swapL_far (by rw [HL.out]; omega) (by rw [HL.out]; omega) (by omega) (by omega)).trans (HBY.out k hk))
            clear o3 f3 HS1 HR
            go_wp2_with fail
            go_roundw
            case rel => exact ⟨2 * i + 2, swapL H' i (2 * i + 2), by first | rfl | (congr 1; omega), .inl (by omega), HO3, HPS, HLS, HUS, HBS, HF3⟩
            case measure => (simp [intOf]) <;> omega
      · have h2z : ¬ 2 * (i : Int) + 1 + 1 < (n : Int) := by omega
        have HOW := HH
        have HFW := HFr
        obtain ⟨y, hy⟩ : ∃ x, H'[2 * i + 1]? = some x := ⟨_, List.getElem?_eq_getElem (by rw [HL.out]; omega)⟩
        have HC2 := hid (fun (V : World) (hV : HO V B G A c H') => hdLess_at hV (i := 2 * i + 1) (j := i) (zi := 2 * (i : Int) + 1) (zj := (i : Int)) (by omega) rfl (by rw [HL.out]; omega) (by rw [HL.out]; omega) (HOK.out.perm HP.out) hy hx)
        have HLE := hid (show ∀ k, 0 < k → k < n → (k - 1) / 2 = i → hdlt (nthL hd0 H' k) (nthL hd0 H' (2 * i + 1)) = false from (by intro k h0 hk h2; obtain rfl : k = 2 * i + 1 := (by omega); exact hdlt_irr _))
        have HST := hid (fun h => down_least hdlt_ord HDN.out HLE.out h)
        have HSU := hid (fun h => down_step hdlt_ord HDN.out (j := 2 * i + 1) (by omega) (by omega) (by omega) HLE.out h)
        rw [nthL_get hx, nthL_get hy] at HST HSU
        clear hx hy HLE HDN
        generalize hdlt y x = r at *
        cases r with
        | false =>
          have HR := hid (HST.out rfl)
          clear HST HSU
          go_wp2_with fail
          refine (HC2.out _ HOW.out).mono ?_
          rintro e w2 ⟨rfl, b2⟩
          have HB2 := hid b2
          clear b2
          go_wp2_with fail
          go_ret
          have hlt := HOW.out.lt
          exact ⟨⟨_, rfl⟩, H', HP.out, by rw [HL.out, HN.out], HR.out, HBY.out, HOW.out.below HB2.out, HFW.out.trans (HF.below HB2.out (Nat.le_of_lt hlt))⟩
        | true =>
          have HR := hid (HSU.out rfl)
          clear HST HSU
          go_wp2_with fail
          refine (HC2.out _ HOW.out).mono ?_
          rintro e w2 ⟨rfl, b2⟩
          have HB2 := hid b2
          have HS1 := hid (hdSwap_at (HOW.out.below b2) (i := i) (j := 2 * i + 1) (zi := (i : Int)) (zj := 2 * (i : Int) + 1) rfl (by omega) (by rw [HL.out]; omega) (by rw [HL.out]; omega))
          clear b2 HC2
          go_wp2_with fail
          refine HS1.out.mono ?_
          rintro e w3 ⟨rfl, o3, f3⟩
          have hlt := HOW.out.lt
          have HO3 := hid o3
          have HF3 := hid (HFW.out.trans ((HF.below HB2.out (Nat.le_of_lt hlt)).trans (by rw [HLB.out H' HL.out] at f3; exact f3)))
          have HPS := hid ((swapL_perm H' i (2 * i + 1) (by rw [HL.out]; omega) (by rw [HL.out]; omega)).trans HP.out)
          have HLS := hid (show (swapL H' i (2 * i + 1)).length = N by rw [swapL_len, HL.out])
          have HUS := hid (show DownAt hdlt (nthL hd0 (swapL H' i (2 * i + 1))) n (2 * i + 1) by rw [nthL_swap (by rw [HL.out]; omega) (by rw [HL.out]; omega)]; exact HR.out)
          have HBS := hid (show ∀ k, n ≤ k → (swapL H' i (2 * i + 1))[k]? = H[k]? from fun k hk => (swapL_far (by rw [HL.out]; omega) (by rw [HL.out]; omega) (by omega) (by omega)).trans (HBY.out k hk))
          clear o3 f3 HS1 HR
          go_wp2_with fail
          go_roundw
          case rel => exact ⟨2 * i + 1, swapL H' i (2 * i + 1), by first | rfl | (congr 1; omega), .inl (by omega), HO3, HPS, HLS, HUS, HBS, HF3⟩
          case measure => (simp [intOf]) <;> omega
end Go.Proofs.Ytifpngjipkmdcaa

/- container/heap over merge's heads: Push, Pop. -/
namespace Go.Proofs.Ytifpngjipkmdcaa
open Go.ChangeShapes Go.WideShapes Go.ChangeAt Go.RowKit
set_option linter.unusedVariables false
set_option linter.unusedSimpArgs false
theorem heapF_congr {α : Type} {lt : α → α → Bool} {f g : Nat → α} {n : Nat} (h : HeapF lt f n) (e : ∀ k, k < n → g k = f k) : HeapF lt g n := fun k h0 hk => by
  rw [e k hk, e _ (by omega)]; exact h k h0 hk
set_option maxRecDepth 100000 in
set_option maxHeartbeats 4000000 in
theorem hpPush_walk {w : World} {B G : Nat} {A : Option Addr} {c : Nat} {H : List Hd} (h : HO w B G A c H) (k : Hd) (hk : Rd w B k.m.A 2 k.m.l.length (k.m.l.flatMap Mail.cells)) (hn : H.length ≤ 5000) (hok : HdOk (H ++ [k])) (hh : HeapF hdlt (nthL hd0 H) H.length) :
    Calls Try.prog 38 #[.iface 137 (.pointer (some ⟨G, 0, none⟩)), .iface 142 (.agg #[.slice k.m.A k.m.l.length k.m.c, .int .i64 (k.i : Nat)])] w fun e w' => e = .returned (.tuple #[]) ∧ ∃ A' c' H', H'.Perm (H ++ [k]) ∧ HeapF hdlt (nthL hd0 H') H'.length ∧ HO w' B G A' c' H' ∧ HF w w' G (hdBlk A c H) (hdBlk A' c' H') := by
  have HP := hid (hdPush_walk h k hk hn)
  have HHH := hid hh
  have HOK := hid hok
  clear hh hok h hk
  go_enter Try.func38, Try.ntmps38
  go_wp2_with fail
  refine HP.out.mono ?_
  rintro e w1 ⟨rfl, A1, c1, o1, f1⟩
  have hl : (H ++ [k]).length = H.length + 1 := by simp
  have HL := hid hl
  have HO1 := hid o1
  have HF1 := hid f1
  have HLEN := hid (hdLen_walk o1)
  have hwn : IntKind.i64.wrap (((H ++ [k]).length : Int) - 1) = (H.length : Int) := by rw [hl]; rw [IntWalk.i64_in _ (by omega)]; omega
  have HU := hid (hdUp_walk o1 (j := H.length) (n := H.length + 1) hl (by omega) (by omega) HOK.out (by
    have h1 := up_start HHH.out
    refine ⟨fun i h0 hi hne => ?_, fun h0 i h1 h2 h3 => by omega⟩
    have := h1.1 i h0 hi hne
    have e1 : nthL hd0 (H ++ [k]) i = nthL hd0 H i := nthL_append (by omega)
    have e2 : nthL hd0 (H ++ [k]) ((i - 1) / 2) = nthL hd0 H ((i - 1) / 2) := nthL_append (by omega)
    rw [e1, e2]; exact this))
  clear o1 f1 hl
  go_wp2_with fail
  refine HLEN.out.mono ?_
  rintro e w2 ⟨rfl, rfl⟩
  have hz : ((H ++ [k]).length : Int) - 1 = (H.length : Int) := by rw [HL.out]; omega
  go_wp2_with fail
  refine HU.out.mono ?_
  rintro e w3 ⟨rfl, H', hp, hl', hheap, _, ho, hf⟩
  go_wp2_with fail
  go_end0
  refine ⟨rfl, A1, c1, H', hp, by rw [hl', HL.out]; exact hheap, ho, ?_⟩
  rw [hdBlk_len (H := H ++ [k]) hl']
  exact HF1.out.trans hf
set_option maxRecDepth 100000 in
set_option maxHeartbeats 4000000 in
theorem hpPop_walk {w : World} {B G : Nat} {A : Option Addr} {c : Nat} {H : List Hd} (h : HO w B G A c H) {n : Nat} (hn : H.length = n + 1) (hn5 : n ≤ 5000) (hok : HdOk H) (hh : HeapF hdlt (nthL hd0 H) H.length) :
    Calls Try.prog 37 #[.iface 137 (.pointer (some ⟨G, 0, none⟩))] w fun e w' => ∃ (k : Hd) (H0 : List Hd), e = .returned (.iface 142 (.agg #[.slice k.m.A k.m.l.length k.m.c, .int .i64 (k.i : Nat)])) ∧ H0.length = n ∧ (k :: H0).Perm H ∧ (∀ y ∈ H0, hdlt y k = false) ∧ HeapF hdlt (nthL hd0 H0) n ∧ HO w' B G A c H0 ∧ HF w w' G (hdBlk A c H) (hdBlk A c H0) := by
  have HLEN := hid (hdLen_walk h)
  rw [hn] at HLEN
  have HS := hid (hdSwap_at h (i := 0) (j := n) (zi := 0) (zj := (n : Int)) rfl rfl (by omega) (by omega))
  have HL := hid hn
  have HHH := hid hh
  have HOK := hid hok
  obtain ⟨k, hk⟩ : ∃ x, H[0]? = some x := ⟨_, List.getElem?_eq_getElem (by omega)⟩
  obtain ⟨z, hz⟩ : ∃ x, H[n]? = some x := ⟨_, List.getElem?_eq_getElem (by omega)⟩
  have HN1 : Hid ((swapL H 0 n)[n]? = some k) := hid (by
    rw [swapL_eq hk hz, List.getElem?_set_self (by rw [List.length_set]; omega)])
  have HPM := hid (swapL_perm H 0 n (by omega) (by omega))
  have HLS := hid (show (swapL H 0 n).length = n + 1 by rw [swapL_len, hn])
  have HD := hid (show DownAt hdlt (nthL hd0 (swapL H 0 n)) n 0 by
    rw [nthL_swap (by omega) (by omega)]
    refine down_start fun i h0 hi hne => ?_
    rw [swapF_ne (by omega) (by omega), swapF_ne hne (by omega)]
    exact hh i h0 (by omega))
  have HLST := hid (show ∀ y ∈ H, hdlt y k = false from fun y hy => by
    obtain ⟨i, hi⟩ := List.mem_iff_getElem?.1 hy
    have := heap_least hdlt_ord hh hdlt_irr i (List.getElem?_eq_some_iff.1 hi).1
    rw [nthL_get hi, nthL_get hk] at this
    exact this)
  clear h hn hh hok hk hz
  have hwz : ((n + 1 : Nat) : Int) - 1 = (n : Int) := by omega
  go_enter Try.func37, Try.ntmps37
  go_wp2_with fail
  refine HLEN.out.mono ?_
  rintro e w1 ⟨rfl, rfl⟩
  go_wp2_with fail
  refine HS.out.mono ?_
  rintro e w2 ⟨rfl, o2, f2⟩
  have HF2 := hid f2
  have HDW := hid (hdDown_walk o2 (n := n) HLS.out (by omega) (by omega) (HOK.out.perm HPM.out) HD.out)
  clear o2 f2
  go_wp2_with fail
  refine HDW.out.mono ?_
  rintro e w3 ⟨⟨b, rfl⟩, H', hp, hl', hheap, hfar, ho, hf⟩
  have hl2 : H'.length = n + 1 := by rw [hl', HLS.out]
  have hkn := (hfar n (Nat.le_refl _)).trans HN1.out
  have hE : H' = H'.take n ++ [k] := by
    have h1 : H'.take (n + 1) = H'.take n ++ [k] := by rw [List.take_add_one, hkn]; rfl
    rw [List.take_of_length_le (by omega)] at h1
    exact h1
  obtain ⟨H0, hH0⟩ : ∃ x, x = H'.take n := ⟨_, rfl⟩
  have hlH0 : H0.length = n := by rw [hH0, List.length_take]; omega
  have hheap0 : HeapF hdlt (nthL hd0 H0) n := heapF_congr hheap fun i hi => by rw [hH0]; exact nthL_take hi
  rw [← hH0] at hE
  clear hH0
  subst hE
  have HPP := hid ((List.perm_append_comm (l₁ := [k]) (l₂ := H0)).trans (hp.trans HPM.out))
  have HO0 := hid (hdPop_walk ho (by omega))
  have HE0 := hid hheap0
  have HL0 := hid hlH0
  have HF3 := hid (HF2.out.trans (by rw [hdBlk_len (A := A) (c := c) (H := H) (H' := swapL H 0 n) swapL_len] at hf; exact hf))
  have HBL : Hid (hdBlk A c (H0 ++ [k]) = hdBlk A c H) := hid (hdBlk_len (by rw [hl2, HL.out]))
  clear hp hl' hheap hfar ho hf hl2 hkn hlH0 hheap0
  go_wp2_with fail
  refine HO0.out.mono ?_
  rintro e w4 ⟨rfl, o4, f4⟩
  go_wp2_with fail
  go_ret
  rw [HBL.out] at f4
  exact ⟨k, H0, rfl, HL0.out, HPP.out, fun y hy => HLST.out y (HPP.out.mem_iff.1 (List.mem_cons_of_mem _ hy)), HE0.out, o4, HF3.out.trans f4⟩
end Go.Proofs.Ytifpngjipkmdcaa

