/- SortP, MOrd, MSrt, MSrtR: joined. -/
import Derived.Test.YteefemiieidpaaaLink
import Derived.Test.YteefemiieidpaaaMem
import Derived.Deep.RegionHeld3
/- Lists in order: there is one alone; one by one put where it belongs. Plain. -/
namespace Go.Proofs.Yteefemiieidpaaa
set_option linter.unusedVariables false
set_option linter.unusedSimpArgs false
/-- A strict order that tells any two apart. -/
structure Strict {α : Type} (lt : α → α → Bool) : Prop where
  irrefl : ∀ a, lt a a = false
  trans : ∀ a b c, lt a b = true → lt b c = true → lt a c = true
  total : ∀ a b, lt a b = false → lt b a = false → a = b
def Srt {α : Type} (lt : α → α → Bool) (l : List α) : Prop := l.Pairwise fun a b => lt b a = false
section
variable {α : Type} {lt : α → α → Bool}
theorem Strict.asymm (h : Strict lt) {a b : α} (hab : lt a b = true) : lt b a = false := by
  cases hb : lt b a
  · rfl
  · have := h.trans a b a hab hb
    rw [h.irrefl] at this
    cases this
theorem Strict.le_trans (h : Strict lt) {a b c : α} (h1 : lt b a = false) (h2 : lt c b = false) : lt c a = false := by
  cases hc : lt c a
  · rfl
  · cases hab : lt a b
    · have := h.total a b hab h1
      subst this
      rw [hc] at h2; cases h2
    · have := h.trans c a b hc hab
      rw [this] at h2; cases h2
/-- A list in order is told by what it holds. -/
theorem srt_uniq (h : Strict lt) {l l' : List α} (hp : l.Perm l') (hs : Srt lt l) (hs' : Srt lt l') : l = l' :=
  List.Perm.eq_of_pairwise (fun a b _ _ h1 h2 => h.total a b h2 h1) hs hs' hp
/-- The list in order. -/
noncomputable def srtOf (lt : α → α → Bool) (l : List α) : List α := l.mergeSort fun a b => !lt b a
theorem srtOf_perm (l : List α) : (srtOf lt l).Perm l := List.mergeSort_perm _ _
theorem srtOf_srt (h : Strict lt) (l : List α) : Srt lt (srtOf lt l) := by
  have := List.pairwise_mergeSort (le := fun a b => !lt b a) (fun a b c h1 h2 => by
    simp only [Bool.not_eq_true'] at h1 h2 ⊢
    exact h.le_trans h1 h2) (fun a b => by
    cases hab : lt b a
    · simp
    · simp [h.asymm hab]) l
  unfold srtOf Srt
  exact this.imp (fun h => by simpa using h)
theorem srtOf_eq (h : Strict lt) {l l' : List α} (hp : l'.Perm l) (hs : Srt lt l') : srtOf lt l = l' :=
  srt_uniq h ((srtOf_perm l).trans hp.symm) (srtOf_srt h l) hs
theorem srtOf_congr (h : Strict lt) {l l' : List α} (hp : l'.Perm l) : srtOf lt l = srtOf lt l' :=
  srt_uniq h ((srtOf_perm l).trans (hp.symm.trans (srtOf_perm l').symm)) (srtOf_srt h l) (srtOf_srt h l')
theorem srtOf_len (l : List α) : (srtOf lt l).length = l.length := (srtOf_perm l).length_eq
/-- x on its way down: behind it all that is greater; without it the list is in order. -/
def Sink (lt : α → α → Bool) (l : List α) (p : List α) (x : α) (q : List α) : Prop := (p ++ x :: q).Perm l ∧ Srt lt (p ++ q) ∧ ∀ y ∈ q, lt x y = true
theorem Sink.begin {p l : List α} {x : α} (hp : p.Perm l) (hs : Srt lt p) : Sink lt (l ++ [x]) p x [] :=
  ⟨hp.append_right [x], by simpa using hs, fun y hy => by cases hy⟩
theorem Sink.down {p q l : List α} {x y : α} (h : Sink lt l (p ++ [y]) x q) (hxy : lt x y = true) : Sink lt l p x (y :: q) := by
  obtain ⟨h1, h2, h3⟩ := h
  refine ⟨List.Perm.trans ?_ h1, by simpa using h2, fun z hz => ?_⟩
  · rw [List.append_assoc]
    exact (List.Perm.swap y x q).append_left p
  · rcases List.mem_cons.1 hz with rfl | hz
    · exact hxy
    · exact h3 z hz
theorem Sink.stop (ho : Strict lt) {p q l : List α} {x : α} (h : Sink lt l p x q) (hp : ∀ p' y, p = p' ++ [y] → lt x y = false) : (p ++ x :: q).Perm l ∧ Srt lt (p ++ x :: q) := by
  obtain ⟨h1, h2, h3⟩ := h
  refine ⟨h1, ?_⟩
  unfold Srt at h2 ⊢
  rw [List.pairwise_append] at h2 ⊢
  obtain ⟨s1, s2, s3⟩ := h2
  refine ⟨s1, List.pairwise_cons.2 ⟨fun y hy => ho.asymm (h3 y hy), s2⟩, fun a ha b hb => ?_⟩
  rcases List.mem_cons.1 hb with rfl | hb
  · rcases List.eq_nil_or_concat p with h0 | ⟨p', y, h0⟩
    · subst h0; cases ha
    · rw [List.concat_eq_append] at h0
      have hy := hp p' y h0
      subst h0
      rcases List.mem_append.1 ha with ha | ha
      · have hay : lt y a = false := (List.pairwise_append.1 s1).2.2 a ha y (List.mem_singleton.2 rfl)
        exact ho.le_trans hay hy
      · obtain rfl := List.mem_singleton.1 ha
        exact hy
  · exact s3 a ha b hb
end
end Go.Proofs.Yteefemiieidpaaa

/- The order of mail: merge.order, the document's MailAhead. -/
namespace Go.Proofs.Yteefemiieidpaaa
open Go.ChangeShapes Go.WideShapes Go.ChangeAt Go.RowKit
set_option linter.unusedVariables false
set_option linter.unusedSimpArgs false
def cmp3 (a b : Int) : Int := if a < b then -1 else if b < a then 1 else 0
def orV (x y : Int) : Int := if x ≠ 0 then x else y
def ordV (a b : Mail) : Int := orV (cmp3 a.to b.to) (cmp3 a.val b.val)
/-- Is a ahead of b? -/
def mlt (a b : Mail) : Bool := if a.to ≠ b.to then decide (a.to < b.to) else decide (a.val < b.val)
theorem ordV_neg (a b : Mail) : decide (ordV a b < 0) = mlt a b := by
  unfold ordV mlt orV cmp3
  by_cases h1 : a.to < b.to
  · have : a.to ≠ b.to := by omega
    simp [h1, this]
  · by_cases h2 : b.to < a.to
    · have h3 : a.to ≠ b.to := by omega
      simp [h1, h2, h3]
    · have h3 : a.to = b.to := by omega
      simp only [h3]
      by_cases h4 : a.val < b.val
      · simp [h4]
      · by_cases h5 : b.val < a.val <;> simp [h4, h5]
theorem mlt_strict : Strict mlt where
  irrefl a := by simp [mlt]
  trans a b c h1 h2 := by
    unfold mlt at *
    split at h1 <;> split at h2 <;> simp only [decide_eq_true_eq] at h1 h2 <;> split <;> simp only [decide_eq_true_eq] <;> omega
  total a b h1 h2 := by
    unfold mlt at *
    obtain ⟨x, y⟩ := a
    obtain ⟨u, v⟩ := b
    simp only at h1 h2
    split at h1 <;> split at h2 <;> simp only [decide_eq_false_iff_not] at h1 h2
    · omega
    · omega
    · omega
    · have e1 : x = u := by omega
      have e2 : y = v := by omega
      rw [e1, e2]
theorem isNaN_walk (x : Int) (w : World) : Calls Try.prog 70 #[.int .i64 x] w fun e w' => e = .returned (.bool false) ∧ w = w' := by
  go_enter Try.func70, Try.ntmps70
  go_wp2
  go_ret
  exact ⟨by simp, rfl⟩
abbrev rowsOf {α : Type} (l : List (ML α)) : List (List α) := l.map ML.l
theorem rows_snoc {α : Type} {m acc : List (ML α)} {k : Nat} {x : ML α} (A : Option Addr) (c : Nat) (h : rowsOf acc = rowsOf (m.take k)) (hx : m[k]? = some x) : rowsOf (acc ++ [⟨A, c, x.l⟩]) = rowsOf (m.take (k + 1)) := by
  rw [take_nextV hx]; unfold rowsOf at *; rw [List.map_append, List.map_append, h]; rfl
theorem one_rowV {α : Type} (x : ML α) : ∀ u ∈ x.cells, u.oneCell' = true := by
  intro u hu; simp [ML.cells] at hu; subst hu; rfl
theorem rows_at {α : Type} {l m : List (ML α)} (h : rowsOf m = rowsOf l) {k : Nat} {x : ML α} (hx : l[k]? = some x) : ∃ y, m[k]? = some y ∧ y.l = x.l := by
  have h2 : (rowsOf m)[k]? = (rowsOf l)[k]? := by rw [h]
  unfold rowsOf at h2
  rw [List.getElem?_map, List.getElem?_map, hx] at h2
  cases hm : m[k]? with
  | none => rw [hm] at h2; cases h2
  | some y => rw [hm] at h2; injection h2 with h2; exact ⟨y, rfl, h2⟩
theorem rows_len {α : Type} {l m : List (ML α)} (h : rowsOf m = rowsOf l) : m.length = l.length := by
  have := congrArg List.length h; simpa [rowsOf] using this
end Go.Proofs.Yteefemiieidpaaa

/- Is mail in order? slices.IsSortedFunc, the document's IsOrdered. -/
namespace Go.Proofs.Yteefemiieidpaaa
open Go.ChangeShapes Go.WideShapes Go.ChangeAt Go.RowKit
set_option linter.unusedVariables false
set_option linter.unusedSimpArgs false
/-- The pair at i and i + 1 is in order. -/
def adj (l : List Mail) (i : Nat) : Prop := ∀ x y, l[i]? = some x → l[i + 1]? = some y → mlt y x = false
section
open Classical
noncomputable def ordB (l : List Mail) : Bool := decide (∀ i, adj l i)
end
theorem ordB_yes {l : List Mail} (h : ∀ i, adj l i) : ordB l = true := by unfold ordB; exact @decide_eq_true _ (_) h
theorem ordB_no {l : List Mail} {i : Nat} {x y : Mail} (hx : l[i]? = some x) (hy : l[i + 1]? = some y) (h : mlt y x = true) : ordB l = false := by
  unfold ordB; rw [decide_eq_false_iff_not]; intro h2; have := h2 i x y hx hy; rw [h] at this; cases this
theorem adj_out {l : List Mail} {i : Nat} (h : l.length ≤ i + 1) : adj l i := fun x y hx hy => by
  have := (List.getElem?_eq_some_iff.1 hy).1; omega
theorem ordB_srt {l : List Mail} (h : ordB l = true) : Srt mlt l := by
  unfold ordB at h
  have h2 : ∀ i, adj l i := @of_decide_eq_true _ (_) h
  unfold Srt
  rw [List.pairwise_iff_getElem]
  intro i j hi hj hij
  obtain ⟨d, rfl⟩ : ∃ d, j = i + 1 + d := ⟨j - (i + 1), by omega⟩
  clear hij
  induction d with
  | zero => exact h2 i _ _ (List.getElem?_eq_getElem hi) (List.getElem?_eq_getElem hj)
  | succ d ih =>
    have h3 := ih (by omega)
    have h4 := h2 (i + 1 + d) _ _ (List.getElem?_eq_getElem (by omega)) (List.getElem?_eq_getElem (by omega))
    exact mlt_strict.le_trans h3 h4
/-- The cells of the mail 'k'. -/
theorem mcells {w : World} {B n k : Nat} {A : Option Addr} {l : List Mail} {x : Mail} (h : Rd w B A 2 n (l.flatMap Mail.cells)) (hl : l.length = n) (hk : l[k]? = some x) :
    ∃ b off, A = some ⟨b, off, none⟩ ∧ b < B ∧ w.cell? ⟨b, off + k * 2, none⟩ = some (.int .i64 x.to) ∧ w.cell? ⟨b, off + k * 2 + 1, none⟩ = some (.int .i64 x.val) := by
  have hkl := (List.getElem?_eq_some_iff.1 hk).1
  obtain ⟨b, off, rfl, hb, hc⟩ := h.2 (show 0 < n by omega)
  have hg := (flatMap_get (l := l) (cells := Mail.cells) (sz := 2) (fun _ _ => rfl)).2 k x
  have c0 := hc _ _ (hg 0 _ hk rfl)
  have c1 := hc _ _ (hg 1 _ hk rfl)
  simp only [Nat.add_zero, ← Nat.add_assoc] at c0 c1
  exact ⟨b, off, rfl, hb, c0, c1⟩
end Go.Proofs.Yteefemiieidpaaa

/- The document's IsOrdered. -/
namespace Go.Proofs.Yteefemiieidpaaa
open Go.ChangeShapes Go.WideShapes Go.ChangeAt Go.RowKit
set_option linter.unusedVariables false
set_option linter.unusedSimpArgs false
end Go.Proofs.Yteefemiieidpaaa

