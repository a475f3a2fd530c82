/- SortP, MOrd, MSrt, MSrtR: joined. -/
import Derived.Test.YtifpngjipkmdcaaLink
import Derived.Test.YtifpngjipkmdcaaMem
import Derived.Deep.RegionHeld3
/- Lists in order: there is one alone; one by one put where it belongs. Plain. -/
namespace Go.Proofs.Ytifpngjipkmdcaa
set_option linter.unusedVariables false
set_option linter.unusedSimpArgs false
/-- A strict order that tells any two apart. -/
structure Strict {α : Type} (lt : α → α → Bool) : Prop where
  irrefl : ∀ a, lt a a = false
  trans : ∀ a b c, lt a b = true → lt b c = true → lt a c = true
  total : ∀ a b, lt a b = false → lt b a = false → a = b
def Srt {α : Type} (lt : α → α → Bool) (l : List α) : Prop := l.Pairwise fun a b => lt b a = false
section
variable {α : Type} {lt : α → α → Bool}
theorem Strict.asymm (h : Strict lt) {a b : α} (hab : lt a b = true) : lt b a = false := by
  cases hb : lt b a
  · rfl
  · have := h.trans a b a hab hb
    rw [h.irrefl] at this
    cases this
theorem Strict.le_trans (h : Strict lt) {a b c : α} (h1 : lt b a = false) (h2 : lt c b = false) : lt c a = false := by
  cases hc : lt c a
  · rfl
  · cases hab : lt a b
    · have := h.total a b hab h1
      subst this
      rw [hc] at h2; cases h2
    · have := h.trans c a b hc hab
      rw [this] at h2; cases h2
/-- A list in order is told by what it holds. -/
theorem srt_uniq (h : Strict lt) {l l' : List α} (hp : l.Perm l') (hs : Srt lt l) (hs' : Srt lt l') : l = l' :=
  List.Perm.eq_of_pairwise (fun a b _ _ h1 h2 => h.total a b h2 h1) hs hs' hp
/-- The list in order. -/
noncomputable def srtOf (lt : α → α → Bool) (l : List α) : List α := l.mergeSort fun a b => !lt b a
theorem srtOf_perm (l : List α) : (srtOf lt l).Perm l := List.mergeSort_perm _ _
theorem srtOf_srt (h : Strict lt) (l : List α) : Srt lt (srtOf lt l) := by
  have := List.pairwise_mergeSort (le := fun a b => !lt b a) (fun a b c h1 h2 => by
    simp only [Bool.not_eq_true'] at h1 h2 ⊢
    exact h.le_trans h1 h2) (fun a b => by
    cases hab : lt b a
    · simp
    · simp [h.asymm hab]) l
  unfold srtOf Srt
  exact this.imp (fun h => by simpa using h)
theorem srtOf_eq (h : Strict lt) {l l' : List α} (hp : l'.Perm l) (hs : Srt lt l') : srtOf lt l = l' :=
  srt_uniq h ((srtOf_perm l).trans hp.symm) (srtOf_srt h l) hs
theorem srtOf_congr (h : Strict lt) {l l' : List α} (hp : l'.Perm l) : srtOf lt l = srtOf lt l' :=
  srt_uniq h ((srtOf_perm l).trans (hp.symm.trans (srtOf_perm l').symm)) (srtOf_srt h l) (srtOf_srt h l')
theorem srtOf_len (l : List α) : (srtOf lt l).length = l.length := (srtOf_perm l).length_eq
/-- x on its way down: behind it all that is greater; without it the list is in order. -/
def Sink (lt : α → α → Bool) (l : List α) (p : List α) (x : α) (q : List α) : Prop := (p ++ x :: q).Perm l ∧ Srt lt (p ++ q) ∧ ∀ y ∈ q, lt x y = true
theorem Sink.begin {p l : List α} {x : α} (hp : p.Perm l) (hs : Srt lt p) : Sink lt (l ++ [x]) p x [] :=
  ⟨hp.append_right [x], by simpa using hs, fun y hy => by cases hy⟩
theorem Sink.down {p q l : List α} {x y : α} (h : Sink lt l (p ++ [y]) x q) (hxy : lt x y = true) : Sink lt l p x (y :: q) := by
  obtain ⟨h1, h2, h3⟩ := h
  refine ⟨List.Perm.trans ?_ h1, by simpa using h2, fun z hz => ?_⟩
  · rw [List.append_assoc]
    exact (List.Perm.swap y x q).append_left p
  · rcases List.mem_cons.1 hz with rfl | hz
    · exact hxy
    · exact h3 z hz
theorem Sink.stop (ho : Strict lt) {p q l : List α} {x : α} (h : Sink lt l p x q) (hp : ∀ p' y, p = p' ++ [y] → lt x y = false) : (p ++ x :: q).Perm l ∧ Srt lt (p ++ x :: q) := by
  obtain ⟨h1, h2, h3⟩ := h
  refine ⟨h1, ?_⟩
  unfold Srt at h2 ⊢
  rw [List.pairwise_append] at h2 ⊢
  obtain ⟨s1, s2, s3⟩ := h2
  refine ⟨s1, List.pairwise_cons.2 ⟨fun y hy => ho.asymm (h3 y hy), s2⟩, fun a ha b hb => ?_⟩
  rcases List.mem_cons.1 hb with rfl | hb
  · rcases List.eq_nil_or_concat p with h0 | ⟨p', y, h0⟩
    · subst h0; cases ha
    · rw [List.concat_eq_append] at h0
      have hy := hp p' y h0
      subst h0
      rcases List.mem_append.1 ha with ha | ha
      · have hay : lt y a = false := (List.pairwise_append.1 s1).2.2 a ha y (List.mem_singleton.2 rfl)
        exact ho.le_trans hay hy
      · obtain rfl := List.mem_singleton.1 ha
        exact hy
  · exact s3 a ha b hb
end
end Go.Proofs.Ytifpngjipkmdcaa

/- The order of mail: merge.order, the document's MailAhead. -/
namespace Go.Proofs.Ytifpngjipkmdcaa
open Go.ChangeShapes Go.WideShapes Go.ChangeAt Go.RowKit
set_option linter.unusedVariables false
set_option linter.unusedSimpArgs false
def cmp3 (a b : Int) : Int := if a < b then -1 else if b < a then 1 else 0
def orV (x y : Int) : Int := if x ≠ 0 then x else y
def ordV (a b : Mail) : Int := orV (cmp3 a.to b.to) (cmp3 a.val b.val)
/-- Is a ahead of b? -/
def mlt (a b : Mail) : Bool := if a.to ≠ b.to then decide (a.to < b.to) else decide (a.val < b.val)
theorem ordV_neg (a b : Mail) : decide (ordV a b < 0) = mlt a b := by
  unfold ordV mlt orV cmp3
  by_cases h1 : a.to < b.to
  · have : a.to ≠ b.to := by omega
    simp [h1, this]
  · by_cases h2 : b.to < a.to
    · have h3 : a.to ≠ b.to := by omega
      simp [h1, h2, h3]
    · have h3 : a.to = b.to := by omega
      simp only [h3]
      by_cases h4 : a.val < b.val
      · simp [h4]
      · by_cases h5 : b.val < a.val <;> simp [h4, h5]
theorem mlt_strict : Strict mlt where
  irrefl a := by simp [mlt]
  trans a b c h1 h2 := by
    unfold mlt at *
    split at h1 <;> split at h2 <;> simp only [decide_eq_true_eq] at h1 h2 <;> split <;> simp only [decide_eq_true_eq] <;> omega
  total a b h1 h2 := by
    unfold mlt at *
    obtain ⟨x, y⟩ := a
    obtain ⟨u, v⟩ := b
    simp only at h1 h2
    split at h1 <;> split at h2 <;> simp only [decide_eq_false_iff_not] at h1 h2
    · omega
    · omega
    · omega
    · have e1 : x = u := by omega
      have e2 : y = v := by omega
      rw [e1, e2]
theorem isNaN_walk (x : Int) (w : World) : Calls Try.prog 104 #[.int .i64 x] w fun e w' => e = .returned (.bool false) ∧ w = w' := by
  go_enter Try.func104, Try.ntmps104
  go_wp2
  go_ret
  exact ⟨by simp, rfl⟩
theorem compare_walk (x y : Int) (w : World) : Calls Try.prog 83 #[.int .i64 x, .int .i64 y] w fun e w' => e = .returned (.int .i64 (cmp3 x y)) ∧ w = w' := by
  generalize hc : cmp3 x y = v
  have HV := hid hc
  clear hc
  rcases Int.lt_trichotomy x y with h | h | h
  · have h2 : Hid (v = -1) := hid (by rw [← HV.out]; simp [cmp3, h])
    go_enter Try.func83, Try.ntmps83
    go_wp2_with fail
    refine (isNaN_walk _ _).mono ?_
    rintro e w1 ⟨rfl, rfl⟩
    go_wp2_with fail
    refine (isNaN_walk _ _).mono ?_
    rintro e w1 ⟨rfl, rfl⟩
    go_wp2_with fail
    go_ret
    exact ⟨by rw [h2.out]; rfl, rfl⟩
  · have h2 : Hid (v = 0) := hid (by rw [← HV.out]; simp [cmp3, h])
    have h3 : ¬ (x < y) := by omega
    have h4 : ¬ (y < x) := by omega
    clear h
    go_enter Try.func83, Try.ntmps83
    go_wp2_with fail
    refine (isNaN_walk _ _).mono ?_
    rintro e w1 ⟨rfl, rfl⟩
    go_wp2_with fail
    refine (isNaN_walk _ _).mono ?_
    rintro e w1 ⟨rfl, rfl⟩
    go_wp2_with fail
    go_ret
    exact ⟨by rw [h2.out]; rfl, rfl⟩
  · have h2 : Hid (v = 1) := hid (by rw [← HV.out]; simp [cmp3, h, show ¬ x < y by omega])
    have h3 : ¬ (x < y) := by omega
    go_enter Try.func83, Try.ntmps83
    go_wp2_with fail
    refine (isNaN_walk _ _).mono ?_
    rintro e w1 ⟨rfl, rfl⟩
    go_wp2_with fail
    refine (isNaN_walk _ _).mono ?_
    rintro e w1 ⟨rfl, rfl⟩
    go_wp2_with fail
    go_ret
    exact ⟨by rw [h2.out]; rfl, rfl⟩
theorem or_walk (x y : Int) (w : World) (b off c : Nat) (h0 : w.cell? ⟨b, off, none⟩ = some (.int .i64 x)) (h1 : w.cell? ⟨b, off + 1, none⟩ = some (.int .i64 y)) : Calls Try.prog 82 #[.slice (some ⟨b, off, none⟩) 2 c] w fun e w' => e = .returned (.int .i64 (orV x y)) ∧ w = w' := by
  go_enter Try.func82, Try.ntmps82
  go_wp2_with fail
  go_loopw [5, 8] (fun _ i wr => ∃ k : Nat, k ≤ 2 ∧ i = .int .i64 k ∧ w = wr ∧ (0 < k → x = 0) ∧ (1 < k → y = 0)) (fun _ i _ => 2 - (intOf i).toNat)
  case atStart => exact ⟨0, by omega, rfl, rfl, by omega, by omega⟩
  case round =>
    obtain ⟨k, hk, rfl, rfl, k0, k1⟩ := hrel
    by_cases hk0 : k = 0
    · subst hk0
      by_cases hx : x = 0
      · subst hx
        go_wp2_with fail
        go_roundw
        case rel => exact ⟨1, by omega, by first | rfl | trivial, by first | rfl | trivial, fun _ => by first | rfl | trivial, by omega⟩
        case measure => simp [intOf]
      · have HV : Hid (orV x y = x) := hid (by simp [orV, hx])
        have hxb : (x != 0) = true := by simpa using hx
        go_wp2_with fail
        go_ret
        exact ⟨by rw [HV.out]; rfl, rfl⟩
    · by_cases hk1 : k = 1
      · subst hk1
        have hx := k0 (by omega)
        subst hx
        by_cases hy : y = 0
        · subst hy
          go_wp2_with fail
          go_roundw
          case rel => exact ⟨2, by omega, by first | rfl | trivial, by first | rfl | trivial, fun _ => by first | rfl | trivial, fun _ => by first | rfl | trivial⟩
          case measure => simp [intOf]
        · have HV : Hid (orV 0 y = y) := hid (by simp [orV])
          have hxb : (y != 0) = true := by simpa using hy
          go_wp2_with fail
          go_ret
          exact ⟨by rw [HV.out]; rfl, rfl⟩
      · obtain rfl : k = 2 := by omega
        have hx := k0 (by omega)
        have hy := k1 (by omega)
        subst hx hy
        have HV : Hid (orV 0 0 = 0) := hid (by simp [orV])
        go_wp2_with fail
        go_ret
        exact ⟨by rw [HV.out]; rfl, rfl⟩
set_option maxHeartbeats 2000000 in
theorem order_walk (a b : Mail) (w : World) : Calls Try.prog 43 #[.agg #[.int .i64 a.to, .int .i64 a.val], .agg #[.int .i64 b.to, .int .i64 b.val]] w fun e w' => e = .returned (.int .i64 (ordV a b)) ∧ Below w.heap.size w w' := by
  have HOR := hid (or_walk (cmp3 a.to b.to) (cmp3 a.val b.val) ((((w.alloc (.cells #[.int .i64 a.to, .int .i64 a.val] 62)).alloc (.cells #[.int .i64 b.to, .int .i64 b.val] 62)).alloc (.cells #[.int .i64 (cmp3 a.to b.to), .int .i64 (cmp3 a.val b.val)] 3)).drew) (w.heap.size + 1 + 1) 0 2 (by go_simp) (by go_simp))
  go_enter Try.func43, Try.ntmps43
  go_wp2_with fail
  go_region_held3 (fun w' => w'.cell? ⟨w.heap.size, 0, none⟩ = some (.int .i64 a.to) ∧ w'.cell? ⟨w.heap.size, 1, none⟩ = some (.int .i64 a.val) ∧ w'.cell? ⟨w.heap.size + 1, 0, none⟩ = some (.int .i64 b.to) ∧ w'.cell? ⟨w.heap.size + 1, 1, none⟩ = some (.int .i64 b.val)) (go_keep) ((first | (go_at_call 83; refine (compare_walk _ _ _).mono ?_; rintro r w3 ⟨rfl, rfl⟩) | (go_at_call 82; refine HOR.out.mono ?_; rintro r w3 ⟨rfl, rfl⟩)))
  all_goals
    go_wp2_with fail
    go_ret
    exact ⟨rfl, by first | exact bA (bD (bA (bA (Below.refl _ _) _) _)) _ | exact bD (bA (bA (bA (Below.refl _ _) _) _) _)⟩
abbrev rowsOf {α : Type} (l : List (ML α)) : List (List α) := l.map ML.l
theorem rows_snoc {α : Type} {m acc : List (ML α)} {k : Nat} {x : ML α} (A : Option Addr) (c : Nat) (h : rowsOf acc = rowsOf (m.take k)) (hx : m[k]? = some x) : rowsOf (acc ++ [⟨A, c, x.l⟩]) = rowsOf (m.take (k + 1)) := by
  rw [take_nextV hx]; unfold rowsOf at *; rw [List.map_append, List.map_append, h]; rfl
theorem one_rowV {α : Type} (x : ML α) : ∀ u ∈ x.cells, u.oneCell' = true := by
  intro u hu; simp [ML.cells] at hu; subst hu; rfl
theorem rows_at {α : Type} {l m : List (ML α)} (h : rowsOf m = rowsOf l) {k : Nat} {x : ML α} (hx : l[k]? = some x) : ∃ y, m[k]? = some y ∧ y.l = x.l := by
  have h2 : (rowsOf m)[k]? = (rowsOf l)[k]? := by rw [h]
  unfold rowsOf at h2
  rw [List.getElem?_map, List.getElem?_map, hx] at h2
  cases hm : m[k]? with
  | none => rw [hm] at h2; cases h2
  | some y => rw [hm] at h2; injection h2 with h2; exact ⟨y, rfl, h2⟩
theorem rows_len {α : Type} {l m : List (ML α)} (h : rowsOf m = rowsOf l) : m.length = l.length := by
  have := congrArg List.length h; simpa [rowsOf] using this
abbrev MGrid (w : World) (base : Nat) (A : Option Addr) (c : Nat) (l : List (ML Mail)) : Prop := OwnGrid ML.cells id Mail.cells 35 62 1 2 w base A c l
abbrev BGrid (w : World) (base : Nat) (A : Option Addr) (c : Nat) (l : List (ML Int)) : Prop := OwnGrid ML.cells id u8c 41 5 1 1 w base A c l
end Go.Proofs.Ytifpngjipkmdcaa

/- Is mail in order? slices.IsSortedFunc, the document's IsOrdered. -/
namespace Go.Proofs.Ytifpngjipkmdcaa
open Go.ChangeShapes Go.WideShapes Go.ChangeAt Go.RowKit
set_option linter.unusedVariables false
set_option linter.unusedSimpArgs false
/-- The pair at i and i + 1 is in order. -/
def adj (l : List Mail) (i : Nat) : Prop := ∀ x y, l[i]? = some x → l[i + 1]? = some y → mlt y x = false
section
open Classical
noncomputable def ordB (l : List Mail) : Bool := decide (∀ i, adj l i)
end
theorem ordB_yes {l : List Mail} (h : ∀ i, adj l i) : ordB l = true := by unfold ordB; exact @decide_eq_true _ (_) h
theorem ordB_no {l : List Mail} {i : Nat} {x y : Mail} (hx : l[i]? = some x) (hy : l[i + 1]? = some y) (h : mlt y x = true) : ordB l = false := by
  unfold ordB; rw [decide_eq_false_iff_not]; intro h2; have := h2 i x y hx hy; rw [h] at this; cases this
theorem adj_out {l : List Mail} {i : Nat} (h : l.length ≤ i + 1) : adj l i := fun x y hx hy => by
  have := (List.getElem?_eq_some_iff.1 hy).1; omega
theorem ordB_srt {l : List Mail} (h : ordB l = true) : Srt mlt l := by
  unfold ordB at h
  have h2 : ∀ i, adj l i := @of_decide_eq_true _ (_) h
  unfold Srt
  rw [List.pairwise_iff_getElem]
  intro i j hi hj hij
  obtain ⟨d, rfl⟩ : ∃ d, j = i + 1 + d := ⟨j - (i + 1), by omega⟩
  clear hij
  induction d with
  | zero => exact h2 i _ _ (List.getElem?_eq_getElem hi) (List.getElem?_eq_getElem hj)
  | succ d ih =>
    have h3 := ih (by omega)
    have h4 := h2 (i + 1 + d) _ _ (List.getElem?_eq_getElem (by omega)) (List.getElem?_eq_getElem (by omega))
    exact mlt_strict.le_trans h3 h4
/-- The cells of the mail 'k'. -/
theorem mcells {w : World} {B n k : Nat} {A : Option Addr} {l : List Mail} {x : Mail} (h : Rd w B A 2 n (l.flatMap Mail.cells)) (hl : l.length = n) (hk : l[k]? = some x) :
    ∃ b off, A = some ⟨b, off, none⟩ ∧ b < B ∧ w.cell? ⟨b, off + k * 2, none⟩ = some (.int .i64 x.to) ∧ w.cell? ⟨b, off + k * 2 + 1, none⟩ = some (.int .i64 x.val) := by
  have hkl := (List.getElem?_eq_some_iff.1 hk).1
  obtain ⟨b, off, rfl, hb, hc⟩ := h.2 (show 0 < n by omega)
  have hg := (flatMap_get (l := l) (cells := Mail.cells) (sz := 2) (fun _ _ => rfl)).2 k x
  have c0 := hc _ _ (hg 0 _ hk rfl)
  have c1 := hc _ _ (hg 1 _ hk rfl)
  simp only [Nat.add_zero, ← Nat.add_assoc] at c0 c1
  exact ⟨b, off, rfl, hb, c0, c1⟩
set_option maxRecDepth 100000 in
set_option maxHeartbeats 4000000 in
theorem isSorted_walk (l : List Mail) (w : World) (A : Option Addr) (c : Nat) (hr : Rd w w.heap.size A 2 l.length (l.flatMap Mail.cells)) (hl : l.length ≤ 140737488355328) :
    Calls Try.prog 42 #[.slice A l.length c, .func (.func 43) #[] #[]] w fun e w' => e = .returned (.bool (ordB l)) ∧ Below w.heap.size w w' := by
  generalize hF : ordB l = F
  have HF := hid hF
  clear hF
  go_enter Try.func42, Try.ntmps42
  go_wp2_with fail
  go_loopw [5] (fun i wr => ∃ k : Nat, i = .int .i64 ((k : Int) - 1) ∧ k ≤ l.length ∧ Below w.heap.size w wr ∧ Hid (∀ j, k ≤ j + 1 → adj l j)) (fun i _ => (intOf i + 1).toNat)
  case atStart => exact ⟨l.length, by go_num, by omega, Below.refl _ _, hid fun j hj => adj_out (by omega)⟩
  case round =>
    obtain ⟨k, rfl, hk, hbel, HO⟩ := hrel
    by_cases hlt : 2 ≤ k
    · obtain ⟨m, rfl⟩ : ∃ m, k = m + 2 := ⟨k - 2, by omega⟩
      obtain ⟨x, hx⟩ : ∃ x, l[m + 1]? = some x := ⟨_, List.getElem?_eq_getElem (by omega)⟩
      obtain ⟨y, hy⟩ : ∃ y, l[m]? = some y := ⟨_, List.getElem?_eq_getElem (by omega)⟩
      obtain ⟨b, off, rfl, hb, c0, c1⟩ := mcells (hr.below hbel) rfl hx
      obtain ⟨b', off', hbb, hb', d0, d1⟩ := mcells (hr.below hbel) rfl hy
      injection hbb with hbb
      injection hbb with e1 e2
      subst e1 e2
      have HO2 := hid fun q => order_walk x y (wr.drewN q)
      have HX := hid hx
      have HY := hid hy
      have hbr := hbel.size
      have e0 : (((m + 2 : Nat) : Int) - 1) = ((m + 1 : Nat) : Int) := by omega
      rw [e0]
      have hm1 : (m : Int) + 1 < (l.length : Int) := by omega
      have hm2 : (0 : Int) ≤ (m : Int) + 1 := by omega
      have hm3 : (m : Int) + 1 ≤ (l.length : Int) := by omega
      have hm4 : (m : Int) < (l.length : Int) := by omega
      have hm5 : (0 : Int) ≤ (m : Int) := by omega
      have hw1 : IntKind.i64.wrap (m : Int) = (m : Int) := IntWalk.i64_in _ (by omega)
      have hw2 : IntKind.i64.wrap ((m : Int) + 1 - 1) = (m : Int) := by rw [show (m : Int) + 1 - 1 = (m : Int) by omega]; exact hw1
      have hm6 : (m : Int) ≤ (l.length : Int) := by omega
      have hbr2 : b < wr.heap.size := by omega
      have hk : ∀ (q : Nat) (w3 : World), Below (wr.drewN q).heap.size (wr.drewN q) w3 → w3.cell? ⟨b, off + (m + 1) * 2, none⟩ = some (.int .i64 x.to) ∧ w3.cell? ⟨b, off + (m + 1) * 2 + 1, none⟩ = some (.int .i64 x.val) ∧ w3.cell? ⟨b, off + m * 2, none⟩ = some (.int .i64 y.to) ∧ w3.cell? ⟨b, off + m * 2 + 1, none⟩ = some (.int .i64 y.val) := fun q w3 h3 =>
        ⟨keepb h3 (by simpa using c0), keepb h3 (by simpa using c1), keepb h3 (by simpa using d0), keepb h3 (by simpa using d1)⟩
      have HK := hid hk
      clear hx hy
      cases hv : mlt x y with
      | true =>
        have HV : Hid (F = false) := hid (by rw [← HF.out]; exact ordB_no HY.out HX.out hv)
        have hd : decide (ordV x y < 0) = true := by rw [ordV_neg, hv]
        have hd2 : ordV x y < 0 := by simpa using hd
        go_wp2_with fail
        go_region_held3 (fun w' => w'.cell? ⟨b, off + (m + 1) * 2, none⟩ = some (.int .i64 x.to) ∧ w'.cell? ⟨b, off + (m + 1) * 2 + 1, none⟩ = some (.int .i64 x.val) ∧ w'.cell? ⟨b, off + m * 2, none⟩ = some (.int .i64 y.to) ∧ w'.cell? ⟨b, off + m * 2 + 1, none⟩ = some (.int .i64 y.val)) (first | exact HK.out _ _ b3 | go_keep) ((go_at_call 43; refine (HO2.out 1).mono ?_; rintro r w3 ⟨rfl, b3⟩))
        all_goals
          have hB : Below w.heap.size w w3 := (below_drewN hbel 1).trans (b3.mono (by simpa using hbr))
          go_wp2_with fail
          go_ret
          exact ⟨by rw [HV.out]; rfl, hB⟩
      | false =>
        have HV : Hid (∀ j, m + 1 ≤ j + 1 → adj l j) := hid fun j hj => by
          rcases Nat.lt_or_ge j (m + 1) with h | h
          · obtain rfl : j = m := by omega
            intro u v hu hv2
            rw [HY.out] at hu
            rw [HX.out] at hv2
            injection hu with hu
            injection hv2 with hv2
            rw [← hu, ← hv2]
            exact hv
          · exact HO.out j (by omega)
        have hd : decide (ordV x y < 0) = false := by rw [ordV_neg, hv]
        have hd2 : ¬ (ordV x y < 0) := by simpa using hd
        go_wp2_with fail
        go_region_held3 (fun w' => w'.cell? ⟨b, off + (m + 1) * 2, none⟩ = some (.int .i64 x.to) ∧ w'.cell? ⟨b, off + (m + 1) * 2 + 1, none⟩ = some (.int .i64 x.val) ∧ w'.cell? ⟨b, off + m * 2, none⟩ = some (.int .i64 y.to) ∧ w'.cell? ⟨b, off + m * 2 + 1, none⟩ = some (.int .i64 y.val)) (first | exact HK.out _ _ b3 | go_keep) ((go_at_call 43; refine (HO2.out 1).mono ?_; rintro r w3 ⟨rfl, b3⟩))
        all_goals
          have hB : Below w.heap.size w w3 := (below_drewN hbel 1).trans (b3.mono (by simpa using hbr))
          go_wp2_with fail
          go_roundw
          case rel => exact ⟨m + 1, by go_num, by omega, hB, HV⟩
          case measure => simp [intOf] <;> omega
    · have hk1 : ¬ ((0 : Int) < (k : Int) - 1) := by omega
      have HV : Hid (F = true) := hid (by rw [← HF.out]; exact ordB_yes fun i => HO.out i (by omega))
      go_wp2_with fail
      go_ret
      exact ⟨by rw [HV.out]; rfl, hbel⟩
end Go.Proofs.Ytifpngjipkmdcaa

/- The document's IsOrdered. -/
namespace Go.Proofs.Ytifpngjipkmdcaa
open Go.ChangeShapes Go.WideShapes Go.ChangeAt Go.RowKit
set_option linter.unusedVariables false
set_option linter.unusedSimpArgs false
theorem ahead_walk (a b : Mail) (w : World) : Calls Try.prog 85 #[.agg #[.int .i64 a.to, .int .i64 a.val], .agg #[.int .i64 b.to, .int .i64 b.val]] w fun e w' => e = .returned (.bool (mlt a b)) ∧ Below w.heap.size w w' := by
  generalize hF : mlt a b = F
  have HF := hid hF
  clear hF
  by_cases h : a.to = b.to
  · have HV : Hid (F = decide (a.val < b.val)) := hid (by rw [← HF.out]; simp [mlt, h])
    have hb : (a.to != b.to) = false := by simpa using h
    go_enter Try.func85, Try.ntmps85
    go_wp2_with fail
    go_ret
    exact ⟨by rw [HV.out]; rfl, bA (bA (Below.refl _ _) _) _⟩
  · have HV : Hid (F = decide (a.to < b.to)) := hid (by rw [← HF.out]; simp [mlt, h])
    have hb : (a.to != b.to) = true := by simpa using h
    go_enter Try.func85, Try.ntmps85
    go_wp2_with fail
    go_ret
    exact ⟨by rw [HV.out]; rfl, bA (bA (Below.refl _ _) _) _⟩
set_option maxRecDepth 100000 in
set_option maxHeartbeats 4000000 in
theorem isOrdered_walk (l : List Mail) (w : World) (A : Option Addr) (c : Nat) (hr : Rd w w.heap.size A 2 l.length (l.flatMap Mail.cells)) (hl : l.length ≤ 140737488355328) :
    Calls Try.prog 45 #[.slice A l.length c] w fun e w' => e = .returned (.bool (ordB l)) ∧ Below w.heap.size w w' := by
  generalize hF : ordB l = F
  have HF := hid hF
  clear hF
  go_enter Try.func45, Try.ntmps45
  go_wp2_with fail
  go_loopw [3] (fun i wr => ∃ k : Nat, i = .int .i64 ((k : Int) + 1) ∧ k ≤ l.length ∧ Below w.heap.size w wr ∧ Hid (∀ j, j < k → adj l j)) (fun i _ => l.length + 1 - (intOf i).toNat)
  case atStart => exact ⟨0, by go_num, by omega, Below.refl _ _, hid fun j hj => by omega⟩
  case round =>
    obtain ⟨m, rfl, hk, hbel, HO⟩ := hrel
    by_cases hlt : m + 1 < l.length
    · obtain ⟨x, hx⟩ : ∃ x, l[m + 1]? = some x := ⟨_, List.getElem?_eq_getElem (by omega)⟩
      obtain ⟨y, hy⟩ : ∃ y, l[m]? = some y := ⟨_, List.getElem?_eq_getElem (by omega)⟩
      obtain ⟨b, off, rfl, hb, c0, c1⟩ := mcells (hr.below hbel) rfl hx
      obtain ⟨b', off', hbb, hb', d0, d1⟩ := mcells (hr.below hbel) rfl hy
      injection hbb with hbb
      injection hbb with e1 e2
      subst e1 e2
      have HO2 := hid fun q => ahead_walk x y (wr.drewN q)
      have HX := hid hx
      have HY := hid hy
      have hbr := hbel.size
      have hm1 : (m : Int) + 1 < (l.length : Int) := by omega
      have hm2 : (0 : Int) ≤ (m : Int) + 1 := by omega
      have hm3 : (m : Int) + 1 ≤ (l.length : Int) := by omega
      have hm4 : (m : Int) < (l.length : Int) := by omega
      have hm5 : (0 : Int) ≤ (m : Int) := by omega
      have hw1 : IntKind.i64.wrap (m : Int) = (m : Int) := IntWalk.i64_in _ (by omega)
      have hw2 : IntKind.i64.wrap ((m : Int) + 1 - 1) = (m : Int) := by rw [show (m : Int) + 1 - 1 = (m : Int) by omega]; exact hw1
      have hm6 : (m : Int) ≤ (l.length : Int) := by omega
      have hbr2 : b < wr.heap.size := by omega
      have hk : ∀ (q : Nat) (w3 : World), Below (wr.drewN q).heap.size (wr.drewN q) w3 → w3.cell? ⟨b, off + (m + 1) * 2, none⟩ = some (.int .i64 x.to) ∧ w3.cell? ⟨b, off + (m + 1) * 2 + 1, none⟩ = some (.int .i64 x.val) ∧ w3.cell? ⟨b, off + m * 2, none⟩ = some (.int .i64 y.to) ∧ w3.cell? ⟨b, off + m * 2 + 1, none⟩ = some (.int .i64 y.val) := fun q w3 h3 =>
        ⟨keepb h3 (by simpa using c0), keepb h3 (by simpa using c1), keepb h3 (by simpa using d0), keepb h3 (by simpa using d1)⟩
      have HK := hid hk
      clear hx hy
      cases hv : mlt x y with
      | true =>
        rw [hv] at HO2
        have HV : Hid (F = false) := hid (by rw [← HF.out]; exact ordB_no HY.out HX.out hv)
        go_wp2_with fail
        go_region_held3 (fun w' => w'.cell? ⟨b, off + (m + 1) * 2, none⟩ = some (.int .i64 x.to) ∧ w'.cell? ⟨b, off + (m + 1) * 2 + 1, none⟩ = some (.int .i64 x.val) ∧ w'.cell? ⟨b, off + m * 2, none⟩ = some (.int .i64 y.to) ∧ w'.cell? ⟨b, off + m * 2 + 1, none⟩ = some (.int .i64 y.val)) (first | exact HK.out _ _ b3 | go_keep) ((go_at_call 85; refine (HO2.out 1).mono ?_; rintro r w3 ⟨rfl, b3⟩))
        all_goals
          have hB : Below w.heap.size w w3 := (below_drewN hbel 1).trans (b3.mono (by simpa using hbr))
          go_wp2_with fail
          go_ret
          exact ⟨by rw [HV.out]; rfl, hB⟩
      | false =>
        rw [hv] at HO2
        have HV : Hid (∀ j, j < m + 1 → adj l j) := hid fun j hj => by
          rcases Nat.lt_or_ge j m with h | h
          · exact HO.out j h
          · obtain rfl : j = m := by omega
            intro u v hu hv2
            rw [HY.out] at hu
            rw [HX.out] at hv2
            injection hu with hu
            injection hv2 with hv2
            rw [← hu, ← hv2]
            exact hv
        go_wp2_with fail
        go_region_held3 (fun w' => w'.cell? ⟨b, off + (m + 1) * 2, none⟩ = some (.int .i64 x.to) ∧ w'.cell? ⟨b, off + (m + 1) * 2 + 1, none⟩ = some (.int .i64 x.val) ∧ w'.cell? ⟨b, off + m * 2, none⟩ = some (.int .i64 y.to) ∧ w'.cell? ⟨b, off + m * 2 + 1, none⟩ = some (.int .i64 y.val)) (first | exact HK.out _ _ b3 | go_keep) ((go_at_call 85; refine (HO2.out 1).mono ?_; rintro r w3 ⟨rfl, b3⟩))
        all_goals
          have hB : Below w.heap.size w w3 := (below_drewN hbel 1).trans (b3.mono (by simpa using hbr))
          go_wp2_with fail
          go_roundw
          case rel => exact ⟨m + 1, by go_num, by omega, hB, HV⟩
          case measure => simp [intOf] <;> omega
    · have hk1 : ¬ ((m : Int) + 1 < (l.length : Int)) := by omega
      have hall : ∀ i, adj l i := fun i => by
        rcases Nat.lt_or_ge i m with h | h
        · exact HO.out i h
        · exact adj_out (by omega)
      have HV : Hid (F = true) := hid (by rw [← HF.out]; exact ordB_yes hall)
      go_wp2_with fail
      go_ret
      exact ⟨by rw [HV.out]; rfl, hbel⟩
end Go.Proofs.Ytifpngjipkmdcaa

