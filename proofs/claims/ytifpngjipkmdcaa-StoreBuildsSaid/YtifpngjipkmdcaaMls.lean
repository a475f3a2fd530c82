/- MCompP, MComp, MLeast, MailsR: joined. -/
import Derived.Test.YtifpngjipkmdcaaOrds
import Derived.Test.YtifpngjipkmdcaaBase
/- Of mail to one vertex the first alone stays. Plain. -/
namespace Go.Proofs.Ytifpngjipkmdcaa
set_option linter.unusedVariables false
set_option linter.unusedSimpArgs false
def keepAt (l : List Mail) (i : Nat) : Bool := i == 0 || (l[i]?.map (·.to)) != (l[i - 1]?.map (·.to))
/-- What stays of the first k. -/
def compT (l : List Mail) : Nat → List Mail
  | 0 => []
  | k + 1 => compT l k ++ (if keepAt l k = true then l[k]?.toList else [])
theorem compT_one {l : List Mail} {x : Mail} (hx : l[0]? = some x) : compT l 1 = [x] := by simp [compT, keepAt, hx]
theorem compT_keep {l : List Mail} {m : Nat} {x y : Mail} (hx : l[m + 1]? = some x) (hy : l[m]? = some y) (h : x.to ≠ y.to) : compT l (m + 1 + 1) = compT l (m + 1) ++ [x] := by
  have : keepAt l (m + 1) = true := by simp [keepAt, hx, hy, h]
  rw [compT, this, hx]; rfl
theorem compT_skip {l : List Mail} {m : Nat} {x y : Mail} (hx : l[m + 1]? = some x) (hy : l[m]? = some y) (h : x.to = y.to) : compT l (m + 1 + 1) = compT l (m + 1) := by
  have : keepAt l (m + 1) = false := by simp [keepAt, hx, hy, h]
  rw [compT, this]; simp
theorem compT_len (l : List Mail) : ∀ k, (compT l k).length ≤ k
  | 0 => by simp [compT]
  | k + 1 => by
    have := compT_len l k
    rw [compT, List.length_append]
    split
    · cases l[k]? <;> simp <;> omega
    · simp; omega
/-- No two alike side by side ahead of k. -/
def Apts (l : List Mail) (k : Nat) : Prop := ∀ i x y, i + 1 < k → l[i + 1]? = some x → l[i]? = some y → x.to ≠ y.to
theorem compT_all {l : List Mail} : ∀ {k : Nat}, k ≤ l.length → Apts l k → compT l k = l.take k
  | 0, _, _ => by simp [compT]
  | 1, hk, h => by
    obtain ⟨x, hx⟩ : ∃ x, l[0]? = some x := ⟨_, List.getElem?_eq_getElem (by omega)⟩
    rw [compT_one hx, List.take_add_one, hx]; simp
  | k + 2, hk, h => by
    have ih := compT_all (k := k + 1) (by omega) (fun i x y hi => h i x y (by omega))
    obtain ⟨x, hx⟩ : ∃ x, l[k + 1]? = some x := ⟨_, List.getElem?_eq_getElem (by omega)⟩
    obtain ⟨y, hy⟩ : ∃ y, l[k]? = some y := ⟨_, List.getElem?_eq_getElem (by omega)⟩
    rw [compT_keep hx hy (h k x y (by omega) hx hy), ih]
    rw [show k + 2 = (k + 1) + 1 from rfl, List.take_add_one (i := k + 1), hx]; rfl
theorem Apts.next {l : List Mail} {k : Nat} {x y : Mail} (h : Apts l (k + 1)) (hx : l[k + 1]? = some x) (hy : l[k]? = some y) (hn : x.to ≠ y.to) : Apts l (k + 1 + 1) := fun i u v hi hu hv => by
  rcases Nat.lt_or_ge (i + 1) (k + 1) with h1 | h1
  · exact h i u v h1 hu hv
  · obtain rfl : i = k := by omega
    rw [hx] at hu; rw [hy] at hv
    injection hu with hu; injection hv with hv
    rw [← hu, ← hv]; exact hn
/-- The row while the others move up: a stay of the first j. -/
structure CompIn (l L : List Mail) (a j : Nat) : Prop where
  len : L.length = l.length
  at_ : a = (compT l (j + 1)).length
  head : L.take a = compT l (j + 1)
  tail : L.drop j = l.drop j
  lt : a < j + 1
  le : j + 1 ≤ l.length
theorem CompIn.get0 {l L : List Mail} {a j : Nat} (h : CompIn l L a j) : L[j]? = l[j]? := by
  have := congrArg (·[0]?) h.tail
  simpa [List.getElem?_drop] using this
theorem CompIn.get1 {l L : List Mail} {a j : Nat} (h : CompIn l L a j) : L[j + 1]? = l[j + 1]? := by
  have := congrArg (·[1]?) h.tail
  simpa [List.getElem?_drop] using this
theorem drop_up {α : Type} {l L : List α} {j : Nat} (h : L.drop j = l.drop j) : L.drop (j + 1) = l.drop (j + 1) := by
  have := congrArg (List.drop 1) h
  rwa [List.drop_drop, List.drop_drop] at this
theorem CompIn.skip {l L : List Mail} {a j : Nat} {x y : Mail} (h : CompIn l L a j) (hx : l[j + 1]? = some x) (hy : l[j]? = some y) (he : x.to = y.to) : CompIn l L a (j + 1) := by
  have hj := (List.getElem?_eq_some_iff.1 hx).1
  have e := compT_skip hx hy he
  exact ⟨h.len, by rw [e]; exact h.at_, by rw [e]; exact h.head, drop_up h.tail, by have := h.lt; omega, by omega⟩
theorem CompIn.put {l L : List Mail} {a j : Nat} {x y : Mail} (h : CompIn l L a j) (hx : l[j + 1]? = some x) (hy : l[j]? = some y) (he : x.to ≠ y.to) : CompIn l (L.set a x) (a + 1) (j + 1) := by
  have hj := (List.getElem?_eq_some_iff.1 hx).1
  have e := compT_keep hx hy he
  have hl := h.len
  have hlt := h.lt
  refine ⟨by rw [List.length_set]; exact hl, by rw [e, List.length_append, ← h.at_]; rfl, ?_, ?_, by omega, by omega⟩
  · rw [e, List.take_add_one, List.take_set_of_le (Nat.le_refl _), h.head, List.getElem?_set_self (by omega)]; rfl
  · rw [List.drop_set_of_lt (by omega)]
    exact drop_up h.tail
theorem CompIn.start {l : List Mail} {k : Nat} {x y : Mail} (h : Apts l (k + 1)) (hx : l[k + 1]? = some x) (hy : l[k]? = some y) (he : x.to = y.to) : CompIn l l (k + 1) (k + 1) := by
  have hj := (List.getElem?_eq_some_iff.1 hx).1
  have e : compT l (k + 1 + 1) = l.take (k + 1) := by rw [compT_skip hx hy he, compT_all (by omega) h]
  exact ⟨rfl, by rw [e, List.length_take]; omega, e.symm, rfl, by omega, by omega⟩
theorem CompIn.done {l L : List Mail} {a j : Nat} (h : CompIn l L a j) (hj : j + 1 = l.length) : L.take a = compT l l.length := by rw [h.head, hj]
end Go.Proofs.Ytifpngjipkmdcaa

/- slices.CompactFunc at mail, walked. -/
namespace Go.Proofs.Ytifpngjipkmdcaa
open Go.ChangeShapes Go.WideShapes Go.ChangeAt Go.RowKit
set_option linter.unusedVariables false
set_option linter.unusedSimpArgs false
theorem zero_Mail (w : World) : (zeroValue 62).run Try.prog w = .ok (.agg #[.int .i64 0, .int .i64 0]) w := by kernel_rfl
def noPartsM : Mail → List Part := fun _ => []
abbrev OwnM (w : World) (B : Nat) (A : Option Addr) (c : Nat) (l : List Mail) : Prop := Heaped Mail.cells noPartsM w B 62 2 A c l
def CmOut (l : List Mail) (B c g : Nat) (w : World) (i : Value) (wr : World) : Prop :=
  ∃ k : Nat, i = .int .i64 ((k : Int) + 1) ∧ k + 1 ≤ l.length ∧ Hid (Apts l (k + 1)) ∧ OwnM wr B (some ⟨g, 0, none⟩) c l ∧ Below B w wr
def CmIn (l : List Mail) (B c g K : Nat) (w : World) (i j : Value) (wr : World) : Prop :=
  ∃ (a m : Nat) (L : List Mail), i = .int .i64 a ∧ j = .int .i64 ((m : Int) + 1) ∧ Hid (CompIn l L a (K + m)) ∧ a < K + m + 1 ∧ K + m + 1 ≤ l.length ∧ OwnM wr B (some ⟨g, 0, none⟩) c L ∧ Below B w wr
end Go.Proofs.Ytifpngjipkmdcaa

/- merge.Least, the document's MailLeast. -/
namespace Go.Proofs.Ytifpngjipkmdcaa
open Go.ChangeShapes Go.WideShapes Go.ChangeAt Go.RowKit
set_option linter.unusedVariables false
set_option linter.unusedSimpArgs false
noncomputable def leastV (l : List Mail) : List Mail × Int := if 5000 < l.length then ([], 1) else if ordB l = false then ([], 3) else (compT l l.length, 0)
theorem leastV_big {l : List Mail} (h : 5000 < l.length) : leastV l = ([], 1) := by unfold leastV; rw [if_pos h]
theorem leastV_no {l : List Mail} (h : ¬ 5000 < l.length) (ho : ordB l = false) : leastV l = ([], 3) := by unfold leastV; rw [if_neg h, if_pos ho]
theorem leastV_ok {l : List Mail} (h : ¬ 5000 < l.length) (ho : ordB l = true) : leastV l = (compT l l.length, 0) := by unfold leastV; rw [if_neg h, if_neg (by rw [ho]; simp)]
theorem leastV_len (l : List Mail) : (leastV l).1.length ≤ 5000 := by
  unfold leastV; split
  · simp
  · split
    · simp
    · have := compT_len l l.length
      show (compT l l.length).length ≤ 5000
      omega
theorem retL_none (E sz : Nat) (w w' : World) (err : Int) (b : Below w.heap.size w w') : RetL E sz w 0 [] err (.returned (.tuple #[.slice none 0 0, .int .i64 err])) w' := ⟨none, 0, rfl, World.ownsRow_nil _ _ _ _, b⟩
abbrev RetM (w : World) (l : List Mail) (err : Int) : Ending → World → Prop := RetL 62 2 w l.length (l.flatMap Mail.cells) err
theorem two_oneM (x : Mail) : ∀ u ∈ (#[Value.int .i64 x.to, .int .i64 x.val] : Array Value).toList, u.oneCell' = true := by
  intro u hu; simp at hu; rcases hu with rfl | rfl <;> rfl
def MlRel (l : List Mail) (w : World) (o i : Value) (wr : World) : Prop :=
  ∃ (k c m : Nat) (A : Option Addr), k ≤ l.length ∧ i = .int .i64 k ∧ o = .slice A m c ∧ Hid (m = (compT l k).length) ∧ m ≤ k ∧ wr.ownsRow w.heap.size 62 2 (.slice A m c) m ((compT l k).flatMap Mail.cells) ∧ Below w.heap.size w wr
end Go.Proofs.Ytifpngjipkmdcaa

/- The document's Mails: one by one put where it belongs. -/
namespace Go.Proofs.Ytifpngjipkmdcaa
open Go.ChangeShapes Go.WideShapes Go.ChangeAt Go.RowKit
set_option linter.unusedVariables false
set_option linter.unusedSimpArgs false
theorem two_oneN (x : Mail) : ∀ u ∈ (#[Value.int .i64 x.to, .int .i64 x.val] : Array Value).toList, u.oneCell' = true := by
  intro u hu; simp at hu; rcases hu with rfl | rfl <;> rfl
theorem swap_at {α : Type} (p q : List α) (x y : α) : ((p ++ [y] ++ x :: q).set (p.length + 1) y).set p.length x = p ++ x :: y :: q := by
  have e1 : p ++ [y] ++ x :: q = p ++ y :: x :: q := by simp
  rw [e1, List.set_append_right _ _ (by omega), List.set_append_right _ _ (by omega), Nat.sub_self, show p.length + 1 - p.length = 1 by omega]
  rfl
def OutM (l : List Mail) (w : World) (o i : Value) (wr : World) : Prop :=
  ∃ (k c : Nat) (A : Option Addr) (acc : List Mail), k ≤ l.length ∧ i = .int .i64 k ∧ o = .slice A k c ∧ Hid (acc.length = k) ∧ Hid (acc.Perm (l.take k)) ∧ Hid (Srt mlt acc) ∧ OwnM wr w.heap.size A c acc ∧ Below w.heap.size w wr
def InM (l : List Mail) (w : World) (n c g : Nat) (j : Value) (wr : World) : Prop :=
  ∃ (p q : List Mail) (x : Mail), j = .int .i64 p.length ∧ Hid (Sink mlt (l.take n) p x q) ∧ Hid (p.length + 1 + q.length = n) ∧ p.length < n ∧ OwnM wr w.heap.size (some ⟨g, 0, none⟩) c (p ++ x :: q) ∧ Below w.heap.size w wr
set_option maxRecDepth 100000 in
set_option maxHeartbeats 8000000 in
theorem mails_walk (l : List Mail) (w : World) (A : Option Addr) (c : Nat) (hr : Rd w w.heap.size A 2 l.length (l.flatMap Mail.cells)) (hl : l.length * 16 ≤ 140737488355328) :
    Calls Try.prog 46 #[.slice A l.length c] w fun e w' => ∃ A' c', e = .returned (.slice A' l.length c') ∧ w'.ownsRow w.heap.size 62 2 (.slice A' l.length c') l.length ((srtOf mlt l).flatMap Mail.cells) ∧ Below w.heap.size w w' := by
  go_enter Try.func46, Try.ntmps46
  go_wp2_with fail
  go_loopw [3, 4, 5, 6] (fun o i _ _ wr => OutM l w o i wr) (fun _ i _ _ _ => l.length - (intOf i).toNat)
  case atStart => exact ⟨0, 0, none, [], by omega, rfl, rfl, hid rfl, hid (by simp), hid List.Pairwise.nil, Heaped.nil, Below.refl _ _⟩
  case round =>
    obtain ⟨k, c', A', acc, hk, rfl, rfl, HAL, HPERM, HSRT, hown, hbel⟩ := hrel
    have hbr := hbel.size
    by_cases hlt : k < l.length
    · obtain ⟨x, hx⟩ : ∃ x, l[k]? = some x := ⟨_, List.getElem?_eq_getElem hlt⟩
      obtain ⟨b, off, rfl, hb, c0, c1⟩ := mcells (hr.below hbel) rfl hx
      have hkz : (k : Int) < (l.length : Int) := by omega
      have hn1 : (k + 1) * 16 ≤ 140737488355328 := by omega
      have HS0 := hid (show Sink mlt (l.take (k + 1)) acc x [] by rw [List.take_add_one, hx]; exact Sink.begin HPERM.out HSRT.out)
      clear hx
      go_wp2_with (at_builtin; refine wp_heap _ rfl rfl el_mails rfl HAL.out.symm (hown.alloc _) x (fun p hp => by cases hp) rfl (rd_newAt _ _ _ 2 1 _ rfl rfl) (two_oneN x) hn1 (Nat.le_trans hbr (by simp)) ?_; intro A3 c3 w4 hown4 hb4 hg4)
      have hbel4 := (hbel.alloc hbr _).trans hb4
      obtain ⟨g, rfl⟩ : ∃ g, A3 = some ⟨g, 0, none⟩ := by
        rcases hown4.1.2 with ⟨hv, h0⟩ | ⟨g, cap, cur, hv, _⟩
        · rw [List.length_append] at h0; simp at h0
        · injection hv with e1 _ _; exact ⟨g, e1⟩
      clear hown hb4 hg4 c0 c1
      go_loopw [5, 6] (fun j _ wr => InM l w (k + 1) c3 g j wr) (fun j _ _ => (intOf j).toNat)
      case atStart => exact ⟨acc, [], x, by rw [HAL.out], HS0, hid (by rw [HAL.out]; rfl), by rw [HAL.out]; omega, hown4, hbel4⟩
      case round =>
        clear hown4 hbel4 HS0
        obtain ⟨p, q, x, rfl, HS, HLEN, hpk, hown, hbel⟩ := hrel
        have hbr := hbel.size
        have hLl : (p ++ x :: q).length = k + 1 := by rw [List.length_append, List.length_cons]; have := HLEN.out; omega
        by_cases hp0 : p.length = 0
        · obtain rfl : p = [] := List.eq_nil_of_length_eq_zero hp0
          have HST := hid (HS.out.stop mlt_strict (fun p' y h => by simp at h))
          have HOWN := hid hown
          clear hown
          go_wp2_with fail
          go_quiet (fail)
          go_wp2_with fail
          go_roundw
          case rel => exact ⟨k + 1, c3, some ⟨g, 0, none⟩, [] ++ x :: q, by omega, by go_num, rfl, hid hLl, hid HST.out.1, hid HST.out.2, HOWN.out.below (below_drewN (Below.refl _ _) nq) (Nat.le_refl _), below_drewN hbel nq⟩
          case measure => simp [intOf]; omega
        · obtain ⟨p', y, rfl⟩ : ∃ p' y, p = p' ++ [y] := by
            rcases List.eq_nil_or_concat p with h | ⟨p', y, h⟩
            · subst h; simp at hp0
            · exact ⟨p', y, by rw [h, List.concat_eq_append]⟩
          have hpl : (p' ++ [y]).length = p'.length + 1 := by simp
          obtain ⟨m, hm⟩ : ∃ m, p'.length = m := ⟨_, rfl⟩
          rw [hpl, hm] at hpk ⊢
          have hLx : (p' ++ [y] ++ x :: q)[m + 1]? = some x := by rw [List.getElem?_append_right (by omega), hpl, hm, Nat.sub_self]; rfl
          have hLy : (p' ++ [y] ++ x :: q)[m]? = some y := by rw [List.append_assoc, List.getElem?_append_right (by omega), hm, Nat.sub_self]; rfl
          obtain ⟨b', off', hbo, hb', c0, c1⟩ := mcells hown.led.1 rfl hLx
          obtain ⟨b2, off2, hbb, hb2, d0, d1⟩ := mcells hown.led.1 rfl hLy
          injection hbo with hbo
          injection hbo with e1 e2
          subst e1 e2
          injection hbb with hbb
          injection hbb with e1 e2
          subst e1 e2
          simp only [Nat.zero_add] at c0 c1 d0 d1
          have HO2 := hid fun r => ahead_walk x y (wr.drewN r)
          have hm0 : (0 : Int) < (m : Int) + 1 := by omega
          have hm1 : (m : Int) + 1 < ((k : Int) + 1) := by omega
          have hm2 : (0 : Int) ≤ (m : Int) + 1 := by omega
          have hm4 : (m : Int) < ((k : Int) + 1) := by omega
          have hm5 : (0 : Int) ≤ (m : Int) := by omega
          have hw1 : IntKind.i64.wrap (m : Int) = (m : Int) := IntWalk.i64_in _ (by omega)
          have hw2 : IntKind.i64.wrap ((m : Int) + 1 - 1) = (m : Int) := by rw [show (m : Int) + 1 - 1 = (m : Int) by omega]; exact hw1
          have hgz : g ≠ wr.heap.size := by omega
          have hkk : ∀ (r : Nat) (w3 : World), Below (wr.drewN r).heap.size (wr.drewN r) w3 → w3.cell? ⟨g, (m + 1) * 2, none⟩ = some (.int .i64 x.to) ∧ w3.cell? ⟨g, (m + 1) * 2 + 1, none⟩ = some (.int .i64 x.val) ∧ w3.cell? ⟨g, m * 2, none⟩ = some (.int .i64 y.to) ∧ w3.cell? ⟨g, m * 2 + 1, none⟩ = some (.int .i64 y.val) := fun r w3 h3 =>
            ⟨keepb h3 (by simpa using c0), keepb h3 (by simpa using c1), keepb h3 (by simpa using d0), keepb h3 (by simpa using d1)⟩
          have HK := hid hkk
          clear hkk
          cases hv : mlt x y with
          | false =>
            rw [hv] at HO2
            have HST := hid (HS.out.stop mlt_strict (fun p2 y2 h => by
              have := List.append_inj_right' h rfl
              injection this with this
              rw [← this]; exact hv))
            have HOWN := hid hown
            clear hown
            go_wp2_with fail
            go_region_held3 (fun w' => w'.cell? ⟨g, (m + 1) * 2, none⟩ = some (.int .i64 x.to) ∧ w'.cell? ⟨g, (m + 1) * 2 + 1, none⟩ = some (.int .i64 x.val) ∧ w'.cell? ⟨g, m * 2, none⟩ = some (.int .i64 y.to) ∧ w'.cell? ⟨g, m * 2 + 1, none⟩ = some (.int .i64 y.val)) (first | exact HK.out _ _ b3 | go_keep) ((go_at_call 85; refine (HO2.out 1).mono ?_; rintro r w3 ⟨rfl, b3⟩))
            all_goals
              have b13 : Below wr.heap.size wr w3 := (below_drewN (Below.refl wr.heap.size wr) 1).trans b3
              go_wp2_with fail
              go_roundw
              case rel => exact ⟨k + 1, c3, some ⟨g, 0, none⟩, p' ++ [y] ++ x :: q, by omega, by go_num, rfl, hid hLl, hid HST.out.1, hid HST.out.2, HOWN.out.below b13 (Nat.le_refl _), hbel.trans (b13.mono hbr)⟩
              case measure => simp [intOf]; omega
          | true =>
            rw [hv] at HO2
            have HD := hid (HS.out.down hv)
            have HSW := hid (swap_at p' q x y)
            rw [hm] at HSW
            go_wp2_with fail
            go_region_held3 (fun w' => w'.cell? ⟨g, (m + 1) * 2, none⟩ = some (.int .i64 x.to) ∧ w'.cell? ⟨g, (m + 1) * 2 + 1, none⟩ = some (.int .i64 x.val) ∧ w'.cell? ⟨g, m * 2, none⟩ = some (.int .i64 y.to) ∧ w'.cell? ⟨g, m * 2 + 1, none⟩ = some (.int .i64 y.val)) (first | exact HK.out _ _ b3 | go_keep) ((go_at_call 85; refine (HO2.out 1).mono ?_; rintro r w3 ⟨rfl, b3⟩))
            all_goals
              have b13 : Below wr.heap.size wr w3 := (below_drewN (Below.refl wr.heap.size wr) 1).trans b3
              obtain ⟨c0', c1', d0', d1'⟩ := HK.out 1 w3 b3
              have hown3 := hown.below b13 (Nat.le_refl _)
              obtain ⟨g', hg', hgB, hgs, hgc, hgf, hput⟩ := heap_put (cells := Mail.cells) (sz := 2) (fun _ => rfl) hown3 hLx y (fun pt hpt => by cases hpt) (by decide)
              injection hg' with hg'
              injection hg' with hg'
              subst hg'
              obtain ⟨g', hg', hgB2, hgs2, hgc2, hgf2, hput2⟩ := heap_put (cells := Mail.cells) (sz := 2) (fun _ => rfl) hput (k := m) (x := y) (by rw [List.getElem?_set_ne (by omega)]; exact hLy) x (fun pt hpt => by cases hpt) (by decide)
              injection hg' with hg'
              injection hg' with hg'
              subst hg'
              have hgs3 : g < w3.heap.size := by have := b13.size; omega
              have hgz3 : g ≠ w3.heap.size := by omega
              have f0 := hgf ((m + 1) * 2)
              have f1 := hgf ((m + 1) * 2 + 1)
              have f2 := hgf (m * 2)
              have f3 := hgf (m * 2 + 1)
              rw [HSW.out] at hput2
              have HP := hid hput2
              have HB3 := hid (hbel.trans (b13.mono hbr))
              have hz3 : w.heap.size ≤ w3.heap.size := HB3.out.size
              clear hput hput2 hgc hgf hgc2 hgf2 hown3 hown c0 c1 d0 d1 HSW
              go_wp2_with fail
              go_roundw
              case rel => exact ⟨p', y :: q, x, by rw [hm], HD, hid (by have := HLEN.out; rw [hpl] at this; simp; omega), by omega, HP.out.alloc _, ((((HB3.out.setCell hgB _).setCell hgB _).setCell hgB _).setCell hgB _).alloc (by simpa using hz3) _⟩
              case measure => simp [intOf]
    · obtain rfl : k = l.length := by omega
      have HE := hid (srtOf_eq mlt_strict (show acc.Perm l by have := HPERM.out; rwa [List.take_length] at this) HSRT.out)
      have HO := hid hown.1
      have HLL := hid HAL.out
      clear hown
      go_wp2_with fail
      go_ret
      refine ⟨A', c', rfl, ?_, hbel⟩
      have h := HO.out
      rw [HLL.out] at h
      rw [HE.out]
      exact h
end Go.Proofs.Ytifpngjipkmdcaa

