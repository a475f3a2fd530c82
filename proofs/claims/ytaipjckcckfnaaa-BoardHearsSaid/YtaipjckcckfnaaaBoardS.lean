/- The program's board.Ready. -/
import Derived.Test.YtaipjckcckfnaaaBoardR
namespace Go.Proofs.Ytaipjckcckfnaaa
open Go.ChangeShapes Go.WideShapes Go.ChangeAt Go.RowKit
set_option linter.unusedVariables false
theorem rep_same {wk ep st : Int} {l : List Report} (h : bdOk wk ep st l) {x y : Report} (hx : x ∈ l) (hy : y ∈ l) (he : x.worker = y.worker) : x = y := by
  obtain ⟨i, hi⟩ := List.mem_iff_getElem?.1 hx
  obtain ⟨j, hj⟩ := List.mem_iff_getElem?.1 hy
  have hil := (List.getElem?_eq_some_iff.1 hi).1
  have hjl := (List.getElem?_eq_some_iff.1 hj).1
  rcases Nat.lt_trichotomy i j with h1 | h1 | h1
  · exact absurd he ((bdPre_of h).2 i j x y h1 hjl hi hj)
  · subst h1; rw [hi] at hj; injection hj
  · exact absurd he.symm ((bdPre_of h).2 j i y x h1 hil hj hi)
/-- What worker 'i' sent to 'm' has come. -/
def agAt (l : List Report) (i m : Nat) : Prop := ∀ x ∈ l, ∀ y ∈ l, x.worker = (i : Int) → y.worker = (m : Int) → x.sent.getD m 0 = y.got.getD i 0
theorem agAt_of {wk ep st : Int} {l : List Report} (h : bdOk wk ep st l) {i m : Nat} {x y : Report} (hx : x ∈ l) (hy : y ∈ l) (hxi : x.worker = (i : Int)) (hym : y.worker = (m : Int)) {p q : Int} (hp : x.sent[m]? = some p) (hq : y.got[i]? = some q) (he : p = q) : agAt l i m := by
  intro x' hx' y' hy' h1 h2
  rw [rep_same h hx' hx (h1.trans hxi.symm), rep_same h hy' hy (h2.trans hym.symm)]
  rw [List.getD_eq_getElem?_getD, List.getD_eq_getElem?_getD, hp, hq]
  exact he
theorem not_agree {l : List Report} {i m : Nat} {x y : Report} (hx : x ∈ l) (hy : y ∈ l) (hxi : x.worker = (i : Int)) (hym : y.worker = (m : Int)) {p q : Int} (hp : x.sent[m]? = some p) (hq : y.got[i]? = some q) (he : p ≠ q) : ¬ agree l := by
  intro h
  have := h x hx y hy
  rw [hxi, hym, Int.toNat_natCast, Int.toNat_natCast, List.getD_eq_getElem?_getD, List.getD_eq_getElem?_getD, hp, hq] at this
  exact he this
theorem agree_of {wk ep st : Int} {l : List Report} (h : bdOk wk ep st l) {n : Nat} (hn : (n : Int) = wk) (ha : ∀ i m : Nat, i < n → m < n → agAt l i m) : agree l := by
  intro x hx y hy
  have h1 := (repV_zero (h.2.1 x hx)).1
  have h2 := (repV_zero (h.2.1 y hy)).1
  exact ha x.worker.toNat y.worker.toNat (by omega) (by omega) x hx y hy (by omega) (by omega)
abbrev RetIII (w : World) (z : Int × Int × Int) (e : Ending) (w' : World) : Prop := e = .returned (.tuple #[.int .i64 z.1, .int .i64 z.2.1, .int .i64 z.2.2]) ∧ Below w.heap.size w w'
set_option maxRecDepth 100000 in
set_option maxHeartbeats 8000000 in
theorem ready_walk (wk ep st : Int) (A : Option Addr) (c : Nat) (l : List MRep) (w : World) (hr : Reps w w.heap.size A l) (hn : l.length * 88 ≤ 140737488355328) (hs : ∀ x ∈ l, x.r.sent.length * 8 ≤ 140737488355328 ∧ x.r.got.length * 8 ≤ 140737488355328) :
    Calls Try.prog 6 #[.agg (boardC wk ep st A l.length c)] w (RetIII w (readyV wk ep st (repsOf l))) := by
  have hw0 := BdW.start wk ep st A l.length c w
  have HRD := hid (read_walk wk ep st A c l _ (hr.b (bA (Below.refl w.heap.size w) (.cells #[.int .i64 wk, .int .i64 ep, .int .i64 st, .slice A l.length c] 24))) hn hs)
  unfold boardC at HRD ⊢
  have b0 := hw0.2.2.2.2.2
  clear hw0
  go_enter Try.func6, Try.ntmps6
  go_wp2_with fail
  refine HRD.out.mono ?_
  rintro e w1 ⟨b1, ⟨hok, n, gb, rfl, rfl, own⟩ | ⟨hno, rfl⟩⟩
  · have HOK := hid hok
    have hwk : 1 ≤ (n : Int) ∧ (n : Int) ≤ 8 := hok.1.1
    have hn8 : n ≤ 8 := by omega
    have bb := bT b0 b1
    have hgb := own.lt gb rfl
    clear hok b0 b1 HRD
    go_wp2_with fail
    go_loopw [2, 3, 8, 22] (fun s2 s3 _ i wr => ∃ k : Nat, k ≤ n ∧ i = .int .i64 k ∧ s2 = .int .i64 0 ∧ s3 = .int .i64 0 ∧ w1 = wr ∧ Hid (∀ i : Nat, i < k → ∃ (j : Nat) (x : MRep), l[j]? = some x ∧ x.r.worker = (i : Int) ∧ byV A (repsOf l) i = ptrAt A j)) (fun _ _ _ i _ => n - (intOf i).toNat)
    case atStart => exact ⟨0, by omega, rfl, rfl, rfl, rfl, hid fun i hi => by omega⟩
    case round =>
      obtain ⟨k, hk, rfl, rfl, rfl, rfl, H0⟩ := hrel
      by_cases hlt : k < n
      · have hkz : (k : Int) < (n : Int) := by omega
        have hbv := byL_get (A := A) (l := repsOf l) hlt
        rcases byV_cases A (repsOf l) k with ⟨hbe, hnone⟩ | ⟨j, x, hx, hxw, hbe⟩
        · have HE := hid (readyV_short HOK.out (short_of HOK.out rfl hlt hnone))
          rw [hbe] at hbv
          obtain ⟨gc, -⟩ := own_at own hbv
          clear hbv hbe hnone
          go_wp2_with fail
          refine bodyPost_ret (v := .tuple #[.int .i64 0, .int .i64 0, .int .i64 12]) (by simp [results, Try.results6, go_sem, *]) rfl ?_
          rw [HE.out]
          exact ⟨rfl, bb⟩
        · obtain ⟨mx, hmx, rfl⟩ := repsOf_some hx
          have HN : Hid (∀ i : Nat, i < k + 1 → ∃ (j : Nat) (x : MRep), l[j]? = some x ∧ x.r.worker = (i : Int) ∧ byV A (repsOf l) i = ptrAt A j) := hid fun i hi => by
            rcases Nat.lt_or_ge i k with h2 | h2
            · exact H0.out i h2
            · obtain rfl : i = k := by omega
              exact ⟨j, mx, hmx, hxw, hbe⟩
          obtain ⟨b, off, rfl, -, -⟩ := rep_cells (hr.1.below bb) rfl hmx
          rw [hbe] at hbv
          unfold ptrAt at hbv
          simp only at hbv
          obtain ⟨gc, -⟩ := own_at own hbv
          clear hbv hbe hx hxw hmx
          go_wp2_with fail
          go_roundw
          case rel => exact ⟨k + 1, by omega, by go_num, rfl, rfl, by first | rfl | trivial, HN⟩
          case measure => simp [intOf]; omega
      · obtain rfl : k = n := by omega
        have HLEN := hid (full_of HOK.out rfl fun i hi => by
          obtain ⟨j, x, hx, hxw, -⟩ := H0.out i hi
          exact ⟨j, x.r, repsOf_get hx, hxw⟩)
        have HW : Hid (∀ r ∈ repsOf l, 0 ≤ r.waking ∧ r.waking ≤ 1099511627776) := hid fun r hr => (repV_zero (HOK.out.2.1 r hr)).2.2.2.1
        have HP : Hid (∀ r ∈ repsOf l, 0 ≤ r.opn ∧ r.opn ≤ 1099511627776) := hid fun r hr => (repV_zero (HOK.out.2.1 r hr)).2.2.2.2
        obtain ⟨W, hWW⟩ : ∃ W, W = w1 := ⟨_, rfl⟩
        subst hWW
        go_wp2_with fail
        go_loopw [2, 3, 9, 10, 11, 12, 31] (fun s2 s3 _ _ _ _ i wr => ∃ i' : Nat, i' ≤ k ∧ i = .int .i64 i' ∧ s2 = .int .i64 (accW (·.waking) (repsOf l) i') ∧ s3 = .int .i64 (accW (·.opn) (repsOf l) i') ∧ Below W.heap.size W wr ∧ Hid (∀ i m : Nat, i < i' → m < k → agAt (repsOf l) i m)) (fun _ _ _ _ _ _ i _ => k - (intOf i).toNat)
        case atStart => exact ⟨0, by omega, rfl, rfl, rfl, Below.refl _ _, hid fun i m hi => by omega⟩
        case round =>
          obtain ⟨i, hi, rfl, rfl, rfl, hbel, HA⟩ := hrel
          by_cases hil : i < k
          · have hiz : (i : Int) < (k : Int) := by omega
            obtain ⟨j, x, hx, hxw, hbe⟩ := H0.out i hil
            have HX := hid (List.mem_of_getElem? (repsOf_get hx))
            have HXW := hid hxw
            have hsx := (repV_zero (HOK.out.2.1 x.r HX.out)).2.1.1
            have hdx := Reps.data hr (List.mem_of_getElem? hx)
            obtain ⟨b, off, rfl, hb, -, -, -, -, -, -, -⟩ := rep_cells (hr.1.below bb) rfl hx
            have hbv := byL_get (A := some ⟨b, off, none⟩) (l := repsOf l) hil
            rw [hbe] at hbv
            unfold ptrAt at hbv
            simp only at hbv
            have hown := own_below (base' := w.heap.size) own hbel (by simp)
            obtain ⟨gc, -⟩ := own_at hown hbv
            obtain ⟨b', off', hA', -, -, -, -, -, -, c5, c6⟩ := rep_cells (hr.1.below (bT bb hbel)) rfl hx
            injection hA' with hA'
            injection hA' with hb1 hb2
            subst hb1 hb2
            have HC5 := hid c5
            have HC6 := hid c6
            have HX0 := hid hx
            have HACW := hid (accW_find (f := (·.waking)) HOK.out (repsOf_get hx) hxw)
            have HACO := hid (accW_find (f := (·.opn)) HOK.out (repsOf_get hx) hxw)
            have hbw := accW_bound (f := (·.waking)) HW.out i
            have hbo := accW_bound (f := (·.opn)) HP.out i
            have hxwk := HW.out x.r HX.out
            have hxop := HP.out x.r HX.out
            generalize accW (·.waking) (repsOf l) i = aw at *
            generalize accW (·.opn) (repsOf l) i = ao at *
            have hwr1 : IntKind.i64.wrap (aw + x.r.waking) = aw + x.r.waking := IntWalk.i64_in _ (by omega)
            have hwr2 : IntKind.i64.wrap (ao + x.r.opn) = ao + x.r.opn := IntWalk.i64_in _ (by omega)
            clear hbv hbe hx hxw c5 c6 hbw hbo hxwk hxop hown
            go_wp2_with fail
            go_loopw [2, 3, 11, 12, 38] (fun s2 s3 _ _ m wr2 => ∃ m' : Nat, m' ≤ k ∧ m = .int .i64 m' ∧ s2 = .int .i64 aw ∧ s3 = .int .i64 ao ∧ Below wr.heap.size wr wr2 ∧ Hid (∀ m : Nat, m < m' → agAt (repsOf l) i m)) (fun _ _ _ _ m _ => k - (intOf m).toNat)
            case atStart => exact ⟨0, by omega, rfl, rfl, rfl, Below.refl _ _, hid fun m hm => by omega⟩
            case round =>
              obtain ⟨m, hm, rfl, rfl, rfl, hbel2, HM⟩ := hrel
              rename_i wr2 _
              have hbb2 := bT (bT bb hbel) hbel2
              by_cases hml : m < k
              · have hmz : (m : Int) < (k : Int) := by omega
                obtain ⟨j2, y, hy, hyw, hbe⟩ := H0.out m hml
                have hyr := List.mem_of_getElem? (repsOf_get hy)
                have HY := hid hyr
                have HYW := hid hyw
                have hgy := (repV_zero (HOK.out.2.1 y.r hyr)).2.2.1.1
                have hdy := Reps.data hr (List.mem_of_getElem? hy)
                have hbv := byL_get (A := some ⟨b, off, none⟩) (l := repsOf l) hml
                rw [hbe] at hbv
                unfold ptrAt at hbv
                simp only at hbv
                have hown := own_below (base' := w.heap.size) own (bT hbel hbel2) (by simp)
                obtain ⟨gc, -⟩ := own_at hown hbv
                obtain ⟨b', off', hA', -, -, -, -, c3, -, -, -⟩ := rep_cells (hr.1.below hbb2) rfl HX0.out
                injection hA' with hA'
                injection hA' with hb1 hb2
                subst hb1 hb2
                obtain ⟨b', off', hA', -, -, -, -, -, d4, -, -⟩ := rep_cells (hr.1.below hbb2) rfl hy
                injection hA' with hA'
                injection hA' with hb1 hb2
                subst hb1 hb2
                obtain ⟨p, hp⟩ : ∃ p, x.r.sent[m]? = some p := ⟨_, List.getElem?_eq_getElem (by omega)⟩
                obtain ⟨q, hq⟩ : ∃ q, y.r.got[i]? = some q := ⟨_, List.getElem?_eq_getElem (by omega)⟩
                obtain ⟨pb, po, hpa, -, cp⟩ := icellB (Rd.below hdx.1 hbb2) rfl hp
                obtain ⟨qb, qo, hqa, -, cq⟩ := icellB (Rd.below hdy.2 hbb2) rfl hq
                rw [hpa] at c3
                rw [hqa] at d4
                have hsz : (m : Int) < (x.r.sent.length : Int) := by omega
                have hgz : (i : Int) < (y.r.got.length : Int) := by omega
                by_cases hpq : p = q
                · have HN : Hid (∀ m' : Nat, m' < m + 1 → agAt (repsOf l) i m') := hid fun m' hm' => by
                    rcases Nat.lt_or_ge m' m with h2 | h2
                    · exact HM.out m' h2
                    · obtain rfl : m' = m := by omega
                      exact agAt_of HOK.out HX.out HY.out HXW.out HYW.out hp hq hpq
                  have hpqb : (p != q) = false := by simpa using hpq
                  clear hbv hbe hy hyw hown hyr hp hq hpq hpa hqa hdy
                  go_wp2_with fail
                  go_quiet (fail)
                  go_wp2_with fail
                  go_roundw
                  case rel => exact ⟨m + 1, by omega, by go_num, rfl, rfl, below_drewN hbel2 _, HN⟩
                  case measure => simp [intOf]; omega
                · have HE := hid (readyV_wait HOK.out (not_agree HX.out HY.out HXW.out HYW.out hp hq hpq))
                  have hpqb : (p != q) = true := by simpa using hpq
                  clear hbv hbe hy hyw hown hyr hp hq hpq hpa hqa hdy
                  go_wp2_with fail
                  go_quiet (fail)
                  go_wp2_with fail
                  refine bodyPost_ret (v := .tuple #[.int .i64 0, .int .i64 0, .int .i64 12]) (by simp [results, Try.results6, go_sem, *]) rfl ?_
                  rw [HE.out]
                  exact ⟨rfl, below_drewN hbb2 _⟩
              · obtain rfl : m = k := by omega
                have HN : Hid (∀ i' m' : Nat, i' < i + 1 → m' < m → agAt (repsOf l) i' m') := hid fun i' m' hi' hm' => by
                  rcases Nat.lt_or_ge i' i with h2 | h2
                  · exact HA.out i' m' h2 hm'
                  · obtain rfl : i' = i := by omega
                    exact HM.out m' hm'
                have e5 := keepb hbel2 HC5.out
                have e6 := keepb hbel2 HC6.out
                go_wp2_with fail
                go_roundw
                case rel => exact ⟨i + 1, by omega, by go_num, by rw [HACW.out], by rw [HACO.out], bT hbel hbel2, HN⟩
                case measure => simp [intOf]; omega
          · obtain rfl : i = k := by omega
            have HE := hid (readyV_go HOK.out (by have := HLEN.out; omega) (agree_of HOK.out rfl fun a b ha hb => HA.out a b ha hb))
            have HSW := hid (accW_all (f := (·.waking)) HOK.out (n := i) rfl)
            have HSO := hid (accW_all (f := (·.opn)) HOK.out (n := i) rfl)
            generalize accW (·.waking) (repsOf l) i = aw at *
            generalize accW (·.opn) (repsOf l) i = ao at *
            go_wp2_with fail
            refine bodyPost_ret (v := .tuple #[.int .i64 aw, .int .i64 ao, .int .i64 0]) (by simp [results, Try.results6, go_sem, *]) rfl ?_
            rw [HE.out, ← HSW.out, ← HSO.out]
            exact ⟨rfl, bT bb hbel⟩
  · have HE := hid (readyV_bad hno)
    go_wp2_with fail
    refine bodyPost_ret (v := .tuple #[.int .i64 0, .int .i64 0, .int .i64 9]) (by simp [results, Try.results6, go_sem, *]) rfl ?_
    rw [HE.out]
    exact ⟨rfl, bT b0 b1⟩
end Go.Proofs.Ytaipjckcckfnaaa
