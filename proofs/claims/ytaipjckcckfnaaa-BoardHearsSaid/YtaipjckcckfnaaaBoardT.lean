/- The document's BoardReady. -/
import Derived.Test.YtaipjckcckfnaaaBoardS
namespace Go.Proofs.Ytaipjckcckfnaaa
open Go.ChangeShapes Go.WideShapes Go.ChangeAt Go.RowKit
set_option linter.unusedVariables false
theorem len_le {wk ep st : Int} {l : List Report} (h : bdOk wk ep st l) : (l.length : Int) ≤ wk := by
  have h1 := accW_all (f := fun _ => 1) h (n := wk.toNat) (by have := h.1.1.1; omega)
  rw [sumOf_one] at h1
  have := accW_one (l := l) wk.toNat
  have := h.1.1.1
  omega
/-- The reports 'i' and 'm' agree. -/
def agP (l : List Report) (i m : Nat) : Prop := ∀ x y, l[i]? = some x → l[m]? = some y → x.sent.getD y.worker.toNat 0 = y.got.getD x.worker.toNat 0
theorem agree_pos {l : List Report} (h : ∀ i m : Nat, i < l.length → m < l.length → agP l i m) : agree l := by
  intro x hx y hy
  obtain ⟨i, hi⟩ := List.mem_iff_getElem?.1 hx
  obtain ⟨m, hm⟩ := List.mem_iff_getElem?.1 hy
  exact h i m (List.getElem?_eq_some_iff.1 hi).1 (List.getElem?_eq_some_iff.1 hm).1 x y hi hm
theorem agP_of {l : List Report} {i m u v : Nat} {x y : Report} (hx : l[i]? = some x) (hy : l[m]? = some y) (hxw : x.worker = (u : Int)) (hyw : y.worker = (v : Int)) {p q : Int} (hp : x.sent[v]? = some p) (hq : y.got[u]? = some q) (he : p = q) : agP l i m := by
  intro x' y' hx' hy'
  rw [hx] at hx'; injection hx' with hx'; subst hx'
  rw [hy] at hy'; injection hy' with hy'; subst hy'
  rw [hxw, hyw, Int.toNat_natCast, Int.toNat_natCast, List.getD_eq_getElem?_getD, List.getD_eq_getElem?_getD, hp, hq]
  exact he
theorem takeBound {f : Report → Int} {l : List Report} (hf : ∀ r ∈ l, 0 ≤ f r ∧ f r ≤ 1099511627776) (k : Nat) (hk : k ≤ 8) : 0 ≤ sumOf f (l.take k) ∧ sumOf f (l.take k) ≤ 8 * 1099511627776 := by
  have h := sumOf_bound (f := f) (l := l.take k) fun r hr => hf r (List.mem_of_mem_take hr)
  have : (l.take k).length ≤ k := by rw [List.length_take]; omega
  omega
def BtRel (wk ep st : Int) (A : Option Addr) (c : Nat) (l : List MRep) (w : World) (s5 s6 i : Value) (wr : World) : Prop :=
  ∃ k : Nat, k ≤ l.length ∧ i = .int .i64 k ∧ s5 = .int .i64 (sumOf (·.waking) ((repsOf l).take k)) ∧ s6 = .int .i64 (sumOf (·.opn) ((repsOf l).take k)) ∧ BdW wk ep st A l.length c w wr ∧ Hid (∀ i m : Nat, i < k → m < l.length → agP (repsOf l) i m)
set_option maxRecDepth 100000 in
set_option maxHeartbeats 8000000 in
theorem bdReady_walk (wk ep st : Int) (A : Option Addr) (c : Nat) (l : List MRep) (w : World) (hr : Reps w w.heap.size A l) (hn : l.length * 88 ≤ 140737488355328) (hs : ∀ x ∈ l, x.r.sent.length * 8 ≤ 140737488355328 ∧ x.r.got.length * 8 ≤ 140737488355328) :
    Calls Try.prog 7 #[.agg (boardC wk ep st A l.length c)] w (RetIII w (readyV wk ep st (repsOf l))) := by
  have hw0 := BdW.start wk ep st A l.length c w
  have hmay := bdMay_walk wk ep st A c l _ (hr.b (bA (Below.refl w.heap.size w) (.cells #[.int .i64 wk, .int .i64 ep, .int .i64 st, .slice A l.length c] 24))) hn hs
  unfold boardC at hmay ⊢
  cases hok : bdB wk ep st (repsOf l) with
  | false =>
    have HE := hid (readyV_bad (bdB_bad hok))
    rw [hok] at hmay
    have HM := hid hmay
    clear hmay hok
    go_enter Try.func7, Try.ntmps7
    go_wp2_with fail
    refine HM.out.mono ?_
    rintro e w1 ⟨rfl, b1⟩
    have hw1 := hw0.b b1
    go_wp2_with fail
    refine bodyPost_ret (v := .tuple #[.int .i64 0, .int .i64 0, .int .i64 9]) (by simp [results, Try.results7, go_sem, *]) rfl ?_
    rw [HE.out]
    exact ⟨rfl, hw1.2.2.2.2.2⟩
  | true =>
    have HOK := hid (bdB_ok hok)
    rw [hok] at hmay
    have HM := hid hmay
    have hwk : 1 ≤ wk ∧ wk ≤ 8 := HOK.out.1.1
    have hlen := len_le HOK.out
    rw [repsOf_len] at hlen
    have hl8 : l.length ≤ 8 := by omega
    clear hmay hok
    go_enter Try.func7, Try.ntmps7
    go_wp2_with fail
    refine HM.out.mono ?_
    rintro e w1 ⟨rfl, b1⟩
    have hw1 := hw0.b b1
    have HW1 := hid hw1
    clear hw0 b1
    obtain ⟨q0, q1, q2, q3, hsz, hbel⟩ := hw1
    by_cases hlt : (l.length : Int) < wk
    · have HE := hid (readyV_short HOK.out (by rw [repsOf_len]; exact hlt))
      go_wp2_with fail
      refine bodyPost_ret (v := .tuple #[.int .i64 0, .int .i64 0, .int .i64 12]) (by simp [results, Try.results7, go_sem, *]) rfl ?_
      rw [HE.out]
      exact ⟨rfl, hbel⟩
    · have HLT := hid hlt
      have HW : Hid (∀ r ∈ repsOf l, 0 ≤ r.waking ∧ r.waking ≤ 1099511627776) := hid fun r hr => (repV_zero (HOK.out.2.1 r hr)).2.2.2.1
      have HP : Hid (∀ r ∈ repsOf l, 0 ≤ r.opn ∧ r.opn ≤ 1099511627776) := hid fun r hr => (repV_zero (HOK.out.2.1 r hr)).2.2.2.2
      go_wp2_with fail
      go_loopw [5, 6, 7] (BtRel wk ep st A c l w) (fun _ _ i _ => l.length - (intOf i).toNat)
      case atStart => exact ⟨0, by omega, rfl, rfl, rfl, HW1.out, hid fun i m hi => by omega⟩
      case round =>
        clear q0 q1 q2 q3 hsz hbel
        obtain ⟨k, hk, rfl, rfl, rfl, hW, HA⟩ := hrel
        have HWr := hid hW
        obtain ⟨q0, q1, q2, q3, hsz, hbel⟩ := hW
        by_cases hkl : k < l.length
        · obtain ⟨x, hx⟩ : ∃ x, l[k]? = some x := ⟨_, List.getElem?_eq_getElem hkl⟩
          have hxr := List.mem_of_getElem? (repsOf_get hx)
          have hfx := repV_zero (HOK.out.2.1 x.r hxr)
          have hxwk := HW.out x.r hxr
          have hxop := HP.out x.r hxr
          have hdx := Reps.data hr (List.mem_of_getElem? hx)
          obtain ⟨b, off, rfl, hb, c0, c1, c2, c3, c4, c5, c6⟩ := rep_cells (hr.1.below hbel) rfl hx
          have HX := hid (repsOf_get hx)
          have HSW := hid (sumOf_snoc (f := (·.waking)) (repsOf_get hx))
          have HSO := hid (sumOf_snoc (f := (·.opn)) (repsOf_get hx))
          have hbw := takeBound HW.out k (by omega)
          have hbo := takeBound HP.out k (by omega)
          generalize sumOf (·.waking) ((repsOf l).take k) = aw at *
          generalize sumOf (·.opn) ((repsOf l).take k) = ao at *
          have hwr1 : IntKind.i64.wrap (aw + x.r.waking) = aw + x.r.waking := IntWalk.i64_in _ (by omega)
          have hwr2 : IntKind.i64.wrap (ao + x.r.opn) = ao + x.r.opn := IntWalk.i64_in _ (by omega)
          have hkz : (k : Int) < (l.length : Int) := by omega
          have hbr : b < wr.heap.size := by omega
          obtain ⟨⟨hxw0, hxw1⟩, ⟨hxs, -⟩, ⟨hxg, -⟩, -⟩ := hfx
          clear hx hxr hbw hbo hxwk hxop
          obtain ⟨xA, xc, xA', xc', ⟨worker, epoch, step, sent, got, waking, opn⟩⟩ := x
          simp only at c0 c1 c2 c3 c4 c5 c6 HX hwr1 hwr2 hxw0 hxw1 hxs hxg HSW HSO
          obtain ⟨u, rfl⟩ : ∃ u : Nat, worker = u := ⟨worker.toNat, by omega⟩
          obtain ⟨wo, hwo⟩ : ∃ wo, wo = wr := ⟨_, rfl⟩
          subst hwo
          have hW2 := hid (HWr.out.b (bA (Below.refl wo.heap.size wo) (.cells #[.int .i64 u, .int .i64 epoch, .int .i64 step, .slice xA sent.length xc, .slice xA' got.length xc', .int .i64 waking, .int .i64 opn] 33)))
          obtain ⟨V, hV⟩ : ∃ V, V = wo.alloc (.cells #[.int .i64 u, .int .i64 epoch, .int .i64 step, .slice xA sent.length xc, .slice xA' got.length xc', .int .i64 waking, .int .i64 opn] 33) := ⟨_, rfl⟩
          have v0 : V.cell? ⟨wo.heap.size, 0, none⟩ = some (.int .i64 u) := by rw [hV]; go_simp
          have v3 : V.cell? ⟨wo.heap.size, 3, none⟩ = some (.slice xA sent.length xc) := by rw [hV]; go_simp
          have v5 : V.cell? ⟨wo.heap.size, 5, none⟩ = some (.int .i64 waking) := by rw [hV]; go_simp
          have v6 : V.cell? ⟨wo.heap.size, 6, none⟩ = some (.int .i64 opn) := by rw [hV]; go_simp
          rw [← hV] at hW2
          have hVs : wo.heap.size + 1 ≤ V.heap.size := by rw [hV]; simp
          go_wp2_with fail
          go_loopw [9] (fun i wr2 => ∃ m : Nat, m ≤ l.length ∧ i = .int .i64 m ∧ Below V.heap.size V wr2 ∧ Hid (∀ m' : Nat, m' < m → agP (repsOf l) k m')) (fun i _ => l.length - (intOf i).toNat)
          case atStart => exact ⟨0, by omega, rfl, hV ▸ Below.refl _ _, hid fun m' hm => by omega⟩
          case round =>
            clear q0 q1 q2 q3 hsz c0 c1 c2 c3 c4 c5 c6
            clear hV
            obtain ⟨m, hm, rfl, hbel2, HM2⟩ := hrel
            have HW2 := hid (hW2.out.b hbel2)
            obtain ⟨q0, q1, q2, q3, hsz, hbb2⟩ := HW2.out
            have v0 := keepb hbel2 v0
            have v3 := keepb hbel2 v3
            have v5 := keepb hbel2 v5
            have v6 := keepb hbel2 v6
            have hV2 := hbel2.size
            by_cases hml : m < l.length
            · obtain ⟨y, hy⟩ : ∃ y, l[m]? = some y := ⟨_, List.getElem?_eq_getElem hml⟩
              have hyr := List.mem_of_getElem? (repsOf_get hy)
              have hfy := repV_zero (HOK.out.2.1 y.r hyr)
              have hdy := Reps.data hr (List.mem_of_getElem? hy)
              obtain ⟨b', off', hA', hb', d0, d1, d2, d3, d4, d5, d6⟩ := rep_cells (hr.1.below hbb2) rfl hy
              injection hA' with hA'
              injection hA' with hb1 hb2
              subst hb1 hb2
              have HY := hid (repsOf_get hy)
              obtain ⟨⟨hyw0, hyw1⟩, ⟨hys, -⟩, ⟨hyg, -⟩, -⟩ := hfy
              clear hy hyr hb'
              obtain ⟨yA, yc, yA', yc', ⟨yworker, yepoch, ystep, ysent, ygot, ywaking, yopn⟩⟩ := y
              simp only at d0 d1 d2 d3 d4 d5 d6 HY hyw0 hyw1 hys hyg
              obtain ⟨v, rfl⟩ : ∃ v : Nat, yworker = v := ⟨yworker.toNat, by omega⟩
              obtain ⟨p, hp⟩ : ∃ p, sent[v]? = some p := ⟨_, List.getElem?_eq_getElem (by omega)⟩
              obtain ⟨q, hq⟩ : ∃ q, ygot[u]? = some q := ⟨_, List.getElem?_eq_getElem (by omega)⟩
              obtain ⟨pb, po, hpa, hpb2, cp⟩ := icellB (Rd.below hdx.1 hbb2) rfl hp
              obtain ⟨qb, qo, hqa, hqb2, cq⟩ := icellB (Rd.below hdy.2 hbb2) rfl hq
              simp only at hpa hqa cp cq
              have HPP := hid hp
              have HQQ := hid hq
              subst hpa hqa
              have hsz1 : (v : Int) < (sent.length : Int) := by omega
              have hgz : (u : Int) < (ygot.length : Int) := by omega
              have hmz : (m : Int) < (l.length : Int) := by omega
              have hbr2 : b < wr.heap.size := by omega
              have hpr2 : pb < wr.heap.size := by omega
              have hqr2 : qb < wr.heap.size := by omega
              have hwr2s : wo.heap.size < wr.heap.size := by omega
              have bX := bA (Below.refl wr.heap.size wr) (.cells #[.int .i64 v, .int .i64 yepoch, .int .i64 ystep, .slice yA ysent.length yc, .slice (some ⟨qb, qo, none⟩) ygot.length yc', .int .i64 ywaking, .int .i64 yopn] 33)
              clear hp hq hdy
              by_cases hpq : p = q
              · have HN : Hid (∀ m' : Nat, m' < m + 1 → agP (repsOf l) k m') := hid fun m' hm' => by
                  rcases Nat.lt_or_ge m' m with h2 | h2
                  · exact HM2.out m' h2
                  · obtain rfl : m' = m := by omega
                    exact agP_of HX.out HY.out rfl rfl HPP.out HQQ.out hpq
                have hpqb : (p != q) = false := by simpa using hpq
                clear hpq
                go_wp2_with fail
                go_quiet (fail)
                go_wp2_with fail
                go_roundw
                case rel => exact ⟨m + 1, by omega, by go_num, below_drewN (bT hbel2 bX) _, HN⟩
                case measure => simp [intOf]; omega
              · have HE := hid (readyV_wait HOK.out (not_agree (List.mem_of_getElem? HX.out) (List.mem_of_getElem? HY.out) rfl rfl HPP.out HQQ.out hpq))
                have hpqb : (p != q) = true := by simpa using hpq
                clear hpq
                go_wp2_with fail
                go_quiet (fail)
                go_wp2_with fail
                refine bodyPost_ret (v := .tuple #[.int .i64 0, .int .i64 0, .int .i64 12]) (by simp [results, Try.results7, go_sem, *]) rfl ?_
                rw [HE.out]
                exact ⟨rfl, below_drewN (bT hbb2 bX) _⟩
            · obtain rfl : m = l.length := by omega
              have HN : Hid (∀ i m : Nat, i < k + 1 → m < l.length → agP (repsOf l) i m) := hid fun i m hi hm => by
                rcases Nat.lt_or_ge i k with h2 | h2
                · exact HA.out i m h2 hm
                · obtain rfl : i = k := by omega
                  exact HM2.out m hm
              go_wp2_with fail
              go_roundw
              case rel => exact ⟨k + 1, by omega, by go_num, by rw [HSW.out], by rw [HSO.out], HW2.out, HN⟩
              case measure => simp [intOf]; omega
        · obtain rfl : k = l.length := by omega
          have HE := hid (readyV_go HOK.out (by rw [repsOf_len]; have := HLT.out; omega) (agree_pos fun i m hi hm => by rw [repsOf_len] at hi hm; exact HA.out i m hi hm))
          rw [List.take_of_length_le (by rw [repsOf_len]; exact Nat.le_refl _)]
          generalize sumOf (·.waking) (repsOf l) = aw at *
          generalize sumOf (·.opn) (repsOf l) = ao at *
          go_wp2_with fail
          refine bodyPost_ret (v := .tuple #[.int .i64 aw, .int .i64 ao, .int .i64 0]) (by simp [results, Try.results7, go_sem, *]) rfl ?_
          rw [HE.out]
          exact ⟨rfl, hbel⟩
end Go.Proofs.Ytaipjckcckfnaaa
