/- The document's Pushed. -/
import Derived.Test.YtifpngjipkmdcaaQuPu
import Derived.Test.YtifpngjipkmdcaaQueR
namespace Go.Proofs.Ytifpngjipkmdcaa
open Go.ChangeShapes Go.WideShapes Go.ChangeAt Go.RowKit
set_option linter.unusedVariables false
set_option linter.unusedSimpArgs false
def BytRelQ (l : List Int) (w : World) (s i : Value) (wr : World) : Prop :=
  ∃ (k c : Nat) (A : Option Addr), k ≤ l.length ∧ i = .int .i64 k ∧ s = .slice A k c ∧ wr.ownsRow w.heap.size 5 1 (.slice A k c) k ((l.take k).flatMap u8c) ∧ Below w.heap.size w wr
set_option maxHeartbeats 1000000 in
theorem bytesQ_walk (l : List Int) (w : World) (A : Option Addr) (c : Nat) (hr : Rd w w.heap.size A 1 l.length (l.flatMap u8c)) (hn : l.length ≤ 140737488355328) :
    Calls Try.prog 76 #[.slice A l.length c] w fun e w' => ∃ A' c', e = .returned (.slice A' l.length c') ∧ w'.ownsRow w.heap.size 5 1 (.slice A' l.length c') l.length (l.flatMap u8c) ∧ Below w.heap.size w w' := by
  generalize hL : l.length = n at *
  have HL := hid hL
  clear hL
  go_enter Try.func76, Try.ntmps76
  go_wp2_with fail
  go_loopw [3, 4] (BytRelQ l w) (fun _ i _ => n - (intOf i).toNat)
  case atStart => exact ⟨0, 0, none, by omega, rfl, rfl, World.ownsRow_nil _ _ _ _, Below.refl _ _⟩
  case round =>
    obtain ⟨k, c', A', hk, rfl, rfl, hown, hbel⟩ := hrel
    rw [HL.out] at hk
    by_cases hlt : k < n
    · obtain ⟨x, hx⟩ : ∃ x, l[k]? = some x := ⟨_, List.getElem?_eq_getElem (by rw [HL.out]; omega)⟩
      obtain ⟨b, off, rfl, hb, hc⟩ := (hr.below hbel).2 (by omega)
      have c0 := hc k (.int .u8 x) (by have h := (flatMap_get (cells := u8c) (sz := 1) (l := l) (fun _ _ => rfl)).2 k x 0 (.int .u8 x) hx rfl; simpa using h)
      have HT := hid (take_nextV hx)
      have hkz : (k : Int) < (n : Int) := by omega
      clear hx hc
      go_wp2_with (at_builtin; refine wp_app1 _ rfl rfl el_bytes rfl (hown.alloc _) rfl (rd_new _ _ _ 1 1 rfl) (one_cellV _ rfl) (by omega) (Nat.le_trans hbel.size (by simp)) ?_; intro A2 c2 w2 hown2 hb2 hg2)
      go_roundw
      case rel => exact ⟨k + 1, c2, A2, by rw [HL.out]; omega, by go_num, rfl, by rw [HT.out, List.flatMap_append]; exact hown2, (hbel.alloc hbel.size _).trans hb2⟩
      case measure => simp [intOf]; omega
    · obtain rfl : n = k := by omega
      rw [List.take_of_length_le (by rw [HL.out]; omega)] at hown
      go_wp2
      go_ret
      exact ⟨_, _, rfl, hown, hbel⟩
def PdCut (l : List Mail) (n : Nat) (wb : World) (sv : Value) (wx : World) : Prop :=
  ∃ (c : Nat) (A : Option Addr), sv = .slice A n c ∧ Hid (wx.ownsRow wb.heap.size 62 2 (.slice A n c) n (l.flatMap Mail.cells)) ∧ Below wb.heap.size wb wx
def PdRel (lo : List Mail) (wb : World) (sv iv : Value) (wr : World) : Prop :=
  ∃ (k c : Nat) (A : Option Addr), k ≤ lo.length ∧ iv = .int .i64 (k : Nat) ∧ sv = .slice A k c ∧ Hid (wr.ownsRow wb.heap.size 62 2 (.slice A k c) k ((lo.take k).flatMap Mail.cells)) ∧ Below wb.heap.size wb wr
set_option maxRecDepth 100000 in
set_option maxHeartbeats 1000000 in
theorem pushed_walk (q : Queue) (m : Mail) (w : World) (A B : Option Addr) (c d : Nat) (hl : Rd w w.heap.size A 2 q.loose.length (q.loose.flatMap Mail.cells)) (hg : Grid u8c 1 w w.heap.size B q.runs) (hll : q.loose.length ≤ 140737488355328) (hrl : q.runs.length ≤ 140737488355328) (hx : RunsOk q) :
    Calls Try.prog 31 #[.agg #[.int .i64 q.budget, .slice A q.loose.length c, .slice B q.runs.length d], .agg #[.int .i64 m.to, .int .i64 m.val]] w (RetPu w (pushV q m)) := by
  obtain ⟨w0, hw0⟩ : ∃ x, x = ((w.alloc (.cells #[.int .i64 q.budget, .slice A q.loose.length c, .slice B q.runs.length d] 53)).alloc (.cells #[.int .i64 m.to, .int .i64 m.val] 62)).alloc (.cells #[.int .i64 0, .slice none 0 0, .slice none 0 0] 53) := ⟨_, rfl⟩
  have B0 : Hid (Below w.heap.size w w0) := hid (by rw [hw0]; exact bA (bA (bA (Below.refl _ _) _) _) _)
  have HO := hid (queued_walk q w0 A B c d (rdb hl (by decide) B0.out) (hg.b (by decide) B0.out) hll hrl hx)
  have HP0 := hid (fun h => pushV_none (q := q) (m := m) h)
  have HPM := hid (fun k h h2 => pushV_mail (q := q) (m := m) (k := k) h h2)
  have HPF := hid (fun h h2 => pushV_full (q := q) (m := m) h h2)
  have HPP := hid (fun k h h2 h3 h4 => pushV_pack (q := q) (m := m) (k := k) h h2 h3 h4)
  have HPL := hid (fun k h h2 h3 h4 => pushV_loose (q := q) (m := m) (k := k) h h2 h3 h4)
  have HCS := hid (fun k h => countV_some (q := q) (k := k) h)
  have HMW := hid (fun V => mailMay_walk m V)
  have HVS := hid (fun h h2 => vals_sorted (lo := q.loose) (m := m) h h2)
  have HZ := hid (fun x h => (hx x h).2.2)
  have HG := hid hg
  have HL := hid hl
  unfold queBad at HCS
  unfold RetQ at HO
  generalize pushV q m = PV at *
  generalize countV q = R at *
  clear hg hl hx
  obtain ⟨bu, lo, rs⟩ := q
  obtain ⟨mt, mv⟩ := m
  simp only at *
  obtain ⟨G, hG⟩ : ∃ G, w.heap.size = G := ⟨_, rfl⟩
  have hz0 : w0.heap.size = G + 3 := by rw [hw0, ← hG]; simp
  have q0 : w0.cell? ⟨G, 0, none⟩ = some (.int .i64 bu) := by rw [hw0, ← hG]; go_simp
  have q1 : w0.cell? ⟨G, 1, none⟩ = some (.slice A lo.length c) := by rw [hw0, ← hG]; go_simp
  have q2 : w0.cell? ⟨G, 2, none⟩ = some (.slice B rs.length d) := by rw [hw0, ← hG]; go_simp
  have p0 : w0.cell? ⟨G + 1, 0, none⟩ = some (.int .i64 mt) := by rw [hw0, ← hG]; go_simp
  have p1 : w0.cell? ⟨G + 1, 1, none⟩ = some (.int .i64 mv) := by rw [hw0, ← hG]; go_simp
  have z0 : w0.cell? ⟨G + 2, 0, none⟩ = some (.int .i64 0) := by rw [hw0, ← hG]; go_simp
  have z1 : w0.cell? ⟨G + 2, 1, none⟩ = some (.slice none 0 0) := by rw [hw0, ← hG]; go_simp
  have z2 : w0.cell? ⟨G + 2, 2, none⟩ = some (.slice none 0 0) := by rw [hw0, ← hG]; go_simp
  have zf : ∀ o, w0.frozen? ⟨G + 2, o, none⟩ = false := fun o => by rw [hw0, ← hG]; go_simp
  have HGG := hid hG
  go_enter Try.func31, Try.ntmps31
  go_wp2_with fail
  rw [← hw0]
  try simp only [hG]
  clear hw0 hG
  refine HO.out.mono ?_
  rintro e w1 ⟨⟨A1, N, c1, ok, rfl, h1, h2⟩, b1⟩
  have q0 := keepb b1 q0
  have q1 := keepb b1 q1
  have q2 := keepb b1 q2
  have p0 := keepb b1 p0
  have p1 := keepb b1 p1
  have z0 := keepb b1 z0
  have z1 := keepb b1 z1
  have z2 := keepb b1 z2
  have zf : ∀ o, w1.frozen? ⟨G + 2, o, none⟩ = false := fun o => keepf b1 (zf o) (by show G + 2 < _; omega)
  have zf0 := zf 0
  have zf1 := zf 1
  have zf2 := zf 2
  have hz1 : G + 2 < w1.heap.size := by have := b1.size; omega
  have HB1 := hid (bT B0.out b1)
  have hcs : R = none ∨ ∃ k, R = some k := by
    cases R with
    | none => exact .inl rfl
    | some k => exact .inr ⟨k, rfl⟩
  have HZF := hid zf
  clear b1 HO zf hz0
  rcases hcs with hR | ⟨k, hR⟩
  · have hk := h1 hR
    have HV := hid (HP0.out hR)
    subst hk
    clear h1 h2 hR HP0 HPM HPF HPP HPL HCS
    go_wp2_with fail
    refine bodyPost_ret (v := .tuple #[.agg #[.int .i64 0, .slice none 0 0, .slice none 0 0], .int .i64 9]) (by simp [results, Try.results31, go_sem, *]) rfl (retPu_bad HV.out ?_)
    have hge : w.heap.size ≤ G + 2 := by have := HGG.out; omega
    repeat (with_reducible refine bS ?_ (by show w.heap.size ≤ G + 2; exact hge) _)
    exact HB1.out
  · have h3 := h2 k hR
    have HK := hid h3.2.1
    have e1 := h3.1
    subst e1
    clear h3
    obtain ⟨hnb, hok, hk5⟩ := HCS.out k hR
    have HR := hid hR
    have HOK := hid hok
    clear h1 h2 hR HP0 HCS hok
    have HM2 := hid (HMW.out w1)
    cases hmb : mlB ⟨mt, mv⟩ with
    | false =>
      have HV := hid (HPM.out k HR.out hmb)
      rw [hmb] at HM2
      clear hmb HPM HPF HPP HPL
      go_wp2_with fail
      refine HM2.out.mono ?_
      rintro e w2 ⟨rfl, b2⟩
      have z0 := keepb b2 z0
      have z1 := keepb b2 z1
      have z2 := keepb b2 z2
      have zf : ∀ o, w2.frozen? ⟨G + 2, o, none⟩ = false := fun o => keepf b2 (HZF.out o) (by show G + 2 < _; omega)
      have zf0 := zf 0
      have zf1 := zf 1
      have zf2 := zf 2
      have HB2 := hid (bT HB1.out b2)
      clear b2 zf
      go_wp2_with fail
      refine bodyPost_ret (v := .tuple #[.agg #[.int .i64 0, .slice none 0 0, .slice none 0 0], .int .i64 2]) (by simp [results, Try.results31, go_sem, *]) rfl (retPu_bad HV.out ?_)
      have hge : w.heap.size ≤ G + 2 := by have := HGG.out; omega
      repeat (with_reducible refine bS ?_ (by show w.heap.size ≤ G + 2; exact hge) _)
      exact HB2.out
    | true =>
      rw [hmb] at HM2
      have HMB := hid hmb
      clear hmb HPM
      by_cases hk : k = 5000
      · have HV := hid (HPF.out (by rw [← hk]; exact HR.out) HMB.out)
        have hmz : (5000 : Int) ≤ (N : Int) := by rw [HK.out, hk]; decide
        clear hk HPF HPP HPL
        go_wp2_with fail
        refine HM2.out.mono ?_
        rintro e w2 ⟨rfl, b2⟩
        have z0 := keepb b2 z0
        have z1 := keepb b2 z1
        have z2 := keepb b2 z2
        have zf : ∀ o, w2.frozen? ⟨G + 2, o, none⟩ = false := fun o => keepf b2 (HZF.out o) (by show G + 2 < _; omega)
        have zf0 := zf 0
        have zf1 := zf 1
        have zf2 := zf 2
        have HB2 := hid (bT HB1.out b2)
        clear b2 zf
        go_wp2_with fail
        refine bodyPost_ret (v := .tuple #[.agg #[.int .i64 0, .slice none 0 0, .slice none 0 0], .int .i64 10]) (by simp [results, Try.results31, go_sem, *]) rfl (retPu_bad HV.out ?_)
        have hge : w.heap.size ≤ G + 2 := by have := HGG.out; omega
        repeat (with_reducible refine bS ?_ (by show w.heap.size ≤ G + 2; exact hge) _)
        exact HB2.out
      · have hmz : ¬ (5000 : Int) ≤ (N : Int) := by rw [HK.out]; omega
        have HPP2 := hid (HPP.out k HR.out HMB.out hk)
        have HPL2 := hid (HPL.out k HR.out HMB.out hk)
        clear hk HPF HPP HPL
        go_wp2_with fail
        refine HM2.out.mono ?_
        rintro e wp ⟨rfl, b2⟩
        have q0 := keepb b2 q0
        have q1 := keepb b2 q1
        have q2 := keepb b2 q2
        have p0 := keepb b2 p0
        have p1 := keepb b2 p1
        have Z0 := hid (keepb b2 z0)
        have Z1 := hid (keepb b2 z1)
        have Z2 := hid (keepb b2 z2)
        have ZF : Hid (∀ o, wp.frozen? ⟨G + 2, o, none⟩ = false) := hid fun o => keepf b2 (HZF.out o) (by show G + 2 < _; omega)
        have HB2 := hid (bT HB1.out b2)
        have hz2' : G + 2 < wp.heap.size := by have := b2.size; omega
        have Q0 := hid q0
        have Q1 := hid q1
        have Q2 := hid q2
        have P0 := hid p0
        have P1 := hid p1
        have hlo : lo.length ≤ 999 := by omega
        have hlb : (lo.length : Int) < bu := by omega
        have hrs : rs.length ≤ 5000 := by omega
        have HLM := hid (show (lo ++ [(⟨mt, mv⟩ : Mail)]).length = lo.length + 1 from by simp)
        clear b2 z0 z1 z2 zf0 zf1 zf2 HZF HM2 HMW hnb q1 q2 p0 p1
        obtain ⟨s, hs⟩ : ∃ s, wp.heap.size = s := ⟨_, rfl⟩
        have BX := hid (bA (Below.refl wp.heap.size wp) (.cells #[.int .i64 bu, .slice none 0 0, .slice none 0 0] 53))
        have d0 : (wp.alloc (.cells #[.int .i64 bu, .slice none 0 0, .slice none 0 0] 53)).cell? ⟨s, 0, none⟩ = some (.int .i64 bu) := by rw [← hs]; go_simp
        have d1 : (wp.alloc (.cells #[.int .i64 bu, .slice none 0 0, .slice none 0 0] 53)).cell? ⟨s, 1, none⟩ = some (.slice none 0 0) := by rw [← hs]; go_simp
        have d2 : (wp.alloc (.cells #[.int .i64 bu, .slice none 0 0, .slice none 0 0] 53)).cell? ⟨s, 2, none⟩ = some (.slice none 0 0) := by rw [← hs]; go_simp
        have df : ∀ o, (wp.alloc (.cells #[.int .i64 bu, .slice none 0 0, .slice none 0 0] 53)).frozen? ⟨s, o, none⟩ = false := fun o => by rw [← hs]; go_simp
        have hTz0 : s + 1 ≤ (wp.alloc (.cells #[.int .i64 bu, .slice none 0 0, .slice none 0 0] 53)).heap.size := by simp; omega
        go_wp2_with fail
        go_loopw [9, 10] (fun iv _ wr => QyRel bu 0 [] rs w wp s (s + 1) none 0 iv wr) (fun iv _ _ => rs.length - (intOf iv).toNat)
        case atStart => exact ⟨0, 0, none, [], Nat.zero_le _, rfl, d0, d1, d2, df, hid rfl, hid rfl, hid OwnGrid.nil, hid ⟨Rd.nil_, fun _ _ h => by omega⟩, BX.out, hTz0⟩
        case round =>
          clear d0 d1 d2 df hTz0 BX q0
          obtain ⟨k, c3, A3, acc, hk, rfl, d0, d1, d2, df, HAL, HRW, HGR, HRX, hbel, hTz⟩ := hrel
          have hss : s < wr.heap.size := by omega
          have hbw := HB2.out.trans (hbel.mono HB2.out.size)
          have g2 := keepb hbel Q2.out
          by_cases hlt : k < rs.length
          · obtain ⟨x, hx⟩ : ∃ x, rs[k]? = some x := ⟨_, List.getElem?_eq_getElem hlt⟩
            have hxm := List.mem_of_getElem? hx
            obtain ⟨b, off, rfl, hb, c0⟩ := ml_cell (HG.out.1.below hbw) rfl hx
            have hkz : (k : Int) < (rs.length : Int) := by omega
            have HOC := hid (bytesQ_walk x.l wr x.A x.c (rdb (Grid.data HG.out hxm) (by decide) hbw) (HZ.out x hxm))
            have HRN := hid (fun A c => rows_snoc A c HRW.out hx)
            have hSZ : (k + 1) * 24 ≤ 140737488355328 := by omega
            clear hx hxm HRW
            go_wp2_with fail
            refine HOC.out.mono ?_
            rintro e w2 ⟨A2, k2, rfl, o2, b2⟩
            have HO2 := hid (own_more (base' := s + 1) o2 hTz)
            have HG2 := hid (HGR.out.below b2 (Nat.le_refl _))
            have HAS : Hid (Aside id A3 c3 acc (id (⟨A2, k2, x.l⟩ : ML Int))) := hid (OwnGrid.aside HGR.out (base' := wr.heap.size) o2 (Nat.le_refl _))
            have d0 := keepb b2 d0
            have d1 := keepb b2 d1
            have d2 := keepb b2 d2
            have df : ∀ o, w2.frozen? ⟨s, o, none⟩ = false := fun o => keepf b2 (df o) hss
            have HB2' := hid b2
            have hz2 := b2.size
            clear o2 b2 HOC HGR
            go_wp2_with (at_builtin; refine wp_grid (cells := u8c) (inner := id) (sz := 1) _ rfl rfl el_grid_u8 rfl HAL.out.symm (HG2.out.alloc _) (⟨A2, k2, x.l⟩ : ML Int) (own_below HO2.out (bA (Below.refl _ _) _) (Nat.le_refl _)) HAS.out rfl (rd_new _ _ _ 1 1 rfl) (one_rowV _) hSZ (by simp; omega) ?_; intro A5 c5 w5 o5 b5 g5; have e0 : w5.cell? ⟨s, 0, none⟩ = some (.int .i64 bu) := (b5.cell (p := ⟨s, 0, none⟩) (Nat.lt_succ_self s)).trans (keepb (bA (Below.refl _ _) _) d0); have e1 : w5.cell? ⟨s, 1, none⟩ = some (.slice none 0 0) := (b5.cell (p := ⟨s, 1, none⟩) (Nat.lt_succ_self s)).trans (keepb (bA (Below.refl _ _) _) d1); have e2 : w5.cell? ⟨s, 2, none⟩ = some (.slice A3 k c3) := (b5.cell (p := ⟨s, 2, none⟩) (Nat.lt_succ_self s)).trans (keepb (bA (Below.refl _ _) _) d2); have ef : ∀ o, w5.frozen? ⟨s, o, none⟩ = false := (fun o => (b5.frozen (p := ⟨s, o, none⟩) (Nat.lt_succ_self s)).trans (keepf (bA (Below.refl _ _) _) (df o) (by show s < _; omega))); have ef2 := ef 2; have HO5 := hid o5; have HB5 := hid b5; clear o5 b5 g5)
            go_roundw
            case rel =>
              have hb15 := ((bA HB2'.out (.cells #[.slice A2 x.l.length k2] 41)).mono (show s + 1 ≤ wr.heap.size from hTz)).trans HB5.out
              refine ⟨k + 1, c5, A5, acc ++ [⟨A2, k2, x.l⟩], by omega, by go_num, cell_offs e0 (by decide), cell_offs e1 (by decide), World.cell?_setCell_same _ _ _ e2, fun o => by simpa using ef o, hid (by rw [List.length_append, HAL.out]; rfl), hid (HRN.out _ _), hid (OwnGrid.store HO5.out (by show s < s + 1; omega) _), hid ⟨Rd.nil_, fun _ _ h => by omega⟩, ?_, ?_⟩
              · exact (hbel.trans (hb15.mono (by omega))).setCell (by show wp.heap.size ≤ s; omega) _
              · have := hb15.size; simp; omega
            case measure => (simp [intOf]) <;> omega
          · obtain rfl : k = rs.length := by omega
            have hkz : ¬ (rs.length : Int) < (rs.length : Int) := by omega
            have HRF := hid (show rowsOf acc = rowsOf rs from by have h := HRW.out; rwa [List.take_length] at h)
            obtain ⟨wb, hwb⟩ : ∃ x, x = wr := ⟨_, rfl⟩
            subst hwb
            have G0 := hid (keepb hbel Q0.out)
            have G1 := hid (keepb hbel Q1.out)
            have R0 := hid (keepb hbel P0.out)
            have R1 := hid (keepb hbel P1.out)
            have Y0 := hid (keepb hbel Z0.out)
            have Y1 := hid (keepb hbel Z1.out)
            have Y2 := hid (keepb hbel Z2.out)
            have YF : Hid (∀ o, wb.frozen? ⟨G + 2, o, none⟩ = false) := hid fun o => keepf hbel (ZF.out o) (by show G + 2 < _; omega)
            have HBW := hid hbw
            have hsw : s ≠ G + 2 := by omega
            have hsw' : G + 2 ≠ s := by omega
            have hge : w.heap.size ≤ G + 2 := by have := HGG.out; omega
            have D0 := hid d0
            have D1 := hid d1
            have D2 := hid d2
            have DF := hid df
            have hbs := hbw.size
            have hGb : G + 2 < wb.heap.size := by omega
            clear HRW hbw d0 d1 d2 df hbel
            generalize hln : lo.length = ln at *
            have HLN := hid hln
            clear hln
            have g1 := G1.out
            go_wp2_with fail
            go_loopw [11, 12] (fun sv iv wr => PdRel lo wb sv iv wr) (fun _ iv _ => ln - (intOf iv).toNat)
            case atStart => exact ⟨0, 0, none, Nat.zero_le _, rfl, rfl, hid (World.ownsRow_nil _ _ _ _), Below.refl _ _⟩
            case round =>
              obtain ⟨k, c4, A4, hk, rfl, rfl, HOW, hb2⟩ := hrel
              rw [HLN.out] at hk
              have hbs2 := hb2.size
              have g1 := keepb hb2 G1.out
              by_cases hlt2 : k < ln
              · obtain ⟨x, hx⟩ : ∃ x, lo[k]? = some x := ⟨_, List.getElem?_eq_getElem (by rw [HLN.out]; exact hlt2)⟩
                obtain ⟨b, off, rfl, hb, c0, c1'⟩ := mcells (HL.out.below (HBW.out.trans (hb2.mono hbs))) HLN.out hx
                have hkz : (k : Int) < (ln : Int) := by omega
                have hSZ : (k + 1) * 16 ≤ 140737488355328 := by omega
                have HT := hid (show (lo.take (k + 1)).flatMap Mail.cells = (lo.take k).flatMap Mail.cells ++ [.int .i64 x.to, .int .i64 x.val] from by rw [take_nextV hx, List.flatMap_append]; rfl)
                clear hx
                go_wp2_with (at_builtin; refine wp_app1 _ rfl rfl el_mails rfl (own_below HOW.out (bA (Below.refl _ _) _) (Nat.le_refl _)) rfl (rd_new _ _ _ 2 1 rfl) (two_oneN x) hSZ (by simp; omega) ?_; intro A5 c5 w5 o5 b5 g5)
                have HO5 := hid (show World.ownsRow _ _ _ _ _ _ ((lo.take (k + 1)).flatMap Mail.cells) from by rw [HT.out]; exact o5)
                have HB5 := hid ((hb2.trans ((bA (Below.refl wr.heap.size wr) _).mono hbs2)).trans b5)
                clear o5 b5 g5
                go_wp2_with fail
                go_roundw
                case rel => exact ⟨k + 1, c5, A5, by rw [HLN.out]; omega, by go_num, rfl, HO5, HB5.out⟩
                case measure => (simp [intOf]) <;> omega
              · obtain rfl : k = ln := by omega
                have hkz : ¬ (k : Int) < (k : Int) := by omega
                have HO1 := hid (show World.ownsRow wr wb.heap.size 62 2 (.slice A4 k c4) k (lo.flatMap Mail.cells) from by have h := HOW.out; rw [List.take_of_length_le (by rw [HLN.out]; exact Nat.le_refl _)] at h; exact h)
                have r0 := keepb hb2 R0.out
                have r1 := keepb hb2 R1.out
                have hSZ : (k + 1) * 16 ≤ 140737488355328 := by omega
                have HX := hid (show lo.flatMap Mail.cells ++ [.int .i64 mt, .int .i64 mv] = (lo ++ [(⟨mt, mv⟩ : Mail)]).flatMap Mail.cells from by rw [List.flatMap_append]; rfl)
                clear HOW
                go_upto_region 19 with fail
                go_cut [11] (fun s11 wx => PdCut (lo ++ [(⟨mt, mv⟩ : Mail)]) (k + 1) wb s11 wx)
                case first =>
                  go_wp2_with (at_builtin; refine wp_app1 (news := [.int .i64 mt, .int .i64 mv]) _ rfl rfl el_mails rfl (own_below HO1.out (bA (Below.refl _ _) _) (Nat.le_refl _)) rfl (rd_new _ _ _ 2 1 rfl) (two_mailN _ _) hSZ (by simp; omega) ?_; intro A5 c5 w5 o5 b5 g5)
                  go_meet
                  exact ⟨c5, A5, rfl, hid (by rw [← HX.out]; exact o5), (hb2.trans ((bA (Below.refl wr.heap.size wr) _).mono hbs2)).trans b5⟩
                case rest =>
                  obtain ⟨c5, A5, rfl, HO5, hbx⟩ := hcut
                  have g0 := keepb hbx G0.out
                  have d0 := keepb hbx D0.out
                  have d1 := keepb hbx D1.out
                  have d2 := keepb hbx D2.out
                  have hsb : s < wb.heap.size := by omega
                  have df : ∀ o, wc.frozen? ⟨s, o, none⟩ = false := fun o => keepf hbx (DF.out o) hsb
                  have y0 := keepb hbx Y0.out
                  have y1 := keepb hbx Y1.out
                  have y2 := keepb hbx Y2.out
                  have yf : ∀ o, wc.frozen? ⟨G + 2, o, none⟩ = false := fun o => keepf hbx (YF.out o) hGb
                  have HBX := hid (HBW.out.trans (hbx.mono hbs))
                  have HGX := hid (HGR.out.below hbx (Nat.le_refl _))
                  have hbxs := hbx.size
                  clear hbx HO1 r0 r1 g1
                  by_cases hbq : ((k + 1 : Nat) : Int) = bu
                  · have HV := hid (HPP2.out hbq)
                    have hbz : ¬ (k : Int) + 1 < bu := by omega
                    have HST := hid (mails_at (lo ++ [(⟨mt, mv⟩ : Mail)]) wc A5 c5 HLM.out (rd_own HO5.out) (by omega))
                    have HVL := hid (HVS.out HOK.out HMB.out)
                    have HSL := hid (show (srtOf mlt (lo ++ [(⟨mt, mv⟩ : Mail)])).length = k + 1 from by rw [srtOf_len, HLM.out])
                    generalize srtOf mlt (lo ++ [(⟨mt, mv⟩ : Mail)]) = sr at *
                    have HRB := hid (fun (V : World) A' c' (h : Rd V V.heap.size A' 2 (k + 1) (sr.flatMap Mail.cells)) => runBytes_walk sr V A' (k + 1) c' h HSL.out (by omega) HVL.out)
                    have hpl := packM_len sr
                    rw [HSL.out] at hpl
                    unfold RetS at HRB
                    generalize packM sr = pk at *
                    clear hbq HPP2 HPL2
                    go_wp2_with fail
                    refine HST.out.mono ?_
                    rintro e w6 ⟨A6, c6, rfl, o6, b6⟩
                    have HR6 := hid (rd_own o6)
                    have HB6 := hid b6
                    clear o6 b6 HST
                    go_wp2_with fail
                    refine (HRB.out _ _ _ HR6.out).mono ?_
                    rintro e w7 ⟨A7, c7, rfl, o7, b7⟩
                    have HB7 := hid (bT HB6.out b7)
                    have h7s := HB6.out.size
                    have d0 := keepb HB7.out d0
                    have d1 := keepb HB7.out d1
                    have d2 := keepb HB7.out d2
                    have df : ∀ o, w7.frozen? ⟨s, o, none⟩ = false := fun o => keepf HB7.out (df o) (by show s < _; omega)
                    have HO7 := hid (own_more (base' := s + 1) o7 (by omega))
                    have HG7 := hid (HGX.out.below HB7.out (Nat.le_refl _))
                    have HAS : Hid (Aside id A3 c3 acc (id (⟨A7, c7, pk⟩ : ML Int))) := hid (OwnGrid.aside HGX.out (base' := w6.heap.size) o7 h7s)
                    have y0 := keepb HB7.out y0
                    have y1 := keepb HB7.out y1
                    have y2 := keepb HB7.out y2
                    have yf : ∀ o, w7.frozen? ⟨G + 2, o, none⟩ = false := fun o => keepf HB7.out (yf o) (by show G + 2 < _; omega)
                    have hz7 := HB7.out.size
                    have hSZ : (rs.length + 1) * 24 ≤ 140737488355328 := by omega
                    have df2 := df 2
                    clear o7 b7 HRB
                    go_upto_region 24 with fail
                    go_cut [87] (fun _ wx => PuFin bu s G (s + 1) (rs.length + 1) (rowsOf rs ++ [pk]) (.slice none 0 0) w wx)
                    case first =>
                      go_wp2_with (at_builtin; refine wp_grid (cells := u8c) (inner := id) (sz := 1) _ rfl rfl el_grid_u8 rfl HAL.out.symm (HG7.out.alloc _) (⟨A7, c7, pk⟩ : ML Int) (own_below HO7.out (bA (Below.refl _ _) _) (Nat.le_refl _)) HAS.out rfl (rd_new _ _ _ 1 1 rfl) (one_rowV _) hSZ (by simp; omega) ?_; intro A8 c8 w8 o8 b8 g8; have e0 : w8.cell? ⟨s, 0, none⟩ = some (.int .i64 bu) := (b8.cell (p := ⟨s, 0, none⟩) (Nat.lt_succ_self s)).trans (keepb (bA (Below.refl _ _) _) d0); have e1 : w8.cell? ⟨s, 1, none⟩ = some (.slice none 0 0) := (b8.cell (p := ⟨s, 1, none⟩) (Nat.lt_succ_self s)).trans (keepb (bA (Below.refl _ _) _) d1); have e2 : w8.cell? ⟨s, 2, none⟩ = some (.slice A3 rs.length c3) := (b8.cell (p := ⟨s, 2, none⟩) (Nat.lt_succ_self s)).trans (keepb (bA (Below.refl _ _) _) d2); have ef : ∀ o, w8.frozen? ⟨s, o, none⟩ = false := (fun o => (b8.frozen (p := ⟨s, o, none⟩) (Nat.lt_succ_self s)).trans (keepf (bA (Below.refl _ _) _) (df o) (by show s < _; omega))); have ef2 := ef 2; have HO8 := hid o8; have HB8 := hid b8; clear o8 b8 g8)
                      go_meet
                      have hGT : G + 2 < s + 1 := by omega
                      have YY : ∀ (o : Nat) (v : Value), w7.cell? ⟨G + 2, o, none⟩ = some v → w8.cell? ⟨G + 2, o, none⟩ = some v := fun o v h => (HB8.out.cell (p := ⟨G + 2, o, none⟩) hGT).trans (keepb (bA (Below.refl _ _) _) h)
                      refine ⟨A8, c8, acc ++ [⟨A7, c7, pk⟩], cell_offs e0 (by decide), cell_offs e1 (by decide), World.cell?_setCell_same _ _ _ e2, cell_far (YY _ _ y0) hsw', cell_far (YY _ _ y1) hsw', cell_far (YY _ _ y2) hsw', fun o => ?_, by rw [List.length_append, HAL.out]; rfl, hid (by unfold rowsOf at *; rw [List.map_append, HRF.out]; rfl), hid (OwnGrid.store HO8.out (by show s < s + 1; omega) _), hid ?_⟩
                      · have h : w8.frozen? ⟨G + 2, o, none⟩ = false := (HB8.out.frozen (p := ⟨G + 2, o, none⟩) hGT).trans (keepf (bA (Below.refl _ _) _) (yf o) (by show G + 2 < _; omega))
                        simpa using h
                      · have h0 := bT HBX.out HB7.out
                        have h1 := (bA (Below.refl w7.heap.size w7) (.cells #[.slice A7 pk.length c7] 41)).mono (show w.heap.size ≤ w7.heap.size from h0.size)
                        exact ((h0.trans h1).trans (HB8.out.mono (by omega))).setCell (by show w.heap.size ≤ s; omega) _
                    case rest =>
                      obtain ⟨A9, c9, acc9, e0, e1, e2, y0, y1, y2, yf, hal, HRR, HGG5, HBB⟩ := hcut
                      have yf0 := yf 0
                      have yf1 := yf 1
                      have yf2 := yf 2
                      have HAL5 := hid hal
                      clear hal yf df
                      go_wp2_with fail
                      refine bodyPost_ret (v := .tuple #[.agg #[.int .i64 bu, .slice none 0 0, .slice A9 (rs.length + 1) c9], .int .i64 0]) (by simp [results, Try.results31, go_sem, *]) rfl ?_
                      have hGF := ((HGG5.out.store (a := ⟨G + 2, 0, none⟩) (by show G + 2 < s + 1; omega) (.int .i64 bu)).store (a := ⟨G + 2, 1, none⟩) (by show G + 2 < s + 1; omega) (.slice none 0 0)).store (a := ⟨G + 2, 2, none⟩) (by show G + 2 < s + 1; omega) (.slice A9 (rs.length + 1) c9)
                      rw [HV.out]
                      refine ⟨none, 0, A9, c9, acc9, by rw [HAL5.out]; rfl, HRR.out, Rd.nil_, OwnGrid.led (show OwnGrid ML.cells id u8c 41 5 1 1 _ (s + 1) A9 c9 acc9 from hGF), ?_⟩
                      exact bS (bS (bS HBB.out hge _) hge _) hge _
                  · have HV := hid (HPL2.out hbq)
                    have hbz : (k : Int) + 1 < bu := by omega
                    have df1 := df 1
                    have yf0 := yf 0
                    have yf1 := yf 1
                    have yf2 := yf 2
                    clear hbq HPP2 HPL2 df yf
                    go_wp2_with fail
                    refine bodyPost_ret (v := .tuple #[.agg #[.int .i64 bu, .slice A5 (k + 1) c5, .slice A3 rs.length c3], .int .i64 0]) (by simp [results, Try.results31, go_sem, *]) rfl ?_
                    have hGF := (((HGX.out.store (a := ⟨s, 1, none⟩) (by show s < s + 1; omega) (.slice A5 (k + 1) c5)).store (a := ⟨G + 2, 0, none⟩) (by show G + 2 < s + 1; omega) (.int .i64 bu)).store (a := ⟨G + 2, 1, none⟩) (by show G + 2 < s + 1; omega) (.slice A5 (k + 1) c5)).store (a := ⟨G + 2, 2, none⟩) (by show G + 2 < s + 1; omega) (.slice A3 rs.length c3)
                    have hro := rd_own (ownsRow_setCell_below (ownsRow_setCell_below (ownsRow_setCell_below (ownsRow_setCell_below HO5.out (a := ⟨s, 1, none⟩) (by show s < wb.heap.size; exact hsb) (.slice A5 (k + 1) c5)) (a := ⟨G + 2, 0, none⟩) (by show G + 2 < wb.heap.size; exact hGb) (.int .i64 bu)) (a := ⟨G + 2, 1, none⟩) (by show G + 2 < wb.heap.size; exact hGb) (.slice A5 (k + 1) c5)) (a := ⟨G + 2, 2, none⟩) (by show G + 2 < wb.heap.size; exact hGb) (.slice A3 rs.length c3))
                    rw [HV.out]
                    refine ⟨A5, c5, A3, c3, acc, ?_, HRF.out, ?_, OwnGrid.led (show OwnGrid ML.cells id u8c 41 5 1 1 _ (s + 1) A3 c3 acc from hGF), ?_⟩
                    · rw [HAL.out]; show _ = Ending.returned (.tuple #[.agg #[.int .i64 bu, .slice A5 (lo ++ [(⟨mt, mv⟩ : Mail)]).length c5, .slice A3 rs.length c3], .int .i64 0]); rw [HLM.out]
                    · show Rd _ _ A5 2 (lo ++ [(⟨mt, mv⟩ : Mail)]).length _; rw [HLM.out]; exact hro
                    · exact bS (bS (bS (bS HBX.out (by show w.heap.size ≤ s; omega) _) hge _) hge _) hge _
end Go.Proofs.Ytifpngjipkmdcaa
