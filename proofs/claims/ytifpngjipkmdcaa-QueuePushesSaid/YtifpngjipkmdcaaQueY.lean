/- The statements' copy of a queue. -/
import Derived.Test.YtifpngjipkmdcaaMgw
import Derived.Test.YtifpngjipkmdcaaQueD
import Derived.Test.YtifpngjipkmdcaaQueO
import Derived.Deep.DeepCutAuto
namespace Go.Proofs.Ytifpngjipkmdcaa
open Go.ChangeShapes Go.WideShapes Go.ChangeAt Go.RowKit
set_option linter.unusedVariables false
set_option linter.unusedSimpArgs false
/-- Read, and not in the block s, nor below L. -/
def RdX (w : World) (T s L : Nat) (A : Option Addr) (sz n : Nat) (xs : List Value) : Prop := Rd w T A sz n xs ∧ ∀ b off, 0 < n → A = some ⟨b, off, none⟩ → b ≠ s ∧ L ≤ b
theorem RdX.below {w w' : World} {T s L sz n : Nat} {A : Option Addr} {xs : List Value} (h : RdX w T s L A sz n xs) (hb : Below T w w') : RdX w' T s L A sz n xs := ⟨h.1.below hb, h.2⟩
theorem RdX.store {w : World} {T s L sz n o : Nat} {A : Option Addr} {xs : List Value} {v : Value} (h : RdX w T s L A sz n xs) : RdX (w.setCell ⟨s, o, none⟩ v) T s L A sz n xs := by
  refine ⟨⟨h.1.1, fun hn => ?_⟩, h.2⟩
  obtain ⟨b, off, rfl, hb, hc⟩ := h.1.2 hn
  exact ⟨b, off, rfl, hb, fun j u hu => cell_far (hc j u hu) (h.2 b off hn rfl).1⟩
theorem RdX.low {w : World} {T s L sz n o g : Nat} {A : Option Addr} {xs : List Value} {v : Value} (h : RdX w T s L A sz n xs) (hg : g < L) : RdX (w.setCell ⟨g, o, none⟩ v) T s L A sz n xs := by
  refine ⟨⟨h.1.1, fun hn => ?_⟩, h.2⟩
  obtain ⟨b, off, rfl, hb, hc⟩ := h.1.2 hn
  exact ⟨b, off, rfl, hb, fun j u hu => cell_far (hc j u hu) (by have := (h.2 b off hn rfl).2; omega)⟩
theorem rdx_own {w : World} {base e sz n c s L : Nat} {A : Option Addr} {xs : List Value} (h : w.ownsRow base e sz (.slice A n c) n xs) (hL : L ≤ base) (hs : ∀ y, (Value.slice A n c).ownBlock = some y → y ≠ s) : RdX w w.heap.size s L A sz n xs :=
  ⟨rd_own h, fun b off hn e => by subst e; exact ⟨hs b rfl, Nat.le_trans hL (h.lt b rfl).1⟩⟩
def RetQu (w : World) (q : Queue) (e : Ending) (w' : World) : Prop :=
  ∃ A c B d rs, e = .returned (.agg #[.int .i64 q.budget, .slice A q.loose.length c, .slice B q.runs.length d]) ∧ rs.length = q.runs.length ∧ rowsOf rs = rowsOf q.runs ∧ Rd w' w'.heap.size A 2 q.loose.length (q.loose.flatMap Mail.cells) ∧ Grid u8c 1 w' w'.heap.size B rs ∧ (∀ x ∈ rs, x.l.length ≤ x.c) ∧ Below w.heap.size w w'
def QyCut (bu : Int) (ln : Nat) (xs : List Value) (w0 : World) (s3 : Value) (wx : World) : Prop :=
  ∃ (s : Nat) (A : Option Addr) (c : Nat), s3 = .pointer (some ⟨s, 0, none⟩) ∧ w0.heap.size ≤ s ∧ s < wx.heap.size ∧ wx.cell? ⟨s, 0, none⟩ = some (.int .i64 bu) ∧ wx.cell? ⟨s, 1, none⟩ = some (.slice A ln c) ∧ wx.cell? ⟨s, 2, none⟩ = some (.slice none 0 0) ∧ (∀ o, wx.frozen? ⟨s, o, none⟩ = false) ∧ RdX wx wx.heap.size s w0.heap.size A 2 ln xs ∧ Below w0.heap.size w0 wx
def QyRel (bu : Int) (ln : Nat) (lo : List Mail) (rs : List (ML Int)) (w w0 : World) (s T : Nat) (A1 : Option Addr) (c1 : Nat) (iv : Value) (wr : World) : Prop :=
  ∃ (k c3 : Nat) (A3 : Option Addr) (acc : List (ML Int)), k ≤ rs.length ∧ iv = .int .i64 (k : Nat) ∧ wr.cell? ⟨s, 0, none⟩ = some (.int .i64 bu) ∧ wr.cell? ⟨s, 1, none⟩ = some (.slice A1 ln c1) ∧ wr.cell? ⟨s, 2, none⟩ = some (.slice A3 k c3) ∧ (∀ o, wr.frozen? ⟨s, o, none⟩ = false) ∧ Hid (acc.length = k) ∧ Hid (rowsOf acc = rowsOf (rs.take k)) ∧ Hid (BGrid wr T A3 c3 acc) ∧ Hid (RdX wr T s w0.heap.size A1 2 ln (lo.flatMap Mail.cells)) ∧ Below w0.heap.size w0 wr ∧ T ≤ wr.heap.size
set_option maxRecDepth 100000 in
set_option maxHeartbeats 1000000 in
theorem queues_copy (q : Queue) (w : World) (A B : Option Addr) (c d : Nat) (hl : Rd w w.heap.size A 2 q.loose.length (q.loose.flatMap Mail.cells)) (hg : Grid u8c 1 w w.heap.size B q.runs) (hll : q.loose.length * 16 ≤ 140737488355328) (hrl : q.runs.length * 24 ≤ 140737488355328) (hz : ∀ x ∈ q.runs, x.l.length ≤ 140737488355328) :
    Calls Try.prog 26 #[.agg #[.int .i64 q.budget, .slice A q.loose.length c, .slice B q.runs.length d]] w (RetQu w q) := by
  obtain ⟨bu, lo, rs⟩ := q
  simp only at *
  obtain ⟨w0, hw0⟩ : ∃ x, x = (w.alloc (.cells #[.int .i64 bu, .slice A lo.length c, .slice B rs.length d] 53)).alloc (.cells #[.int .i64 0, .slice none 0 0, .slice none 0 0] 53) := ⟨_, rfl⟩
  have B0 : Hid (Below w.heap.size w w0) := hid (by rw [hw0]; exact bA (bA (Below.refl _ _) _) _)
  have hz0 : w0.heap.size = w.heap.size + 2 := by rw [hw0]; simp
  have z0 : w0.cell? ⟨w.heap.size + 1, 0, none⟩ = some (.int .i64 0) := by rw [hw0]; go_simp
  have z1 : w0.cell? ⟨w.heap.size + 1, 1, none⟩ = some (.slice none 0 0) := by rw [hw0]; go_simp
  have z2 : w0.cell? ⟨w.heap.size + 1, 2, none⟩ = some (.slice none 0 0) := by rw [hw0]; go_simp
  have zf : ∀ o, w0.frozen? ⟨w.heap.size + 1, o, none⟩ = false := fun o => by rw [hw0]; go_simp
  have Z0 := hid z0
  have Z1 := hid z1
  have Z2 := hid z2
  have ZF := hid zf
  have q0 : w0.cell? ⟨w.heap.size, 0, none⟩ = some (.int .i64 bu) := by rw [hw0]; go_simp
  have q1 : w0.cell? ⟨w.heap.size, 1, none⟩ = some (.slice A lo.length c) := by rw [hw0]; go_simp
  have q2 : w0.cell? ⟨w.heap.size, 2, none⟩ = some (.slice B rs.length d) := by rw [hw0]; go_simp
  have Q2 := hid q2
  have HZ0 := hid hz0
  have HMC := hid (fun (V : World) (hV : Below w0.heap.size w0 V) => mails_copy lo V A lo.length c V.heap.size (rdb hl (by decide) (B0.out.trans (hV.mono B0.out.size))) hll)
  have HG := hid hg
  have HL := hid hl
  have HZ := hid hz
  generalize hln : lo.length = ln at *
  have HK : Hid (∀ V, Below w0.heap.size w0 V → ((fun V => Below w0.heap.size w0 V ∧ V.cell? ⟨w.heap.size, 0, none⟩ = some (.int .i64 bu) ∧ V.cell? ⟨w.heap.size, 1, none⟩ = some (.slice A ln c)) : World → Prop) V) := hid fun V hV => ⟨hV, keepb hV q0, keepb hV q1⟩
  clear hl hg hz
  go_enter Try.func26, Try.ntmps26
  go_wp2_with fail
  rw [← hw0]
  clear hw0 q0 q1 q2 hz0 z0 z1 z2 zf
  go_upto_region 1 with fail
  go_cut [3] (fun s3 wx => QyCut bu ln (lo.flatMap Mail.cells) w0 s3 wx)
  case first =>
    refine wp_region_F (S := (fun V => Below w0.heap.size w0 V ∧ V.cell? ⟨w.heap.size, 0, none⟩ = some (.int .i64 bu) ∧ V.cell? ⟨w.heap.size, 1, none⟩ = some (.slice A ln c))) [7] (by kernel_rfl) (HK.out _ (bD (Below.refl _ _))) (fun hHeld => ?_)
    refine wpAnyF_pure (i := 0) (v := ?vg1_1_0) rfl (by kernel_rfl) (by kernel_rfl) (by kernel_rfl) (fun _ _ _ h => h) (Or.inl ⟨by rfl, ?hyg1_1_0⟩) ?restg1_1_0
    case hyg1_1_0 => (intro w hSw; clear hSw; go_simp; (all_goals with_reducible rfl))
    try simp only [Act.put, List.setIfInBounds_toArray, List.set_cons_zero, List.set_cons_succ, List.getElem_toArray, List.getElem_cons_succ, List.getElem_cons_zero]
    refine wpAnyF_pure (i := 2) (v := ?vg1_2_2) rfl (by kernel_rfl) (by kernel_rfl) (by kernel_rfl) (fun _ _ _ h => h) (Or.inl ⟨by rfl, ?hyg1_2_2⟩) ?restg1_2_2
    case hyg1_2_2 => (intro w hSw; clear hSw; go_simp; (all_goals with_reducible rfl))
    try simp only [Act.put, List.setIfInBounds_toArray, List.set_cons_zero, List.set_cons_succ, List.getElem_toArray, List.getElem_cons_succ, List.getElem_cons_zero]
    refine wpAnyF_take [5, 7] (i := 1) (v := ?vg1_3_1) rfl (by kernel_rfl) (by kernel_rfl) (by kernel_rfl) (by kernel_rfl) (fun _ _ _ h => h) (Or.inl ⟨by rfl, ?hyg1_3_1⟩) (by assumption) ?restg1_3_1
    case hyg1_3_1 => (intro w hSw; (try dsimp only at hSw); go_simp; (all_goals with_reducible rfl))
    try simp only [Act.put, List.setIfInBounds_toArray, List.set_cons_zero, List.set_cons_succ, List.getElem_toArray, List.getElem_cons_succ, List.getElem_cons_zero]
    refine wpAnyF_take [4, 5, 7] (i := 3) (v := ?vg1_4_3) rfl (by kernel_rfl) (by kernel_rfl) (by kernel_rfl) (by kernel_rfl) (fun _ _ _ h => h) (Or.inl ⟨by rfl, ?hyg1_4_3⟩) (by assumption) ?restg1_4_3
    case hyg1_4_3 => (intro w hSw; (try dsimp only at hSw); go_simp; (all_goals with_reducible rfl))
    try simp only [Act.put, List.setIfInBounds_toArray, List.set_cons_zero, List.set_cons_succ, List.getElem_toArray, List.getElem_cons_succ, List.getElem_cons_zero]
    refine wpAnyF_ready (rs := [4, 6]) (by kernel_rfl) (by simp) ?_
    refine AllReadyF.cons rfl (fun K hK => ?_) ?_
    · go_simp
      go_at_call 41
      refine (HMC.out _ hHeld.1).mono ?_
      rintro e w2 ⟨A2, k2, rfl, o2, b2⟩
      have HO2 := hid o2
      have HB2 := hid (bT hHeld.1 b2)
      have HZ2 := hid (show w0.heap.size ≤ _ from hHeld.1.size)
      have HZ3 := hid b2.size
      clear o2
      go_wp2_with fail
      refine hK.out _ _ (HK.out _ (bT hHeld.1 b2)) (fun hHeld => ?_)
      clear hK K
      try simp only [Act.put, List.setIfInBounds_toArray, List.set_cons_zero, List.set_cons_succ, List.getElem_toArray, List.getElem_cons_succ, List.getElem_cons_zero]
      refine wpAnyF_pure (i := 5) (v := ?vg1_6_5) rfl (by kernel_rfl) (by kernel_rfl) (by kernel_rfl) (fun _ _ _ h => h) (Or.inl ⟨by rfl, ?hyg1_6_5⟩) ?restg1_6_5
      case hyg1_6_5 => (intro w hSw; clear hSw; go_simp; (all_goals with_reducible rfl))
      try simp only [Act.put, List.setIfInBounds_toArray, List.set_cons_zero, List.set_cons_succ, List.getElem_toArray, List.getElem_cons_succ, List.getElem_cons_zero]
      refine wpAnyF_one (i := 6) (by kernel_rfl) rfl (fun K hK => ?_)
      have HBA := hid hHeld.1
      have HZA := hid hHeld.1.size
      go_simp
      refine hK.out _ _ (HK.out _ (bA hHeld.1 _)) (fun hHeld => ?_)
      clear hK K
      try simp only [Act.put, List.setIfInBounds_toArray, List.set_cons_zero, List.set_cons_succ, List.getElem_toArray, List.getElem_cons_succ, List.getElem_cons_zero]
      refine wpAnyF_oneD (i := 7) (by kernel_rfl) (by kernel_rfl) rfl (fun K hK => ?_)
      go_simp
      refine hK.out _ _ ?_
      clear hK K
      try simp only [Act.put, List.setIfInBounds_toArray, List.set_cons_zero, List.set_cons_succ, List.getElem_toArray, List.getElem_cons_succ, List.getElem_cons_zero]
      refine wpAnyF_done (by kernel_rfl) ?_ _
      go_wp2_with fail
      go_meet
      refine ⟨w2.heap.size, A2, k2, rfl, HZA.out, by simp, by go_simp, by go_simp, by go_simp, fun o => by go_simp, ?_, ?_⟩
      · have h := rdx_own (s := w2.heap.size) (L := w0.heap.size) HO2.out (Nat.le_refl _) (fun y hy => by have := (HO2.out.lt y hy).2; omega)
        exact ⟨(h.1.below (bA (Below.refl _ _) _)).any (by decide), h.2⟩
      · exact bA HB2.out _
    refine AllReadyF.cons rfl (fun K hK => ?_) AllReadyF.nil
    have HBA := hid hHeld.1
    have HZA := hid hHeld.1.size
    go_simp
    refine hK.out _ _ (HK.out _ (bA hHeld.1 _)) (fun hHeld => ?_)
    clear hK K
    try simp only [Act.put, List.setIfInBounds_toArray, List.set_cons_zero, List.set_cons_succ, List.getElem_toArray, List.getElem_cons_succ, List.getElem_cons_zero]
    refine wpAnyF_one (i := 4) (by kernel_rfl) rfl (fun K hK => ?_)
    go_simp
    go_at_call 41
    refine (HMC.out _ hHeld.1).mono ?_
    rintro e w2 ⟨A2, k2, rfl, o2, b2⟩
    have HO2 := hid o2
    have HB2 := hid (bT hHeld.1 b2)
    have HZ2 := hid (show w0.heap.size ≤ _ from hHeld.1.size)
    have HZ3 := hid b2.size
    have y0 : w2.cell? ⟨w0.heap.size, 0, none⟩ = some (.int .i64 0) := keepb b2 (by go_simp)
    have y1 : w2.cell? ⟨w0.heap.size, 1, none⟩ = some (.slice none 0 0) := keepb b2 (by go_simp)
    have y2 : w2.cell? ⟨w0.heap.size, 2, none⟩ = some (.slice none 0 0) := keepb b2 (by go_simp)
    have yf : ∀ o, w2.frozen? ⟨w0.heap.size, o, none⟩ = false := fun o => keepf b2 (by go_simp) (by simp)
    have yf0 := yf 0
    have yf1 := yf 1
    have yf2 := yf 2
    clear o2
    go_wp2_with fail
    refine hK.out _ _ (HK.out _ (bT hHeld.1 b2)) (fun hHeld => ?_)
    clear hK K
    try simp only [Act.put, List.setIfInBounds_toArray, List.set_cons_zero, List.set_cons_succ, List.getElem_toArray, List.getElem_cons_succ, List.getElem_cons_zero]
    refine wpAnyF_pure (i := 5) (v := ?vg1_10_5) rfl (by kernel_rfl) (by kernel_rfl) (by kernel_rfl) (fun _ _ _ h => h) (Or.inl ⟨by rfl, ?hyg1_10_5⟩) ?restg1_10_5
    case hyg1_10_5 => (intro w hSw; clear hSw; go_simp; (all_goals with_reducible rfl))
    try simp only [Act.put, List.setIfInBounds_toArray, List.set_cons_zero, List.set_cons_succ, List.getElem_toArray, List.getElem_cons_succ, List.getElem_cons_zero]
    refine wpAnyF_oneD (i := 7) (by kernel_rfl) (by kernel_rfl) rfl (fun K hK => ?_)
    go_simp
    refine hK.out _ _ ?_
    clear hK K
    try simp only [Act.put, List.setIfInBounds_toArray, List.set_cons_zero, List.set_cons_succ, List.getElem_toArray, List.getElem_cons_succ, List.getElem_cons_zero]
    refine wpAnyF_done (by kernel_rfl) ?_ _
    go_wp2_with fail
    go_meet
    have hzs := HZ3.out
    simp at hzs
    refine ⟨w0.heap.size, A2, k2, rfl, Nat.le_refl _, by simp; omega, by go_simp, by go_simp, by go_simp, fun o => by simpa using yf o, ?_, ?_⟩
    · have h := rdx_own (s := w0.heap.size) (L := w0.heap.size) HO2.out (by simp) (fun y hy => by have := (HO2.out.lt y hy).1; simp at this; omega)
      simpa using (RdX.store (o := 2) (v := .slice none 0 0) (RdX.store (o := 1) (v := .slice A2 ln k2) (RdX.store (o := 0) (v := .int .i64 bu) h)))
    · exact bS (bS (bS HB2.out (Nat.le_refl _) _) (Nat.le_refl _) _) (Nat.le_refl _) _

  case rest =>
    obtain ⟨s, A1, c1, rfl, hs0, hsz, d0, d1, d2, df, hrx, hbx⟩ := hcut
    obtain ⟨T, hT⟩ : ∃ T, T = wc.heap.size := ⟨_, rfl⟩
    have hTT := Nat.le_of_eq hT
    have hsT : s < T := by omega
    rw [← hT] at hrx
    have HRX := hid hrx
    have HBX := hid hbx
    clear hrx hT hsz hbx
    go_wp2_with fail
    go_loopw [4] (fun iv wr => QyRel bu ln lo rs w w0 s T A1 c1 iv wr) (fun iv _ => rs.length - (intOf iv).toNat)
    case atStart => exact ⟨0, 0, none, [], Nat.zero_le _, rfl, d0, d1, d2, df, hid rfl, hid rfl, hid OwnGrid.nil, HRX, HBX.out, hTT⟩
    case round =>
      clear HRX HBX d0 d1 d2 df hTT
      obtain ⟨k, c3, A3, acc, hk, rfl, d0, d1, d2, df, HAL, HRW, HGR, HRX, hbel, hTz⟩ := hrel
      have hss : s < wr.heap.size := by omega
      have g2 := keepb hbel Q2.out
      have hbw := B0.out.trans (hbel.mono B0.out.size)
      by_cases hlt : k < rs.length
      · obtain ⟨x, hx⟩ : ∃ x, rs[k]? = some x := ⟨_, List.getElem?_eq_getElem hlt⟩
        have hxm := List.mem_of_getElem? hx
        obtain ⟨b, off, rfl, hb, c0⟩ := ml_cell (HG.out.1.below hbw) rfl hx
        have hkz : (k : Int) < (rs.length : Int) := by omega
        have HOC := hid (fun (V : World) (hV : Below wr.heap.size wr V) => octets_copy x.l V x.A x.l.length x.c V.heap.size (rdb (Grid.data HG.out hxm) (by decide) (hbw.trans (hV.mono (by have := hbw.size; omega)))) (by have := HZ.out x hxm; omega))
        have HRN := hid (fun A c => rows_snoc A c HRW.out hx)
        have hSZ : (k + 1) * 24 ≤ 140737488355328 := by omega
        have HK5 : Hid (∀ V, Below wr.heap.size wr V → ((fun V => Below wr.heap.size wr V ∧ V.cell? ⟨s, 2, none⟩ = some (.slice A3 k c3) ∧ V.cell? ⟨w.heap.size, 2, none⟩ = some (.slice (some ⟨b, off, none⟩) rs.length d) ∧ V.cell? ⟨b, off + k, none⟩ = some (.slice x.A x.l.length x.c)) : World → Prop) V) := hid fun V hV => ⟨hV, keepb hV d2, keepb hV g2, keepb hV c0⟩
        clear hx hxm HRW
        go_wp2_with fail
        refine wp_region_F (S := (fun V => Below wr.heap.size wr V ∧ V.cell? ⟨s, 2, none⟩ = some (.slice A3 k c3) ∧ V.cell? ⟨w.heap.size, 2, none⟩ = some (.slice (some ⟨b, off, none⟩) rs.length d) ∧ V.cell? ⟨b, off + k, none⟩ = some (.slice x.A x.l.length x.c))) [9, 11] (by kernel_rfl) (HK5.out _ (bD (Below.refl _ _))) (fun hHeld => ?_)
        refine wpAnyF_pure (i := 0) (v := ?vg2_1_0) rfl (by kernel_rfl) (by kernel_rfl) (by kernel_rfl) (fun _ _ _ h => h) (Or.inl ⟨by rfl, ?hyg2_1_0⟩) ?restg2_1_0
        case hyg2_1_0 => (intro w hSw; clear hSw; go_simp; (all_goals with_reducible rfl))
        try simp only [Act.put, List.setIfInBounds_toArray, List.set_cons_zero, List.set_cons_succ, List.getElem_toArray, List.getElem_cons_succ, List.getElem_cons_zero]
        refine wpAnyF_pure (i := 2) (v := ?vg2_2_2) rfl (by kernel_rfl) (by kernel_rfl) (by kernel_rfl) (fun _ _ _ h => h) (Or.inl ⟨by rfl, ?hyg2_2_2⟩) ?restg2_2_2
        case hyg2_2_2 => (intro w hSw; clear hSw; go_simp; (all_goals with_reducible rfl))
        try simp only [Act.put, List.setIfInBounds_toArray, List.set_cons_zero, List.set_cons_succ, List.getElem_toArray, List.getElem_cons_succ, List.getElem_cons_zero]
        refine wpAnyF_pure (i := 4) (v := ?vg2_3_4) rfl (by kernel_rfl) (by kernel_rfl) (by kernel_rfl) (fun _ _ _ h => h) (Or.inl ⟨by rfl, ?hyg2_3_4⟩) ?restg2_3_4
        case hyg2_3_4 => (intro w hSw; clear hSw; go_simp; (all_goals with_reducible rfl))
        try simp only [Act.put, List.setIfInBounds_toArray, List.set_cons_zero, List.set_cons_succ, List.getElem_toArray, List.getElem_cons_succ, List.getElem_cons_zero]
        refine wpAnyF_take [9, 10, 11] (i := 1) (v := ?vg2_4_1) rfl (by kernel_rfl) (by kernel_rfl) (by kernel_rfl) (by kernel_rfl) (fun _ _ _ h => h) (Or.inl ⟨by rfl, ?hyg2_4_1⟩) (by assumption) ?restg2_4_1
        case hyg2_4_1 => (intro w hSw; (try dsimp only at hSw); go_simp; (all_goals with_reducible rfl))
        try simp only [Act.put, List.setIfInBounds_toArray, List.set_cons_zero, List.set_cons_succ, List.getElem_toArray, List.getElem_cons_succ, List.getElem_cons_zero]
        refine wpAnyF_take [5, 6, 7, 8, 9, 10, 11] (i := 3) (v := ?vg2_5_3) rfl (by kernel_rfl) (by kernel_rfl) (by kernel_rfl) (by kernel_rfl) (fun _ _ _ h => h) (Or.inl ⟨by rfl, ?hyg2_5_3⟩) (by assumption) ?restg2_5_3
        case hyg2_5_3 => (intro w hSw; (try dsimp only at hSw); go_simp; (all_goals with_reducible rfl))
        try simp only [Act.put, List.setIfInBounds_toArray, List.set_cons_zero, List.set_cons_succ, List.getElem_toArray, List.getElem_cons_succ, List.getElem_cons_zero]
        refine wpAnyF_pure (i := 5) (v := ?vg2_6_5) rfl (by kernel_rfl) (by kernel_rfl) (by kernel_rfl) (fun _ _ _ h => h) (Or.inl ⟨by rfl, ?hyg2_6_5⟩) ?restg2_6_5
        case hyg2_6_5 => (intro w hSw; clear hSw; go_simp; (all_goals with_reducible rfl))
        try simp only [Act.put, List.setIfInBounds_toArray, List.set_cons_zero, List.set_cons_succ, List.getElem_toArray, List.getElem_cons_succ, List.getElem_cons_zero]
        refine wpAnyF_take [7, 8, 9, 10, 11] (i := 6) (v := ?vg2_7_6) rfl (by kernel_rfl) (by kernel_rfl) (by kernel_rfl) (by kernel_rfl) (fun _ _ _ h => h) (Or.inl ⟨by rfl, ?hyg2_7_6⟩) (by assumption) ?restg2_7_6
        case hyg2_7_6 => (intro w hSw; (try dsimp only at hSw); go_simp; (all_goals with_reducible rfl))
        try simp only [Act.put, List.setIfInBounds_toArray, List.set_cons_zero, List.set_cons_succ, List.getElem_toArray, List.getElem_cons_succ, List.getElem_cons_zero]
        refine wpAnyF_one (i := 7) (by kernel_rfl) rfl (fun K hK => ?_)
        go_simp
        go_at_call 20
        refine (HOC.out _ hHeld.1).mono ?_
        rintro e w2 ⟨A2, k2, rfl, o2, b2⟩
        have HO2 := hid (own_more (base' := T) o2 (by have := hHeld.1.size; omega))
        have HG2 := hid (HGR.out.below (bT hHeld.1 b2) (Nat.le_refl _))
        have HAS : Hid (Aside id A3 c3 acc (id (⟨A2, k2, x.l⟩ : ML Int))) := hid (OwnGrid.aside HGR.out (base' := _) o2 (by have := hHeld.1.size; omega))
        have HB2 := hid (bT hHeld.1 b2)
        clear o2
        go_wp2_with fail
        refine hK.out _ _ (HK5.out _ (bT hHeld.1 b2)) (fun hHeld => ?_)
        clear hK K
        try simp only [Act.put, List.setIfInBounds_toArray, List.set_cons_zero, List.set_cons_succ, List.getElem_toArray, List.getElem_cons_succ, List.getElem_cons_zero]
        refine wpAnyF_one (i := 8) (by kernel_rfl) rfl (fun K hK => ?_)
        go_simp
        refine hK.out _ _ (HK5.out _ (bA hHeld.1 _)) (fun hHeld => ?_)
        clear hK K
        try simp only [Act.put, List.setIfInBounds_toArray, List.set_cons_zero, List.set_cons_succ, List.getElem_toArray, List.getElem_cons_succ, List.getElem_cons_zero]
        refine wpAnyF_oneD (i := 9) (by kernel_rfl) (by kernel_rfl) rfl (fun K hK => ?_)
        refine step_grid (cells := u8c) (inner := id) (sz := 1) rfl rfl el_grid_u8 rfl HAL.out.symm (HG2.out.alloc _) (⟨A2, k2, x.l⟩ : ML Int) (own_below HO2.out (bA (Below.refl _ _) _) (Nat.le_refl _)) HAS.out rfl (rd_newAt _ _ _ 1 1 _ (by simp) rfl) (one_rowV _) hSZ (by have := HB2.out.size; simp; omega) ?_
        intro A5 c5 w5 o5 b5 g5
        have HO5 := hid o5
        have HB5 := hid b5
        have e0 : w5.cell? ⟨s, 0, none⟩ = some (.int .i64 bu) := (b5.cell (p := ⟨s, 0, none⟩) hsT).trans (keepb (bA HB2.out _) d0)
        have e1 : w5.cell? ⟨s, 1, none⟩ = some (.slice A1 ln c1) := (b5.cell (p := ⟨s, 1, none⟩) hsT).trans (keepb (bA HB2.out _) d1)
        have e2 : w5.cell? ⟨s, 2, none⟩ = some (.slice A3 k c3) := (b5.cell (p := ⟨s, 2, none⟩) hsT).trans hHeld.2.1
        have ef : ∀ o, w5.frozen? ⟨s, o, none⟩ = false := fun o => (b5.frozen (p := ⟨s, o, none⟩) hsT).trans (keepf (bA HB2.out _) (df o) hss)
        have ef2 := ef 2
        clear o5 b5 g5
        refine hK.out _ _ ?_
        clear hK K
        try simp only [Act.put, List.setIfInBounds_toArray, List.set_cons_zero, List.set_cons_succ, List.getElem_toArray, List.getElem_cons_succ, List.getElem_cons_zero]
        refine wpAnyF_pure (i := 10) (v := ?vg2_11_10) rfl (by kernel_rfl) (by kernel_rfl) (by kernel_rfl) (fun _ _ _ h => h) (Or.inl ⟨by rfl, ?hyg2_11_10⟩) ?restg2_11_10
        case hyg2_11_10 => (intro w hSw; clear hSw; go_simp; (all_goals with_reducible rfl))
        try simp only [Act.put, List.setIfInBounds_toArray, List.set_cons_zero, List.set_cons_succ, List.getElem_toArray, List.getElem_cons_succ, List.getElem_cons_zero]
        refine wpAnyF_oneD (i := 11) (by kernel_rfl) (by kernel_rfl) rfl (fun K hK => ?_)
        go_simp
        refine hK.out _ _ ?_
        clear hK K
        try simp only [Act.put, List.setIfInBounds_toArray, List.set_cons_zero, List.set_cons_succ, List.getElem_toArray, List.getElem_cons_succ, List.getElem_cons_zero]
        refine wpAnyF_done (by kernel_rfl) ?_ _
        go_wp2_with fail
        go_roundw
        case rel =>
          refine ⟨k + 1, c5, A5, acc ++ [⟨A2, k2, x.l⟩], by omega, by go_num, cell_offs e0 (by decide), cell_offs e1 (by decide), World.cell?_setCell_same _ _ _ e2, fun o => by simpa using ef o, hid (by rw [List.length_append, HAL.out]; rfl), hid (HRN.out _ _), hid (OwnGrid.store HO5.out (by show s < T; exact hsT) _), hid ?_, ?_, ?_⟩
          · exact (HRX.out.below (((bA HB2.out _).mono hTz).trans HB5.out)).store
          · exact (hbel.trans (((bA HB2.out _).mono hbel.size).trans (HB5.out.mono (by omega)))).setCell hs0 _
          · have := HB5.out.size; have := HB2.out.size; simp at *; omega
        case measure => (simp [intOf]) <;> omega
      · obtain rfl : k = rs.length := by omega
        have hkz : ¬ (rs.length : Int) < (rs.length : Int) := by omega
        have HRF := hid (show rowsOf acc = rowsOf rs from by have h := HRW.out; rwa [List.take_length] at h)
        have y0 := keepb hbel Z0.out
        have y1 := keepb hbel Z1.out
        have y2 := keepb hbel Z2.out
        have yf : ∀ o, wr.frozen? ⟨w.heap.size + 1, o, none⟩ = false := fun o => keepf hbel (ZF.out o) (by have := HZ0.out; show w.heap.size + 1 < _; omega)
        have yf0 := yf 0
        have yf1 := yf 1
        have yf2 := yf 2
        have HBW := hid hbw
        have hzz := HZ0.out
        have hsw : s ≠ w.heap.size + 1 := by omega
        clear HRW hbw
        go_wp2_with fail
        refine bodyPost_ret (v := .agg #[.int .i64 bu, .slice A1 ln c1, .slice A3 rs.length c3]) (by simp [results, Try.results26, go_sem, *]) rfl ?_
        have hGF := ((HGR.out.store (a := ⟨w.heap.size + 1, 0, none⟩) (by show w.heap.size + 1 < T; omega) (.int .i64 bu)).store (a := ⟨w.heap.size + 1, 1, none⟩) (by show w.heap.size + 1 < T; omega) (.slice A1 ln c1)).store (a := ⟨w.heap.size + 1, 2, none⟩) (by show w.heap.size + 1 < T; omega) (.slice A3 rs.length c3)
        have hRF := (((HRX.out.low (g := w.heap.size + 1) (o := 0) (v := .int .i64 bu) (by omega)).low (g := w.heap.size + 1) (o := 1) (v := .slice A1 ln c1) (by omega)).low (g := w.heap.size + 1) (o := 2) (v := .slice A3 rs.length c3) (by omega)).1
        refine ⟨A1, c1, A3, c3, acc, ?_, HAL.out, HRF.out, ?_, ?_, fun x hx => ?_, ?_⟩
        · show _ = Ending.returned (.agg #[.int .i64 bu, .slice A1 lo.length c1, .slice A3 rs.length c3])
          rw [hln]
        · show Rd _ _ A1 2 lo.length _
          rw [hln]; exact hRF.any (by decide)
        · have h := OwnGrid.led (show OwnGrid ML.cells id u8c 41 5 1 1 _ T A3 c3 acc from hGF)
          exact h
        · obtain ⟨i, hi⟩ := List.mem_iff_getElem?.1 hx
          exact own_cap (HGR.out.row hi)
        · exact bS (bS (bS HBW.out (by show w.heap.size ≤ w.heap.size + 1; omega) _) (by show w.heap.size ≤ w.heap.size + 1; omega) _) (by show w.heap.size ≤ w.heap.size + 1; omega) _
end Go.Proofs.Ytifpngjipkmdcaa
