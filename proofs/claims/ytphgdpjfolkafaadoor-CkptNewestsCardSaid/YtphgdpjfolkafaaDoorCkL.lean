/- ckpt.Decode: the walk. -/
import Derived.Test.YtphgdpjfolkafaaDoorCkC
namespace Go.Proofs.YtphgdpjfolkafaaDoor
open Go.ChangeShapes Go.WideShapes Go.ChangeAt Go.RowKit
set_option linter.unusedVariables false
set_option linter.unusedSimpArgs false
def R1 (w1 : World) (p s : Nat) (st ph : Int) (fr : Bool) (N0 : Nat) (l0 : List Int) (b0 : Bool) (n : Value) (wr : World) : Prop :=
  ∃ (N : Nat) (vs : List Val) (l : List Int) (bad : Bool) (A : Option Addr) (c : Nat), n = .int .i64 (N : Nat) ∧ Hid (decVals N0 l0 b0 = (vs ++ (decVals N l bad).1, (decVals N l bad).2)) ∧ Hid (∀ x ∈ l, 0 ≤ x ∧ x ≤ 255) ∧ Taken p l bad wr ∧ DS w1 p s ⟨st, ph, fr, vs, []⟩ A c none 0 wr ∧ Hid (wr.ownsRow (s + 1) 61 2 (.slice A vs.length c) vs.length (vs.flatMap Val.cells)) ∧ N ≤ 200 ∧ vs.length + N ≤ 200
def R2 (w1 : World) (p s t : Nat) (st ph : Int) (fr : Bool) (vs : List Val) (A : Option Addr) (c : Nat) (N0 : Nat) (l0 : List Int) (b0 : Bool) (n : Value) (wr : World) : Prop :=
  ∃ (N : Nat) (ms : List Mail) (l : List Int) (bad : Bool) (B : Option Addr) (d : Nat), n = .int .i64 (N : Nat) ∧ Hid (decMails N0 l0 b0 = (ms ++ (decMails N l bad).1, (decMails N l bad).2)) ∧ Hid (∀ x ∈ l, 0 ≤ x ∧ x ≤ 255) ∧ Taken p l bad wr ∧ DS w1 p s ⟨st, ph, fr, vs, ms⟩ A c B d wr ∧ Hid (wr.ownsRow (s + 1) 61 2 (.slice A vs.length c) vs.length (vs.flatMap Val.cells)) ∧ Hid (wr.ownsRow t 63 2 (.slice B ms.length d) ms.length (ms.flatMap Mail.cells)) ∧ N ≤ 5000 ∧ ms.length + N ≤ 5000 ∧ t ≤ wr.heap.size
set_option maxRecDepth 100000 in
set_option maxHeartbeats 8000000 in
theorem decode_walk (b : List Int) (w : World) (A : Option Addr) (L c : Nat) (hr : Rd w w.heap.size A 1 L (b.flatMap u8c)) (hL : b.length = L) (hb : ∀ x ∈ b, 0 ≤ x ∧ x ≤ 255) (hn : L ≤ 140737488355328) (hcap : L ≤ c) :
    Calls Tryd.prog 15 #[.slice A L c] w (RetSv w (decV b).1 (decV b).2) := by
  obtain ⟨ink, k, e, hu⟩ : ∃ ink k e, unwV b = (ink, k, e) := ⟨_, _, _, rfl⟩
  have HUN := hid (fun W (h : Rd W W.heap.size A 1 L (b.flatMap u8c)) => unwrap_walk b W A L c h hL hb hn hcap)
  rw [hu] at HUN
  simp only at HUN
  have HL := hid hL
  have HBB := hid hb
  have HU := hid hu
  have hlen := unwV_len b hb
  rw [hu] at hlen
  obtain ⟨hi1, hk0, hk1, _⟩ := hlen
  have hib : e = 0 → ∀ x ∈ ink, 0 ≤ x ∧ x ≤ 255 := fun he => by have := unwV_byte hb; rw [hu] at this; exact this
  simp only at hi1 hk0 hk1
  have bz : Below w.heap.size w (w.alloc (.cells #[.int .i64 0, .int .i64 0, .bool false, .slice none 0 0, .slice none 0 0] 29)) := bA (Below.refl _ _) _
  have rz := (hr.below bz).any (by decide)
  clear hL hb hu
  by_cases he : e = 0
  · subst he
    have HIB := hid (hib rfl)
    clear hib
    obtain ⟨a1, l1, b1, h1⟩ : ∃ r t b1, takeV ink false 100000 = (r, t, b1) := ⟨_, _, _, rfl⟩
    obtain ⟨a2, l2, b2, h2⟩ : ∃ r t b', takeV l1 b1 1 = (r, t, b') := ⟨_, _, _, rfl⟩
    obtain ⟨a3, l3, b3, h3⟩ : ∃ r t b', takeV l2 b2 1 = (r, t, b') := ⟨_, _, _, rfl⟩
    obtain ⟨a4, l4, b4, h4⟩ : ∃ r t b', takeV l3 b3 200 = (r, t, b') := ⟨_, _, _, rfl⟩
    obtain ⟨vv, l5, b5, h5⟩ : ∃ r t b', decVals a4.toNat l4 b4 = (r, t, b') := ⟨_, _, _, rfl⟩
    obtain ⟨a6, l6, b6, h6⟩ : ∃ r t b', takeV l5 b5 5000 = (r, t, b') := ⟨_, _, _, rfl⟩
    obtain ⟨mm, l7, b7, h7⟩ : ∃ r t b', decMails a6.toNat l6 b6 = (r, t, b') := ⟨_, _, _, rfl⟩
    have HD : Hid (dec0 ink = (⟨a1, a2, a3 == 1, vv, mm⟩, l7, b7)) := hid (by simp only [dec0, h1, h2, h3, h4, h5, h6, h7])
    have HB1 := hid (takeV_lo2 h1 HIB.out)
    have HB2 := hid (takeV_lo2 h2 HB1.out)
    have HB3 := hid (takeV_lo2 h3 HB2.out)
    have HB4 := hid (takeV_lo2 h4 HB3.out)
    have HB5 : Hid (∀ x ∈ l5, 0 ≤ x ∧ x ≤ 255) := hid (by have := decVals_byte a4.toNat l4 b4 HB4.out; rw [h5] at this; exact this)
    have HB6 := hid (takeV_lo2 h6 HB5.out)
    have hvl : vv.length ≤ a4.toNat := by have := decVals_len a4.toNat l4 b4; rw [h5] at this; exact this
    have hml : mm.length ≤ a6.toNat := by have := decMails_len a6.toNat l6 b6; rw [h7] at this; exact this
    have q4 : 0 ≤ a4 ∧ a4 ≤ 200 := by have := (takeV_lo HB3.out b3 (most := 200) (by decide)).1; rw [h4] at this; exact this
    have q6 : 0 ≤ a6 ∧ a6 ≤ 5000 := by have := (takeV_lo HB5.out b5 (most := 5000) (by decide)).1; rw [h6] at this; exact this
    obtain ⟨N0, rfl⟩ := Int.eq_ofNat_of_zero_le q4.1
    obtain ⟨M0, rfl⟩ := Int.eq_ofNat_of_zero_le q6.1
    rw [Int.toNat_natCast] at h5 h7 hvl hml
    have hN0 : N0 ≤ 200 := by omega
    have hM0 : M0 ≤ 5000 := by omega
    have H1' := hid h1
    have H2' := hid h2
    have H3 := hid h3
    have H4 := hid h4
    have H5 := hid h5
    have H6 := hid h6
    have H7 := hid h7
    clear h1 h2 h3 h4 h5 h6 h7 q4 q6
    go_enter Tryd.func15, Tryd.ntmps15
    go_wp2_with fail
    refine (HUN.out _ rz).mono ?_
    rintro e w1 ⟨A1, k1, rfl, o1, b1'⟩
    have HBZ := hid (bT bz b1')
    have hz1 : w.heap.size < w1.heap.size := by have := b1'.size; simp at this; omega
    have z0 : w1.cell? ⟨w.heap.size, 0, none⟩ = some (.int .i64 0) := keepb b1' (by go_simp)
    have z1 : w1.cell? ⟨w.heap.size, 1, none⟩ = some (.int .i64 0) := keepb b1' (by go_simp)
    have z2 : w1.cell? ⟨w.heap.size, 2, none⟩ = some (.bool false) := keepb b1' (by go_simp)
    have z3 : w1.cell? ⟨w.heap.size, 3, none⟩ = some (.slice none 0 0) := keepb b1' (by go_simp)
    have z4 : w1.cell? ⟨w.heap.size, 4, none⟩ = some (.slice none 0 0) := keepb b1' (by go_simp)
    have zf : ∀ o, w1.frozen? ⟨w.heap.size, o, none⟩ = false := fun o => by rw [b1'.frozen (by simp)]; go_simp
    have HT0 : Hid (Taken w1.heap.size ink false (w1.alloc (.cells #[.slice A1 ink.length k1, .bool false] 58))) := hid ⟨A1, ink.length, k1, rfl, own_cap o1, by omega, by go_simp, by go_simp, by go_simp, by go_simp, (rd_own o1).below (bA (Below.refl _ _) _)⟩
    have HBA : Hid (Below w1.heap.size w1 (w1.alloc (.cells #[.slice A1 ink.length k1, .bool false] 58))) := hid (bA (Below.refl _ _) _)
    clear b1' o1 bz rz
    go_wp2_with fail
    refine (take_at H1'.out HIB.out (by decide) (by decide) HT0.out).mono ?_
    rintro e w2 ⟨rfl, T2, W2⟩
    have HT2 := hid T2
    have HW2 := hid W2
    clear T2 W2
    go_wp2_with fail
    refine (take_at H2'.out HB1.out (by decide) (by decide) HT2.out).mono ?_
    rintro e w3 ⟨rfl, T3, W3⟩
    have HT3 := hid T3
    have HW3 := hid W3
    clear T3 W3
    go_wp2_with fail
    refine (take_at H3.out HB2.out (by decide) (by decide) HT3.out).mono ?_
    rintro e w4 ⟨rfl, T4, W4⟩
    have HT4 := hid T4
    have hps : w1.heap.size < w4.heap.size := by rw [W4.size, HW3.out.size, HW2.out.size]; simp
    have HBL4 : Hid (Below w1.heap.size w1 w4) := hid (((HBA.out.trans HW2.out.below).trans HW3.out.below).trans W4.below)
    clear T4 W4
    go_wp2_with fail
    refine (take_at H4.out HB3.out (by decide) (by decide) (HT4.out.below ?hbx hps)).mono ?_
    case hbx =>
      repeat (with_reducible refine Below.setCell ?_ (by simp) _)
      exact bA (Below.refl _ _) _
    rintro e w5 ⟨rfl, T5, W5⟩
    have hne : w4.heap.size ≠ w1.heap.size := by omega
    have D5 : DS w1 w1.heap.size w4.heap.size ⟨a1, a2, a3 == 1, [], []⟩ none 0 none 0 w5 := by
      refine ⟨W5.keep hne (by go_simp), W5.keep hne (by go_simp), W5.keep hne (by go_simp), W5.keep hne (by go_simp), W5.keep hne (by go_simp), fun o => W5.frz hne (by go_simp), by rw [W5.size]; simp, ?_⟩
      refine Below.trans ?_ W5.below
      repeat (with_reducible refine Below.setCell ?_ (by simp; omega) _)
      exact HBL4.out.alloc (by omega) _
    have HT5 := hid T5
    generalize w4.heap.size = s at *
    generalize hp : w1.heap.size = p at *
    have hps := hps
    clear W5 hne T5 HBL4 HT4 HT3 HT2 HW3 HW2 HT0 HBA
    have HP := hid hp
    clear hp
    have hsp : ∀ o, (⟨s, o, none⟩ : Addr).block ≠ p := fun o => by show s ≠ p; omega
    have HD5 := hid D5
    clear D5
    go_wp2_with fail
    go_loopw [9] (fun n wr => R1 w1 p s a1 a2 (a3 == 1) N0 l4 b4 n wr) (fun n _ => (intOf n).toNat)
    case atStart => exact ⟨N0, [], l4, b4, none, 0, rfl, hid (by simp), HB4, HT5.out, HD5.out, hid (World.ownsRow_nil _ _ _ _), hN0, by simpa using hN0⟩
    case round =>
      clear HD5 HT5
      obtain ⟨N, vs, l, bad, A, c, rfl, HV, HBY, hT, hD, HOWN, hN, hVN⟩ := hrel
      have hpz : p < wr.heap.size := Nat.lt_trans hps hD.sz
      have hss := hD.sz
      obtain ⟨tA, tn, tc, tl, tq, tz, t0, t1, tf0, tf1, tr⟩ := id hT
      have HTR := hid tr
      have HTL := hid tl
      clear tr tl
      by_cases hgo : 0 < N ∧ bad = false
      · obtain ⟨hN1, rfl⟩ := hgo
        obtain ⟨M, rfl⟩ : ∃ M, N = M + 1 := ⟨N - 1, by omega⟩
        have hpos : (0 : Int) < ((M + 1 : Nat) : Int) := by omega
        obtain ⟨a, la, ba, h1⟩ : ∃ r t b1, takeV l false 4398046511105 = (r, t, b1) := ⟨_, _, _, rfl⟩
        obtain ⟨b', lb, bb, h2⟩ : ∃ r t b1, takeV la ba 200 = (r, t, b1) := ⟨_, _, _, rfl⟩
        have q1 : 0 ≤ a ∧ a ≤ 4398046511105 := by have := (takeV_lo HBY.out false (most := 4398046511105) (by decide)).1; rw [h1] at this; exact this
        have q2 : 0 ≤ b' ∧ b' ≤ 200 := by have := (takeV_lo (takeV_lo2 h1 HBY.out) ba (most := 200) (by decide)).1; rw [h2] at this; exact this
        have hw1 : IntKind.i64.wrap (a - 1) = a - 1 := IntWalk.i64_in _ (by omega)
        have hw2 : IntKind.i64.wrap (b' - 1) = b' - 1 := IntWalk.i64_in _ (by omega)
        have hw3 : IntKind.i64.wrap (((M + 1 : Nat) : Int) - 1) = (M : Nat) := by rw [IntWalk.i64_in _ (by omega)]; omega
        have H1 := hid h1
        have H2 := hid h2
        have hSZ : (vs.length + 1) * 16 ≤ 140737488355328 := by omega
        have c3 := hD.c3
        have f3 := hD.fz 3
        have hsp := hsp 3
        simp only at c3
        clear h1 h2 q1 q2
        go_wp2_with fail
        refine wp_region_F (S := (fun V => V.cell? ⟨s, 3, none⟩ = some (.slice A vs.length c))) [10, 12] (by kernel_rfl) (keepb (bD (Below.refl _ _)) c3) (fun hHeld => ?_)
        refine wpAnyF_pure (i := 0) (v := ?vg1_1_0) rfl (by kernel_rfl) (by kernel_rfl) (by kernel_rfl) (fun _ _ _ h => h) (Or.inl ⟨by rfl, ?hyg1_1_0⟩) ?restg1_1_0
        case hyg1_1_0 => (intro w hSw; clear hSw; go_simp; (all_goals with_reducible rfl))
        try simp only [Act.put, List.setIfInBounds_toArray, List.set_cons_zero, List.set_cons_succ, List.getElem_toArray, List.getElem_cons_succ, List.getElem_cons_zero]
        refine wpAnyF_pure (i := 2) (v := ?vg1_2_2) rfl (by kernel_rfl) (by kernel_rfl) (by kernel_rfl) (fun _ _ _ h => h) (Or.inl ⟨by rfl, ?hyg1_2_2⟩) ?restg1_2_2
        case hyg1_2_2 => (intro w hSw; clear hSw; go_simp; (all_goals with_reducible rfl))
        try simp only [Act.put, List.setIfInBounds_toArray, List.set_cons_zero, List.set_cons_succ, List.getElem_toArray, List.getElem_cons_succ, List.getElem_cons_zero]
        refine wpAnyF_pure (i := 5) (v := ?vg1_3_5) rfl (by kernel_rfl) (by kernel_rfl) (by kernel_rfl) (fun _ _ _ h => h) (Or.inl ⟨by rfl, ?hyg1_3_5⟩) ?restg1_3_5
        case hyg1_3_5 => (intro w hSw; clear hSw; go_simp; (all_goals with_reducible rfl))
        try simp only [Act.put, List.setIfInBounds_toArray, List.set_cons_zero, List.set_cons_succ, List.getElem_toArray, List.getElem_cons_succ, List.getElem_cons_zero]
        refine wpAnyF_take [10, 11, 12] (i := 1) (v := ?vg1_4_1) rfl (by kernel_rfl) (by kernel_rfl) (by kernel_rfl) (by kernel_rfl) (fun _ _ _ h => h) (Or.inl ⟨by rfl, ?hyg1_4_1⟩) (by assumption) ?restg1_4_1
        case hyg1_4_1 => (intro w hSw; (try dsimp only at hSw); go_simp; (all_goals with_reducible rfl))
        try simp only [Act.put, List.setIfInBounds_toArray, List.set_cons_zero, List.set_cons_succ, List.getElem_toArray, List.getElem_cons_succ, List.getElem_cons_zero]
        refine wpAnyF_one (i := 3) (by kernel_rfl) rfl (fun K hK => ?_)
        go_simp
        go_at_call 29
        refine (take_at H1.out HBY.out (by decide) (by decide) (hT.below (B := wr.heap.size) (bD (Below.refl _ _)) hpz)).mono ?_
        rintro e w2 ⟨rfl, T2, W2⟩
        have HB2 := hid (takeV_lo2 H1.out HBY.out)
        go_wp2_with fail
        refine hK.out _ _ (W2.keep hsp hHeld) (fun hHeld => ?_)
        clear hK K
        try simp only [Act.put, List.setIfInBounds_toArray, List.set_cons_zero, List.set_cons_succ, List.getElem_toArray, List.getElem_cons_succ, List.getElem_cons_zero]
        refine wpAnyF_pure (i := 4) (v := ?vg1_6_4) rfl (by kernel_rfl) (by kernel_rfl) (by kernel_rfl) (fun _ _ _ h => h) (Or.inl ⟨by rfl, ?hyg1_6_4⟩) ?restg1_6_4
        case hyg1_6_4 => (intro w hSw; clear hSw; go_simp; (all_goals with_reducible rfl))
        try simp only [Act.put, List.setIfInBounds_toArray, List.set_cons_zero, List.set_cons_succ, List.getElem_toArray, List.getElem_cons_succ, List.getElem_cons_zero]
        refine wpAnyF_one (i := 6) (by kernel_rfl) rfl (fun K hK => ?_)
        go_simp
        go_at_call 29
        refine (take_at H2.out HB2.out (by decide) (by decide) T2).mono ?_
        rintro e w3 ⟨rfl, T3, W3⟩
        have HB3 := hid (takeV_lo2 H2.out HB2.out)
        go_wp2_with fail
        refine hK.out _ _ (W3.keep hsp hHeld) (fun hHeld => ?_)
        clear hK K
        try simp only [Act.put, List.setIfInBounds_toArray, List.set_cons_zero, List.set_cons_succ, List.getElem_toArray, List.getElem_cons_succ, List.getElem_cons_zero]
        refine wpAnyF_pure (i := 7) (v := ?vg1_8_7) rfl (by kernel_rfl) (by kernel_rfl) (by kernel_rfl) (fun _ _ _ h => h) (Or.inl ⟨by rfl, ?hyg1_8_7⟩) ?restg1_8_7
        case hyg1_8_7 => (intro w hSw; clear hSw; go_simp; (all_goals with_reducible rfl))
        try simp only [Act.put, List.setIfInBounds_toArray, List.set_cons_zero, List.set_cons_succ, List.getElem_toArray, List.getElem_cons_succ, List.getElem_cons_zero]
        refine wpAnyF_pure (i := 8) (v := ?vg1_9_8) rfl (by kernel_rfl) (by kernel_rfl) (by kernel_rfl) (fun _ _ _ h => h) (Or.inl ⟨by rfl, ?hyg1_9_8⟩) ?restg1_9_8
        case hyg1_9_8 => (intro w hSw; clear hSw; go_simp; (all_goals with_reducible rfl))
        try simp only [Act.put, List.setIfInBounds_toArray, List.set_cons_zero, List.set_cons_succ, List.getElem_toArray, List.getElem_cons_succ, List.getElem_cons_zero]
        refine wpAnyF_one (i := 9) (by kernel_rfl) rfl (fun K hK => ?_)
        go_simp
        refine hK.out _ _ (keepb (bA (Below.refl _ _) _) hHeld) (fun hHeld => ?_)
        clear hK K
        try simp only [Act.put, List.setIfInBounds_toArray, List.set_cons_zero, List.set_cons_succ, List.getElem_toArray, List.getElem_cons_succ, List.getElem_cons_zero]
        refine wpAnyF_oneD (i := 10) (by kernel_rfl) (by kernel_rfl) rfl (fun K hK => ?_)
        have HO3 := hid (W3.own (W2.own (own_below HOWN.out (bD (Below.refl _ _)) (Nat.le_refl _)) (by omega)) (by omega))
        have hz3 : w3.heap.size = wr.heap.size := W3.size.trans W2.size
        have hs3 : s < w3.heap.size := by rw [hz3]; exact hss
        refine step_app3 rfl rfl el_vals rfl (own_below HO3.out (bA (Below.refl _ _) _) (Nat.le_refl _)) rfl (rd_newAt _ _ _ 2 1 _ (by simp) rfl) (two_ints _ _) hSZ (by simp; omega) ?_
        intro A3 c3 w4 o4 b4 g4 h4
        have HO4 := hid o4
        have HB4 := hid b4
        have HG4 := hid g4
        have cs4 := (HB4.out.cell (p := ⟨s, 3, none⟩) (Nat.lt_succ_self s)).trans hHeld
        have fs4 : w4.frozen? ⟨s, 3, none⟩ = false := (HB4.out.frozen (p := ⟨s, 3, none⟩) (Nat.lt_succ_self s)).trans ((Below.frozen (bA (Below.refl w3.heap.size w3) _) (p := ⟨s, 3, none⟩) hs3).trans (W3.frz hsp (W2.frz hsp (hD.fz 3))))
        clear o4 b4 g4 h4
        refine hK.out _ _ ?_
        clear hK K
        try simp only [Act.put, List.setIfInBounds_toArray, List.set_cons_zero, List.set_cons_succ, List.getElem_toArray, List.getElem_cons_succ, List.getElem_cons_zero]
        refine wpAnyF_pure (i := 11) (v := ?vg1_12_11) rfl (by kernel_rfl) (by kernel_rfl) (by kernel_rfl) (fun _ _ _ h => h) (Or.inl ⟨by rfl, ?hyg1_12_11⟩) ?restg1_12_11
        case hyg1_12_11 => (intro w hSw; clear hSw; go_simp; (all_goals with_reducible rfl))
        try simp only [Act.put, List.setIfInBounds_toArray, List.set_cons_zero, List.set_cons_succ, List.getElem_toArray, List.getElem_cons_succ, List.getElem_cons_zero]
        refine wpAnyF_oneD (i := 12) (by kernel_rfl) (by kernel_rfl) rfl (fun K hK => ?_)
        go_simp
        refine hK.out _ _ ?_
        clear hK K
        try simp only [Act.put, List.setIfInBounds_toArray, List.set_cons_zero, List.set_cons_succ, List.getElem_toArray, List.getElem_cons_succ, List.getElem_cons_zero]
        refine wpAnyF_done (by kernel_rfl) ?_ _
        go_wp2_with fail
        go_roundw
        case rel =>
          have hx : Hid (decVals N0 l4 b4 = ((vs ++ [⟨a - 1, b' - 1⟩]) ++ (decVals M lb bb).1, (decVals M lb bb).2)) := hid (by rw [HV.out]; simp only [decVals, H1.out, H2.out, List.append_assoc, List.cons_append, List.nil_append])
          have hB : Below (s + 1) w3 w4 := ((Below.refl (s + 1) w3).alloc (by have := hD.sz; omega) _).trans HB4.out
          have k0 : ∀ (o : Nat) (v : Value), o ≠ 3 → wr.cell? ⟨s, o, none⟩ = some v → (w4.setCell ⟨s, 3, none⟩ (.slice A3 (vs.length + 1) c3)).cell? ⟨s, o, none⟩ = some v := fun o v ho h => by
            have h3 := (hB.cell (p := ⟨s, o, none⟩) (Nat.lt_succ_self s)).trans (W3.keep hsp (W2.keep hsp (show wr.drew.cell? ⟨s, o, none⟩ = some v from h)))
            go_simp
          refine ⟨M, vs ++ [⟨a - 1, b' - 1⟩], lb, bb, A3, c3, by go_num, hx, HB3, ?_, ⟨k0 0 _ (by decide) hD.c0, k0 1 _ (by decide) hD.c1, k0 2 _ (by decide) hD.c2, ?_, k0 4 _ (by decide) hD.c4, ?_, ?_, ?_⟩, hid ?_, by omega, by simp; omega⟩
          · exact T3.below ((hB.mono (Nat.le_succ s)).setCell (Nat.le_refl s) _) hps
          · simp only [List.length_append, List.length_cons, List.length_nil]; go_simp
          · intro o
            have h3 : w4.frozen? ⟨s, o, none⟩ = false := (hB.frozen (p := ⟨s, o, none⟩) (Nat.lt_succ_self s)).trans (W3.frz hsp (W2.frz hsp (hD.fz o)))
            go_simp
          · have := hB.size; simp; omega
          · exact ((((hD.bl.drew).trans W2.below).trans W3.below).trans (hB.mono (by omega))).setCell (Nat.le_of_lt hps) _
          · rw [List.flatMap_append, List.length_append]; exact ownsRow_setCell_below HO4.out (a := ⟨s, 3, none⟩) (Nat.lt_succ_self s) _
        case measure => simp [intOf]
      · have hend : decVals N l bad = ([], l, bad) := by
          rcases Nat.eq_zero_or_pos N with h | h
          · subst h; rfl
          · cases bad with
            | true => exact decVals_bad _ _
            | false => exact absurd ⟨h, rfl⟩ hgo
        have hee := HV.out
        rw [hend, H5.out, List.append_nil] at hee
        injection hee with ev ee
        injection ee with el eb
        subst ev el eb
        clear hend HV
        rcases Nat.eq_zero_or_pos N with h0 | h0
        · subst h0
          clear hgo
          go_wp2_with fail
          refine (take_at H6.out HB5.out (by decide) (by decide) hT).mono ?_
          rintro e w6 ⟨rfl, T6, W6⟩
          have HD6 := hid (hD.wrote W6 hps)
          have HO6 := hid (W6.own HOWN.out (by omega))
          have HT6 := hid T6
          have hst : s < w6.heap.size := HD6.out.sz
          have HVT : Hid (∀ y, (Value.slice A vv.length c).ownBlock = some y → y < w6.heap.size) := hid fun y hy => (HO6.out.lt y hy).2
          clear T6 W6 HOWN hT hD t0 t1 tf0 tf1 HTR HTL hpz hss
          go_wp2_with fail
          go_loopw [10] (fun n wr => R2 w1 p s w6.heap.size a1 a2 (a3 == 1) vv A c M0 l6 b6 n wr) (fun n _ => (intOf n).toNat)
          case atStart => exact ⟨M0, [], l6, b6, none, 0, rfl, hid (by simp), HB6, HT6.out, HD6.out, HO6, hid (World.ownsRow_nil _ _ _ _), hM0, by simpa using hM0, Nat.le_refl _⟩
          case round =>
            clear HD6 HT6 HO6
            obtain ⟨N, ms, l, bad, B, d, rfl, HV, HBY, hT, hD, HOV, HOWN, hN, hVN, htw⟩ := hrel
            generalize w6.heap.size = t at *
            have hpz : p < wr.heap.size := Nat.lt_trans hps hD.sz
            have hss := hD.sz
            obtain ⟨tA, tn, tc, tl, tq, tz, t0, t1, tf0, tf1, tr⟩ := id hT
            have HTL := hid tl
            clear tr tl
            by_cases hgo : 0 < N ∧ bad = false
            · obtain ⟨hN1, rfl⟩ := hgo
              obtain ⟨M, rfl⟩ : ∃ M, N = M + 1 := ⟨N - 1, by omega⟩
              have hpos : (0 : Int) < ((M + 1 : Nat) : Int) := by omega
              obtain ⟨a, la, ba, h1⟩ : ∃ r t b1, takeV l false 199 = (r, t, b1) := ⟨_, _, _, rfl⟩
              obtain ⟨b', lb, bb, h2⟩ : ∃ r t b1, takeV la ba 4398046511104 = (r, t, b1) := ⟨_, _, _, rfl⟩
              have hw3 : IntKind.i64.wrap (((M + 1 : Nat) : Int) - 1) = (M : Nat) := by rw [IntWalk.i64_in _ (by omega)]; omega
              have H1 := hid h1
              have H2 := hid h2
              have hSZ : (ms.length + 1) * 16 ≤ 140737488355328 := by omega
              have c3 := hD.c4
              have f3 := hD.fz 4
              have hsp := hsp 4
              simp only at c3
              clear h1 h2
              go_wp2_with fail
              refine wp_region_F (S := (fun V => V.cell? ⟨s, 4, none⟩ = some (.slice B ms.length d))) [8, 10] (by kernel_rfl) (keepb (bD (Below.refl _ _)) c3) (fun hHeld => ?_)
              refine wpAnyF_pure (i := 0) (v := ?vg2_1_0) rfl (by kernel_rfl) (by kernel_rfl) (by kernel_rfl) (fun _ _ _ h => h) (Or.inl ⟨by rfl, ?hyg2_1_0⟩) ?restg2_1_0
              case hyg2_1_0 => (intro w hSw; clear hSw; go_simp; (all_goals with_reducible rfl))
              try simp only [Act.put, List.setIfInBounds_toArray, List.set_cons_zero, List.set_cons_succ, List.getElem_toArray, List.getElem_cons_succ, List.getElem_cons_zero]
              refine wpAnyF_pure (i := 2) (v := ?vg2_2_2) rfl (by kernel_rfl) (by kernel_rfl) (by kernel_rfl) (fun _ _ _ h => h) (Or.inl ⟨by rfl, ?hyg2_2_2⟩) ?restg2_2_2
              case hyg2_2_2 => (intro w hSw; clear hSw; go_simp; (all_goals with_reducible rfl))
              try simp only [Act.put, List.setIfInBounds_toArray, List.set_cons_zero, List.set_cons_succ, List.getElem_toArray, List.getElem_cons_succ, List.getElem_cons_zero]
              refine wpAnyF_pure (i := 4) (v := ?vg2_3_4) rfl (by kernel_rfl) (by kernel_rfl) (by kernel_rfl) (fun _ _ _ h => h) (Or.inl ⟨by rfl, ?hyg2_3_4⟩) ?restg2_3_4
              case hyg2_3_4 => (intro w hSw; clear hSw; go_simp; (all_goals with_reducible rfl))
              try simp only [Act.put, List.setIfInBounds_toArray, List.set_cons_zero, List.set_cons_succ, List.getElem_toArray, List.getElem_cons_succ, List.getElem_cons_zero]
              refine wpAnyF_take [8, 9, 10] (i := 1) (v := ?vg2_4_1) rfl (by kernel_rfl) (by kernel_rfl) (by kernel_rfl) (by kernel_rfl) (fun _ _ _ h => h) (Or.inl ⟨by rfl, ?hyg2_4_1⟩) (by assumption) ?restg2_4_1
              case hyg2_4_1 => (intro w hSw; (try dsimp only at hSw); go_simp; (all_goals with_reducible rfl))
              try simp only [Act.put, List.setIfInBounds_toArray, List.set_cons_zero, List.set_cons_succ, List.getElem_toArray, List.getElem_cons_succ, List.getElem_cons_zero]
              refine wpAnyF_one (i := 3) (by kernel_rfl) rfl (fun K hK => ?_)
              go_simp
              go_at_call 29
              refine (take_at H1.out HBY.out (by decide) (by decide) (hT.below (B := wr.heap.size) (bD (Below.refl _ _)) hpz)).mono ?_
              rintro e w2 ⟨rfl, T2, W2⟩
              have HB2 := hid (takeV_lo2 H1.out HBY.out)
              go_wp2_with fail
              refine hK.out _ _ (W2.keep hsp hHeld) (fun hHeld => ?_)
              clear hK K
              try simp only [Act.put, List.setIfInBounds_toArray, List.set_cons_zero, List.set_cons_succ, List.getElem_toArray, List.getElem_cons_succ, List.getElem_cons_zero]
              refine wpAnyF_one (i := 5) (by kernel_rfl) rfl (fun K hK => ?_)
              go_simp
              go_at_call 29
              refine (take_at H2.out HB2.out (by decide) (by decide) T2).mono ?_
              rintro e w3 ⟨rfl, T3, W3⟩
              have HB3 := hid (takeV_lo2 H2.out HB2.out)
              go_wp2_with fail
              refine hK.out _ _ (W3.keep hsp hHeld) (fun hHeld => ?_)
              clear hK K
              try simp only [Act.put, List.setIfInBounds_toArray, List.set_cons_zero, List.set_cons_succ, List.getElem_toArray, List.getElem_cons_succ, List.getElem_cons_zero]
              refine wpAnyF_pure (i := 6) (v := ?vg2_7_6) rfl (by kernel_rfl) (by kernel_rfl) (by kernel_rfl) (fun _ _ _ h => h) (Or.inl ⟨by rfl, ?hyg2_7_6⟩) ?restg2_7_6
              case hyg2_7_6 => (intro w hSw; clear hSw; go_simp; (all_goals with_reducible rfl))
              try simp only [Act.put, List.setIfInBounds_toArray, List.set_cons_zero, List.set_cons_succ, List.getElem_toArray, List.getElem_cons_succ, List.getElem_cons_zero]
              refine wpAnyF_one (i := 7) (by kernel_rfl) rfl (fun K hK => ?_)
              go_simp
              refine hK.out _ _ (keepb (bA (Below.refl _ _) _) hHeld) (fun hHeld => ?_)
              clear hK K
              try simp only [Act.put, List.setIfInBounds_toArray, List.set_cons_zero, List.set_cons_succ, List.getElem_toArray, List.getElem_cons_succ, List.getElem_cons_zero]
              refine wpAnyF_oneD (i := 8) (by kernel_rfl) (by kernel_rfl) rfl (fun K hK => ?_)
              have HO3 := hid (W3.own (W2.own (own_below HOWN.out (bD (Below.refl _ _)) (Nat.le_refl _)) (by omega)) (by omega))
              have hz3 : w3.heap.size = wr.heap.size := W3.size.trans W2.size
              have hs3 : s < w3.heap.size := by rw [hz3]; exact hss
              refine step_app3 rfl rfl el_mails rfl (own_below HO3.out (bA (Below.refl _ _) _) (Nat.le_refl _)) rfl (rd_newAt _ _ _ 2 1 _ (by simp) rfl) (two_ints _ _) hSZ (by simp; omega) ?_
              intro A3 c3 w4 o4 b4 g4 h4
              have HO4 := hid o4
              have HB4 := hid b4
              have HG4 := hid g4
              have cs4 := (HB4.out.cell (p := ⟨s, 4, none⟩) hst).trans hHeld
              have fs4 : w4.frozen? ⟨s, 4, none⟩ = false := (HB4.out.frozen (p := ⟨s, 4, none⟩) hst).trans ((Below.frozen (bA (Below.refl w3.heap.size w3) _) (p := ⟨s, 4, none⟩) hs3).trans (W3.frz hsp (W2.frz hsp (hD.fz 4))))
              clear o4 b4 g4 h4
              refine hK.out _ _ ?_
              clear hK K
              try simp only [Act.put, List.setIfInBounds_toArray, List.set_cons_zero, List.set_cons_succ, List.getElem_toArray, List.getElem_cons_succ, List.getElem_cons_zero]
              refine wpAnyF_pure (i := 9) (v := ?vg2_10_9) rfl (by kernel_rfl) (by kernel_rfl) (by kernel_rfl) (fun _ _ _ h => h) (Or.inl ⟨by rfl, ?hyg2_10_9⟩) ?restg2_10_9
              case hyg2_10_9 => (intro w hSw; clear hSw; go_simp; (all_goals with_reducible rfl))
              try simp only [Act.put, List.setIfInBounds_toArray, List.set_cons_zero, List.set_cons_succ, List.getElem_toArray, List.getElem_cons_succ, List.getElem_cons_zero]
              refine wpAnyF_oneD (i := 10) (by kernel_rfl) (by kernel_rfl) rfl (fun K hK => ?_)
              go_simp
              refine hK.out _ _ ?_
              clear hK K
              try simp only [Act.put, List.setIfInBounds_toArray, List.set_cons_zero, List.set_cons_succ, List.getElem_toArray, List.getElem_cons_succ, List.getElem_cons_zero]
              refine wpAnyF_done (by kernel_rfl) ?_ _
              go_wp2_with fail
              go_roundw
              case rel =>
                have hx : Hid (decMails M0 l6 b6 = ((ms ++ [⟨a, b'⟩]) ++ (decMails M lb bb).1, (decMails M lb bb).2)) := hid (by rw [HV.out]; simp only [decMails, H1.out, H2.out, List.append_assoc, List.cons_append, List.nil_append])
                have hB : Below t w3 w4 := ((Below.refl t w3).alloc (by omega) _).trans HB4.out
                have k0 : ∀ (o : Nat) (v : Value), o ≠ 4 → wr.cell? ⟨s, o, none⟩ = some v → (w4.setCell ⟨s, 4, none⟩ (.slice A3 (ms.length + 1) c3)).cell? ⟨s, o, none⟩ = some v := fun o v ho h => by
                  have h3 := (hB.cell (p := ⟨s, o, none⟩) hst).trans (W3.keep hsp (W2.keep hsp (show wr.drew.cell? ⟨s, o, none⟩ = some v from h)))
                  go_simp
                refine ⟨M, ms ++ [⟨a, b'⟩], lb, bb, A3, c3, by go_num, hx, HB3, ?_, ⟨k0 0 _ (by decide) hD.c0, k0 1 _ (by decide) hD.c1, k0 2 _ (by decide) hD.c2, k0 3 _ (by decide) hD.c3, ?_, ?_, ?_, ?_⟩, hid ?_, hid ?_, by omega, by simp; omega, ?_⟩
                · exact T3.below ((hB.mono (Nat.le_of_lt hst)).setCell (Nat.le_refl s) _) hps
                · simp only [List.length_append, List.length_cons, List.length_nil]; go_simp
                · intro o
                  have h3 : w4.frozen? ⟨s, o, none⟩ = false := (hB.frozen (p := ⟨s, o, none⟩) hst).trans (W3.frz hsp (W2.frz hsp (hD.fz o)))
                  go_simp
                · have := hB.size; simp; omega
                · exact ((((hD.bl.drew).trans W2.below).trans W3.below).trans (hB.mono (by omega))).setCell (Nat.le_of_lt hps) _
                · have o2 := W3.own (W2.own (own_below HOV.out (bD (Below.refl _ _)) (Nat.le_refl _)) (by omega)) (by omega)
                  have o3 := own_below o2 (bA (Below.refl _ _) (.cells #[.int .i64 a, .int .i64 b'] 63)) (Nat.le_refl _)
                  refine ownsRow_setCell_below (own_grown o3 HG4.out fun x hx e => ?_) (a := ⟨s, 4, none⟩) (Nat.lt_succ_self s) _
                  have h1 := HVT.out x hx
                  have h2 := (HO3.out.lt x e).1
                  omega
                · rw [List.flatMap_append, List.length_append]; exact ownsRow_setCell_below HO4.out (a := ⟨s, 4, none⟩) hst _
                · have := hB.size; simp; omega
              case measure => simp [intOf]
            · have hend : decMails N l bad = ([], l, bad) := by
                rcases Nat.eq_zero_or_pos N with h | h
                · subst h; rfl
                · cases bad with
                  | true => exact decMails_bad _ _
                  | false => exact absurd ⟨h, rfl⟩ hgo
              have hee := HV.out
              rw [hend, H7.out, List.append_nil] at hee
              injection hee with ev ee
              injection ee with el eb
              subst ev el eb
              clear hend HV
              have HRV := hid (rd_own HOV.out)
              have HRM := hid (rd_own HOWN.out)
              have HMAY := hid (ckMay_walk ⟨a1, a2, a3 == 1, vv, mm⟩ wr A B c d HRV.out HRM.out)
              have HNO : Hid (¬ (b7 = false ∧ l7 = [] ∧ k = b.length ∧ svB ⟨a1, a2, a3 == 1, vv, mm⟩ = true) → decV b = (svZero, 3)) := hid fun h => dec0_no HBB.out HU.out HD.out h
              have HYES : Hid (b7 = false → l7 = [] → k = b.length → svB ⟨a1, a2, a3 == 1, vv, mm⟩ = true → decV b = (⟨a1, a2, a3 == 1, vv, mm⟩, 0)) := hid fun h1 h2 h3 h4 => by subst h1 h2; exact dec0_yes HBB.out HIB.out HU.out HD.out h3 h4
              have HBW : Hid (Below w.heap.size w wr) := hid (HBZ.out.trans (hD.bl.mono (by omega)))
              obtain ⟨d0, d1, d2, d3, d4, _, _, hbl⟩ := hD
              have u0 : wr.cell? ⟨w.heap.size, 0, none⟩ = some (.int .i64 0) := (hbl.cell (p := ⟨w.heap.size, 0, none⟩) hz1).trans z0
              have u1 : wr.cell? ⟨w.heap.size, 1, none⟩ = some (.int .i64 0) := (hbl.cell (p := ⟨w.heap.size, 1, none⟩) hz1).trans z1
              have u2 : wr.cell? ⟨w.heap.size, 2, none⟩ = some (.bool false) := (hbl.cell (p := ⟨w.heap.size, 2, none⟩) hz1).trans z2
              have u3 : wr.cell? ⟨w.heap.size, 3, none⟩ = some (.slice none 0 0) := (hbl.cell (p := ⟨w.heap.size, 3, none⟩) hz1).trans z3
              have u4 : wr.cell? ⟨w.heap.size, 4, none⟩ = some (.slice none 0 0) := (hbl.cell (p := ⟨w.heap.size, 4, none⟩) hz1).trans z4
              have uf : ∀ o, wr.frozen? ⟨w.heap.size, o, none⟩ = false := fun o => (hbl.frozen (p := ⟨w.heap.size, o, none⟩) hz1).trans (zf o)
              have uf0 := uf 0
              have uf1 := uf 1
              have uf2 := uf 2
              have uf3 := uf 3
              have uf4 := uf 4
              unfold svC at HMAY
              simp only at HMAY d0 d1 d2 d3 d4
              clear z0 z1 z2 z3 z4 zf hbl HB1 HB2 HB3 HB4 HB5 HB6 H1' H2' H3 H4 H5 H6 H7
              rcases Nat.eq_zero_or_pos N with h0 | h0
              · subst h0
                clear hgo
                cases b7 with
                | true =>
                  have HN0 : Hid (decV b = (svZero, 3)) := hid (HNO.out fun h => by cases h.1)
                  clear HMAY
                  go_wp2_with fail
                  refine bodyPost_ret (v := .tuple #[.agg #[.int .i64 0, .int .i64 0, .bool false, .slice none 0 0, .slice none 0 0], .int .i64 3]) (by simp [results, Tryd.results15, go_sem, *]) rfl ?_
                  rw [HN0.out]
                  refine retSv_zero _ ?_
                  repeat (with_reducible refine Below.setCell ?_ (by simp) _)
                  exact HBW.out
                | false =>
                  by_cases hl7 : tn = 0
                  · subst hl7
                    have hl7 : l7 = [] := List.eq_nil_of_length_eq_zero HTL.out
                    subst hl7
                    by_cases hkL : k = (L : Int)
                    · subst hkL
                      have HKB : Hid ((L : Int) = b.length) := hid (by rw [HL.out])
                      cases hsv : svB ⟨a1, a2, a3 == 1, vv, mm⟩ with
                      | false =>
                        have HN0 : Hid (decV b = (svZero, 3)) := hid (HNO.out fun h => by rw [hsv] at h; cases h.2.2.2)
                        rw [hsv] at HMAY
                        clear hsv HNO HYES HD
                        go_wp2_with fail
                        refine HMAY.out.mono ?_
                        rintro e w8 ⟨rfl, b8⟩
                        have d0 := keepb b8 d0
                        have d1 := keepb b8 d1
                        have d2 := keepb b8 d2
                        have d3 := keepb b8 d3
                        have d4 := keepb b8 d4
                        have u0 := keepb b8 u0
                        have u1 := keepb b8 u1
                        have u2 := keepb b8 u2
                        have u3 := keepb b8 u3
                        have u4 := keepb b8 u4
                        have hwr : w.heap.size < wr.heap.size := by have := HBW.out.size; omega
                        have uf : ∀ o, w8.frozen? ⟨w.heap.size, o, none⟩ = false := fun o => (b8.frozen (p := ⟨w.heap.size, o, none⟩) hwr).trans (uf o)
                        have uf0 := uf 0
                        have uf1 := uf 1
                        have uf2 := uf 2
                        have uf3 := uf 3
                        have uf4 := uf 4
                        have HBW8 := hid (bT HBW.out b8)
                        have HO8 := hid (own_below HOV.out b8 (Nat.le_refl _))
                        have HO9 := hid (own_below HOWN.out b8 (Nat.le_refl _))
                        clear uf b8
                        go_wp2_with fail
                        refine bodyPost_ret (v := .tuple #[.agg #[.int .i64 0, .int .i64 0, .bool false, .slice none 0 0, .slice none 0 0], .int .i64 3]) (by simp [results, Tryd.results15, go_sem, *]) rfl ?_
                        rw [HN0.out]
                        refine retSv_zero _ ?_
                        repeat (with_reducible refine Below.setCell ?_ (by simp) _)
                        exact HBW8.out
                      | true =>
                        have HY0 := hid (HYES.out rfl rfl HKB.out hsv)
                        rw [hsv] at HMAY
                        clear hsv HNO HYES HD
                        go_wp2_with fail
                        refine HMAY.out.mono ?_
                        rintro e w8 ⟨rfl, b8⟩
                        have d0 := keepb b8 d0
                        have d1 := keepb b8 d1
                        have d2 := keepb b8 d2
                        have d3 := keepb b8 d3
                        have d4 := keepb b8 d4
                        have u0 := keepb b8 u0
                        have u1 := keepb b8 u1
                        have u2 := keepb b8 u2
                        have u3 := keepb b8 u3
                        have u4 := keepb b8 u4
                        have hwr : w.heap.size < wr.heap.size := by have := HBW.out.size; omega
                        have uf : ∀ o, w8.frozen? ⟨w.heap.size, o, none⟩ = false := fun o => (b8.frozen (p := ⟨w.heap.size, o, none⟩) hwr).trans (uf o)
                        have uf0 := uf 0
                        have uf1 := uf 1
                        have uf2 := uf 2
                        have uf3 := uf 3
                        have uf4 := uf 4
                        have HBW8 := hid (bT HBW.out b8)
                        have HO8 := hid (own_below HOV.out b8 (Nat.le_refl _))
                        have HO9 := hid (own_below HOWN.out b8 (Nat.le_refl _))
                        clear uf b8
                        go_wp2_with fail
                        refine bodyPost_ret (v := .tuple #[.agg #[.int .i64 a1, .int .i64 a2, .bool (a3 == 1), .slice A vv.length c, .slice B mm.length d], .int .i64 0]) (by simp [results, Tryd.results15, go_sem, *]) rfl ?_
                        rw [HY0.out]
                        refine ⟨A, c, B, d, rfl, ?_, ?_, ?_⟩
                        · refine own_more (base := s + 1) ?_ (by omega)
                          repeat (with_reducible refine ownsRow_setCell_below ?_ (by simp; try omega) _)
                          exact HO8.out
                        · refine own_more (base := t) ?_ (by omega)
                          repeat (with_reducible refine ownsRow_setCell_below ?_ (by simp; try omega) _)
                          exact HO9.out
                        · repeat (with_reducible refine Below.setCell ?_ (by simp) _)
                          exact HBW8.out
                    · have HN0 : Hid (decV b = (svZero, 3)) := hid (HNO.out fun h => hkL (by rw [h.2.2.1, HL.out]))
                      have hkb : (k != (L : Int)) = true := by simpa using hkL
                      clear hkL HMAY
                      go_wp2_with fail
                      refine bodyPost_ret (v := .tuple #[.agg #[.int .i64 0, .int .i64 0, .bool false, .slice none 0 0, .slice none 0 0], .int .i64 3]) (by simp [results, Tryd.results15, go_sem, *]) rfl ?_
                      rw [HN0.out]
                      refine retSv_zero _ ?_
                      repeat (with_reducible refine Below.setCell ?_ (by simp) _)
                      exact HBW.out
                  · have HN0 : Hid (decV b = (svZero, 3)) := hid (HNO.out fun h => hl7 (by rw [← HTL.out, h.2.1]; rfl))
                    have hlz : (0 : Int) < (tn : Int) := by omega
                    clear hl7 HMAY
                    go_wp2_with fail
                    refine bodyPost_ret (v := .tuple #[.agg #[.int .i64 0, .int .i64 0, .bool false, .slice none 0 0, .slice none 0 0], .int .i64 3]) (by simp [results, Tryd.results15, go_sem, *]) rfl ?_
                    rw [HN0.out]
                    refine retSv_zero _ ?_
                    repeat (with_reducible refine Below.setCell ?_ (by simp) _)
                    exact HBW.out
              · obtain rfl : b7 = true := by cases b7 with | true => rfl | false => exact absurd ⟨h0, rfl⟩ hgo
                have hpos : (0 : Int) < (N : Int) := by omega
                clear hgo
                have HN0 : Hid (decV b = (svZero, 3)) := hid (HNO.out fun h => by cases h.1)
                clear HMAY
                go_wp2_with fail
                refine bodyPost_ret (v := .tuple #[.agg #[.int .i64 0, .int .i64 0, .bool false, .slice none 0 0, .slice none 0 0], .int .i64 3]) (by simp [results, Tryd.results15, go_sem, *]) rfl ?_
                rw [HN0.out]
                refine retSv_zero _ ?_
                repeat (with_reducible refine Below.setCell ?_ (by simp) _)
                exact HBW.out
        · obtain rfl : b5 = true := by cases b5 with | true => rfl | false => exact absurd ⟨h0, rfl⟩ hgo
          have hpos : (0 : Int) < (N : Int) := by omega
          clear hgo
          have hb6 : M0 = 0 ∧ l6 = l5 ∧ b6 = true := by
            have h := H6.out
            rw [takeV_true] at h
            injection h with e1 h
            injection h with e2 e3
            exact ⟨by omega, e2.symm, e3.symm⟩
          obtain ⟨rfl, rfl, rfl⟩ := hb6
          have hb7 : b7 = true := by
            have h := H7.out
            rw [decMails_bad] at h
            injection h with e1 h
            injection h with e2 e3
            exact e3.symm
          subst hb7
          have HN0 : Hid (decV b = (svZero, 3)) := hid (dec0_no HBB.out HU.out HD.out (fun h => by cases h.1))
          clear HD H7
          go_wp2_with fail
          refine (take_at H6.out HB5.out (by decide) (by decide) hT).mono ?_
          rintro e w6 ⟨rfl, T6, W6⟩
          have HD6 := hid (hD.wrote W6 hps)
          have HT6 := hid T6
          have HW6 := hid W6.below
          clear T6 W6 HOWN hT hD t0 t1 tf0 tf1 HTR HTL hpz hss H6 HB1 HB2 HB3 HB4 HB5 HB6 H1' H2' H3 H4 H5 hvl hml
          go_wp2_with fail
          go_loopw [10] (fun n wr => n = .int .i64 (0 : Nat) ∧ wr = w6) (fun n _ => 0)
          case atStart => exact ⟨rfl, rfl⟩
          case round =>
            obtain ⟨rfl, rfl⟩ := hrel
            have hT := HT6.out
            have hD := HD6.out
            obtain ⟨tA, tn, tc, _, tq, tz, t0, t1, tf0, tf1, _⟩ := id hT
            have HBW := hid (HBZ.out.trans (hD.bl.mono (by omega)))
            have hpz : p < wr.heap.size := Nat.lt_trans hps hD.sz
            obtain ⟨d0, d1, d2, d3, d4, _, _, hbl⟩ := hD
            have u0 : wr.cell? ⟨w.heap.size, 0, none⟩ = some (.int .i64 0) := (hbl.cell (p := ⟨w.heap.size, 0, none⟩) hz1).trans z0
            have u1 : wr.cell? ⟨w.heap.size, 1, none⟩ = some (.int .i64 0) := (hbl.cell (p := ⟨w.heap.size, 1, none⟩) hz1).trans z1
            have u2 : wr.cell? ⟨w.heap.size, 2, none⟩ = some (.bool false) := (hbl.cell (p := ⟨w.heap.size, 2, none⟩) hz1).trans z2
            have u3 : wr.cell? ⟨w.heap.size, 3, none⟩ = some (.slice none 0 0) := (hbl.cell (p := ⟨w.heap.size, 3, none⟩) hz1).trans z3
            have u4 : wr.cell? ⟨w.heap.size, 4, none⟩ = some (.slice none 0 0) := (hbl.cell (p := ⟨w.heap.size, 4, none⟩) hz1).trans z4
            have uf : ∀ o, wr.frozen? ⟨w.heap.size, o, none⟩ = false := fun o => (hbl.frozen (p := ⟨w.heap.size, o, none⟩) hz1).trans (zf o)
            have uf0 := uf 0
            have uf1 := uf 1
            have uf2 := uf 2
            have uf3 := uf 3
            have uf4 := uf 4
            clear z0 z1 z2 z3 z4 zf hbl d0 d1 d2 d3 d4 hT HT6 HD6
            go_wp2_with fail
            refine bodyPost_ret (v := .tuple #[.agg #[.int .i64 0, .int .i64 0, .bool false, .slice none 0 0, .slice none 0 0], .int .i64 3]) (by simp [results, Tryd.results15, go_sem, *]) rfl ?_
            rw [HN0.out]
            refine retSv_zero _ ?_
            repeat (with_reducible refine Below.setCell ?_ (by simp) _)
            exact HBW.out
  · have HV := hid (decV_err HU.out he)
    have heb : (e != 0) = true := by simpa using he
    rw [HV.out]
    go_enter Tryd.func15, Tryd.ntmps15
    go_wp2_with fail
    refine (HUN.out _ rz).mono ?_
    rintro e w1 ⟨A1, k1, rfl, o1, b1'⟩
    have HBZ := hid (bT bz b1')
    have z0 : w1.cell? ⟨w.heap.size, 0, none⟩ = some (.int .i64 0) := keepb b1' (by go_simp)
    have z1 : w1.cell? ⟨w.heap.size, 1, none⟩ = some (.int .i64 0) := keepb b1' (by go_simp)
    have z2 : w1.cell? ⟨w.heap.size, 2, none⟩ = some (.bool false) := keepb b1' (by go_simp)
    have z3 : w1.cell? ⟨w.heap.size, 3, none⟩ = some (.slice none 0 0) := keepb b1' (by go_simp)
    have z4 : w1.cell? ⟨w.heap.size, 4, none⟩ = some (.slice none 0 0) := keepb b1' (by go_simp)
    have zf : ∀ o, w1.frozen? ⟨w.heap.size, o, none⟩ = false := fun o => by rw [b1'.frozen (by simp)]; go_simp
    have zf0 := zf 0
    have zf1 := zf 1
    have zf2 := zf 2
    have zf3 := zf 3
    have zf4 := zf 4
    clear b1' o1 bz rz zf
    go_wp2_with fail
    refine bodyPost_ret (v := .tuple #[.agg #[.int .i64 0, .int .i64 0, .bool false, .slice none 0 0, .slice none 0 0], .int .i64 e]) (by simp [results, Tryd.results15, go_sem, *]) rfl (retSv_zero _ ?_)
    repeat (with_reducible refine Below.setCell ?_ (by simp) _)
    exact HBZ.out
end Go.Proofs.YtphgdpjfolkafaaDoor
