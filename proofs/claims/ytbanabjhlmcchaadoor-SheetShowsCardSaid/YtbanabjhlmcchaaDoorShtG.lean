/- The document's GraphShown. -/
import Derived.Test.YtbanabjhlmcchaaDoorShtS
import Derived.Test.YtbanabjhlmcchaaDoorRegF
import Derived.Deep.DeepCutAuto
namespace Go.Proofs.YtbanabjhlmcchaaDoor
open Go.RowKit Go.ChangeShapes Go.WideShapes Go.ChangeAt
set_option linter.unusedVariables false
set_option linter.unusedSimpArgs false
theorem text_edge {g : Graph} {k : Nat} {e : Edge} (h : g.edges[k]? = some e) : (⟨(textG g (k + 1)).toArray⟩ : ByteArray) = ⟨(textG g k).toArray⟩ ++ decB e.src.toNat ++ ⟨#[32]⟩ ++ decB e.dst.toNat ++ ⟨#[32]⟩ ++ decB e.wt.toNat ++ ⟨#[10]⟩ := by
  rw [textG_step h]
  apply ByteArray.ext
  simp [lineG, edgeNs, partL, decB]
theorem text_zero (g : Graph) : (⟨(textG g 0).toArray⟩ : ByteArray) = decB g.n.toNat ++ ⟨#[10]⟩ := by
  apply ByteArray.ext
  simp [textG, lineG, partL, decB]
def ShdR (g : Graph) (w W : World) (n : Nat) (A : Option Addr) (c : Nat) (v5 v6 : Value) (wr : World) : Prop :=
  ∃ k : Nat, k ≤ g.edges.length ∧ v6 = .int .i64 (k : Nat) ∧ v5 = .string ⟨(textG g k).toArray⟩ ∧ Hid (Below w.heap.size w wr) ∧ Hid (Below W.heap.size W wr)
set_option maxRecDepth 100000 in
set_option maxHeartbeats 8000000 in
theorem graphShown_walk (g : Graph) (w : World) (A : Option Addr) (c : Nat) (hr : Rd w w.heap.size A 3 g.edges.length (g.edges.flatMap Edge.cells)) (hl : g.edges.length ≤ 9223372036854775807) :
    Calls Tryd.prog 11 #[.agg #[.int .i64 g.n, .slice A g.edges.length c]] w fun e w' => e = .returned (.tuple #[.string (showG g).1, .int .i64 (showG g).2]) ∧ Below w.heap.size w w' := by
  have HR := hid hr
  obtain ⟨W, hW⟩ : ∃ W, W = w.alloc (.cells #[.int .i64 g.n, .slice A g.edges.length c] 31) := ⟨_, rfl⟩
  have hBW : Below w.heap.size w W := by rw [hW]; exact bA (Below.refl _ _) _
  have HCK := hid (graphFault_walk g W A c (rdb hr (by decide) hBW) hl)
  have g0 : W.cell? ⟨w.heap.size, 0, none⟩ = some (.int .i64 g.n) := by rw [hW]; go_simp
  have g1 : W.cell? ⟨w.heap.size, 1, none⟩ = some (.slice A g.edges.length c) := by rw [hW]; go_simp
  clear hr
  go_enter Tryd.func11, Tryd.ntmps11
  go_wp2_with fail
  rw [← hW]
  clear hW
  refine HCK.out.mono ?_
  rintro e w1 ⟨rfl, b1⟩
  have HB1 := hid (bT hBW b1)
  have g0 := keepb b1 g0
  have g1 := keepb b1 g1
  clear b1 hBW HCK
  by_cases hg : graphV g = 0
  · have hgb : (graphV g != 0) = false := by simpa using hg
    obtain ⟨hfit, hE⟩ := graphV_ok.1 hg
    have hel : g.edges.length ≤ 600 := hfit.2.2
    have hn0 : 0 ≤ g.n ∧ g.n ≤ 200 := by have := hfit.1; have := hfit.2.1; omega
    have HSV := hid (show showG g = (⟨(textG g g.edges.length).toArray⟩, 0) by unfold showG; rw [if_neg (by simpa using hg)])
    have HEN := hid (show ∀ e ∈ g.edges, ∀ n ∈ edgeNs e, n ≤ 1152921504606846976 from fun e he n hn => by
      have h9 := hE e he
      unfold edgeOk at h9
      unfold edgeNs at hn
      simp only [List.mem_cons, List.not_mem_nil, or_false] at hn
      rcases hn with rfl | rfl | rfl <;> omega)
    have HE0 := hid hE
    have HTL := hid (textG_len (g := g) (by omega) HEN.out)
    obtain ⟨N, hN⟩ : ∃ N : Nat, g.n = (N : Int) := ⟨g.n.toNat, by omega⟩
    have HDN := hid (dec_walk N (by omega))
    have hdn := dec19 (n := N) (by omega)
    have hc0 : ¬ 9223372036854775807 < (decB N).size + 1 := by omega
    have HT0 := hid (show (⟨(textG g 0).toArray⟩ : ByteArray) = decB N ++ ⟨#[10]⟩ by rw [text_zero, show g.n.toNat = N by omega])
    have HNN := hid hN
    rw [hN] at g0
    have HN9 := hid hn0
    clear hg hfit hE hN hn0 hdn
    go_wp2_with fail
    refine (HDN.out _).mono ?_
    rintro e w2 ⟨rfl, b2⟩
    have HB2 := hid (bT HB1.out b2)
    have g1 := keepb b2 g1
    clear b2 g0
    go_wp2_with fail
    go_loopw [5, 6] (fun v5 v6 wr => ShdR g w w2 N A c v5 v6 wr) (fun _ v6 _ => g.edges.length - (intOf v6).toNat)
    case atStart => exact ⟨0, Nat.zero_le _, rfl, by rw [HT0.out], HB2, hid (Below.refl _ _)⟩
    case round =>
      obtain ⟨k, hk, rfl, rfl, HBL, HBR⟩ := hrel
      have g1 := keepb HBR.out g1
      by_cases hlt : k < g.edges.length
      · obtain ⟨e, he⟩ : ∃ e, g.edges[k]? = some e := ⟨_, List.getElem?_eq_getElem hlt⟩
        obtain ⟨bb, off, rfl, hbb, c0, c1, c2⟩ := edge_cells (HR.out.below HBL.out) rfl he
        have hkz : (k : Int) < (g.edges.length : Int) := by omega
        have hsz := HBL.out.size
        have hbw2 : bb < wr.heap.size := by omega
        have hok := HE0.out e (List.mem_of_getElem? he)
        unfold edgeOk at hok
        have HTE := hid (text_edge he)
        have htl := HTL.out k (by omega)
        obtain ⟨es, et, ew⟩ := e
        dsimp only at hok c0 c1 c2
        obtain ⟨a, rfl⟩ := Int.eq_ofNat_of_zero_le hok.1.1
        obtain ⟨b, rfl⟩ := Int.eq_ofNat_of_zero_le hok.2.1.1
        obtain ⟨c', rfl⟩ := Int.eq_ofNat_of_zero_le hok.2.2.1
        dsimp only at HTE
        rw [Int.toNat_natCast, Int.toNat_natCast, Int.toNat_natCast] at HTE
        have HNB := hid hok
        obtain ⟨W5, hW5⟩ : ∃ W5, W5 = wr.alloc (.cells #[.int .i64 (a : Int), .int .i64 (b : Int), .int .i64 (c' : Int)] 54) := ⟨_, rfl⟩
        have HB5 := hid (show Below wr.heap.size wr W5 by rw [hW5]; exact bA (Below.refl _ _) _)
        have x0 : W5.cell? ⟨wr.heap.size, 0, none⟩ = some (.int .i64 (a : Int)) := by rw [hW5]; go_simp
        have x1 : W5.cell? ⟨wr.heap.size, 1, none⟩ = some (.int .i64 (b : Int)) := by rw [hW5]; go_simp
        have x2 : W5.cell? ⟨wr.heap.size, 2, none⟩ = some (.int .i64 (c' : Int)) := by rw [hW5]; go_simp
        have hn9 := HN9.out
        have hda := dec19 (n := a) (by omega)
        have hdb := dec19 (n := b) (by omega)
        have hdc := dec19 (n := c') (by omega)
        have HDA := hid (fun V => dec_walk a (by omega) V)
        have HDB := hid (fun V => dec_walk b (by omega) V)
        have HDC := hid (fun V => dec_walk c' (by omega) V)
        obtain ⟨s, hs⟩ : ∃ s : ByteArray, s = ⟨(textG g k).toArray⟩ := ⟨_, rfl⟩
        have hsl : s.size ≤ 40000 := by
          have h9 : s.size = (textG g k).length := by rw [hs]; show (textG g k).toArray.size = _; simp
          omega
        rw [← hs] at HTE
        rw [← hs]
        have h32 : (⟨#[32]⟩ : ByteArray).size = 1 := rfl
        have z1 : ¬ 9223372036854775807 < s.size + (decB a).size := by omega
        have z2 : ¬ 9223372036854775807 < s.size + (decB a).size + 1 := by omega
        have z2' : ¬ 9223372036854775807 < (s ++ decB a).size + 1 := by rw [ByteArray.size_append]; omega
        have z3 : ¬ 9223372036854775807 < s.size + (decB a).size + 1 + (decB b).size := by omega
        have z3' : ¬ 9223372036854775807 < (s ++ decB a ++ ⟨#[32]⟩).size + (decB b).size := by rw [ByteArray.size_append, ByteArray.size_append, h32]; omega
        have z4 : ¬ 9223372036854775807 < s.size + (decB a).size + 1 + (decB b).size + 1 := by omega
        have z4' : ¬ 9223372036854775807 < (s ++ decB a ++ ⟨#[32]⟩ ++ decB b).size + 1 := by rw [ByteArray.size_append, ByteArray.size_append, ByteArray.size_append, h32]; omega
        have z5 : ¬ 9223372036854775807 < s.size + (decB a).size + 1 + (decB b).size + 1 + (decB c').size := by omega
        have z5' : ¬ 9223372036854775807 < (s ++ decB a ++ ⟨#[32]⟩ ++ decB b ++ ⟨#[32]⟩).size + (decB c').size := by rw [ByteArray.size_append, ByteArray.size_append, ByteArray.size_append, ByteArray.size_append, h32]; omega
        have z6 : ¬ 9223372036854775807 < s.size + (decB a).size + 1 + (decB b).size + 1 + (decB c').size + 1 := by omega
        have z6' : ¬ 9223372036854775807 < (s ++ decB a ++ ⟨#[32]⟩ ++ decB b ++ ⟨#[32]⟩ ++ decB c').size + 1 := by rw [ByteArray.size_append, ByteArray.size_append, ByteArray.size_append, ByteArray.size_append, ByteArray.size_append, h32]; omega
        have HK : Hid (∀ V, Below W5.heap.size W5 V → ((fun V => Below W5.heap.size W5 V ∧ V.cell? ⟨wr.heap.size, 0, none⟩ = some (.int .i64 (a : Int)) ∧ V.cell? ⟨wr.heap.size, 1, none⟩ = some (.int .i64 (b : Int)) ∧ V.cell? ⟨wr.heap.size, 2, none⟩ = some (.int .i64 (c' : Int))) : World → Prop) V) := hid fun V hV => ⟨hV, keepb hV x0, keepb hV x1, keepb hV x2⟩
        clear he hok hs hsl h32 hda hdb hdc hn9
        go_upto_region 9 with fail
        rw [← hW5]
        clear hW5 x0 x1 x2 g1
        refine wp_region_F (S := (fun V => Below W5.heap.size W5 V ∧ V.cell? ⟨wr.heap.size, 0, none⟩ = some (.int .i64 (a : Int)) ∧ V.cell? ⟨wr.heap.size, 1, none⟩ = some (.int .i64 (b : Int)) ∧ V.cell? ⟨wr.heap.size, 2, none⟩ = some (.int .i64 (c' : Int)))) [16] (by kernel_rfl) (HK.out _ (bD (Below.refl _ _))) (fun hHeld => ?_)
        refine wpAnyF_pure (i := 0) (v := ?vg1_1_0) rfl (by kernel_rfl) (by kernel_rfl) (by kernel_rfl) (fun _ _ _ h => h) (Or.inl ⟨by rfl, ?hyg1_1_0⟩) ?restg1_1_0
        case hyg1_1_0 => (intro w hSw; clear hSw; go_simp; (all_goals with_reducible rfl))
        try simp only [Act.put, List.setIfInBounds_toArray, List.set_cons_zero, List.set_cons_succ, List.getElem_toArray, List.getElem_cons_succ, List.getElem_cons_zero]
        refine wpAnyF_pure (i := 1) (v := ?vg1_2_1) rfl (by kernel_rfl) (by kernel_rfl) (by kernel_rfl) (fun _ _ _ h => h) (Or.inl ⟨by rfl, ?hyg1_2_1⟩) ?restg1_2_1
        case hyg1_2_1 => (intro w hSw; clear hSw; go_simp; (all_goals with_reducible rfl))
        try simp only [Act.put, List.setIfInBounds_toArray, List.set_cons_zero, List.set_cons_succ, List.getElem_toArray, List.getElem_cons_succ, List.getElem_cons_zero]
        refine wpAnyF_pure (i := 6) (v := ?vg1_3_6) rfl (by kernel_rfl) (by kernel_rfl) (by kernel_rfl) (fun _ _ _ h => h) (Or.inl ⟨by rfl, ?hyg1_3_6⟩) ?restg1_3_6
        case hyg1_3_6 => (intro w hSw; clear hSw; go_simp; (all_goals with_reducible rfl))
        try simp only [Act.put, List.setIfInBounds_toArray, List.set_cons_zero, List.set_cons_succ, List.getElem_toArray, List.getElem_cons_succ, List.getElem_cons_zero]
        refine wpAnyF_pure (i := 11) (v := ?vg1_4_11) rfl (by kernel_rfl) (by kernel_rfl) (by kernel_rfl) (fun _ _ _ h => h) (Or.inl ⟨by rfl, ?hyg1_4_11⟩) ?restg1_4_11
        case hyg1_4_11 => (intro w hSw; clear hSw; go_simp; (all_goals with_reducible rfl))
        try simp only [Act.put, List.setIfInBounds_toArray, List.set_cons_zero, List.set_cons_succ, List.getElem_toArray, List.getElem_cons_succ, List.getElem_cons_zero]
        refine wpAnyF_take [3, 4, 5, 8, 9, 10, 13, 14, 15, 16] (i := 2) (v := ?vg1_5_2) rfl (by kernel_rfl) (by kernel_rfl) (by kernel_rfl) (by kernel_rfl) (fun _ _ _ h => h) (Or.inl ⟨by rfl, ?hyg1_5_2⟩) (by assumption) ?restg1_5_2
        case hyg1_5_2 => (intro w hSw; (try dsimp only at hSw); go_simp; (all_goals with_reducible rfl))
        try simp only [Act.put, List.setIfInBounds_toArray, List.set_cons_zero, List.set_cons_succ, List.getElem_toArray, List.getElem_cons_succ, List.getElem_cons_zero]
        refine wpAnyF_take [8, 9, 10, 13, 14, 15, 16] (i := 7) (v := ?vg1_6_7) rfl (by kernel_rfl) (by kernel_rfl) (by kernel_rfl) (by kernel_rfl) (fun _ _ _ h => h) (Or.inl ⟨by rfl, ?hyg1_6_7⟩) (by assumption) ?restg1_6_7
        case hyg1_6_7 => (intro w hSw; (try dsimp only at hSw); go_simp; (all_goals with_reducible rfl))
        try simp only [Act.put, List.setIfInBounds_toArray, List.set_cons_zero, List.set_cons_succ, List.getElem_toArray, List.getElem_cons_succ, List.getElem_cons_zero]
        refine wpAnyF_take [13, 14, 15, 16] (i := 12) (v := ?vg1_7_12) rfl (by kernel_rfl) (by kernel_rfl) (by kernel_rfl) (by kernel_rfl) (fun _ _ _ h => h) (Or.inl ⟨by rfl, ?hyg1_7_12⟩) (by assumption) ?restg1_7_12
        case hyg1_7_12 => (intro w hSw; (try dsimp only at hSw); go_simp; (all_goals with_reducible rfl))
        try simp only [Act.put, List.setIfInBounds_toArray, List.set_cons_zero, List.set_cons_succ, List.getElem_toArray, List.getElem_cons_succ, List.getElem_cons_zero]
        refine wpAnyF_one (i := 3) (by kernel_rfl) rfl (fun K hK => ?_)
        go_simp
        go_at_call 22
        refine (HDA.out _).mono ?_
        rintro e3 v3 ⟨rfl, b3⟩
        have HB3 := hid (bT hHeld.1 b3)
        go_wp2_with fail
        refine hK.out _ _ (HK.out _ HB3.out) (fun hHeld => ?_)
        clear hK K
        try simp only [Act.put, List.setIfInBounds_toArray, List.set_cons_zero, List.set_cons_succ, List.getElem_toArray, List.getElem_cons_succ, List.getElem_cons_zero]
        refine wpAnyF_pure (i := 4) (v := ?vg1_9_4) rfl (by kernel_rfl) (by kernel_rfl) (by kernel_rfl) (fun _ _ _ h => h) (Or.inl ⟨by rfl, ?hyg1_9_4⟩) ?restg1_9_4
        case hyg1_9_4 => (intro w hSw; clear hSw; go_simp; (all_goals with_reducible rfl))
        try simp only [Act.put, List.setIfInBounds_toArray, List.set_cons_zero, List.set_cons_succ, List.getElem_toArray, List.getElem_cons_succ, List.getElem_cons_zero]
        refine wpAnyF_pure (i := 5) (v := ?vg1_10_5) rfl (by kernel_rfl) (by kernel_rfl) (by kernel_rfl) (fun _ _ _ h => h) (Or.inl ⟨by rfl, ?hyg1_10_5⟩) ?restg1_10_5
        case hyg1_10_5 => (intro w hSw; clear hSw; go_simp; (all_goals with_reducible rfl))
        try simp only [Act.put, List.setIfInBounds_toArray, List.set_cons_zero, List.set_cons_succ, List.getElem_toArray, List.getElem_cons_succ, List.getElem_cons_zero]
        refine wpAnyF_one (i := 8) (by kernel_rfl) rfl (fun K hK => ?_)
        go_simp
        go_at_call 22
        refine (HDB.out _).mono ?_
        rintro e8 v8 ⟨rfl, b8⟩
        have HB8 := hid (bT hHeld.1 b8)
        go_wp2_with fail
        refine hK.out _ _ (HK.out _ HB8.out) (fun hHeld => ?_)
        clear hK K
        try simp only [Act.put, List.setIfInBounds_toArray, List.set_cons_zero, List.set_cons_succ, List.getElem_toArray, List.getElem_cons_succ, List.getElem_cons_zero]
        refine wpAnyF_pure (i := 9) (v := ?vg1_12_9) rfl (by kernel_rfl) (by kernel_rfl) (by kernel_rfl) (fun _ _ _ h => h) (Or.inl ⟨by rfl, ?hyg1_12_9⟩) ?restg1_12_9
        case hyg1_12_9 => (intro w hSw; clear hSw; go_simp; (all_goals with_reducible rfl))
        try simp only [Act.put, List.setIfInBounds_toArray, List.set_cons_zero, List.set_cons_succ, List.getElem_toArray, List.getElem_cons_succ, List.getElem_cons_zero]
        refine wpAnyF_pure (i := 10) (v := ?vg1_13_10) rfl (by kernel_rfl) (by kernel_rfl) (by kernel_rfl) (fun _ _ _ h => h) (Or.inl ⟨by rfl, ?hyg1_13_10⟩) ?restg1_13_10
        case hyg1_13_10 => (intro w hSw; clear hSw; go_simp; (all_goals with_reducible rfl))
        try simp only [Act.put, List.setIfInBounds_toArray, List.set_cons_zero, List.set_cons_succ, List.getElem_toArray, List.getElem_cons_succ, List.getElem_cons_zero]
        refine wpAnyF_one (i := 13) (by kernel_rfl) rfl (fun K hK => ?_)
        go_simp
        go_at_call 22
        refine (HDC.out _).mono ?_
        rintro e13 v13 ⟨rfl, b13⟩
        have HB13 := hid (bT hHeld.1 b13)
        go_wp2_with fail
        refine hK.out _ _ (HK.out _ HB13.out) (fun hHeld => ?_)
        clear hK K
        try simp only [Act.put, List.setIfInBounds_toArray, List.set_cons_zero, List.set_cons_succ, List.getElem_toArray, List.getElem_cons_succ, List.getElem_cons_zero]
        refine wpAnyF_pure (i := 14) (v := ?vg1_15_14) rfl (by kernel_rfl) (by kernel_rfl) (by kernel_rfl) (fun _ _ _ h => h) (Or.inl ⟨by rfl, ?hyg1_15_14⟩) ?restg1_15_14
        case hyg1_15_14 => (intro w hSw; clear hSw; go_simp; (all_goals with_reducible rfl))
        try simp only [Act.put, List.setIfInBounds_toArray, List.set_cons_zero, List.set_cons_succ, List.getElem_toArray, List.getElem_cons_succ, List.getElem_cons_zero]
        refine wpAnyF_pure (i := 15) (v := ?vg1_16_15) rfl (by kernel_rfl) (by kernel_rfl) (by kernel_rfl) (fun _ _ _ h => h) (Or.inl ⟨by rfl, ?hyg1_16_15⟩) ?restg1_16_15
        case hyg1_16_15 => (intro w hSw; clear hSw; go_simp; (all_goals with_reducible rfl))
        try simp only [Act.put, List.setIfInBounds_toArray, List.set_cons_zero, List.set_cons_succ, List.getElem_toArray, List.getElem_cons_succ, List.getElem_cons_zero]
        refine wpAnyF_pure (i := 16) (v := ?vg1_17_16) rfl (by kernel_rfl) (by kernel_rfl) (by kernel_rfl) (fun _ _ _ h => h) (Or.inl ⟨by rfl, ?hyg1_17_16⟩) ?restg1_17_16
        case hyg1_17_16 => (intro w hSw; clear hSw; go_simp; (all_goals with_reducible rfl))
        try simp only [Act.put, List.setIfInBounds_toArray, List.set_cons_zero, List.set_cons_succ, List.getElem_toArray, List.getElem_cons_succ, List.getElem_cons_zero]
        refine wpAnyF_done (by kernel_rfl) ?_ _
        go_wp2_with fail
        go_roundw
        case rel => exact ⟨k + 1, by omega, by go_num, by rw [HTE.out], hid (HBL.out.trans ((HB5.out.trans (HB13.out.mono HB5.out.size)).mono hsz)), hid (HBR.out.trans ((HB5.out.trans (HB13.out.mono HB5.out.size)).mono HBR.out.size))⟩
        case measure => simp [intOf]; omega
      · obtain rfl : k = g.edges.length := by omega
        go_wp2_with fail
        go_ret2
        exact ⟨by rw [HSV.out]; rfl, HBL.out⟩
  · have hgb : (graphV g != 0) = true := by simpa using hg
    have HSV := hid (show showG g = (⟨#[]⟩, graphV g) by unfold showG; rw [if_pos hg])
    clear hg
    go_wp2_with fail
    go_ret2
    exact ⟨by rw [HSV.out]; rfl, HB1.out⟩
end Go.Proofs.YtbanabjhlmcchaaDoor
