/- The document's Built. -/
import Derived.Test.YtifpngjipkmdcaaStoR
import Derived.Test.YtifpngjipkmdcaaEHopR
import Derived.Test.YtifpngjipkmdcaaERevR
namespace Go.Proofs.Ytifpngjipkmdcaa
open Go.ChangeShapes Go.WideShapes Go.ChangeAt Go.RowKit
set_option linter.unusedVariables false
set_option linter.unusedSimpArgs false
theorem retL_noneQ (w w' : World) (err : Int) (b : Below w.heap.size w w') : RetL 5 1 w 0 [] err (.returned (.tuple #[.slice none 0 0, .int .i64 err])) w' := ⟨none, 0, rfl, World.ownsRow_nil _ _ _ _, b⟩
def BdR (g : Graph) (a k : Int) (vs : List Int) (w2 : World) (sv jv : Value) (wr : World) : Prop :=
  ∃ (j c m : Nat) (A : Option Addr), j ≤ vs.length ∧ jv = .int .i64 (j : Nat) ∧ sv = .slice A m c ∧ Hid (m = (inkV g a k (vs.take j)).length) ∧ Hid (wr.ownsRow w2.heap.size 5 1 (.slice A m c) m ((inkV g a k (vs.take j)).flatMap u8c)) ∧ Below w2.heap.size w2 wr
set_option maxRecDepth 100000 in
set_option maxHeartbeats 1000000 in
theorem built_walk (g : Graph) (a k : Int) (w : World) (A : Option Addr) (c : Nat) (hr : Rd w w.heap.size A 3 g.edges.length (g.edges.flatMap Edge.cells)) (hl : g.edges.length * 24 ≤ 140737488355328) :
    Calls Try.prog 29 #[.agg #[.int .i64 g.n, .slice A g.edges.length c], .int .i64 a, .int .i64 k] w (RetL 5 1 w (builtV g a k).1.length ((builtV g a k).1.flatMap u8c) (builtV g a k).2) := by
  by_cases h0 : graphV g = 0
  · have b0 := bA (Below.refl w.heap.size w) (.cells #[.int .i64 g.n, .slice A g.edges.length c] 24)
    have HRC := hid (graphReversed_walk g _ A c (rdb hr (by decide) b0) hl)
    rw [reversedV_ok h0] at HRC
    have HMI := hid (fun V => mineOf_walk a g.n k V)
    have HPK := hid (show ∀ x : Int, 0 ≤ x → x ≤ 18446744073709551615 → ∀ V, Calls Try.prog 66 #[.int .u64 x] V (RetS 5 1 V (pack x).length ((pack x).flatMap u8c)) from fun x h0 h1 V => packed_walk 9 x h0 h1 (by omega) (by omega) V)
    have HG0 := hid h0
    by_cases hm0 : (mineV a g.n k).2 = 0
    · have HRV := hid (builtV_ok h0 hm0)
      obtain ⟨⟨ha0, hak, hk8, hn0, hn2⟩, hvs⟩ := mineV_in hm0
      have hb : ((mineV a g.n k).2 != 0) = false := by simp [hm0]
      have hml := mineV_len a g.n k
      rw [hm0] at hb
      simp only [hm0] at HMI
      generalize (mineV a g.n k).1 = vs at *
      clear hm0 h0 hvs
      go_enter Try.func29, Try.ntmps29
      go_wp2_with fail
      refine HRC.out.mono ?_
      rintro e w1 ⟨A1, c1, rfl, o1, b1⟩
      have b01 := bT b0 b1
      have hz1 : w.heap.size < w1.heap.size := by have := b1.size; simp at this; omega
      have q0 : w1.cell? ⟨w.heap.size, 0, none⟩ = some (.int .i64 g.n) := keepb b1 (by go_simp)
      have q1 : w1.cell? ⟨w.heap.size, 1, none⟩ = some (.slice A g.edges.length c) := keepb b1 (by go_simp)
      have HO1 := hid o1
      clear o1
      have hrev : revG g = ⟨g.n, srtOf elt (g.edges.map revE)⟩ := rfl
      have HIB := hid (fun vs => inkV_byte (g := g) (a := a) (k := k) HG0.out (by omega) (by omega) vs)
      have HIL := hid (fun vs => inkV_len (g := g) HG0.out a k vs)
      have HIS := hid (fun vs v => inkV_snoc g a k vs v)
      have HI0 : Hid (inkV g a k [] = pack a ++ pack k ++ pack g.n) := hid (by simp [inkV, packs])
      have HWG := hid (fun v => hopsS_wt (graph_wt HG0.out) v)
      have HWR := hid (fun v => hopsS_wt (graph_wt (graphV_revG HG0.out)) v)
      have HB2 := hid (show ∀ v, hopsB2 g v = hopB (hopsS g.edges v) ++ hopB (hopsS (srtOf elt (g.edges.map revE)) v) from fun v => rfl)
      have HHL := hid (fun v => hopsS_len g.edges v)
      have HHS := hid (fun v => hopsS_len (revG g).edges v)
      have hg6 := (graphV_ok.1 HG0.out).1.2.2
      have hg7 := (graphV_ok.1 (graphV_revG HG0.out)).1.2.2
      simp only [hrev] at HWR HHS hg7
      clear hrev
      generalize srtOf elt (g.edges.map revE) = E at *
      try dsimp only at HWR HHS hg7
      dsimp only at HO1
      have hla := (pack_len a).1
      have hlk := (pack_len k).1
      have hln := (pack_len g.n).1
      have hwa : IntKind.u64.wrap a = a := IntWalk.u64_in _ (by omega)
      have hwk : IntKind.u64.wrap k = k := IntWalk.u64_in _ (by omega)
      have hwn : IntKind.u64.wrap g.n = g.n := IntWalk.u64_in _ (by omega)
      go_wp2_with fail
      refine (HMI.out _).mono ?_
      rintro e w2 ⟨A2, c2, rfl, o2, b2⟩
      have p1 := keepb b2 (show (w1.alloc (.cells #[.int .i64 g.n, .slice A1 E.length c1] 24)).cell? ⟨w1.heap.size, 1, none⟩ = some (.slice A1 E.length c1) by go_simp)
      have q0 := keepb b2 (show (w1.alloc (.cells #[.int .i64 g.n, .slice A1 E.length c1] 24)).cell? ⟨w.heap.size, 0, none⟩ = some (.int .i64 g.n) by go_simp)
      have q1 := keepb b2 (show (w1.alloc (.cells #[.int .i64 g.n, .slice A1 E.length c1] 24)).cell? ⟨w.heap.size, 1, none⟩ = some (.slice A g.edges.length c) by go_simp)
      have b02 := bT (bA b01 (.cells #[.int .i64 g.n, .slice A1 E.length c1] 24)) b2
      have q02 := q0
      have hz2 : w1.heap.size < w2.heap.size := by have := b2.size; simp at this; omega
      have HO1' := hid (own_belowB (own_belowB HO1.out (bA (Below.refl w1.heap.size w1) (.cells #[.int .i64 g.n, .slice A1 E.length c1] 24))) b2)
      have HO2 := hid o2
      clear o2 b2 HO1
      go_wp2_with fail
      refine (HPK.out a (by omega) (by omega) _).mono ?_
      rintro e w3 ⟨A3, c3, rfl, o3, b3⟩
      have q0 := keepb b3 q0
      go_wp2_with fail
      refine (HPK.out k (by omega) (by omega) _).mono ?_
      rintro e w4 ⟨A4, c4, rfl, o4, b4⟩
      have q0 := keepb b4 q0
      have o34 := own_belowB o3 b4
      have hz3 := b3.size
      have hz4 := b4.size
      have hk1 : ((pack a).length + (pack k).length) * 1 ≤ 140737488355328 := by omega
      have b24 := b3.trans (b4.mono hz3)
      go_wp2_with (at_builtin; refine wp_app1 _ rfl rfl el_bytes rfl o34 rfl (rd_own o4) (one_u8 _) hk1 (by omega) ?_; intro A5 c5 w5 o5 b5 g5; have b25 := b24.trans b5; have q0 := (b25.cell (p := ⟨w.heap.size, 0, none⟩) (show w.heap.size < w2.heap.size by omega)).trans q02)
      have HO5 := hid o5
      have HB25 := hid b25
      clear o3 o4 o34 o5 b5 b3 b4 g5 b24 b25
      refine (HPK.out g.n (by omega) (by omega) _).mono ?_
      rintro e w6 ⟨A6, c6, rfl, o6, b6⟩
      have HO6 := hid (own_belowB HO5.out b6)
      have HT6 := hid o6
      have hz5 := HB25.out.size
      have hz6 := b6.size
      have HB26 := hid (HB25.out.trans (b6.mono hz5))
      have hk2 : ((pack a).length + (pack k).length + (pack g.n).length) * 1 ≤ 140737488355328 := by omega
      clear o6 b6 HO5
      go_wp2_with (at_builtin; refine wp_app1 _ rfl rfl el_bytes rfl HO6.out rfl (rd_own HT6.out) (one_u8 _) hk2 (by omega) ?_; intro A7 c7 w7 o7 b7 g7; have HO7 := hid o7; have HB27 := hid (HB26.out.trans b7); clear o7 b7 g7)
      clear HO6 HT6 HB26 HB25
      go_loopw [11, 12, 13, 14] (fun sv jv _ _ wr => BdR g a k vs w2 sv jv wr) (fun _ jv _ _ _ => vs.length - (intOf jv).toNat)
      case atStart => exact ⟨0, c7, (pack a).length + (pack k).length + (pack g.n).length, A7, Nat.zero_le _, rfl, rfl, hid (by rw [List.take_zero, HI0.out]; simp [Nat.add_assoc]), hid (by rw [List.take_zero, HI0.out, List.flatMap_append, List.flatMap_append]; exact HO7.out), HB27.out⟩
      case round =>
        clear HO7 HB27
        obtain ⟨j, c8, m, A8, hj, rfl, rfl, HM, HOW, hbel⟩ := hrel
        have hsz := hbel.size
        have p1 := (hbel.cell (p := ⟨w1.heap.size, 1, none⟩) hz2).trans p1
        have q1 := (hbel.cell (p := ⟨w.heap.size, 1, none⟩) (show w.heap.size < w2.heap.size by omega)).trans q1
        have hbW := hid (b02.trans (hbel.mono (by omega)))
        have hPL : m ≤ 12000030 := by have h := HIL.out (vs.take j); rw [List.length_take, ← HM.out] at h; omega
        by_cases hlt : j < vs.length
        · obtain ⟨v, hv⟩ : ∃ v, vs[j]? = some v := ⟨_, List.getElem?_eq_getElem hlt⟩
          have HOV := hid (own_below (base' := 0) HO2.out (hbel.mono (by omega)) (Nat.zero_le _))
          obtain ⟨bb, off, rfl, hbb, e0⟩ := int_cell (rd_own HOV.out) rfl hv
          have hjz : (j : Int) < (vs.length : Int) := by omega
          have HTK := hid (show inkV g a k (vs.take (j + 1)) = inkV g a k (vs.take j) ++ hopsB2 g v by rw [List.take_add_one, hv, ← HIS.out]; rfl)
          have HHL1 := HHL.out v
          have HHS1 := HHS.out v
          have HHG := hid (fun V (hV : Below wr.heap.size wr V) => hopsOf_walk g.edges v V A c (rdb hr (by decide) (bT hbW.out hV)) hl)
          have HHE := hid (fun V (hV : Below w2.heap.size w2 V) => hopsOf_walk E v V A1 c1 (rd_own (own_belowB HO1'.out hV)) (by omega))
          clear hv
          go_wp2_with fail
          refine wp_region_F (S := (fun V => Below wr.heap.size wr V ∧ V.cell? ⟨w.heap.size, 1, none⟩ = some (.slice A g.edges.length c) ∧ V.cell? ⟨bb, off + j, none⟩ = some (.int .i64 v))) [6] (by kernel_rfl) ⟨bD (Below.refl _ _), keepb (bD (Below.refl _ _)) q1, keepb (bD (Below.refl _ _)) e0⟩ (fun hHeld => ?_)
          refine wpAnyF_pure (i := 0) (v := ?vg1_1_0) rfl (by kernel_rfl) (by kernel_rfl) (by kernel_rfl) (fun _ _ _ h => h) (Or.inl ⟨by rfl, ?hyg1_1_0⟩) ?restg1_1_0
          case hyg1_1_0 => (intro w hSw; clear hSw; go_simp; (all_goals with_reducible rfl))
          try simp only [Act.put, List.setIfInBounds_toArray, List.set_cons_zero, List.set_cons_succ, List.getElem_toArray, List.getElem_cons_succ, List.getElem_cons_zero]
          refine wpAnyF_pure (i := 2) (v := ?vg1_2_2) rfl (by kernel_rfl) (by kernel_rfl) (by kernel_rfl) (fun _ _ _ h => h) (Or.inl ⟨by rfl, ?hyg1_2_2⟩) ?restg1_2_2
          case hyg1_2_2 => (intro w hSw; clear hSw; go_simp; (all_goals with_reducible rfl))
          try simp only [Act.put, List.setIfInBounds_toArray, List.set_cons_zero, List.set_cons_succ, List.getElem_toArray, List.getElem_cons_succ, List.getElem_cons_zero]
          refine wpAnyF_pure (i := 3) (v := ?vg1_3_3) rfl (by kernel_rfl) (by kernel_rfl) (by kernel_rfl) (fun _ _ _ h => h) (Or.inl ⟨by rfl, ?hyg1_3_3⟩) ?restg1_3_3
          case hyg1_3_3 => (intro w hSw; clear hSw; go_simp; (all_goals with_reducible rfl))
          try simp only [Act.put, List.setIfInBounds_toArray, List.set_cons_zero, List.set_cons_succ, List.getElem_toArray, List.getElem_cons_succ, List.getElem_cons_zero]
          refine wpAnyF_pure (i := 4) (v := ?vg1_4_4) rfl (by kernel_rfl) (by kernel_rfl) (by kernel_rfl) (fun _ _ _ h => h) (Or.inl ⟨by rfl, ?hyg1_4_4⟩) ?restg1_4_4
          case hyg1_4_4 => (intro w hSw; clear hSw; go_simp; (all_goals with_reducible rfl))
          try simp only [Act.put, List.setIfInBounds_toArray, List.set_cons_zero, List.set_cons_succ, List.getElem_toArray, List.getElem_cons_succ, List.getElem_cons_zero]
          refine wpAnyF_take [6, 7] (i := 1) (v := ?vg1_5_1) rfl (by kernel_rfl) (by kernel_rfl) (by kernel_rfl) (by kernel_rfl) (fun _ _ _ h => h) (Or.inl ⟨by rfl, ?hyg1_5_1⟩) (by assumption) ?restg1_5_1
          case hyg1_5_1 => (intro w hSw; (try dsimp only at hSw); go_simp; (all_goals with_reducible rfl))
          try simp only [Act.put, List.setIfInBounds_toArray, List.set_cons_zero, List.set_cons_succ, List.getElem_toArray, List.getElem_cons_succ, List.getElem_cons_zero]
          refine wpAnyF_take [6, 7] (i := 5) (v := ?vg1_6_5) rfl (by kernel_rfl) (by kernel_rfl) (by kernel_rfl) (by kernel_rfl) (fun _ _ _ h => h) (Or.inl ⟨by rfl, ?hyg1_6_5⟩) (by assumption) ?restg1_6_5
          case hyg1_6_5 => (intro w hSw; (try dsimp only at hSw); go_simp; (all_goals with_reducible rfl))
          try simp only [Act.put, List.setIfInBounds_toArray, List.set_cons_zero, List.set_cons_succ, List.getElem_toArray, List.getElem_cons_succ, List.getElem_cons_zero]
          refine wpAnyF_oneD (i := 6) (by kernel_rfl) (by kernel_rfl) rfl (fun K hK => ?_)
          go_simp
          refine (HHG.out _ hHeld.1).mono ?_
          rintro e w15 ⟨A15, c15, rfl, o15, b15⟩
          have HO15 := hid o15
          have HB15 := hid (hHeld.1.trans (b15.mono hHeld.1.size))
          have hz15 := b15.size
          have hzz15 := hHeld.1.size
          clear o15 b15
          refine hK.out _ _ ?_
          clear hK K
          try simp only [Act.put, List.setIfInBounds_toArray, List.set_cons_zero, List.set_cons_succ, List.getElem_toArray, List.getElem_cons_succ, List.getElem_cons_zero]
          refine wpAnyF_pure (i := 7) (v := ?vg1_8_7) rfl (by kernel_rfl) (by kernel_rfl) (by kernel_rfl) (fun _ _ _ h => h) (Or.inl ⟨by rfl, ?hyg1_8_7⟩) ?restg1_8_7
          case hyg1_8_7 => (intro w hSw; clear hSw; go_simp; (all_goals with_reducible rfl))
          try simp only [Act.put, List.setIfInBounds_toArray, List.set_cons_zero, List.set_cons_succ, List.getElem_toArray, List.getElem_cons_succ, List.getElem_cons_zero]
          refine wpAnyF_done (by kernel_rfl) ?_ _
          have p1 := keepb HB15.out p1
          have e0 := keepb HB15.out e0
          have hb15 := hid (hbel.trans (HB15.out.mono hsz))
          go_wp2_with fail
          refine wp_region_F (S := (fun V => Below w15.heap.size w15 V ∧ V.cell? ⟨w1.heap.size, 1, none⟩ = some (.slice A1 E.length c1) ∧ V.cell? ⟨bb, off + j, none⟩ = some (.int .i64 v))) [6] (by kernel_rfl) ⟨bD (Below.refl _ _), keepb (bD (Below.refl _ _)) p1, keepb (bD (Below.refl _ _)) e0⟩ (fun hHeld => ?_)
          refine wpAnyF_pure (i := 0) (v := ?vg2_1_0) rfl (by kernel_rfl) (by kernel_rfl) (by kernel_rfl) (fun _ _ _ h => h) (Or.inl ⟨by rfl, ?hyg2_1_0⟩) ?restg2_1_0
          case hyg2_1_0 => (intro w hSw; clear hSw; go_simp; (all_goals with_reducible rfl))
          try simp only [Act.put, List.setIfInBounds_toArray, List.set_cons_zero, List.set_cons_succ, List.getElem_toArray, List.getElem_cons_succ, List.getElem_cons_zero]
          refine wpAnyF_pure (i := 2) (v := ?vg2_2_2) rfl (by kernel_rfl) (by kernel_rfl) (by kernel_rfl) (fun _ _ _ h => h) (Or.inl ⟨by rfl, ?hyg2_2_2⟩) ?restg2_2_2
          case hyg2_2_2 => (intro w hSw; clear hSw; go_simp; (all_goals with_reducible rfl))
          try simp only [Act.put, List.setIfInBounds_toArray, List.set_cons_zero, List.set_cons_succ, List.getElem_toArray, List.getElem_cons_succ, List.getElem_cons_zero]
          refine wpAnyF_pure (i := 3) (v := ?vg2_3_3) rfl (by kernel_rfl) (by kernel_rfl) (by kernel_rfl) (fun _ _ _ h => h) (Or.inl ⟨by rfl, ?hyg2_3_3⟩) ?restg2_3_3
          case hyg2_3_3 => (intro w hSw; clear hSw; go_simp; (all_goals with_reducible rfl))
          try simp only [Act.put, List.setIfInBounds_toArray, List.set_cons_zero, List.set_cons_succ, List.getElem_toArray, List.getElem_cons_succ, List.getElem_cons_zero]
          refine wpAnyF_pure (i := 4) (v := ?vg2_4_4) rfl (by kernel_rfl) (by kernel_rfl) (by kernel_rfl) (fun _ _ _ h => h) (Or.inl ⟨by rfl, ?hyg2_4_4⟩) ?restg2_4_4
          case hyg2_4_4 => (intro w hSw; clear hSw; go_simp; (all_goals with_reducible rfl))
          try simp only [Act.put, List.setIfInBounds_toArray, List.set_cons_zero, List.set_cons_succ, List.getElem_toArray, List.getElem_cons_succ, List.getElem_cons_zero]
          refine wpAnyF_take [6, 7] (i := 1) (v := ?vg2_5_1) rfl (by kernel_rfl) (by kernel_rfl) (by kernel_rfl) (by kernel_rfl) (fun _ _ _ h => h) (Or.inl ⟨by rfl, ?hyg2_5_1⟩) (by assumption) ?restg2_5_1
          case hyg2_5_1 => (intro w hSw; (try dsimp only at hSw); go_simp; (all_goals with_reducible rfl))
          try simp only [Act.put, List.setIfInBounds_toArray, List.set_cons_zero, List.set_cons_succ, List.getElem_toArray, List.getElem_cons_succ, List.getElem_cons_zero]
          refine wpAnyF_take [6, 7] (i := 5) (v := ?vg2_6_5) rfl (by kernel_rfl) (by kernel_rfl) (by kernel_rfl) (by kernel_rfl) (fun _ _ _ h => h) (Or.inl ⟨by rfl, ?hyg2_6_5⟩) (by assumption) ?restg2_6_5
          case hyg2_6_5 => (intro w hSw; (try dsimp only at hSw); go_simp; (all_goals with_reducible rfl))
          try simp only [Act.put, List.setIfInBounds_toArray, List.set_cons_zero, List.set_cons_succ, List.getElem_toArray, List.getElem_cons_succ, List.getElem_cons_zero]
          refine wpAnyF_oneD (i := 6) (by kernel_rfl) (by kernel_rfl) rfl (fun K hK => ?_)
          go_simp
          refine (HHE.out _ (hb15.out.trans (hHeld.1.mono hb15.out.size))).mono ?_
          rintro e w16 ⟨A16, c16, rfl, o16, b16⟩
          have HO16 := hid o16
          have HB16 := hid (hHeld.1.trans (b16.mono hHeld.1.size))
          have hz16 := b16.size
          have hzz16 := hHeld.1.size
          clear o16 b16
          refine hK.out _ _ ?_
          clear hK K
          try simp only [Act.put, List.setIfInBounds_toArray, List.set_cons_zero, List.set_cons_succ, List.getElem_toArray, List.getElem_cons_succ, List.getElem_cons_zero]
          refine wpAnyF_pure (i := 7) (v := ?vg2_8_7) rfl (by kernel_rfl) (by kernel_rfl) (by kernel_rfl) (fun _ _ _ h => h) (Or.inl ⟨by rfl, ?hyg2_8_7⟩) ?restg2_8_7
          case hyg2_8_7 => (intro w hSw; clear hSw; go_simp; (all_goals with_reducible rfl))
          try simp only [Act.put, List.setIfInBounds_toArray, List.set_cons_zero, List.set_cons_succ, List.getElem_toArray, List.getElem_cons_succ, List.getElem_cons_zero]
          refine wpAnyF_done (by kernel_rfl) ?_ _
          have hsA := HB15.out.size
          have hsB := HB16.out.size
          have HBA := hid (hb15.out.trans (HB16.out.mono hb15.out.size))
          have HBW := hid (HB15.out.trans (HB16.out.mono hsA))
          have HT := hid (hopBytes_walk (hopsS g.edges v) w16 A15 c15 _ rfl (rd_own (own_belowB HO15.out HB16.out)) (HWG.out v) (by omega))
          have HOb := hid (own_belowB HOW.out HBW.out)
          have hbl := hid (fun y (hy : (Value.slice A8 m c8).ownBlock = some y) => (HOW.out.lt y hy).2)
          have hT1 := hopB_len (hopsS g.edges v)
          have hT2 := hopB_len (hopsS E v)
          clear HO15 p1 e0 q1 HHG HHE
          go_wp2_with fail
          refine HT.out.mono ?_
          rintro e w17 ⟨A17, c17, rfl, o17, b17⟩
          have HO17 := hid o17
          have HOb7 := hid (own_belowB HOb.out b17)
          have HOi7 := hid (own_belowB HO16.out b17)
          have HBB := hid (HBA.out.trans (b17.mono HBA.out.size))
          have hk3 : (m + (hopB (hopsS g.edges v)).length) * 1 ≤ 140737488355328 := by omega
          clear o17 b17 HT HOb
          go_wp2_with (at_builtin; refine wp_app1 _ rfl rfl el_bytes rfl HOb7.out rfl (rd_own HO17.out) (one_u8 _) hk3 HBB.out.size ?_; intro A18 c18 w18 o18 b18 g18; have HO18 := hid o18; have HB18 := hid (HBB.out.trans b18); have HOi8 := hid (own_grown HOi7.out g18 (fun y hy e => by have h1 := (HO16.out.lt y hy).1; have h2 := hbl.out y e; omega)); clear o18 b18 g18)
          have HT := hid (hopBytes_walk (hopsS E v) w18 A16 c16 _ rfl (rd_own HOi8.out) (HWR.out v) (by omega))
          have hk4 : (m + (hopB (hopsS g.edges v)).length + (hopB (hopsS E v)).length) * 1 ≤ 140737488355328 := by omega
          go_wp2_with fail
          refine HT.out.mono ?_
          rintro e w19 ⟨A19, c19, rfl, o19, b19⟩
          have HO19 := hid o19
          have HOb9 := hid (own_belowB HO18.out b19)
          have HBC := hid (HB18.out.trans (b19.mono HB18.out.size))
          clear o19 b19 HT
          go_wp2_with (at_builtin; refine wp_app1 _ rfl rfl el_bytes rfl HOb9.out rfl (rd_own HO19.out) (one_u8 _) hk4 HBC.out.size ?_; intro A20 c20 w20 o20 b20 g20; have HO20 := hid o20; have HB20 := hid (HBC.out.trans b20); clear o20 b20 g20)
          go_roundw
          case rel => exact ⟨j + 1, c20, m + (hopB (hopsS g.edges v)).length + (hopB (hopsS E v)).length, A20, by omega, by go_num, rfl, hid (by rw [HTK.out, HB2.out v, List.length_append, List.length_append, ← HM.out, Nat.add_assoc]), hid (by rw [HTK.out, HB2.out v, List.flatMap_append, List.flatMap_append, ← List.append_assoc]; exact HO20.out), HB20.out⟩
          case measure => (simp [intOf]) <;> omega
        · obtain rfl : j = vs.length := by omega
          have hjz : ¬ ((vs.length : Int) < (vs.length : Int)) := by omega
          rw [List.take_length] at HM HOW
          have HWW := hid (wrapped_walk (inkV g a k vs) wr A8 m c8 (rd_own HOW.out) HM.out.symm (HIB.out vs) (by omega))
          have HRV2 := hid (show wrapV (inkV g a k vs) = builtV g a k from HRV.out.symm)
          rw [HRV2.out] at HWW
          go_wp2_with fail
          refine HWW.out.mono ?_
          rintro e w9 ⟨A9, c9, rfl, o9, b9⟩
          have HO9 := hid o9
          clear o9
          go_wp2_with fail
          go_ret2
          exact ⟨A9, c9, rfl, own_more HO9.out hbW.out.size, bT hbW.out b9⟩
    · have HRV := hid (builtV_not h0 hm0)
      have hb : ((mineV a g.n k).2 != 0) = true := by simpa using hm0
      generalize mineV a g.n k = mv at *
      obtain ⟨ml, me⟩ := mv
      dsimp only at hb HMI HRV
      clear hm0 h0
      go_enter Try.func29, Try.ntmps29
      go_wp2_with fail
      refine HRC.out.mono ?_
      rintro e w1 ⟨A1, c1, rfl, o1, b1⟩
      have b01 := bT b0 b1
      have hz1 : w.heap.size < w1.heap.size := by have := b1.size; simp at this; omega
      have q0 : w1.cell? ⟨w.heap.size, 0, none⟩ = some (.int .i64 g.n) := keepb b1 (by go_simp)
      clear o1
      go_wp2_with fail
      refine (HMI.out _).mono ?_
      rintro e w2 ⟨A2, c2, rfl, o2, b2⟩
      go_wp2_with fail
      go_ret2
      rw [HRV.out]
      exact retL_noneQ _ _ _ (bT (bA b01 _) b2)
  · have b0 := bA (Below.refl w.heap.size w) (.cells #[.int .i64 g.n, .slice A g.edges.length c] 24)
    have HRC := hid (graphReversed_walk g _ A c (rdb hr (by decide) b0) hl)
    rw [reversedV_bad h0] at HRC
    have HRV := hid (builtV_bad (a := a) (k := k) h0)
    have hb : (graphV g != 0) = true := by simpa using h0
    generalize graphV g = r at *
    clear h0
    go_enter Try.func29, Try.ntmps29
    go_wp2_with fail
    refine HRC.out.mono ?_
    rintro e w1 ⟨A1, c1, rfl, o1, b1⟩
    have b01 := bT b0 b1
    clear o1
    go_wp2_with fail
    go_ret2
    rw [HRV.out]
    exact retL_noneQ _ _ _ (bA b01 _)
end Go.Proofs.Ytifpngjipkmdcaa
