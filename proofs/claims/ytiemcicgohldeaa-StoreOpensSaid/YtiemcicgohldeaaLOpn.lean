/- The statement on store.Open. -/
import Derived.Test.YtiemcicgohldeaaStoV
import Derived.Test.YtiemcicgohldeaaBytes
namespace Go.Proofs.Ytiemcicgohldeaa
open Go.ChangeShapes Go.WideShapes Go.ChangeAt Go.RowKit
set_option linter.unusedVariables false
set_option linter.unusedSimpArgs false
theorem keepl {B : Nat} {W V : World} (h : Below B W V) {b o : Nat} {v : Value} (hc : b < B ∧ W.cell? ⟨b, o, none⟩ = some v) : V.cell? ⟨b, o, none⟩ = some v := (h.cell (p := ⟨b, o, none⟩) hc.1).trans hc.2
theorem newGrid_led {α : Type} {cells : α → List Value} {sz : Nat} {w : World} {B : Nat} {A : Option Addr} {m : List (ML α)} (h : NewGrid cells sz w B A m) : Grid cells sz w w.heap.size A m :=
  ⟨h.1.to, fun x hx p hp => by obtain rfl := List.mem_singleton.1 hp; exact (h.2 x hx).to⟩
set_option maxRecDepth 100000 in
set_option maxHeartbeats 4000000 in
theorem samePart_walk (a b n : Int) (mo mo' mi mi' : List (ML Hop)) (w : World) (A A' B B' : Option Addr) (c c' d d' M K : Nat) (hm : lists mo' = lists mo) (hi : lists mi' = lists mi) (hM : mo.length = M) (hK : mi.length = K)
    (g1 : Grid Hop.cells 2 w w.heap.size A mo) (g2 : Grid Hop.cells 2 w w.heap.size A' mo') (g3 : Grid Hop.cells 2 w w.heap.size B mi) (g4 : Grid Hop.cells 2 w w.heap.size B' mi') (hMz : M ≤ 140737488355328) (hKz : K ≤ 140737488355328) (hz : ∀ x ∈ mo, x.l.length ≤ 140737488355328) (hz2 : ∀ x ∈ mi, x.l.length ≤ 140737488355328) :
    Calls Try.prog 9 #[.agg #[.int .i64 a, .int .i64 b, .int .i64 n, .slice A M c, .slice B K d], .agg #[.int .i64 a, .int .i64 b, .int .i64 n, .slice A' M c', .slice B' K d']] w fun e w' => e = .returned (.bool true) ∧ Below w.heap.size w w' := by
  have HM := hid hm
  have HI := hid hi
  have HZ := hid hz
  have HZ2 := hid hz2
  have HG1 := hid g1
  have HG2 := hid g2
  have HG3 := hid g3
  have HG4 := hid g4
  have HML := hid hM
  have HKL := hid hK
  clear hm hi hz hz2 g1 g2 g3 g4
  obtain ⟨W0, hW0⟩ : ∃ W0, W0 = (w.alloc (.cells #[.int .i64 a, .int .i64 b, .int .i64 n, .slice A M c, .slice B K d] 26)).alloc (.cells #[.int .i64 a, .int .i64 b, .int .i64 n, .slice A' M c', .slice B' K d'] 26) := ⟨_, rfl⟩
  have HB0 : Hid (Below w.heap.size w W0) := hid (by rw [hW0]; exact bA (bA (Below.refl _ _) _) _)
  have HW0 : Hid (W0.heap.size = w.heap.size + 2) := hid (by rw [hW0]; simp)
  have q3 : w.heap.size < w.heap.size + 2 ∧ W0.cell? ⟨w.heap.size, 3, none⟩ = some (.slice A M c) := ⟨by omega, by rw [hW0]; go_simp⟩
  have q4 : w.heap.size < w.heap.size + 2 ∧ W0.cell? ⟨w.heap.size, 4, none⟩ = some (.slice B K d) := ⟨by omega, by rw [hW0]; go_simp⟩
  have s3 : w.heap.size + 1 < w.heap.size + 2 ∧ W0.cell? ⟨w.heap.size + 1, 3, none⟩ = some (.slice A' M c') := ⟨by omega, by rw [hW0]; go_simp⟩
  have s4 : w.heap.size + 1 < w.heap.size + 2 ∧ W0.cell? ⟨w.heap.size + 1, 4, none⟩ = some (.slice B' K d') := ⟨by omega, by rw [hW0]; go_simp⟩
  have q0 : W0.cell? ⟨w.heap.size, 0, none⟩ = some (.int .i64 a) := by rw [hW0]; go_simp
  have q1 : W0.cell? ⟨w.heap.size, 1, none⟩ = some (.int .i64 b) := by rw [hW0]; go_simp
  have q2 : W0.cell? ⟨w.heap.size, 2, none⟩ = some (.int .i64 n) := by rw [hW0]; go_simp
  have s0 : W0.cell? ⟨w.heap.size + 1, 0, none⟩ = some (.int .i64 a) := by rw [hW0]; go_simp
  have s1 : W0.cell? ⟨w.heap.size + 1, 1, none⟩ = some (.int .i64 b) := by rw [hW0]; go_simp
  have s2 : W0.cell? ⟨w.heap.size + 1, 2, none⟩ = some (.int .i64 n) := by rw [hW0]; go_simp
  have t3 := q3.2
  have t4 := q4.2
  have u3 := s3.2
  have u4 := s4.2
  go_enter Try.func9, Try.ntmps9
  go_wp2_with fail
  rw [← hW0]
  clear hW0 hM hK
  have hM := HML.out
  have hK := HKL.out
  clear t3 t4 u3 u4 q0 q1 q2 s0 s1 s2
  go_loopw [5] (fun i wr => ∃ j : Nat, j ≤ M ∧ i = .int .i64 j ∧ Below (w.heap.size + 2) W0 wr) (fun i _ => M - (intOf i).toNat)
  case atStart => exact ⟨0, by omega, rfl, Below.refl _ _⟩
  case round =>
    obtain ⟨w8, hw8⟩ : ∃ w8, w8 = wr := ⟨_, rfl⟩
    subst hw8
    obtain ⟨j, hj, rfl, hbel⟩ := hrel
    have p3 := keepl hbel q3
    have p4 := keepl hbel q4
    have r3 := keepl hbel s3
    have r4 := keepl hbel s4
    have b0r : Below w.heap.size w w8 := HB0.out.trans (hbel.mono (by omega))
    have hws : w.heap.size + 1 < w8.heap.size := by have := hbel.size; have := HW0.out; omega
    have HBE := hid hbel
    clear hbel
    by_cases hlt : j < M
    · obtain ⟨x, hx⟩ : ∃ x, mo[j]? = some x := ⟨_, List.getElem?_eq_getElem (by omega)⟩
      obtain ⟨x', hx', hxx⟩ := lists_get HM.out hx
      have hxm := List.mem_of_getElem? hx
      have hxm' := List.mem_of_getElem? hx'
      obtain ⟨b1, o1, hA1, hb1, c0⟩ := ml_cell (HG1.out.1.below b0r) rfl hx
      obtain ⟨b2, o2, hA2, hb2, d0⟩ := ml_cell (HG2.out.1.below b0r) rfl hx'
      have r1 := rdb (Grid.data HG1.out hxm) (by decide) b0r
      have r2 := rdb (Grid.data HG2.out hxm') (by decide) b0r
      rw [hxx] at r2 d0
      rw [hA1] at p3
      rw [hA2] at r3
      have HQ := hid (fun W (h : Below w8.heap.size w8 W) => sameHops_walk x.l W x.A x'.A x.c x'.c (rdb r1 (by decide) h) (rdb r2 (by decide) h) (HZ.out x hxm))
      have HK : Hid (∀ V, Below w8.heap.size w8 V → ((fun V => V.cell? ⟨w.heap.size, 3, none⟩ = some (.slice (some ⟨b1, o1, none⟩) M c) ∧ V.cell? ⟨w.heap.size + 1, 3, none⟩ = some (.slice (some ⟨b2, o2, none⟩) M c') ∧ V.cell? ⟨b1, o1 + j, none⟩ = some (.slice x.A x.l.length x.c) ∧ V.cell? ⟨b2, o2 + j, none⟩ = some (.slice x'.A x.l.length x'.c)) : World → Prop) V) := hid fun V hV => ⟨keepb hV p3, keepb hV r3, keepb hV c0, keepb hV d0⟩
      have hjz : (j : Int) < (M : Int) := by omega
      have HR1 := hid r1
      have HR2 := hid r2
      clear hx hx' hxx r1 r2 hxm hxm' hA1 hA2
      go_wp2_with fail
      refine wp_region_F (S := (fun V => V.cell? ⟨w.heap.size, 3, none⟩ = some (.slice (some ⟨b1, o1, none⟩) M c) ∧ V.cell? ⟨w.heap.size + 1, 3, none⟩ = some (.slice (some ⟨b2, o2, none⟩) M c') ∧ V.cell? ⟨b1, o1 + j, none⟩ = some (.slice x.A x.l.length x.c) ∧ V.cell? ⟨b2, o2 + j, none⟩ = some (.slice x'.A x.l.length x'.c))) [10] (by kernel_rfl) (HK.out _ (bD (Below.refl _ _))) (fun hHeld => ?_)
      refine wpAnyF_pure (i := 0) (v := ?vg1_1_0) rfl (by kernel_rfl) (by kernel_rfl) (by kernel_rfl) (fun _ _ _ h => h) (Or.inl ⟨by rfl, ?hyg1_1_0⟩) ?restg1_1_0
      case hyg1_1_0 => (intro w hSw; clear hSw; go_simp; (all_goals with_reducible rfl))
      try simp only [Act.put, List.setIfInBounds_toArray, List.set_cons_zero, List.set_cons_succ, List.getElem_toArray, List.getElem_cons_succ, List.getElem_cons_zero]
      refine wpAnyF_pure (i := 2) (v := ?vg1_2_2) rfl (by kernel_rfl) (by kernel_rfl) (by kernel_rfl) (fun _ _ _ h => h) (Or.inl ⟨by rfl, ?hyg1_2_2⟩) ?restg1_2_2
      case hyg1_2_2 => (intro w hSw; clear hSw; go_simp; (all_goals with_reducible rfl))
      try simp only [Act.put, List.setIfInBounds_toArray, List.set_cons_zero, List.set_cons_succ, List.getElem_toArray, List.getElem_cons_succ, List.getElem_cons_zero]
      refine wpAnyF_pure (i := 5) (v := ?vg1_3_5) rfl (by kernel_rfl) (by kernel_rfl) (by kernel_rfl) (fun _ _ _ h => h) (Or.inl ⟨by rfl, ?hyg1_3_5⟩) ?restg1_3_5
      case hyg1_3_5 => (intro w hSw; clear hSw; go_simp; (all_goals with_reducible rfl))
      try simp only [Act.put, List.setIfInBounds_toArray, List.set_cons_zero, List.set_cons_succ, List.getElem_toArray, List.getElem_cons_succ, List.getElem_cons_zero]
      refine wpAnyF_pure (i := 7) (v := ?vg1_4_7) rfl (by kernel_rfl) (by kernel_rfl) (by kernel_rfl) (fun _ _ _ h => h) (Or.inl ⟨by rfl, ?hyg1_4_7⟩) ?restg1_4_7
      case hyg1_4_7 => (intro w hSw; clear hSw; go_simp; (all_goals with_reducible rfl))
      try simp only [Act.put, List.setIfInBounds_toArray, List.set_cons_zero, List.set_cons_succ, List.getElem_toArray, List.getElem_cons_succ, List.getElem_cons_zero]
      refine wpAnyF_take [3, 4, 10, 11] (i := 1) (v := ?vg1_5_1) rfl (by kernel_rfl) (by kernel_rfl) (by kernel_rfl) (by kernel_rfl) (fun _ _ _ h => h) (Or.inl ⟨by rfl, ?hyg1_5_1⟩) (by assumption) ?restg1_5_1
      case hyg1_5_1 => (intro w hSw; (try dsimp only at hSw); go_simp; (all_goals with_reducible rfl))
      try simp only [Act.put, List.setIfInBounds_toArray, List.set_cons_zero, List.set_cons_succ, List.getElem_toArray, List.getElem_cons_succ, List.getElem_cons_zero]
      refine wpAnyF_pure (i := 3) (v := ?vg1_6_3) rfl (by kernel_rfl) (by kernel_rfl) (by kernel_rfl) (fun _ _ _ h => h) (Or.inl ⟨by rfl, ?hyg1_6_3⟩) ?restg1_6_3
      case hyg1_6_3 => (intro w hSw; clear hSw; go_simp; (all_goals with_reducible rfl))
      try simp only [Act.put, List.setIfInBounds_toArray, List.set_cons_zero, List.set_cons_succ, List.getElem_toArray, List.getElem_cons_succ, List.getElem_cons_zero]
      refine wpAnyF_take [10, 11] (i := 4) (v := ?vg1_7_4) rfl (by kernel_rfl) (by kernel_rfl) (by kernel_rfl) (by kernel_rfl) (fun _ _ _ h => h) (Or.inl ⟨by rfl, ?hyg1_7_4⟩) (by assumption) ?restg1_7_4
      case hyg1_7_4 => (intro w hSw; (try dsimp only at hSw); go_simp; (all_goals with_reducible rfl))
      try simp only [Act.put, List.setIfInBounds_toArray, List.set_cons_zero, List.set_cons_succ, List.getElem_toArray, List.getElem_cons_succ, List.getElem_cons_zero]
      refine wpAnyF_take [8, 9, 10, 11] (i := 6) (v := ?vg1_8_6) rfl (by kernel_rfl) (by kernel_rfl) (by kernel_rfl) (by kernel_rfl) (fun _ _ _ h => h) (Or.inl ⟨by rfl, ?hyg1_8_6⟩) (by assumption) ?restg1_8_6
      case hyg1_8_6 => (intro w hSw; (try dsimp only at hSw); go_simp; (all_goals with_reducible rfl))
      try simp only [Act.put, List.setIfInBounds_toArray, List.set_cons_zero, List.set_cons_succ, List.getElem_toArray, List.getElem_cons_succ, List.getElem_cons_zero]
      refine wpAnyF_pure (i := 8) (v := ?vg1_9_8) rfl (by kernel_rfl) (by kernel_rfl) (by kernel_rfl) (fun _ _ _ h => h) (Or.inl ⟨by rfl, ?hyg1_9_8⟩) ?restg1_9_8
      case hyg1_9_8 => (intro w hSw; clear hSw; go_simp; (all_goals with_reducible rfl))
      try simp only [Act.put, List.setIfInBounds_toArray, List.set_cons_zero, List.set_cons_succ, List.getElem_toArray, List.getElem_cons_succ, List.getElem_cons_zero]
      refine wpAnyF_take [10, 11] (i := 9) (v := ?vg1_10_9) rfl (by kernel_rfl) (by kernel_rfl) (by kernel_rfl) (by kernel_rfl) (fun _ _ _ h => h) (Or.inl ⟨by rfl, ?hyg1_10_9⟩) (by assumption) ?restg1_10_9
      case hyg1_10_9 => (intro w hSw; (try dsimp only at hSw); go_simp; (all_goals with_reducible rfl))
      try simp only [Act.put, List.setIfInBounds_toArray, List.set_cons_zero, List.set_cons_succ, List.getElem_toArray, List.getElem_cons_succ, List.getElem_cons_zero]
      refine wpAnyF_oneD (i := 10) (by kernel_rfl) (by kernel_rfl) rfl (fun K hK => ?_)
      go_simp
      go_at_call 29
      refine (HQ.out _ (bD (Below.refl _ _))).mono ?_
      rintro e w9 ⟨rfl, b9⟩
      have HB9 := hid ((Below.refl w8.heap.size w8).drew.trans b9)
      go_wp2_with fail
      refine hK.out _ _ ?_
      clear hK K
      try simp only [Act.put, List.setIfInBounds_toArray, List.set_cons_zero, List.set_cons_succ, List.getElem_toArray, List.getElem_cons_succ, List.getElem_cons_zero]
      refine wpAnyF_pure (i := 11) (v := ?vg1_12_11) rfl (by kernel_rfl) (by kernel_rfl) (by kernel_rfl) (fun _ _ _ h => h) (Or.inl ⟨by rfl, ?hyg1_12_11⟩) ?restg1_12_11
      case hyg1_12_11 => (intro w hSw; clear hSw; go_simp; (all_goals with_reducible rfl))
      try simp only [Act.put, List.setIfInBounds_toArray, List.set_cons_zero, List.set_cons_succ, List.getElem_toArray, List.getElem_cons_succ, List.getElem_cons_zero]
      refine wpAnyF_done (by kernel_rfl) ?_ _
      go_wp2_with fail
      go_roundw
      case rel => exact ⟨j + 1, by omega, by go_num, HBE.out.trans (HB9.out.mono (by omega))⟩
      case measure => simp [intOf]; omega
    · obtain rfl : j = M := by omega
      go_wp2_with fail
      clear p3 p4 r3 r4
      go_loopw [6] (fun i wr => ∃ j : Nat, j ≤ K ∧ i = .int .i64 j ∧ Below (w.heap.size + 2) W0 wr) (fun i _ => K - (intOf i).toNat)
      case atStart => exact ⟨0, by omega, rfl, HBE.out⟩
      case round =>
        obtain ⟨w7, hw7⟩ : ∃ w7, w7 = wr := ⟨_, rfl⟩
        subst hw7
        obtain ⟨j, hj, rfl, hbel⟩ := hrel
        have p3 := keepl hbel q3
        have p4 := keepl hbel q4
        have r3 := keepl hbel s3
        have r4 := keepl hbel s4
        have b0r : Below w.heap.size w w7 := HB0.out.trans (hbel.mono (by omega))
        have hws : w.heap.size + 1 < w7.heap.size := by have := hbel.size; have := HW0.out; omega
        have HBF := hid hbel
        clear hbel
        by_cases hlt : j < K
        · obtain ⟨x, hx⟩ : ∃ x, mi[j]? = some x := ⟨_, List.getElem?_eq_getElem (by omega)⟩
          obtain ⟨x', hx', hxx⟩ := lists_get HI.out hx
          have hxm := List.mem_of_getElem? hx
          have hxm' := List.mem_of_getElem? hx'
          obtain ⟨b1, o1, hA1, hb1, c0⟩ := ml_cell (HG3.out.1.below b0r) rfl hx
          obtain ⟨b2, o2, hA2, hb2, d0⟩ := ml_cell (HG4.out.1.below b0r) rfl hx'
          have r1 := rdb (Grid.data HG3.out hxm) (by decide) b0r
          have r2 := rdb (Grid.data HG4.out hxm') (by decide) b0r
          rw [hxx] at r2 d0
          rw [hA1] at p4
          rw [hA2] at r4
          have HQ := hid (fun W (h : Below w7.heap.size w7 W) => sameHops_walk x.l W x.A x'.A x.c x'.c (rdb r1 (by decide) h) (rdb r2 (by decide) h) (HZ2.out x hxm))
          have HK : Hid (∀ V, Below w7.heap.size w7 V → ((fun V => V.cell? ⟨w.heap.size, 4, none⟩ = some (.slice (some ⟨b1, o1, none⟩) K d) ∧ V.cell? ⟨w.heap.size + 1, 4, none⟩ = some (.slice (some ⟨b2, o2, none⟩) K d') ∧ V.cell? ⟨b1, o1 + j, none⟩ = some (.slice x.A x.l.length x.c) ∧ V.cell? ⟨b2, o2 + j, none⟩ = some (.slice x'.A x.l.length x'.c)) : World → Prop) V) := hid fun V hV => ⟨keepb hV p4, keepb hV r4, keepb hV c0, keepb hV d0⟩
          have hjz : (j : Int) < (K : Int) := by omega
          have HR1 := hid r1
          have HR2 := hid r2
          clear hx hx' hxx r1 r2 hxm hxm' hA1 hA2
          go_wp2_with fail
          refine wp_region_F (S := (fun V => V.cell? ⟨w.heap.size, 4, none⟩ = some (.slice (some ⟨b1, o1, none⟩) K d) ∧ V.cell? ⟨w.heap.size + 1, 4, none⟩ = some (.slice (some ⟨b2, o2, none⟩) K d') ∧ V.cell? ⟨b1, o1 + j, none⟩ = some (.slice x.A x.l.length x.c) ∧ V.cell? ⟨b2, o2 + j, none⟩ = some (.slice x'.A x.l.length x'.c))) [10] (by kernel_rfl) (HK.out _ (bD (Below.refl _ _))) (fun hHeld => ?_)
          refine wpAnyF_pure (i := 0) (v := ?vg2_1_0) rfl (by kernel_rfl) (by kernel_rfl) (by kernel_rfl) (fun _ _ _ h => h) (Or.inl ⟨by rfl, ?hyg2_1_0⟩) ?restg2_1_0
          case hyg2_1_0 => (intro w hSw; clear hSw; go_simp; (all_goals with_reducible rfl))
          try simp only [Act.put, List.setIfInBounds_toArray, List.set_cons_zero, List.set_cons_succ, List.getElem_toArray, List.getElem_cons_succ, List.getElem_cons_zero]
          refine wpAnyF_pure (i := 2) (v := ?vg2_2_2) rfl (by kernel_rfl) (by kernel_rfl) (by kernel_rfl) (fun _ _ _ h => h) (Or.inl ⟨by rfl, ?hyg2_2_2⟩) ?restg2_2_2
          case hyg2_2_2 => (intro w hSw; clear hSw; go_simp; (all_goals with_reducible rfl))
          try simp only [Act.put, List.setIfInBounds_toArray, List.set_cons_zero, List.set_cons_succ, List.getElem_toArray, List.getElem_cons_succ, List.getElem_cons_zero]
          refine wpAnyF_pure (i := 5) (v := ?vg2_3_5) rfl (by kernel_rfl) (by kernel_rfl) (by kernel_rfl) (fun _ _ _ h => h) (Or.inl ⟨by rfl, ?hyg2_3_5⟩) ?restg2_3_5
          case hyg2_3_5 => (intro w hSw; clear hSw; go_simp; (all_goals with_reducible rfl))
          try simp only [Act.put, List.setIfInBounds_toArray, List.set_cons_zero, List.set_cons_succ, List.getElem_toArray, List.getElem_cons_succ, List.getElem_cons_zero]
          refine wpAnyF_pure (i := 7) (v := ?vg2_4_7) rfl (by kernel_rfl) (by kernel_rfl) (by kernel_rfl) (fun _ _ _ h => h) (Or.inl ⟨by rfl, ?hyg2_4_7⟩) ?restg2_4_7
          case hyg2_4_7 => (intro w hSw; clear hSw; go_simp; (all_goals with_reducible rfl))
          try simp only [Act.put, List.setIfInBounds_toArray, List.set_cons_zero, List.set_cons_succ, List.getElem_toArray, List.getElem_cons_succ, List.getElem_cons_zero]
          refine wpAnyF_take [3, 4, 10, 11] (i := 1) (v := ?vg2_5_1) rfl (by kernel_rfl) (by kernel_rfl) (by kernel_rfl) (by kernel_rfl) (fun _ _ _ h => h) (Or.inl ⟨by rfl, ?hyg2_5_1⟩) (by assumption) ?restg2_5_1
          case hyg2_5_1 => (intro w hSw; (try dsimp only at hSw); go_simp; (all_goals with_reducible rfl))
          try simp only [Act.put, List.setIfInBounds_toArray, List.set_cons_zero, List.set_cons_succ, List.getElem_toArray, List.getElem_cons_succ, List.getElem_cons_zero]
          refine wpAnyF_pure (i := 3) (v := ?vg2_6_3) rfl (by kernel_rfl) (by kernel_rfl) (by kernel_rfl) (fun _ _ _ h => h) (Or.inl ⟨by rfl, ?hyg2_6_3⟩) ?restg2_6_3
          case hyg2_6_3 => (intro w hSw; clear hSw; go_simp; (all_goals with_reducible rfl))
          try simp only [Act.put, List.setIfInBounds_toArray, List.set_cons_zero, List.set_cons_succ, List.getElem_toArray, List.getElem_cons_succ, List.getElem_cons_zero]
          refine wpAnyF_take [10, 11] (i := 4) (v := ?vg2_7_4) rfl (by kernel_rfl) (by kernel_rfl) (by kernel_rfl) (by kernel_rfl) (fun _ _ _ h => h) (Or.inl ⟨by rfl, ?hyg2_7_4⟩) (by assumption) ?restg2_7_4
          case hyg2_7_4 => (intro w hSw; (try dsimp only at hSw); go_simp; (all_goals with_reducible rfl))
          try simp only [Act.put, List.setIfInBounds_toArray, List.set_cons_zero, List.set_cons_succ, List.getElem_toArray, List.getElem_cons_succ, List.getElem_cons_zero]
          refine wpAnyF_take [8, 9, 10, 11] (i := 6) (v := ?vg2_8_6) rfl (by kernel_rfl) (by kernel_rfl) (by kernel_rfl) (by kernel_rfl) (fun _ _ _ h => h) (Or.inl ⟨by rfl, ?hyg2_8_6⟩) (by assumption) ?restg2_8_6
          case hyg2_8_6 => (intro w hSw; (try dsimp only at hSw); go_simp; (all_goals with_reducible rfl))
          try simp only [Act.put, List.setIfInBounds_toArray, List.set_cons_zero, List.set_cons_succ, List.getElem_toArray, List.getElem_cons_succ, List.getElem_cons_zero]
          refine wpAnyF_pure (i := 8) (v := ?vg2_9_8) rfl (by kernel_rfl) (by kernel_rfl) (by kernel_rfl) (fun _ _ _ h => h) (Or.inl ⟨by rfl, ?hyg2_9_8⟩) ?restg2_9_8
          case hyg2_9_8 => (intro w hSw; clear hSw; go_simp; (all_goals with_reducible rfl))
          try simp only [Act.put, List.setIfInBounds_toArray, List.set_cons_zero, List.set_cons_succ, List.getElem_toArray, List.getElem_cons_succ, List.getElem_cons_zero]
          refine wpAnyF_take [10, 11] (i := 9) (v := ?vg2_10_9) rfl (by kernel_rfl) (by kernel_rfl) (by kernel_rfl) (by kernel_rfl) (fun _ _ _ h => h) (Or.inl ⟨by rfl, ?hyg2_10_9⟩) (by assumption) ?restg2_10_9
          case hyg2_10_9 => (intro w hSw; (try dsimp only at hSw); go_simp; (all_goals with_reducible rfl))
          try simp only [Act.put, List.setIfInBounds_toArray, List.set_cons_zero, List.set_cons_succ, List.getElem_toArray, List.getElem_cons_succ, List.getElem_cons_zero]
          refine wpAnyF_oneD (i := 10) (by kernel_rfl) (by kernel_rfl) rfl (fun K hK => ?_)
          go_simp
          go_at_call 29
          refine (HQ.out _ (bD (Below.refl _ _))).mono ?_
          rintro e w9 ⟨rfl, b9⟩
          have HB9 := hid ((Below.refl w7.heap.size w7).drew.trans b9)
          go_wp2_with fail
          refine hK.out _ _ ?_
          clear hK K
          try simp only [Act.put, List.setIfInBounds_toArray, List.set_cons_zero, List.set_cons_succ, List.getElem_toArray, List.getElem_cons_succ, List.getElem_cons_zero]
          refine wpAnyF_pure (i := 11) (v := ?vg2_12_11) rfl (by kernel_rfl) (by kernel_rfl) (by kernel_rfl) (fun _ _ _ h => h) (Or.inl ⟨by rfl, ?hyg2_12_11⟩) ?restg2_12_11
          case hyg2_12_11 => (intro w hSw; clear hSw; go_simp; (all_goals with_reducible rfl))
          try simp only [Act.put, List.setIfInBounds_toArray, List.set_cons_zero, List.set_cons_succ, List.getElem_toArray, List.getElem_cons_succ, List.getElem_cons_zero]
          refine wpAnyF_done (by kernel_rfl) ?_ _
          go_wp2_with fail
          go_roundw
          case rel => exact ⟨j + 1, by omega, by go_num, HBF.out.trans (HB9.out.mono (by omega))⟩
          case measure => simp [intOf]; omega
        · obtain rfl : j = K := by omega
          go_wp2_with fail
          go_ret
          exact ⟨rfl, b0r⟩
theorem partGo_len (n : Int) : ∀ (k : Nat) (l : List Int) (os is : List (List Hop)) (r : List Int), partGo n k l = some (os, is, r) → os.length = k ∧ is.length = k ∧ (∀ x ∈ os, x.length ≤ 600) ∧ ∀ x ∈ is, x.length ≤ 600
  | 0, l, os, is, r, h => by simp only [partGo, Option.some.injEq, Prod.mk.injEq] at h; obtain ⟨rfl, rfl, rfl⟩ := h; exact ⟨rfl, rfl, by simp, by simp⟩
  | k + 1, l, os, is, r, h => by
    unfold partGo at h
    split at h
    · cases h
    · rename_i o r1 h1
      split at h
      · cases h
      · rename_i i r2 h2
        split at h
        · cases h
        · rename_i os' is' r3 h3
          simp only [Option.some.injEq, Prod.mk.injEq] at h
          obtain ⟨rfl, rfl, rfl⟩ := h
          obtain ⟨e1, e2, e3, e4⟩ := partGo_len n k _ _ _ _ h3
          have g1 := (hopsE_len h1).1
          have g2 := (hopsE_len h2).1
          refine ⟨by simp [e1], by simp [e2], fun x hx => ?_, fun x hx => ?_⟩
          · rcases List.mem_cons.1 hx with rfl | hx
            · exact g1
            · exact e3 x hx
          · rcases List.mem_cons.1 hx with rfl | hx
            · exact g2
            · exact e4 x hx
theorem openV_len (l : List Int) : (openV l).1.outs.length ≤ 200 ∧ (openV l).1.ins.length ≤ 200 ∧ (∀ x ∈ (openV l).1.outs, x.length ≤ 600) ∧ ∀ x ∈ (openV l).1.ins, x.length ≤ 600 := by
  have hz : zeroP.outs.length ≤ 200 ∧ zeroP.ins.length ≤ 200 ∧ (∀ x ∈ zeroP.outs, x.length ≤ 600) ∧ ∀ x ∈ zeroP.ins, x.length ≤ 600 := ⟨by decide, by decide, (fun x hx => by cases hx), (fun x hx => by cases hx)⟩
  unfold openV
  split
  · exact hz
  · split
    · exact hz
    · split
      · exact hz
      · rename_i a b n r _
        split
        · exact hz
        · split
          · exact hz
          · rename_i os is r' h
            have hm := mineV_len a n b
            obtain ⟨e1, e2, e3, e4⟩ := partGo_len _ _ _ _ _ _ h
            split
            · exact ⟨by dsimp only; omega, by dsimp only; omega, e3, e4⟩
            · exact hz
set_option maxRecDepth 100000 in
set_option maxHeartbeats 4000000 in
theorem law_StoreOpens (w : World) (l : List Int) (A : Option Addr) (c : Nat) (hf : Flat w w.heap.size 1 1 u8c A c l) (hb : ∀ x ∈ l, 0 ≤ x ∧ x ≤ 255) :
    Calls Try.prog 3 #[.slice A l.length c] w fun e w' => e = .returned (.bool true) ∧ Below w.heap.size w w' := by
  obtain ⟨f1, f2, f3, f4⟩ := hf
  have hv := openV_len l
  have c1 := hid (open_walk l)
  have c2 := hid (opened_walk l)
  have HB := hid hb
  clear hb
  generalize openV l = z at c1 c2 hv
  obtain ⟨⟨pa, pb, pn, os, is⟩, r⟩ := z
  dsimp only at hv
  obtain ⟨hv1, hv2, hv3, hv4⟩ := hv
  generalize hL : l.length = n at *
  have HL := hid hL
  clear hL
  go_enter Try.func3, Try.ntmps3
  go_wp2_with fail
  refine (octets_copy l w A n c _ f4 (by omega)).mono ?_
  rintro e w1 ⟨A1, k1, rfl, o1, b1⟩
  go_wp2_with fail
  refine (c1.out w1 A1 n k1 (rd_own o1) rfl HB.out (by omega) (own_cap o1)).mono ?_
  rintro e w2 ⟨PA, pc, PB, pd, mo, mi, rfl, hmo, hmi, g1, g2, b2⟩
  dsimp only at hmo hmi ⊢
  have HMO := hid hmo
  have HMI := hid hmi
  have HG1 := hid (newGrid_led g1)
  have HG2 := hid (newGrid_led g2)
  clear hmo hmi g1 g2
  have bX := bA (Below.refl w2.heap.size w2) (.cells #[.int .i64 pa, .int .i64 pb, .int .i64 pn, .slice PA os.length pc, .slice PB is.length pd] 26)
  have p0 : (w2.alloc (.cells #[.int .i64 pa, .int .i64 pb, .int .i64 pn, .slice PA os.length pc, .slice PB is.length pd] 26)).cell? ⟨w2.heap.size, 0, none⟩ = some (.int .i64 pa) := by go_simp
  have p1 : (w2.alloc (.cells #[.int .i64 pa, .int .i64 pb, .int .i64 pn, .slice PA os.length pc, .slice PB is.length pd] 26)).cell? ⟨w2.heap.size, 1, none⟩ = some (.int .i64 pb) := by go_simp
  have p2 : (w2.alloc (.cells #[.int .i64 pa, .int .i64 pb, .int .i64 pn, .slice PA os.length pc, .slice PB is.length pd] 26)).cell? ⟨w2.heap.size, 2, none⟩ = some (.int .i64 pn) := by go_simp
  have p3 : (w2.alloc (.cells #[.int .i64 pa, .int .i64 pb, .int .i64 pn, .slice PA os.length pc, .slice PB is.length pd] 26)).cell? ⟨w2.heap.size, 3, none⟩ = some (.slice PA os.length pc) := by go_simp
  have p4 : (w2.alloc (.cells #[.int .i64 pa, .int .i64 pb, .int .i64 pn, .slice PA os.length pc, .slice PB is.length pd] 26)).cell? ⟨w2.heap.size, 4, none⟩ = some (.slice PB is.length pd) := by go_simp
  go_wp2_with fail
  have HB2X := hid (bT b2 bX)
  refine (c2.out _ A n c (rdb f4 (by decide) (bT b1 (bT b2 bX))) rfl HB.out (by omega) f1).mono ?_
  rintro e w3 ⟨QA, qc, QB, qd, no, ni, rfl, hno, hni, g3, g4, b3⟩
  dsimp only at hno hni ⊢
  have HNO := hid hno
  have HNI := hid hni
  have HG3 := hid (newGrid_led g3)
  have HG4 := hid (newGrid_led g4)
  have p0 := keepb b3 p0
  have p1 := keepb b3 p1
  have p2 := keepb b3 p2
  have p3 := keepb b3 p3
  have p4 := keepb b3 p4
  have hz3 : w2.heap.size < w3.heap.size := by have := b3.size; simp at this; omega
  clear hno hni g3 g4
  have bY := bA (Below.refl w3.heap.size w3) (.cells #[.int .i64 pa, .int .i64 pb, .int .i64 pn, .slice QA os.length qc, .slice QB is.length qd] 26)
  have HB2Y := hid (bT (bT bX b3) bY)
  have HSP := hid (samePart_walk pa pb pn mo no mi ni (w3.alloc (.cells #[.int .i64 pa, .int .i64 pb, .int .i64 pn, .slice QA os.length qc, .slice QB is.length qd] 26)) PA QA PB QB pc qc pd qd os.length is.length (HNO.out.trans HMO.out.symm) (HNI.out.trans HMI.out.symm) (by rw [← HMO.out]; simp [lists]) (by rw [← HMI.out]; simp [lists]) (Grid.b HG1.out (by decide) HB2Y.out) (Grid.b HG3.out (by decide) bY) (Grid.b HG2.out (by decide) HB2Y.out) (Grid.b HG4.out (by decide) bY) (by omega) (by omega) (fun x hx => by have := hv3 x.l (by rw [← HMO.out]; exact List.mem_map.2 ⟨x, hx, rfl⟩); omega) (fun x hx => by have := hv4 x.l (by rw [← HMI.out]; exact List.mem_map.2 ⟨x, hx, rfl⟩); omega))
  have HB3 := hid (bT b3 bY)
  have HB12 := hid (bT b2 HB2Y.out)
  clear b3 bY bX
  go_wp2_with fail
  refine HSP.out.mono ?_
  rintro e w4 ⟨rfl, b4⟩
  have b14 := bT HB12.out b4
  go_wp2_with fail
  refine (sameBytes_walk l _ _ _ _ _ _ _ (own_rdb o1 (by decide) b14) (rdb f4 (by decide) (bT b1 b14))).mono ?_
  rintro e w5 ⟨rfl, rfl⟩
  go_wp2_with fail
  go_ret
  exact ⟨by simp, bT b1 b14⟩
end Go.Proofs.Ytiemcicgohldeaa
