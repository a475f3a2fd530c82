/- A report is heard: what the program answers. -/
import Derived.Test.YtaipjckcckfnaaaBoardZ
namespace Go.Proofs.Ytaipjckcckfnaaa
open Go.ChangeShapes Go.WideShapes Go.ChangeAt Go.RowKit
set_option linter.unusedVariables false
set_option linter.unusedSimpArgs false
set_option maxRecDepth 100000 in
set_option maxHeartbeats 1000000 in
theorem hear_walk (wk ep st : Int) (A : Option Addr) (c : Nat) (l : List MRep) (x : MRep) (w : World) (hr : Reps w w.heap.size A l) (hx : x.rd w w.heap.size) (hn : (l.length + 1) * 88 ≤ 140737488355328) (hs : ∀ x ∈ l, x.r.sent.length * 8 ≤ 140737488355328 ∧ x.r.got.length * 8 ≤ 140737488355328) (hsx : x.r.sent.length * 8 ≤ 140737488355328 ∧ x.r.got.length * 8 ≤ 140737488355328) :
    Calls Try.prog 9 #[.agg (boardC wk ep st A l.length c), .agg (repC x)] w (RetBd w wk ep st (hearV wk ep st (repsOf l) x.r)) := by
  have hw0 := HrW.start wk ep st A l c x w
  have b0 := bA (bA (bA (Below.refl w.heap.size w) (.cells #[.int .i64 wk, .int .i64 ep, .int .i64 st, .slice A l.length c] 24)) (.cells #[.int .i64 x.r.worker, .int .i64 x.r.epoch, .int .i64 x.r.step, .slice x.A x.r.sent.length x.c, .slice x.A' x.r.got.length x.c', .int .i64 x.r.waking, .int .i64 x.r.opn] 33)) (.cells #[.int .i64 0, .int .i64 0, .int .i64 0, .slice none 0 0] 24)
  have hn1 : l.length * 88 ≤ 140737488355328 := by omega
  have HM := hid (read_walk wk ep st A c l (((w.alloc (.cells #[.int .i64 wk, .int .i64 ep, .int .i64 st, .slice A l.length c] 24)).alloc (.cells #[.int .i64 x.r.worker, .int .i64 x.r.epoch, .int .i64 x.r.step, .slice x.A x.r.sent.length x.c, .slice x.A' x.r.got.length x.c', .int .i64 x.r.waking, .int .i64 x.r.opn] 33)).alloc (.cells #[.int .i64 0, .int .i64 0, .int .i64 0, .slice none 0 0] 24)) (hr.b b0) hn1 hs)
  have HF := hid (fun (V : World) (hV : Below w.heap.size w V) => report_walk wk ep st A l.length c x V ⟨rdb hx.1 (by decide) hV, rdb hx.2 (by decide) hV⟩ hsx.1 hsx.2)
  have HCP := hid (fun (V : World) (hV : Below w.heap.size w V) => copied_walk x V ⟨rdb hx.1 (by decide) hV, rdb hx.2 (by decide) hV⟩ hsx.1 hsx.2)
  unfold boardC repC at *
  obtain ⟨W, hW⟩ : ∃ W, W = (((w.alloc (.cells #[.int .i64 wk, .int .i64 ep, .int .i64 st, .slice A l.length c] 24)).alloc (.cells #[.int .i64 x.r.worker, .int .i64 x.r.epoch, .int .i64 x.r.step, .slice x.A x.r.sent.length x.c, .slice x.A' x.r.got.length x.c', .int .i64 x.r.waking, .int .i64 x.r.opn] 33)).alloc (.cells #[.int .i64 0, .int .i64 0, .int .i64 0, .slice none 0 0] 24)) := ⟨_, rfl⟩
  rw [← hW] at hw0 b0 HM
  obtain ⟨⟨a0, a1, a2, a3⟩, ⟨q0, q1, q2, q3, q4, q5, q6⟩, ⟨z0, z1, z2, z3, zf⟩, hsz⟩ := id hw0
  have HW0 := hid hw0
  clear hw0
  go_enter Try.func9, Try.ntmps9
  go_wp2_with fail
  rw [← hW]
  refine HM.out.mono ?_
  rintro e w1 ⟨b1, ⟨hok, n, gb, rfl, rfl, own⟩ | ⟨hno, rfl⟩⟩
  · have bb1 := bT b0 b1
    obtain ⟨⟨a0, a1, a2, a3⟩, ⟨q0, q1, q2, q3, q4, q5, q6⟩, ⟨z0, z1, z2, z3, zf⟩, hsz⟩ := HW0.out.b b1
    by_cases hv : repV (n : Int) ep st x.r = 0
    · have hfit := (repV_zero hv).1
      obtain ⟨v, hvw⟩ : ∃ v : Nat, x.r.worker = v := ⟨x.r.worker.toNat, by omega⟩
      have hvn : v < n := by omega
      have hvz : (v : Int) < (n : Int) := by omega
      have HFv := HF.out
      rw [hv, hvw] at HFv
      have HF2 := hid HFv
      clear HF HFv
      have hbv := byL_get (A := A) (l := repsOf l) hvn
      have hgb := own.lt gb rfl
      rcases byV_cases A (repsOf l) v with ⟨hbe, hnone⟩ | ⟨j, y, hy, hyw, hbe⟩
      · have HE := hid (hearV_ok (r := x.r) hok hv (by rintro ⟨y, hy, he⟩; obtain ⟨j, hj⟩ := List.mem_iff_getElem?.1 hy; exact hnone j y hj (by rw [he, hvw])))
        rw [hbe] at hbv
        obtain ⟨gc, -⟩ := own_at own hbv
        have HVW := hid hvw
        rw [hvw] at q0
        clear hbv hbe hnone hfit hv hok hvw
        go_wp2_with fail
        refine (HF2.out w1 bb1).mono ?_
        rintro e w2 ⟨rfl, b2⟩
        have bb2 := bT bb1 b2
        have gc2 := keepb b2 gc
        have hw2 := HW0.out.b (bT b1 b2)
        obtain ⟨⟨a0, a1, a2, a3⟩, ⟨q0, q1, q2, q3, q4, q5, q6⟩, ⟨z0, z1, z2, z3, zf⟩, hsz⟩ := id hw2
        rw [HVW.out] at q0
        clear HF2 HM b1 b2 bb1 HW0 hW gc own hgb
        have hg0 : w.heap.size < w2.heap.size := by omega
        have hg1 : w.heap.size + 1 < w2.heap.size := by omega
        have hg2 : w.heap.size + 2 < w2.heap.size := by omega
        have HW4 := hid (hw2.b (bA (Below.refl w2.heap.size w2) (.cells #[.int .i64 (n : Int), .int .i64 ep, .int .i64 st, .slice none 0 0] 24)))
        have HO4 : Hid (ObW n ep st none 0 0 w2.heap.size (w2.alloc (.cells #[.int .i64 (n : Int), .int .i64 ep, .int .i64 st, .slice none 0 0] 24))) := hid (by
          refine ⟨?_, ?_, ?_, ?_, fun o => ?_, by simp⟩ <;> go_simp)
        have bb4 := bA bb2 (.cells #[.int .i64 (n : Int), .int .i64 ep, .int .i64 st, .slice none 0 0] 24)
        clear hw2
        go_wp2_with fail
        generalize hH : w2.heap.size = H at *
        go_loopw [44] (fun i wr => HdRel n ep st A c l x w w.heap.size H i wr) (fun i _ => l.length - (intOf i).toNat)
        case atStart => exact ⟨0, 0, none, [], by omega, rfl, hid rfl, hid rfl, Heaped.nil, HW4.out, HO4.out, bb4⟩
        case round =>
          clear HW4 HO4 a0 a1 a2 a3 q0 q1 q2 q3 q4 q5 q6 z0 z1 z2 z3 zf hsz hH bb2 bb4
          obtain ⟨k, c', A', acc, hk, rfl, HA, HF, hown, hbw, hob, hbel⟩ := hrel
          have HBC := hid hbw
          have HOB := hid hob
          obtain ⟨⟨a0, a1, a2, a3⟩, ⟨q0, q1, q2, q3, q4, q5, q6⟩, ⟨z0, z1, z2, z3, zf⟩, hsz⟩ := hbw
          obtain ⟨o0, o1, o2, o3, of, hos⟩ := hob
          by_cases hlt : k < l.length
          · obtain ⟨y, hy⟩ : ∃ y, l[k]? = some y := ⟨_, List.getElem?_eq_getElem hlt⟩
            have hym := List.mem_of_getElem? hy
            obtain ⟨b, off, rfl, hb, c0, c1, c2, c3, c4, c5, c6⟩ := rep_cells (hr.1.below hbel) rfl hy
            have hdat := Reps.data hr hym
            have hlen := hs y hym
            have hbr : b < wr.heap.size := by omega
            have hkz : (k : Int) < (l.length : Int) := by omega
            have HX := hid (repsOf_get hy)
            have HC := hid (fun (V : World) (hV : Below wr.heap.size wr V) => copied_walk y V ⟨rdb hdat.1 (by decide) (bT hbel hV), rdb hdat.2 (by decide) (bT hbel hV)⟩ hlen.1 hlen.2)
            unfold repC at HC
            have hn2 : (k + 1) * 88 ≤ 140737488355328 := by omega
            have HK : Hid (∀ V, Below (wr.alloc (.cells #[.int .i64 y.r.worker, .int .i64 y.r.epoch, .int .i64 y.r.step, .slice y.A y.r.sent.length y.c, .slice y.A' y.r.got.length y.c', .int .i64 y.r.waking, .int .i64 y.r.opn] 33)).heap.size (wr.alloc (.cells #[.int .i64 y.r.worker, .int .i64 y.r.epoch, .int .i64 y.r.step, .slice y.A y.r.sent.length y.c, .slice y.A' y.r.got.length y.c', .int .i64 y.r.waking, .int .i64 y.r.opn] 33)) V → ((fun V => V.cell? ⟨H, 3, none⟩ = some (.slice A' k c') ∧ V.cell? ⟨wr.heap.size, 0, none⟩ = some (.int .i64 y.r.worker) ∧ V.cell? ⟨wr.heap.size, 1, none⟩ = some (.int .i64 y.r.epoch) ∧ V.cell? ⟨wr.heap.size, 2, none⟩ = some (.int .i64 y.r.step) ∧ V.cell? ⟨wr.heap.size, 3, none⟩ = some (.slice y.A y.r.sent.length y.c) ∧ V.cell? ⟨wr.heap.size, 4, none⟩ = some (.slice y.A' y.r.got.length y.c') ∧ V.cell? ⟨wr.heap.size, 5, none⟩ = some (.int .i64 y.r.waking) ∧ V.cell? ⟨wr.heap.size, 6, none⟩ = some (.int .i64 y.r.opn)) : World → Prop) V) := hid fun V hV => ⟨keepb hV (keepb (bA (Below.refl wr.heap.size wr) _) o3), keepb hV (by go_simp), keepb hV (by go_simp), keepb hV (by go_simp), keepb hV (by go_simp), keepb hV (by go_simp), keepb hV (by go_simp), keepb hV (by go_simp)⟩
            have HB1 := hid (bD (bA (Below.refl wr.heap.size wr) (.cells #[.int .i64 y.r.worker, .int .i64 y.r.epoch, .int .i64 y.r.step, .slice y.A y.r.sent.length y.c, .slice y.A' y.r.got.length y.c', .int .i64 y.r.waking, .int .i64 y.r.opn] 33)))
            have HZ : Hid (wr.heap.size ≤ (wr.alloc (.cells #[.int .i64 y.r.worker, .int .i64 y.r.epoch, .int .i64 y.r.step, .slice y.A y.r.sent.length y.c, .slice y.A' y.r.got.length y.c', .int .i64 y.r.waking, .int .i64 y.r.opn] 33)).drew.heap.size) := hid (by simp)
            have HZ2 : Hid (H + 1 ≤ (wr.alloc (.cells #[.int .i64 y.r.worker, .int .i64 y.r.epoch, .int .i64 y.r.step, .slice y.A y.r.sent.length y.c, .slice y.A' y.r.got.length y.c', .int .i64 y.r.waking, .int .i64 y.r.opn] 33)).drew.heap.size) := hid (by simp; omega)
            clear hy hym hdat hlen hs HCP
            go_wp2_with fail
            refine wp_region_F (S := (fun V => V.cell? ⟨H, 3, none⟩ = some (.slice A' k c') ∧ V.cell? ⟨wr.heap.size, 0, none⟩ = some (.int .i64 y.r.worker) ∧ V.cell? ⟨wr.heap.size, 1, none⟩ = some (.int .i64 y.r.epoch) ∧ V.cell? ⟨wr.heap.size, 2, none⟩ = some (.int .i64 y.r.step) ∧ V.cell? ⟨wr.heap.size, 3, none⟩ = some (.slice y.A y.r.sent.length y.c) ∧ V.cell? ⟨wr.heap.size, 4, none⟩ = some (.slice y.A' y.r.got.length y.c') ∧ V.cell? ⟨wr.heap.size, 5, none⟩ = some (.int .i64 y.r.waking) ∧ V.cell? ⟨wr.heap.size, 6, none⟩ = some (.int .i64 y.r.opn))) [5, 7] (by kernel_rfl) (HK.out _ (bD (Below.refl _ _))) (fun hHeld => ?_)
            refine wpAnyF_pure (i := 0) (v := ?vg1_0) rfl (by kernel_rfl) (by kernel_rfl) (by kernel_rfl) (fun _ _ _ h => h) (Or.inl ⟨by rfl, ?hyg1_0⟩) ?restg1_0
            case hyg1_0 => (intro w hSw; clear hSw; go_simp; (all_goals with_reducible rfl))
            try simp only [Act.put, List.setIfInBounds_toArray, List.set_cons_zero, List.set_cons_succ, List.getElem_toArray, List.getElem_cons_succ, List.getElem_cons_zero]
            refine wpAnyF_take [5, 6, 7] (i := 1) (v := ?vg1_1) rfl (by kernel_rfl) (by kernel_rfl) (by kernel_rfl) (by kernel_rfl) (fun _ _ _ h => h) (Or.inl ⟨by rfl, ?hyg1_1⟩) (by assumption) ?restg1_1
            case hyg1_1 => (intro w hSw; (try dsimp only at hSw); go_simp; (all_goals with_reducible rfl))
            try simp only [Act.put, List.setIfInBounds_toArray, List.set_cons_zero, List.set_cons_succ, List.getElem_toArray, List.getElem_cons_succ, List.getElem_cons_zero]
            refine wpAnyF_take [3, 4, 5, 6, 7] (i := 2) (v := ?vg1_2) rfl (by kernel_rfl) (by kernel_rfl) (by kernel_rfl) (by kernel_rfl) (fun _ _ _ h => h) (Or.inl ⟨by rfl, ?hyg1_2⟩) (by assumption) ?restg1_2
            case hyg1_2 => (intro w hSw; (try dsimp only at hSw); go_simp; (all_goals with_reducible rfl))
            try simp only [Act.put, List.setIfInBounds_toArray, List.set_cons_zero, List.set_cons_succ, List.getElem_toArray, List.getElem_cons_succ, List.getElem_cons_zero]
            refine wpAnyF_one (i := 3) (by kernel_rfl) rfl (fun K hK => ?_)
            go_simp
            go_at_call 16
            refine (HC.out _ HB1.out).mono ?_
            rintro e w1 ⟨y', rfl, hyr, p1, p2, b1⟩
            have BB := bT (bD (Below.refl _ _)) b1
            have HW1 := HBC.out.b (bT HB1.out b1)
            have HO1 := HOB.out.keep hos (bT HB1.out b1)
            have HYR := hid hyr
            have hown1 := hown.below (bT HB1.out b1) (Nat.le_refl _)
            rw [hyr]
            have hok1 := hown.ok p1 HZ.out HZ2.out
            have hok2 := hown.ok p2 HZ.out HZ2.out
            have bb1 := bT hbel (bT HB1.out b1)
            have HWW := hid HW1
            have HOO := hid HO1
            have hos1 := HO1.2.2.2.2.2
            have hHn : H ≠ w1.heap.size := by omega
            have hokp : ∀ o, ∀ p ∈ MRep.parts y', p.ok (w1.alloc o) (H + 1) (Value.slice A' acc.length c').ownBlock := fun o => MRep.mem (by rw [HYR.out]; exact hok1.alloc o) (by rw [HYR.out]; exact hok2.alloc o)
            have hrow : MRep.cells y' = [.int .i64 y.r.worker, .int .i64 y.r.epoch, .int .i64 y.r.step, .slice y'.A y.r.sent.length y'.c, .slice y'.A' y.r.got.length y'.c', .int .i64 y.r.waking, .int .i64 y.r.opn] := by unfold MRep.cells; rw [HYR.out]
            have hbase : ∀ o, H + 1 ≤ (w1.alloc o).heap.size := fun o => by simp; omega
            have hhow : ∀ (o : Obj) (w2 : World), Below (H + 1) (w1.alloc o) w2 → Below (H + 1) w1 w2 := fun o w2 h2 => ((Below.refl (H + 1) w1).alloc hos1 o).trans h2
            clear hyr HW1 HO1
            go_wp2_with fail
            refine hK.out _ _ (HK.out _ BB) (fun hHeld => ?_)
            clear hK K
            try simp only [Act.put, List.setIfInBounds_toArray, List.set_cons_zero, List.set_cons_succ, List.getElem_toArray, List.getElem_cons_succ, List.getElem_cons_zero]
            refine wpAnyF_one (i := 4) (by kernel_rfl) rfl (fun K hK => ?_)
            go_simp
            refine hK.out _ _ (HK.out _ (bA BB _)) (fun hHeld => ?_)
            clear hK K
            try simp only [Act.put, List.setIfInBounds_toArray, List.set_cons_zero, List.set_cons_succ, List.getElem_toArray, List.getElem_cons_succ, List.getElem_cons_zero]
            refine wpAnyF_oneD (i := 5) (by kernel_rfl) (by kernel_rfl) rfl (fun K hK => ?_)
            refine step_heap rfl rfl el_reports rfl HA.out.symm (hown1.alloc _) y' (hokp _) rfl (by rw [hrow]; exact rd_newAt _ _ _ 7 1 _ (by simp) rfl) (one_rep y') hn2 (hbase _) ?_
            intro A2 c2 w2 hown2 hb2 hg3
            have hb3 := hhow _ _ hb2
            obtain ⟨f0, f1, f2, f3, ff, hos2⟩ := HOO.out.keep (Nat.lt_succ_self H) hb3
            have HO2 := hid (HOO.out.keep (Nat.lt_succ_self H) hb3)
            have HW2 := hid (HWW.out.keep (B := H + 1) (by omega) hb3)
            refine hK.out _ _ ?_
            clear hK K
            try simp only [Act.put, List.setIfInBounds_toArray, List.set_cons_zero, List.set_cons_succ, List.getElem_toArray, List.getElem_cons_succ, List.getElem_cons_zero]
            refine wpAnyF_pure (i := 6) (v := ?vg1_6) rfl (by kernel_rfl) (by kernel_rfl) (by kernel_rfl) (fun _ _ _ h => h) (Or.inl ⟨by rfl, ?hyg1_6⟩) ?restg1_6
            case hyg1_6 => (intro w hSw; clear hSw; go_simp; (all_goals with_reducible rfl))
            try simp only [Act.put, List.setIfInBounds_toArray, List.set_cons_zero, List.set_cons_succ, List.getElem_toArray, List.getElem_cons_succ, List.getElem_cons_zero]
            refine wpAnyF_oneD (i := 7) (by kernel_rfl) (by kernel_rfl) rfl (fun K hK => ?_)
            go_simp
            refine hK.out _ _ ?_
            clear hK K
            try simp only [Act.put, List.setIfInBounds_toArray, List.set_cons_zero, List.set_cons_succ, List.getElem_toArray, List.getElem_cons_succ, List.getElem_cons_zero]
            refine wpAnyF_done (by kernel_rfl) ?_ _
            all_goals
              go_wp2_with fail
              go_roundw
              case rel => exact ⟨k + 1, c2, A2, acc ++ [y'], by omega, by go_num, hid (by rw [List.length_append, HA.out]; rfl), hid (by rw [take_nextU HX.out]; unfold repsOf at HF ⊢; rw [List.map_append, HF.out, List.map_singleton, HYR.out]), hown2.store (by show H < _; omega) _, HW2.out.store (by omega) _, HO2.out.store, bS (bb1.trans (hb3.mono (by omega))) (by show w.heap.size ≤ H; omega) _⟩
              case measure => simp [intOf]; omega
          · obtain rfl : k = l.length := by omega
            have HFF : Hid (repsOf acc = repsOf l) := hid (by rw [HF.out, List.take_of_length_le (by rw [repsOf_len]; exact Nat.le_refl _)])
            have hkz : ¬ ((l.length : Int) < (l.length : Int)) := by omega
            have HC := hid (fun (V : World) (hV : Below wr.heap.size wr V) => HCP.out V (bT hbel hV))
            have HK : Hid (∀ V, Below wr.heap.size wr V → ((fun V => V.cell? ⟨H, 3, none⟩ = some (.slice A' l.length c') ∧ V.cell? ⟨w.heap.size + 1, 0, none⟩ = some (.int .i64 x.r.worker) ∧ V.cell? ⟨w.heap.size + 1, 1, none⟩ = some (.int .i64 x.r.epoch) ∧ V.cell? ⟨w.heap.size + 1, 2, none⟩ = some (.int .i64 x.r.step) ∧ V.cell? ⟨w.heap.size + 1, 3, none⟩ = some (.slice x.A x.r.sent.length x.c) ∧ V.cell? ⟨w.heap.size + 1, 4, none⟩ = some (.slice x.A' x.r.got.length x.c') ∧ V.cell? ⟨w.heap.size + 1, 5, none⟩ = some (.int .i64 x.r.waking) ∧ V.cell? ⟨w.heap.size + 1, 6, none⟩ = some (.int .i64 x.r.opn)) : World → Prop) V) := hid fun V hV => ⟨keepb hV o3, keepb hV q0, keepb hV q1, keepb hV q2, keepb hV q3, keepb hV q4, keepb hV q5, keepb hV q6⟩
            have HB1 := hid (bD (Below.refl wr.heap.size wr))
            have HZ : Hid (wr.heap.size ≤ wr.drew.heap.size) := hid (by simp)
            have HZ2 : Hid (H + 1 ≤ wr.drew.heap.size) := hid (by simp; omega)
            clear HF HCP
            go_wp2_with fail
            refine wp_region_F (S := (fun V => V.cell? ⟨H, 3, none⟩ = some (.slice A' l.length c') ∧ V.cell? ⟨w.heap.size + 1, 0, none⟩ = some (.int .i64 x.r.worker) ∧ V.cell? ⟨w.heap.size + 1, 1, none⟩ = some (.int .i64 x.r.epoch) ∧ V.cell? ⟨w.heap.size + 1, 2, none⟩ = some (.int .i64 x.r.step) ∧ V.cell? ⟨w.heap.size + 1, 3, none⟩ = some (.slice x.A x.r.sent.length x.c) ∧ V.cell? ⟨w.heap.size + 1, 4, none⟩ = some (.slice x.A' x.r.got.length x.c') ∧ V.cell? ⟨w.heap.size + 1, 5, none⟩ = some (.int .i64 x.r.waking) ∧ V.cell? ⟨w.heap.size + 1, 6, none⟩ = some (.int .i64 x.r.opn))) [5, 7] (by kernel_rfl) (HK.out _ (bD (Below.refl _ _))) (fun hHeld => ?_)
            refine wpAnyF_pure (i := 0) (v := ?vg2_0) rfl (by kernel_rfl) (by kernel_rfl) (by kernel_rfl) (fun _ _ _ h => h) (Or.inl ⟨by rfl, ?hyg2_0⟩) ?restg2_0
            case hyg2_0 => (intro w hSw; clear hSw; go_simp; (all_goals with_reducible rfl))
            try simp only [Act.put, List.setIfInBounds_toArray, List.set_cons_zero, List.set_cons_succ, List.getElem_toArray, List.getElem_cons_succ, List.getElem_cons_zero]
            refine wpAnyF_take [5, 6, 7] (i := 1) (v := ?vg2_1) rfl (by kernel_rfl) (by kernel_rfl) (by kernel_rfl) (by kernel_rfl) (fun _ _ _ h => h) (Or.inl ⟨by rfl, ?hyg2_1⟩) (by assumption) ?restg2_1
            case hyg2_1 => (intro w hSw; (try dsimp only at hSw); go_simp; (all_goals with_reducible rfl))
            try simp only [Act.put, List.setIfInBounds_toArray, List.set_cons_zero, List.set_cons_succ, List.getElem_toArray, List.getElem_cons_succ, List.getElem_cons_zero]
            refine wpAnyF_take [3, 4, 5, 6, 7] (i := 2) (v := ?vg2_2) rfl (by kernel_rfl) (by kernel_rfl) (by kernel_rfl) (by kernel_rfl) (fun _ _ _ h => h) (Or.inl ⟨by rfl, ?hyg2_2⟩) (by assumption) ?restg2_2
            case hyg2_2 => (intro w hSw; (try dsimp only at hSw); go_simp; (all_goals with_reducible rfl))
            try simp only [Act.put, List.setIfInBounds_toArray, List.set_cons_zero, List.set_cons_succ, List.getElem_toArray, List.getElem_cons_succ, List.getElem_cons_zero]
            refine wpAnyF_one (i := 3) (by kernel_rfl) rfl (fun K hK => ?_)
            go_simp
            go_at_call 16
            refine (HC.out _ HB1.out).mono ?_
            rintro e w1 ⟨y', rfl, hyr, p1, p2, b1⟩
            have BB := bT (bD (Below.refl _ _)) b1
            have HW1 := HBC.out.b (bT HB1.out b1)
            have HO1 := HOB.out.keep hos (bT HB1.out b1)
            have HYR := hid hyr
            have hown1 := hown.below (bT HB1.out b1) (Nat.le_refl _)
            rw [hyr]
            have hok1 := hown.ok p1 HZ.out HZ2.out
            have hok2 := hown.ok p2 HZ.out HZ2.out
            have bb1 := bT hbel (bT HB1.out b1)
            have HWW := hid HW1
            have HOO := hid HO1
            have hos1 := HO1.2.2.2.2.2
            have hHn : H ≠ w1.heap.size := by omega
            have hokp : ∀ o, ∀ p ∈ MRep.parts y', p.ok (w1.alloc o) (H + 1) (Value.slice A' acc.length c').ownBlock := fun o => MRep.mem (by rw [HYR.out]; exact hok1.alloc o) (by rw [HYR.out]; exact hok2.alloc o)
            have hrow : MRep.cells y' = [.int .i64 x.r.worker, .int .i64 x.r.epoch, .int .i64 x.r.step, .slice y'.A x.r.sent.length y'.c, .slice y'.A' x.r.got.length y'.c', .int .i64 x.r.waking, .int .i64 x.r.opn] := by unfold MRep.cells; rw [HYR.out]
            have hbase : ∀ o, H + 1 ≤ (w1.alloc o).heap.size := fun o => by simp; omega
            have hhow : ∀ (o : Obj) (w2 : World), Below (H + 1) (w1.alloc o) w2 → Below (H + 1) w1 w2 := fun o w2 h2 => ((Below.refl (H + 1) w1).alloc hos1 o).trans h2
            clear hyr HW1 HO1
            go_wp2_with fail
            refine hK.out _ _ (HK.out _ BB) (fun hHeld => ?_)
            clear hK K
            try simp only [Act.put, List.setIfInBounds_toArray, List.set_cons_zero, List.set_cons_succ, List.getElem_toArray, List.getElem_cons_succ, List.getElem_cons_zero]
            refine wpAnyF_one (i := 4) (by kernel_rfl) rfl (fun K hK => ?_)
            go_simp
            refine hK.out _ _ (HK.out _ (bA BB _)) (fun hHeld => ?_)
            clear hK K
            try simp only [Act.put, List.setIfInBounds_toArray, List.set_cons_zero, List.set_cons_succ, List.getElem_toArray, List.getElem_cons_succ, List.getElem_cons_zero]
            refine wpAnyF_oneD (i := 5) (by kernel_rfl) (by kernel_rfl) rfl (fun K hK => ?_)
            refine step_heap rfl rfl el_reports rfl HA.out.symm (hown1.alloc _) y' (hokp _) rfl (by rw [hrow]; exact rd_newAt _ _ _ 7 1 _ (by simp) rfl) (one_rep y') hn (hbase _) ?_
            intro A2 c2 w2 hown2 hb2 hg3
            have hb3 := hhow _ _ hb2
            obtain ⟨f0, f1, f2, f3, ff, hos2⟩ := HOO.out.keep (Nat.lt_succ_self H) hb3
            have HO2 := hid (HOO.out.keep (Nat.lt_succ_self H) hb3)
            have HW2 := hid (HWW.out.keep (B := H + 1) (by omega) hb3)
            refine hK.out _ _ ?_
            clear hK K
            try simp only [Act.put, List.setIfInBounds_toArray, List.set_cons_zero, List.set_cons_succ, List.getElem_toArray, List.getElem_cons_succ, List.getElem_cons_zero]
            refine wpAnyF_pure (i := 6) (v := ?vg2_6) rfl (by kernel_rfl) (by kernel_rfl) (by kernel_rfl) (fun _ _ _ h => h) (Or.inl ⟨by rfl, ?hyg2_6⟩) ?restg2_6
            case hyg2_6 => (intro w hSw; clear hSw; go_simp; (all_goals with_reducible rfl))
            try simp only [Act.put, List.setIfInBounds_toArray, List.set_cons_zero, List.set_cons_succ, List.getElem_toArray, List.getElem_cons_succ, List.getElem_cons_zero]
            refine wpAnyF_oneD (i := 7) (by kernel_rfl) (by kernel_rfl) rfl (fun K hK => ?_)
            go_simp
            refine hK.out _ _ ?_
            clear hK K
            try simp only [Act.put, List.setIfInBounds_toArray, List.set_cons_zero, List.set_cons_succ, List.getElem_toArray, List.getElem_cons_succ, List.getElem_cons_zero]
            refine wpAnyF_done (by kernel_rfl) ?_ _
            all_goals
              obtain ⟨⟨a0, a1, a2, a3⟩, ⟨q0, q1, q2, q3, q4, q5, q6⟩, ⟨z0, z1, z2, z3, zf⟩, hsz⟩ := HW2.out
              have hg2 : w.heap.size + 2 < w2.heap.size := by omega
              go_wp2_with fail
              refine bodyPost_ret (v := .tuple #[.agg #[.int .i64 (n : Int), .int .i64 ep, .int .i64 st, .slice A2 (l.length + 1) c2], .int .i64 0]) (by simp [results, Try.results9, go_sem, *]) rfl ⟨?_, .inr ⟨A2, c2, acc ++ [y'], ?_, ?_, ?_⟩⟩
              · repeat (with_reducible refine bS ?_ (by simp; try omega) _)
                exact bb1.trans (hb3.mono (by omega))
              · rw [HE.out]; unfold repsOf at HFF ⊢; rw [List.map_append, HFF.out, List.map_singleton, HYR.out]
              · rw [HE.out, List.length_append, HA.out]; rfl
              · refine Reps.any (B := _) (Heaped.led (base := H + 1) (c := c2) (e := 33) ?_)
                repeat (with_reducible refine Heaped.store ?_ (by simp; try omega) _)
                exact hown2
      · have HE := hid (hearV_twice (r := x.r) hok hv ⟨y, List.mem_of_getElem? hy, by rw [hyw, hvw]⟩)
        obtain ⟨my, hmy, rfl⟩ := repsOf_some hy
        obtain ⟨b, off, rfl, -⟩ := rep_cells hr.1 rfl hmy
        rw [hbe] at hbv
        unfold ptrAt at hbv
        obtain ⟨gc, -⟩ := own_at own hbv
        have HVW := hid hvw
        rw [hvw] at q0
        clear hbv hbe hfit hv hok hvw hmy hy hyw HCP
        go_wp2_with fail
        refine (HF2.out w1 bb1).mono ?_
        rintro e w2 ⟨rfl, b2⟩
        have bb2 := bT bb1 b2
        have gc2 := keepb b2 gc
        obtain ⟨⟨a0, a1, a2, a3⟩, ⟨q0, q1, q2, q3, q4, q5, q6⟩, ⟨z0, z1, z2, z3, zf⟩, hsz⟩ := HW0.out.b (bT b1 b2)
        rw [HVW.out] at q0
        have hg2 : w.heap.size + 2 < w2.heap.size := by omega
        go_wp2_with fail
        refine bodyPost_ret (v := .tuple #[.agg #[.int .i64 0, .int .i64 0, .int .i64 0, .slice none 0 0], .int .i64 8]) (by simp [results, Try.results9, go_sem, *]) rfl (RetBd.no HE.out ?_)
        repeat (with_reducible refine bS ?_ (by simp; try omega) _)
        exact bb2
    · have HE := hid (hearV_rep (r := x.r) hok hv)
      have hvb : (repV (n : Int) ep st x.r != 0) = true := by simpa using hv
      generalize repV (n : Int) ep st x.r = rv at HE HF hvb
      clear hv hok HCP
      go_wp2_with fail
      refine (HF.out w1 bb1).mono ?_
      rintro e w2 ⟨rfl, b2⟩
      have bb2 := bT bb1 b2
      obtain ⟨⟨a0, a1, a2, a3⟩, ⟨q0, q1, q2, q3, q4, q5, q6⟩, ⟨z0, z1, z2, z3, zf⟩, hsz⟩ := HW0.out.b (bT b1 b2)
      have hg2 : w.heap.size + 2 < w2.heap.size := by omega
      go_wp2_with fail
      refine bodyPost_ret (v := .tuple #[.agg #[.int .i64 0, .int .i64 0, .int .i64 0, .slice none 0 0], .int .i64 rv]) (by simp [results, Try.results9, go_sem, *]) rfl (RetBd.no HE.out ?_)
      repeat (with_reducible refine bS ?_ (by simp; try omega) _)
      exact bb2
  · have HE := hid (hearV_bad (r := x.r) hno)
    have bb1 := bT b0 b1
    obtain ⟨⟨a0, a1, a2, a3⟩, ⟨q0, q1, q2, q3, q4, q5, q6⟩, ⟨z0, z1, z2, z3, zf⟩, hsz⟩ := HW0.out.b b1
    have hg2 : w.heap.size + 2 < w1.heap.size := by omega
    clear hno HF HCP
    go_wp2_with fail
    refine bodyPost_ret (v := .tuple #[.agg #[.int .i64 0, .int .i64 0, .int .i64 0, .slice none 0 0], .int .i64 9]) (by simp [results, Try.results9, go_sem, *]) rfl (RetBd.no HE.out ?_)
    repeat (with_reducible refine bS ?_ (by simp; try omega) _)
    exact bb1
end Go.Proofs.Ytaipjckcckfnaaa
