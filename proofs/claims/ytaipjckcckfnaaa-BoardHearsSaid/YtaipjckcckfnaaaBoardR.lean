/- The program's board.read: who has reported. -/
import Derived.Test.YtaipjckcckfnaaaBoardB
namespace Go.Proofs.Ytaipjckcckfnaaa
open Go.ChangeShapes Go.WideShapes Go.ChangeAt Go.RowKit
set_option linter.unusedVariables false
theorem inf_repPtr : (Try.prog.info? 41).map (fun i => (i.zero, i.size, i.bytes)) = some (some (.pointer none), 1, 8) := by kernel_rfl
def RdRel (wk ep st : Int) (A : Option Addr) (c n gb : Nat) (l : List MRep) (w : World) (i : Value) (wr : World) : Prop :=
  ∃ k : Nat, k ≤ l.length ∧ i = .int .i64 k ∧ BdW wk ep st A l.length c w wr ∧ Hid (bdPre wk ep st (repsOf l) k) ∧ wr.ownsRow (w.heap.size + 1) 41 1 (.slice (some ⟨gb, 0, none⟩) n n) n (byL A ((repsOf l).take k) n)
def ReadRet (wk ep st : Int) (A : Option Addr) (l : List MRep) (w : World) (e : Ending) (w' : World) : Prop :=
  Below w.heap.size w w' ∧ ((bdOk wk ep st (repsOf l) ∧ ∃ n gb : Nat, (n : Int) = wk ∧ e = .returned (.tuple #[.slice (some ⟨gb, 0, none⟩) n n, .bool true]) ∧ w'.ownsRow w.heap.size 41 1 (.slice (some ⟨gb, 0, none⟩) n n) n (byL A (repsOf l) n)) ∨ (¬ bdOk wk ep st (repsOf l) ∧ e = .returned (.tuple #[.slice none 0 0, .bool false])))
set_option maxRecDepth 100000 in
set_option maxHeartbeats 8000000 in
theorem read_walk (wk ep st : Int) (A : Option Addr) (c : Nat) (l : List MRep) (w : World) (hr : Reps w w.heap.size A l) (hn : l.length * 88 ≤ 140737488355328) (hs : ∀ x ∈ l, x.r.sent.length * 8 ≤ 140737488355328 ∧ x.r.got.length * 8 ≤ 140737488355328) :
    Calls Try.prog 12 #[.agg (boardC wk ep st A l.length c)] w (ReadRet wk ep st A l w) := by
  have hw0 := BdW.start wk ep st A l.length c w
  unfold boardC
  by_cases hfit : BoardOk wk ep st
  · have hwk : 1 ≤ wk ∧ wk ≤ 8 := ⟨hfit.1, hfit.2.1⟩
    have HFIT := hid (bdFits_iff.2 hfit)
    obtain ⟨n, rfl⟩ : ∃ n : Nat, wk = n := ⟨wk.toNat, by omega⟩
    have HO := hid (boardOpen_yes n ep st (w.alloc (.cells #[.int .i64 n, .int .i64 ep, .int .i64 st, .slice A l.length c] 24)) hfit)
    unfold boardV at HO
    clear hfit
    have hn8 : n ≤ 8 := by omega
    go_enter Try.func12, Try.ntmps12
    go_wp2_with fail
    refine HO.out.mono ?_
    rintro e w1 ⟨rfl, b1⟩
    have hw1 := hw0.b b1
    clear hw0 b1 HO
    have hw2 := hw1.b (bA (Below.refl w1.heap.size w1) (.cells #[.int .i64 n, .int .i64 ep, .int .i64 st, .slice none 0 0] 24))
    obtain ⟨W2, hW2⟩ : ∃ W2, W2 = w1.alloc (.cells #[.int .i64 n, .int .i64 ep, .int .i64 st, .slice none 0 0] 24) := ⟨_, rfl⟩
    obtain ⟨q0, q1, q2, q3, hs1, -⟩ := hw1
    have p0 : (w1.alloc (.cells #[.int .i64 n, .int .i64 ep, .int .i64 st, .slice none 0 0] 24)).cell? ⟨w.heap.size, 0, none⟩ = some (.int .i64 n) := keepb (bA (Below.refl w1.heap.size w1) _) q0
    have p3 : (w1.alloc (.cells #[.int .i64 n, .int .i64 ep, .int .i64 st, .slice none 0 0] 24)).cell? ⟨w.heap.size, 3, none⟩ = some (.slice A l.length c) := keepb (bA (Below.refl w1.heap.size w1) _) q3
    go_wp2_with (refine wp_make1 rfl rfl Try.underlying38 inf_repPtr rfl n rfl rfl (by omega) (by omega) ?_; intro w3 o3 b3 hz3; have q3' := keepb b3 p3)
    have hgb0 : (w1.alloc (.cells #[.int .i64 n, .int .i64 ep, .int .i64 st, .slice none 0 0] 24)).heap.size = w1.heap.size + 1 := by simp
    have hw3 : BdW n ep st A l.length c w w3 := hw2.b b3
    rw [hgb0] at o3
    have ho3 : w3.ownsRow (w.heap.size + 1) 41 1 (.slice (some ⟨w1.heap.size + 1, 0, none⟩) n n) n (byL A ((repsOf l).take 0) n) := by rw [List.take_zero, byL_zero]; exact own_below (base' := w.heap.size + 1) o3 (Below.refl _ _) (by omega)
    clear hW2 hw2 p0 p3 q0 q1 q2 q3 o3 b3 hz3 hgb0
    go_wp2_with fail
    generalize hgb : w1.heap.size + 1 = gb at *
    go_loopw [7, 8, 27] (fun _ _ i wr => RdRel n ep st A c n gb l w i wr) (fun _ _ i _ => l.length - (intOf i).toNat)
    case atStart => exact ⟨0, by omega, rfl, hw3, hid bdPre_zero, ho3⟩
    case round =>
      clear hw3 ho3
      obtain ⟨k, hk, rfl, hW, HP, hown⟩ := hrel
      have HW := hid hW
      obtain ⟨q0, q1, q2, q3, hsz, hbel⟩ := hW
      by_cases hlt : k < l.length
      · obtain ⟨x, hx⟩ : ∃ x, l[k]? = some x := ⟨_, List.getElem?_eq_getElem hlt⟩
        obtain ⟨b, off, rfl, hb, c0, c1, c2, c3, c4, c5, c6⟩ := rep_cells (hr.1.below hbel) rfl hx
        have hxm := List.mem_of_getElem? hx
        have hdat := Reps.data hr hxm
        have hlen := hs x hxm
        have HX := hid (repsOf_get hx)
        have hkz : (k : Int) < (l.length : Int) := by omega
        have hbr : b < wr.heap.size := by omega
        have HRF := hid (fun (V : World) (hV : Below wr.heap.size wr V) => report_walk n ep st (some ⟨b, off, none⟩) l.length c x V ⟨rdb hdat.1 (by decide) (bT hbel hV), rdb hdat.2 (by decide) (bT hbel hV)⟩ hlen.1 hlen.2)
        have HD := hid (fun m => below_drewN (Below.refl wr.heap.size wr) m)
        unfold boardC repC at HRF
        clear hx hxm hdat hlen hr hs
        obtain ⟨xA, xc, xA', xc', ⟨worker, epoch, step, sent, got, waking, opn⟩⟩ := x
        simp only at c0 c1 c2 c3 c4 c5 c6 HX HRF
        by_cases hrv : repV n ep st ⟨worker, epoch, step, sent, got, waking, opn⟩ = 0
        · have hfitr := (repV_zero hrv).1
          have HRV := hid hrv
          rw [hrv] at HRF
          clear hrv
          obtain ⟨v, rfl⟩ : ∃ v : Nat, worker = v := ⟨worker.toNat, by have := hfitr.1; simp only at this; omega⟩
          have hvn : v < n := by have := hfitr.2; simp only at this; omega
          have hvz : (v : Int) < (n : Int) := by omega
          clear hfitr
          have hbv := byL_get (A := some ⟨b, off, none⟩) (l := (repsOf l).take k) hvn
          rcases byV_cases (some ⟨b, off, none⟩) ((repsOf l).take k) v with ⟨hbe, hnone⟩ | ⟨j, y, hy, hyw, hbe⟩
          · have HN := hid (bdPre_next HP.out HX.out HRV.out fun j y hj hy => hnone j y (by rw [List.getElem?_take, if_pos hj]; exact hy))
            have HST := hid (byL_step (A := some ⟨b, off, none⟩) (n := n) HX.out (by simp) (by simpa using hvz) fun j y hj hy => hnone j y (by rw [List.getElem?_take, if_pos hj]; exact hy))
            rw [hbe] at hbv
            have HOWN := hid hown
            obtain ⟨gc, gf⟩ := own_at hown hbv
            clear hown hbv hbe hnone
            have HK : Hid (∀ V, Below wr.heap.size wr V → (V.cell? ⟨w.heap.size, 0, none⟩ = some (.int .i64 (n : Int)) ∧ V.cell? ⟨w.heap.size, 1, none⟩ = some (.int .i64 ep) ∧ V.cell? ⟨w.heap.size, 2, none⟩ = some (.int .i64 st) ∧ V.cell? ⟨w.heap.size, 3, none⟩ = some (.slice (some ⟨b, off, none⟩) l.length c)) ∧ V.cell? ⟨b, off + k * 7, none⟩ = some (.int .i64 (v : Int)) ∧ V.cell? ⟨b, off + k * 7 + 1, none⟩ = some (.int .i64 epoch) ∧ V.cell? ⟨b, off + k * 7 + 2, none⟩ = some (.int .i64 step) ∧ V.cell? ⟨b, off + k * 7 + 3, none⟩ = some (.slice xA sent.length xc) ∧ V.cell? ⟨b, off + k * 7 + 4, none⟩ = some (.slice xA' got.length xc') ∧ V.cell? ⟨b, off + k * 7 + 5, none⟩ = some (.int .i64 waking) ∧ V.cell? ⟨b, off + k * 7 + 6, none⟩ = some (.int .i64 opn) ∧ V.cell? ⟨gb, v, none⟩ = some (.pointer none)) := hid fun V hV => ⟨⟨keepb hV q0, keepb hV q1, keepb hV q2, keepb hV q3⟩, keepb hV c0, keepb hV c1, keepb hV c2, keepb hV c3, keepb hV c4, keepb hV c5, keepb hV c6, keepb hV gc⟩
            have hgs := HOWN.out.lt gb rfl
            have HGF : Hid (∀ V, Below wr.heap.size wr V → V.frozen? ⟨gb, v, none⟩ = false) := hid fun V hV => keepf hV gf hgs.2
            go_wp2_with fail
            refine wp_region_held_drew (S := (fun V => (V.cell? ⟨w.heap.size, 0, none⟩ = some (.int .i64 (n : Int)) ∧ V.cell? ⟨w.heap.size, 1, none⟩ = some (.int .i64 ep) ∧ V.cell? ⟨w.heap.size, 2, none⟩ = some (.int .i64 st) ∧ V.cell? ⟨w.heap.size, 3, none⟩ = some (.slice (some ⟨b, off, none⟩) l.length c)) ∧ V.cell? ⟨b, off + k * 7, none⟩ = some (.int .i64 (v : Int)) ∧ V.cell? ⟨b, off + k * 7 + 1, none⟩ = some (.int .i64 epoch) ∧ V.cell? ⟨b, off + k * 7 + 2, none⟩ = some (.int .i64 step) ∧ V.cell? ⟨b, off + k * 7 + 3, none⟩ = some (.slice xA sent.length xc) ∧ V.cell? ⟨b, off + k * 7 + 4, none⟩ = some (.slice xA' got.length xc') ∧ V.cell? ⟨b, off + k * 7 + 5, none⟩ = some (.int .i64 waking) ∧ V.cell? ⟨b, off + k * 7 + 6, none⟩ = some (.int .i64 opn) ∧ V.cell? ⟨gb, v, none⟩ = some (.pointer none))) (by kernel_rfl) (HK.out _ (HD.out 1)) (fun hHeld => ?_)
            refine wpAnyH_take (i := 0) (v := ?vr2_0) rfl (by kernel_rfl) (by kernel_rfl) (by kernel_rfl) (fun _ _ _ h => h) (Or.inl ⟨by rfl, ?hyr2_0⟩) (by assumption) ?restr2_0
            case hyr2_0 => (intro w hSw; (try dsimp only at hSw); go_simp; (all_goals with_reducible rfl))
            try simp only [Act.put, List.setIfInBounds_toArray, List.set_cons_zero, List.set_cons_succ, List.getElem_toArray, List.getElem_cons_succ, List.getElem_cons_zero]
            refine wpAnyH_take (i := 1) (v := ?vr2_1) rfl (by kernel_rfl) (by kernel_rfl) (by kernel_rfl) (fun _ _ _ h => h) (Or.inl ⟨by rfl, ?hyr2_1⟩) (by assumption) ?restr2_1
            case hyr2_1 => (intro w hSw; (try dsimp only at hSw); go_simp; (all_goals with_reducible rfl))
            try simp only [Act.put, List.setIfInBounds_toArray, List.set_cons_zero, List.set_cons_succ, List.getElem_toArray, List.getElem_cons_succ, List.getElem_cons_zero]
            refine wpAnyH_take (i := 2) (v := ?vr2_2) rfl (by kernel_rfl) (by kernel_rfl) (by kernel_rfl) (fun _ _ _ h => h) (Or.inl ⟨by rfl, ?hyr2_2⟩) (by assumption) ?restr2_2
            case hyr2_2 => (intro w hSw; (try dsimp only at hSw); go_simp; (all_goals with_reducible rfl))
            try simp only [Act.put, List.setIfInBounds_toArray, List.set_cons_zero, List.set_cons_succ, List.getElem_toArray, List.getElem_cons_succ, List.getElem_cons_zero]
            refine wpAnyH_take (i := 3) (v := ?vr2_3) rfl (by kernel_rfl) (by kernel_rfl) (by kernel_rfl) (fun _ _ _ h => h) (Or.inl ⟨by rfl, ?hyr2_3⟩) (by assumption) ?restr2_3
            case hyr2_3 => (intro w hSw; (try dsimp only at hSw); go_simp; (all_goals with_reducible rfl))
            try simp only [Act.put, List.setIfInBounds_toArray, List.set_cons_zero, List.set_cons_succ, List.getElem_toArray, List.getElem_cons_succ, List.getElem_cons_zero]
            refine wpAnyH_ready (rs := [4]) (by kernel_rfl) (by simp) ?_
            refine AllReadyH.cons rfl (fun K hK => ?_) AllReadyH.nil
            go_simp
            go_at_call 15
            refine (HRF.out _ (HD.out 1)).mono ?_
            rintro e w3 ⟨rfl, b3⟩
            have BB := bT (HD.out 1) b3
            go_wp2_with fail
            refine hK.out _ _ (HK.out _ BB) (fun hHeld => ?_)
            clear hK K
            refine wpAnyH_take (i := 5) (v := ?vr2_5) rfl (by kernel_rfl) (by kernel_rfl) (by kernel_rfl) (fun _ _ _ h => h) (Or.inl ⟨by rfl, ?hyr2_5⟩) (by assumption) ?restr2_5
            case hyr2_5 => (intro w hSw; (try dsimp only at hSw); go_simp; (all_goals with_reducible rfl))
            try simp only [Act.put, List.setIfInBounds_toArray, List.set_cons_zero, List.set_cons_succ, List.getElem_toArray, List.getElem_cons_succ, List.getElem_cons_zero]
            refine wpAnyH_take (i := 6) (v := ?vr2_6) rfl (by kernel_rfl) (by kernel_rfl) (by kernel_rfl) (fun _ _ _ h => h) (Or.inl ⟨by rfl, ?hyr2_6⟩) (by assumption) ?restr2_6
            case hyr2_6 => (intro w hSw; (try dsimp only at hSw); go_simp; (all_goals with_reducible rfl))
            try simp only [Act.put, List.setIfInBounds_toArray, List.set_cons_zero, List.set_cons_succ, List.getElem_toArray, List.getElem_cons_succ, List.getElem_cons_zero]
            refine wpAnyH_take (i := 7) (v := ?vr2_7) rfl (by kernel_rfl) (by kernel_rfl) (by kernel_rfl) (fun _ _ _ h => h) (Or.inl ⟨by rfl, ?hyr2_7⟩) (by assumption) ?restr2_7
            case hyr2_7 => (intro w hSw; (try dsimp only at hSw); go_simp; (all_goals with_reducible rfl))
            try simp only [Act.put, List.setIfInBounds_toArray, List.set_cons_zero, List.set_cons_succ, List.getElem_toArray, List.getElem_cons_succ, List.getElem_cons_zero]
            refine wpAnyH_take (i := 8) (v := ?vr2_8) rfl (by kernel_rfl) (by kernel_rfl) (by kernel_rfl) (fun _ _ _ h => h) (Or.inl ⟨by rfl, ?hyr2_8⟩) (by assumption) ?restr2_8
            case hyr2_8 => (intro w hSw; (try dsimp only at hSw); go_simp; (all_goals with_reducible rfl))
            try simp only [Act.put, List.setIfInBounds_toArray, List.set_cons_zero, List.set_cons_succ, List.getElem_toArray, List.getElem_cons_succ, List.getElem_cons_zero]
            refine wpAnyH_take (i := 9) (v := ?vr2_9) rfl (by kernel_rfl) (by kernel_rfl) (by kernel_rfl) (fun _ _ _ h => h) (Or.inl ⟨by rfl, ?hyr2_9⟩) (by assumption) ?restr2_9
            case hyr2_9 => (intro w hSw; (try dsimp only at hSw); go_simp; (all_goals with_reducible rfl))
            try simp only [Act.put, List.setIfInBounds_toArray, List.set_cons_zero, List.set_cons_succ, List.getElem_toArray, List.getElem_cons_succ, List.getElem_cons_zero]
            refine wpAnyH_take (i := 10) (v := ?vr2_10) rfl (by kernel_rfl) (by kernel_rfl) (by kernel_rfl) (fun _ _ _ h => h) (Or.inl ⟨by rfl, ?hyr2_10⟩) (by assumption) ?restr2_10
            case hyr2_10 => (intro w hSw; (try dsimp only at hSw); go_simp; (all_goals with_reducible rfl))
            try simp only [Act.put, List.setIfInBounds_toArray, List.set_cons_zero, List.set_cons_succ, List.getElem_toArray, List.getElem_cons_succ, List.getElem_cons_zero]
            refine wpAnyH_take (i := 11) (v := ?vr2_11) rfl (by kernel_rfl) (by kernel_rfl) (by kernel_rfl) (fun _ _ _ h => h) (Or.inl ⟨by rfl, ?hyr2_11⟩) (by assumption) ?restr2_11
            case hyr2_11 => (intro w hSw; (try dsimp only at hSw); go_simp; (all_goals with_reducible rfl))
            try simp only [Act.put, List.setIfInBounds_toArray, List.set_cons_zero, List.set_cons_succ, List.getElem_toArray, List.getElem_cons_succ, List.getElem_cons_zero]
            refine wpAnyH_take (i := 12) (v := ?vr2_12) rfl (by kernel_rfl) (by kernel_rfl) (by kernel_rfl) (fun _ _ _ h => h) (Or.inl ⟨by rfl, ?hyr2_12⟩) (by assumption) ?restr2_12
            case hyr2_12 => (intro w hSw; (try dsimp only at hSw); go_simp; (all_goals with_reducible rfl))
            try simp only [Act.put, List.setIfInBounds_toArray, List.set_cons_zero, List.set_cons_succ, List.getElem_toArray, List.getElem_cons_succ, List.getElem_cons_zero]
            refine wpAnyH_take (i := 13) (v := ?vr2_13) rfl (by kernel_rfl) (by kernel_rfl) (by kernel_rfl) (fun _ _ _ h => h) (Or.inl ⟨by rfl, ?hyr2_13⟩) (by assumption) ?restr2_13
            case hyr2_13 => (intro w hSw; (try dsimp only at hSw); go_simp; (all_goals with_reducible rfl))
            try simp only [Act.put, List.setIfInBounds_toArray, List.set_cons_zero, List.set_cons_succ, List.getElem_toArray, List.getElem_cons_succ, List.getElem_cons_zero]
            refine wpAnyH_take (i := 14) (v := ?vr2_14) rfl (by kernel_rfl) (by kernel_rfl) (by kernel_rfl) (fun _ _ _ h => h) (Or.inl ⟨by rfl, ?hyr2_14⟩) (by assumption) ?restr2_14
            case hyr2_14 => (intro w hSw; (try dsimp only at hSw); go_simp; (all_goals with_reducible rfl))
            try simp only [Act.put, List.setIfInBounds_toArray, List.set_cons_zero, List.set_cons_succ, List.getElem_toArray, List.getElem_cons_succ, List.getElem_cons_zero]
            refine wpAnyH_take (i := 15) (v := ?vr2_15) rfl (by kernel_rfl) (by kernel_rfl) (by kernel_rfl) (fun _ _ _ h => h) (Or.inl ⟨by rfl, ?hyr2_15⟩) (by assumption) ?restr2_15
            case hyr2_15 => (intro w hSw; (try dsimp only at hSw); go_simp; (all_goals with_reducible rfl))
            try simp only [Act.put, List.setIfInBounds_toArray, List.set_cons_zero, List.set_cons_succ, List.getElem_toArray, List.getElem_cons_succ, List.getElem_cons_zero]
            refine wpAnyH_done (by kernel_rfl) ?_ _
            have gc3 := (HK.out _ BB).2.2.2.2.2.2.2.2
            have gf3 := HGF.out _ BB
            have hd0 := (HK.out _ BB).2.1
            go_wp2_with fail
            have hst := (own_below (base' := w.heap.size + 1) HOWN.out BB (Nat.le_refl _)).stored v (.pointer (some ⟨b, off + k * 7, none⟩))
            go_roundw
            case rel =>
              refine ⟨k + 1, by omega, by go_num, ?_, HN, ?_⟩
              · obtain ⟨t0, t1, t2, t3, tz, tb⟩ := HW.out.b BB
                have hne : gb ≠ w.heap.size := by have := hgs.1; omega
                refine ⟨(World.cell?_setCell_far _ _ _ _ (by simp; omega)).trans t0, (World.cell?_setCell_far _ _ _ _ (by simp; omega)).trans t1, (World.cell?_setCell_far _ _ _ _ (by simp; omega)).trans t2, (World.cell?_setCell_far _ _ _ _ (by simp; omega)).trans t3, by simpa using tz, bS tb (by show w.heap.size ≤ gb; have := hgs.1; omega) _⟩
              · rw [HST.out]; simpa [ptrAt] using hst.1
            case measure => simp [intOf]; omega
          · have HBAD := hid (show ¬ bdOk n ep st (repsOf l) from by
              obtain ⟨hjk, hy'⟩ := take_getB hy
              exact bdOk_twice HX.out hy' hjk hyw)
            rw [hbe] at hbv
            unfold ptrAt at hbv
            simp only at hbv
            obtain ⟨gc, gf⟩ := own_at hown hbv
            clear hbv hbe hy hyw
            have HK : Hid (∀ V, Below wr.heap.size wr V → (V.cell? ⟨w.heap.size, 0, none⟩ = some (.int .i64 (n : Int)) ∧ V.cell? ⟨w.heap.size, 1, none⟩ = some (.int .i64 ep) ∧ V.cell? ⟨w.heap.size, 2, none⟩ = some (.int .i64 st) ∧ V.cell? ⟨w.heap.size, 3, none⟩ = some (.slice (some ⟨b, off, none⟩) l.length c)) ∧ V.cell? ⟨b, off + k * 7, none⟩ = some (.int .i64 (v : Int)) ∧ V.cell? ⟨b, off + k * 7 + 1, none⟩ = some (.int .i64 epoch) ∧ V.cell? ⟨b, off + k * 7 + 2, none⟩ = some (.int .i64 step) ∧ V.cell? ⟨b, off + k * 7 + 3, none⟩ = some (.slice xA sent.length xc) ∧ V.cell? ⟨b, off + k * 7 + 4, none⟩ = some (.slice xA' got.length xc') ∧ V.cell? ⟨b, off + k * 7 + 5, none⟩ = some (.int .i64 waking) ∧ V.cell? ⟨b, off + k * 7 + 6, none⟩ = some (.int .i64 opn) ∧ V.cell? ⟨gb, v, none⟩ = some (.pointer (some ⟨b, off + j * 7, none⟩))) := hid fun V hV => ⟨⟨keepb hV q0, keepb hV q1, keepb hV q2, keepb hV q3⟩, keepb hV c0, keepb hV c1, keepb hV c2, keepb hV c3, keepb hV c4, keepb hV c5, keepb hV c6, keepb hV gc⟩
            go_wp2_with fail
            refine wp_region_held_drew (S := (fun V => (V.cell? ⟨w.heap.size, 0, none⟩ = some (.int .i64 (n : Int)) ∧ V.cell? ⟨w.heap.size, 1, none⟩ = some (.int .i64 ep) ∧ V.cell? ⟨w.heap.size, 2, none⟩ = some (.int .i64 st) ∧ V.cell? ⟨w.heap.size, 3, none⟩ = some (.slice (some ⟨b, off, none⟩) l.length c)) ∧ V.cell? ⟨b, off + k * 7, none⟩ = some (.int .i64 (v : Int)) ∧ V.cell? ⟨b, off + k * 7 + 1, none⟩ = some (.int .i64 epoch) ∧ V.cell? ⟨b, off + k * 7 + 2, none⟩ = some (.int .i64 step) ∧ V.cell? ⟨b, off + k * 7 + 3, none⟩ = some (.slice xA sent.length xc) ∧ V.cell? ⟨b, off + k * 7 + 4, none⟩ = some (.slice xA' got.length xc') ∧ V.cell? ⟨b, off + k * 7 + 5, none⟩ = some (.int .i64 waking) ∧ V.cell? ⟨b, off + k * 7 + 6, none⟩ = some (.int .i64 opn) ∧ V.cell? ⟨gb, v, none⟩ = some (.pointer (some ⟨b, off + j * 7, none⟩)))) (by kernel_rfl) (HK.out _ (HD.out 1)) (fun hHeld => ?_)
            refine wpAnyH_take (i := 0) (v := ?vr3_0) rfl (by kernel_rfl) (by kernel_rfl) (by kernel_rfl) (fun _ _ _ h => h) (Or.inl ⟨by rfl, ?hyr3_0⟩) (by assumption) ?restr3_0
            case hyr3_0 => (intro w hSw; (try dsimp only at hSw); go_simp; (all_goals with_reducible rfl))
            try simp only [Act.put, List.setIfInBounds_toArray, List.set_cons_zero, List.set_cons_succ, List.getElem_toArray, List.getElem_cons_succ, List.getElem_cons_zero]
            refine wpAnyH_take (i := 1) (v := ?vr3_1) rfl (by kernel_rfl) (by kernel_rfl) (by kernel_rfl) (fun _ _ _ h => h) (Or.inl ⟨by rfl, ?hyr3_1⟩) (by assumption) ?restr3_1
            case hyr3_1 => (intro w hSw; (try dsimp only at hSw); go_simp; (all_goals with_reducible rfl))
            try simp only [Act.put, List.setIfInBounds_toArray, List.set_cons_zero, List.set_cons_succ, List.getElem_toArray, List.getElem_cons_succ, List.getElem_cons_zero]
            refine wpAnyH_take (i := 2) (v := ?vr3_2) rfl (by kernel_rfl) (by kernel_rfl) (by kernel_rfl) (fun _ _ _ h => h) (Or.inl ⟨by rfl, ?hyr3_2⟩) (by assumption) ?restr3_2
            case hyr3_2 => (intro w hSw; (try dsimp only at hSw); go_simp; (all_goals with_reducible rfl))
            try simp only [Act.put, List.setIfInBounds_toArray, List.set_cons_zero, List.set_cons_succ, List.getElem_toArray, List.getElem_cons_succ, List.getElem_cons_zero]
            refine wpAnyH_take (i := 3) (v := ?vr3_3) rfl (by kernel_rfl) (by kernel_rfl) (by kernel_rfl) (fun _ _ _ h => h) (Or.inl ⟨by rfl, ?hyr3_3⟩) (by assumption) ?restr3_3
            case hyr3_3 => (intro w hSw; (try dsimp only at hSw); go_simp; (all_goals with_reducible rfl))
            try simp only [Act.put, List.setIfInBounds_toArray, List.set_cons_zero, List.set_cons_succ, List.getElem_toArray, List.getElem_cons_succ, List.getElem_cons_zero]
            refine wpAnyH_ready (rs := [4]) (by kernel_rfl) (by simp) ?_
            refine AllReadyH.cons rfl (fun K hK => ?_) AllReadyH.nil
            go_simp
            go_at_call 15
            refine (HRF.out _ (HD.out 1)).mono ?_
            rintro e w3 ⟨rfl, b3⟩
            have BB := bT (HD.out 1) b3
            go_wp2_with fail
            refine hK.out _ _ (HK.out _ BB) (fun hHeld => ?_)
            clear hK K
            refine wpAnyH_take (i := 5) (v := ?vr3_5) rfl (by kernel_rfl) (by kernel_rfl) (by kernel_rfl) (fun _ _ _ h => h) (Or.inl ⟨by rfl, ?hyr3_5⟩) (by assumption) ?restr3_5
            case hyr3_5 => (intro w hSw; (try dsimp only at hSw); go_simp; (all_goals with_reducible rfl))
            try simp only [Act.put, List.setIfInBounds_toArray, List.set_cons_zero, List.set_cons_succ, List.getElem_toArray, List.getElem_cons_succ, List.getElem_cons_zero]
            refine wpAnyH_take (i := 6) (v := ?vr3_6) rfl (by kernel_rfl) (by kernel_rfl) (by kernel_rfl) (fun _ _ _ h => h) (Or.inl ⟨by rfl, ?hyr3_6⟩) (by assumption) ?restr3_6
            case hyr3_6 => (intro w hSw; (try dsimp only at hSw); go_simp; (all_goals with_reducible rfl))
            try simp only [Act.put, List.setIfInBounds_toArray, List.set_cons_zero, List.set_cons_succ, List.getElem_toArray, List.getElem_cons_succ, List.getElem_cons_zero]
            refine wpAnyH_take (i := 7) (v := ?vr3_7) rfl (by kernel_rfl) (by kernel_rfl) (by kernel_rfl) (fun _ _ _ h => h) (Or.inl ⟨by rfl, ?hyr3_7⟩) (by assumption) ?restr3_7
            case hyr3_7 => (intro w hSw; (try dsimp only at hSw); go_simp; (all_goals with_reducible rfl))
            try simp only [Act.put, List.setIfInBounds_toArray, List.set_cons_zero, List.set_cons_succ, List.getElem_toArray, List.getElem_cons_succ, List.getElem_cons_zero]
            refine wpAnyH_take (i := 8) (v := ?vr3_8) rfl (by kernel_rfl) (by kernel_rfl) (by kernel_rfl) (fun _ _ _ h => h) (Or.inl ⟨by rfl, ?hyr3_8⟩) (by assumption) ?restr3_8
            case hyr3_8 => (intro w hSw; (try dsimp only at hSw); go_simp; (all_goals with_reducible rfl))
            try simp only [Act.put, List.setIfInBounds_toArray, List.set_cons_zero, List.set_cons_succ, List.getElem_toArray, List.getElem_cons_succ, List.getElem_cons_zero]
            refine wpAnyH_take (i := 9) (v := ?vr3_9) rfl (by kernel_rfl) (by kernel_rfl) (by kernel_rfl) (fun _ _ _ h => h) (Or.inl ⟨by rfl, ?hyr3_9⟩) (by assumption) ?restr3_9
            case hyr3_9 => (intro w hSw; (try dsimp only at hSw); go_simp; (all_goals with_reducible rfl))
            try simp only [Act.put, List.setIfInBounds_toArray, List.set_cons_zero, List.set_cons_succ, List.getElem_toArray, List.getElem_cons_succ, List.getElem_cons_zero]
            refine wpAnyH_take (i := 10) (v := ?vr3_10) rfl (by kernel_rfl) (by kernel_rfl) (by kernel_rfl) (fun _ _ _ h => h) (Or.inl ⟨by rfl, ?hyr3_10⟩) (by assumption) ?restr3_10
            case hyr3_10 => (intro w hSw; (try dsimp only at hSw); go_simp; (all_goals with_reducible rfl))
            try simp only [Act.put, List.setIfInBounds_toArray, List.set_cons_zero, List.set_cons_succ, List.getElem_toArray, List.getElem_cons_succ, List.getElem_cons_zero]
            refine wpAnyH_take (i := 11) (v := ?vr3_11) rfl (by kernel_rfl) (by kernel_rfl) (by kernel_rfl) (fun _ _ _ h => h) (Or.inl ⟨by rfl, ?hyr3_11⟩) (by assumption) ?restr3_11
            case hyr3_11 => (intro w hSw; (try dsimp only at hSw); go_simp; (all_goals with_reducible rfl))
            try simp only [Act.put, List.setIfInBounds_toArray, List.set_cons_zero, List.set_cons_succ, List.getElem_toArray, List.getElem_cons_succ, List.getElem_cons_zero]
            refine wpAnyH_take (i := 12) (v := ?vr3_12) rfl (by kernel_rfl) (by kernel_rfl) (by kernel_rfl) (fun _ _ _ h => h) (Or.inl ⟨by rfl, ?hyr3_12⟩) (by assumption) ?restr3_12
            case hyr3_12 => (intro w hSw; (try dsimp only at hSw); go_simp; (all_goals with_reducible rfl))
            try simp only [Act.put, List.setIfInBounds_toArray, List.set_cons_zero, List.set_cons_succ, List.getElem_toArray, List.getElem_cons_succ, List.getElem_cons_zero]
            refine wpAnyH_take (i := 13) (v := ?vr3_13) rfl (by kernel_rfl) (by kernel_rfl) (by kernel_rfl) (fun _ _ _ h => h) (Or.inl ⟨by rfl, ?hyr3_13⟩) (by assumption) ?restr3_13
            case hyr3_13 => (intro w hSw; (try dsimp only at hSw); go_simp; (all_goals with_reducible rfl))
            try simp only [Act.put, List.setIfInBounds_toArray, List.set_cons_zero, List.set_cons_succ, List.getElem_toArray, List.getElem_cons_succ, List.getElem_cons_zero]
            refine wpAnyH_take (i := 14) (v := ?vr3_14) rfl (by kernel_rfl) (by kernel_rfl) (by kernel_rfl) (fun _ _ _ h => h) (Or.inl ⟨by rfl, ?hyr3_14⟩) (by assumption) ?restr3_14
            case hyr3_14 => (intro w hSw; (try dsimp only at hSw); go_simp; (all_goals with_reducible rfl))
            try simp only [Act.put, List.setIfInBounds_toArray, List.set_cons_zero, List.set_cons_succ, List.getElem_toArray, List.getElem_cons_succ, List.getElem_cons_zero]
            refine wpAnyH_take (i := 15) (v := ?vr3_15) rfl (by kernel_rfl) (by kernel_rfl) (by kernel_rfl) (fun _ _ _ h => h) (Or.inl ⟨by rfl, ?hyr3_15⟩) (by assumption) ?restr3_15
            case hyr3_15 => (intro w hSw; (try dsimp only at hSw); go_simp; (all_goals with_reducible rfl))
            try simp only [Act.put, List.setIfInBounds_toArray, List.set_cons_zero, List.set_cons_succ, List.getElem_toArray, List.getElem_cons_succ, List.getElem_cons_zero]
            refine wpAnyH_done (by kernel_rfl) ?_ _
            go_wp2_with fail
            go_ret2
            exact ⟨bT hbel BB, .inr ⟨HBAD.out, rfl⟩⟩
        · have HBAD := hid (bdOk_at HX.out hrv)
          have hrb : (repV n ep st ⟨worker, epoch, step, sent, got, waking, opn⟩ != 0) = true := by simpa using hrv
          clear hrv
          generalize repV n ep st ⟨worker, epoch, step, sent, got, waking, opn⟩ = rv at HRF hrb
          have HK : Hid (∀ V, Below wr.heap.size wr V → (V.cell? ⟨w.heap.size, 0, none⟩ = some (.int .i64 (n : Int)) ∧ V.cell? ⟨w.heap.size, 1, none⟩ = some (.int .i64 ep) ∧ V.cell? ⟨w.heap.size, 2, none⟩ = some (.int .i64 st) ∧ V.cell? ⟨w.heap.size, 3, none⟩ = some (.slice (some ⟨b, off, none⟩) l.length c)) ∧ V.cell? ⟨b, off + k * 7, none⟩ = some (.int .i64 worker) ∧ V.cell? ⟨b, off + k * 7 + 1, none⟩ = some (.int .i64 epoch) ∧ V.cell? ⟨b, off + k * 7 + 2, none⟩ = some (.int .i64 step) ∧ V.cell? ⟨b, off + k * 7 + 3, none⟩ = some (.slice xA sent.length xc) ∧ V.cell? ⟨b, off + k * 7 + 4, none⟩ = some (.slice xA' got.length xc') ∧ V.cell? ⟨b, off + k * 7 + 5, none⟩ = some (.int .i64 waking) ∧ V.cell? ⟨b, off + k * 7 + 6, none⟩ = some (.int .i64 opn)) := hid fun V hV => ⟨⟨keepb hV q0, keepb hV q1, keepb hV q2, keepb hV q3⟩, keepb hV c0, keepb hV c1, keepb hV c2, keepb hV c3, keepb hV c4, keepb hV c5, keepb hV c6⟩
          go_wp2_with fail
          refine wp_region_held_drew (S := (fun V => (V.cell? ⟨w.heap.size, 0, none⟩ = some (.int .i64 (n : Int)) ∧ V.cell? ⟨w.heap.size, 1, none⟩ = some (.int .i64 ep) ∧ V.cell? ⟨w.heap.size, 2, none⟩ = some (.int .i64 st) ∧ V.cell? ⟨w.heap.size, 3, none⟩ = some (.slice (some ⟨b, off, none⟩) l.length c)) ∧ V.cell? ⟨b, off + k * 7, none⟩ = some (.int .i64 worker) ∧ V.cell? ⟨b, off + k * 7 + 1, none⟩ = some (.int .i64 epoch) ∧ V.cell? ⟨b, off + k * 7 + 2, none⟩ = some (.int .i64 step) ∧ V.cell? ⟨b, off + k * 7 + 3, none⟩ = some (.slice xA sent.length xc) ∧ V.cell? ⟨b, off + k * 7 + 4, none⟩ = some (.slice xA' got.length xc') ∧ V.cell? ⟨b, off + k * 7 + 5, none⟩ = some (.int .i64 waking) ∧ V.cell? ⟨b, off + k * 7 + 6, none⟩ = some (.int .i64 opn))) (by kernel_rfl) (HK.out _ (HD.out 1)) (fun hHeld => ?_)
          refine wpAnyH_take (i := 0) (v := ?vr1_0) rfl (by kernel_rfl) (by kernel_rfl) (by kernel_rfl) (fun _ _ _ h => h) (Or.inl ⟨by rfl, ?hyr1_0⟩) (by assumption) ?restr1_0
          case hyr1_0 => (intro w hSw; (try dsimp only at hSw); go_simp; (all_goals with_reducible rfl))
          try simp only [Act.put, List.setIfInBounds_toArray, List.set_cons_zero, List.set_cons_succ, List.getElem_toArray, List.getElem_cons_succ, List.getElem_cons_zero]
          refine wpAnyH_take (i := 1) (v := ?vr1_1) rfl (by kernel_rfl) (by kernel_rfl) (by kernel_rfl) (fun _ _ _ h => h) (Or.inl ⟨by rfl, ?hyr1_1⟩) (by assumption) ?restr1_1
          case hyr1_1 => (intro w hSw; (try dsimp only at hSw); go_simp; (all_goals with_reducible rfl))
          try simp only [Act.put, List.setIfInBounds_toArray, List.set_cons_zero, List.set_cons_succ, List.getElem_toArray, List.getElem_cons_succ, List.getElem_cons_zero]
          refine wpAnyH_take (i := 2) (v := ?vr1_2) rfl (by kernel_rfl) (by kernel_rfl) (by kernel_rfl) (fun _ _ _ h => h) (Or.inl ⟨by rfl, ?hyr1_2⟩) (by assumption) ?restr1_2
          case hyr1_2 => (intro w hSw; (try dsimp only at hSw); go_simp; (all_goals with_reducible rfl))
          try simp only [Act.put, List.setIfInBounds_toArray, List.set_cons_zero, List.set_cons_succ, List.getElem_toArray, List.getElem_cons_succ, List.getElem_cons_zero]
          refine wpAnyH_take (i := 3) (v := ?vr1_3) rfl (by kernel_rfl) (by kernel_rfl) (by kernel_rfl) (fun _ _ _ h => h) (Or.inl ⟨by rfl, ?hyr1_3⟩) (by assumption) ?restr1_3
          case hyr1_3 => (intro w hSw; (try dsimp only at hSw); go_simp; (all_goals with_reducible rfl))
          try simp only [Act.put, List.setIfInBounds_toArray, List.set_cons_zero, List.set_cons_succ, List.getElem_toArray, List.getElem_cons_succ, List.getElem_cons_zero]
          refine wpAnyH_ready (rs := [4]) (by kernel_rfl) (by simp) ?_
          refine AllReadyH.cons rfl (fun K hK => ?_) AllReadyH.nil
          go_simp
          go_at_call 15
          refine (HRF.out _ (HD.out 1)).mono ?_
          rintro e w3 ⟨rfl, b3⟩
          have BB := bT (HD.out 1) b3
          go_wp2_with fail
          refine hK.out _ _ (HK.out _ BB) (fun hHeld => ?_)
          clear hK K
          refine wpAnyH_take (i := 5) (v := ?vr1_5) rfl (by kernel_rfl) (by kernel_rfl) (by kernel_rfl) (fun _ _ _ h => h) (Or.inl ⟨by rfl, ?hyr1_5⟩) (by assumption) ?restr1_5
          case hyr1_5 => (intro w hSw; (try dsimp only at hSw); go_simp; (all_goals with_reducible rfl))
          try simp only [Act.put, List.setIfInBounds_toArray, List.set_cons_zero, List.set_cons_succ, List.getElem_toArray, List.getElem_cons_succ, List.getElem_cons_zero]
          refine wpAnyH_take (i := 6) (v := ?vr1_6) rfl (by kernel_rfl) (by kernel_rfl) (by kernel_rfl) (fun _ _ _ h => h) (Or.inl ⟨by rfl, ?hyr1_6⟩) (by assumption) ?restr1_6
          case hyr1_6 => (intro w hSw; (try dsimp only at hSw); go_simp; (all_goals with_reducible rfl))
          try simp only [Act.put, List.setIfInBounds_toArray, List.set_cons_zero, List.set_cons_succ, List.getElem_toArray, List.getElem_cons_succ, List.getElem_cons_zero]
          refine wpAnyH_take (i := 7) (v := undef) rfl (by kernel_rfl) (by kernel_rfl) (by kernel_rfl) (fun _ _ _ h => h) (Or.inr ⟨by rfl, rfl⟩) (by assumption) ?restr1_7
          try simp only [Act.put, List.setIfInBounds_toArray, List.set_cons_zero, List.set_cons_succ, List.getElem_toArray, List.getElem_cons_succ, List.getElem_cons_zero]
          refine wpAnyH_take (i := 8) (v := undef) rfl (by kernel_rfl) (by kernel_rfl) (by kernel_rfl) (fun _ _ _ h => h) (Or.inr ⟨by rfl, rfl⟩) (by assumption) ?restr1_8
          try simp only [Act.put, List.setIfInBounds_toArray, List.set_cons_zero, List.set_cons_succ, List.getElem_toArray, List.getElem_cons_succ, List.getElem_cons_zero]
          refine wpAnyH_take (i := 9) (v := undef) rfl (by kernel_rfl) (by kernel_rfl) (by kernel_rfl) (fun _ _ _ h => h) (Or.inr ⟨by rfl, rfl⟩) (by assumption) ?restr1_9
          try simp only [Act.put, List.setIfInBounds_toArray, List.set_cons_zero, List.set_cons_succ, List.getElem_toArray, List.getElem_cons_succ, List.getElem_cons_zero]
          refine wpAnyH_take (i := 10) (v := undef) rfl (by kernel_rfl) (by kernel_rfl) (by kernel_rfl) (fun _ _ _ h => h) (Or.inr ⟨by rfl, rfl⟩) (by assumption) ?restr1_10
          try simp only [Act.put, List.setIfInBounds_toArray, List.set_cons_zero, List.set_cons_succ, List.getElem_toArray, List.getElem_cons_succ, List.getElem_cons_zero]
          refine wpAnyH_take (i := 11) (v := undef) rfl (by kernel_rfl) (by kernel_rfl) (by kernel_rfl) (fun _ _ _ h => h) (Or.inr ⟨by rfl, rfl⟩) (by assumption) ?restr1_11
          try simp only [Act.put, List.setIfInBounds_toArray, List.set_cons_zero, List.set_cons_succ, List.getElem_toArray, List.getElem_cons_succ, List.getElem_cons_zero]
          refine wpAnyH_take (i := 12) (v := undef) rfl (by kernel_rfl) (by kernel_rfl) (by kernel_rfl) (fun _ _ _ h => h) (Or.inr ⟨by rfl, rfl⟩) (by assumption) ?restr1_12
          try simp only [Act.put, List.setIfInBounds_toArray, List.set_cons_zero, List.set_cons_succ, List.getElem_toArray, List.getElem_cons_succ, List.getElem_cons_zero]
          refine wpAnyH_take (i := 13) (v := undef) rfl (by kernel_rfl) (by kernel_rfl) (by kernel_rfl) (fun _ _ _ h => h) (Or.inr ⟨by rfl, rfl⟩) (by assumption) ?restr1_13
          try simp only [Act.put, List.setIfInBounds_toArray, List.set_cons_zero, List.set_cons_succ, List.getElem_toArray, List.getElem_cons_succ, List.getElem_cons_zero]
          refine wpAnyH_take (i := 14) (v := undef) rfl (by kernel_rfl) (by kernel_rfl) (by kernel_rfl) (fun _ _ _ h => h) (Or.inr ⟨by rfl, rfl⟩) (by assumption) ?restr1_14
          try simp only [Act.put, List.setIfInBounds_toArray, List.set_cons_zero, List.set_cons_succ, List.getElem_toArray, List.getElem_cons_succ, List.getElem_cons_zero]
          refine wpAnyH_take (i := 15) (v := ?vr1_15) rfl (by kernel_rfl) (by kernel_rfl) (by kernel_rfl) (fun _ _ _ h => h) (Or.inl ⟨by rfl, ?hyr1_15⟩) (by assumption) ?restr1_15
          case hyr1_15 => (intro w hSw; (try dsimp only at hSw); go_simp; (all_goals with_reducible rfl))
          try simp only [Act.put, List.setIfInBounds_toArray, List.set_cons_zero, List.set_cons_succ, List.getElem_toArray, List.getElem_cons_succ, List.getElem_cons_zero]
          refine wpAnyH_done (by kernel_rfl) ?_ _
          go_wp2_with fail
          go_ret2
          exact ⟨bT hbel BB, .inr ⟨HBAD.out, rfl⟩⟩
      · obtain rfl : k = l.length := by omega
        have HOK := hid (bdOk_of HFIT.out (by rw [repsOf_len]; exact HP.out))
        rw [List.take_of_length_le (by rw [repsOf_len]; exact Nat.le_refl _)] at hown
        have HOWN := hid (own_below (base' := w.heap.size) hown (Below.refl _ _) (by omega))
        clear hown
        go_wp2_with fail
        go_ret2
        exact ⟨hbel, .inl ⟨HOK.out, n, gb, rfl, rfl, HOWN.out⟩⟩
  · have HO := hid (boardOpen_no wk ep st (w.alloc (.cells #[.int .i64 wk, .int .i64 ep, .int .i64 st, .slice A l.length c] 24)) hfit)
    unfold boardV at HO
    have HV : Hid (¬ bdOk wk ep st (repsOf l)) := hid (fun h => hfit (bdFits_iff.1 h.1))
    clear hfit
    go_enter Try.func12, Try.ntmps12
    go_wp2_with fail
    refine HO.out.mono ?_
    rintro e w1 ⟨rfl, b1⟩
    have hw1 := hw0.b b1
    go_wp2_with fail
    go_ret2
    exact ⟨bA hw1.2.2.2.2.2 _, .inr ⟨HV.out, rfl⟩⟩
end Go.Proofs.Ytaipjckcckfnaaa
