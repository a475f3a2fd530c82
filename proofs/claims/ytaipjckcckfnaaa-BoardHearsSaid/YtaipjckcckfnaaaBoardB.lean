/- May a board be: the document's BoardMay, the program's board.read. -/
import Derived.Test.YtaipjckcckfnaaaBoardQ
import Derived.Deep.RegionHeld3
namespace Go.Proofs.Ytaipjckcckfnaaa
open Go.ChangeShapes Go.WideShapes Go.ChangeAt Go.RowKit
set_option linter.unusedVariables false
/-- The board's box. -/
def BdW (wk ep st : Int) (A : Option Addr) (n c : Nat) (w wr : World) : Prop := wr.cell? ⟨w.heap.size, 0, none⟩ = some (.int .i64 wk) ∧ wr.cell? ⟨w.heap.size, 1, none⟩ = some (.int .i64 ep) ∧ wr.cell? ⟨w.heap.size, 2, none⟩ = some (.int .i64 st) ∧ wr.cell? ⟨w.heap.size, 3, none⟩ = some (.slice A n c) ∧ w.heap.size + 1 ≤ wr.heap.size ∧ Below w.heap.size w wr
theorem BdW.b {wk ep st : Int} {A : Option Addr} {n c : Nat} {w wr w' : World} (h : BdW wk ep st A n c w wr) (hb : Below wr.heap.size wr w') : BdW wk ep st A n c w w' :=
  ⟨keepb hb h.1, keepb hb h.2.1, keepb hb h.2.2.1, keepb hb h.2.2.2.1, by have := hb.size; have := h.2.2.2.2.1; omega, bT h.2.2.2.2.2 hb⟩
theorem BdW.start (wk ep st : Int) (A : Option Addr) (n c : Nat) (w : World) : BdW wk ep st A n c w (w.alloc (.cells #[.int .i64 wk, .int .i64 ep, .int .i64 st, .slice A n c] 24)) :=
  ⟨by go_simp, by go_simp, by go_simp, by go_simp, by simp, bA (Below.refl _ _) _⟩
def RepCells (x : MRep) (b off : Nat) (w' : World) : Prop := w'.cell? ⟨b, off, none⟩ = some (.int .i64 x.r.worker) ∧ w'.cell? ⟨b, off + 1, none⟩ = some (.int .i64 x.r.epoch) ∧ w'.cell? ⟨b, off + 2, none⟩ = some (.int .i64 x.r.step) ∧ w'.cell? ⟨b, off + 3, none⟩ = some (.slice x.A x.r.sent.length x.c) ∧ w'.cell? ⟨b, off + 4, none⟩ = some (.slice x.A' x.r.got.length x.c') ∧ w'.cell? ⟨b, off + 5, none⟩ = some (.int .i64 x.r.waking) ∧ w'.cell? ⟨b, off + 6, none⟩ = some (.int .i64 x.r.opn)
set_option maxRecDepth 100000 in
set_option maxHeartbeats 8000000 in
theorem bdMay_walk (wk ep st : Int) (A : Option Addr) (c : Nat) (l : List MRep) (w : World) (hr : Reps w w.heap.size A l) (hn : l.length * 88 ≤ 140737488355328) (hs : ∀ x ∈ l, x.r.sent.length * 8 ≤ 140737488355328 ∧ x.r.got.length * 8 ≤ 140737488355328) :
    Calls Try.prog 13 #[.agg (boardC wk ep st A l.length c)] w fun e w' => e = .returned (.bool (bdB wk ep st (repsOf l))) ∧ Below w.heap.size w w' := by
  have hw0 := BdW.start wk ep st A l.length c w
  unfold boardC
  generalize hF : bdB wk ep st (repsOf l) = F
  have HF := hid hF
  clear hF
  by_cases hfit : BoardOk wk ep st
  · have hwk : 1 ≤ wk ∧ wk ≤ 8 := ⟨hfit.1, hfit.2.1⟩
    have HO := hid (boardOpened_yes wk ep st (w.alloc (.cells #[.int .i64 wk, .int .i64 ep, .int .i64 st, .slice A l.length c] 24)) hfit)
    unfold boardV at HO
    have HFIT := hid (bdFits_iff.2 hfit)
    clear hfit
    go_enter Try.func13, Try.ntmps13
    go_wp2_with fail
    refine HO.out.mono ?_
    rintro e w1 ⟨rfl, b1⟩
    have hw1 := hw0.b b1
    clear hw0 b1 HO
    go_wp2_with fail
    go_loopw [5] (fun i wr => ∃ k : Nat, k ≤ l.length ∧ i = .int .i64 k ∧ BdW wk ep st A l.length c w wr ∧ Hid (bdPre wk ep st (repsOf l) k)) (fun i _ => l.length - (intOf i).toNat)
    case atStart => exact ⟨0, by omega, rfl, hw1.b (bA (Below.refl _ _) _), hid bdPre_zero⟩
    case round =>
      clear hw1
      obtain ⟨k, hk, rfl, hW, HP⟩ := hrel
      have HW := hid hW
      obtain ⟨q0, q1, q2, q3, hsz, hbel⟩ := hW
      by_cases hlt : k < l.length
      · obtain ⟨x, hx⟩ : ∃ x, l[k]? = some x := ⟨_, List.getElem?_eq_getElem hlt⟩
        obtain ⟨b, off, rfl, hb, c0, c1, c2, c3, c4, c5, c6⟩ := rep_cells (hr.1.below hbel) rfl hx
        have hxm := List.mem_of_getElem? hx
        have hdat := Reps.data hr hxm
        have hlen := hs x hxm
        have HX := hid (repsOf_get hx)
        have hkz : (k : Int) < (l.length : Int) := by omega
        have hbr : b < wr.heap.size := by omega
        have HRF := hid (fun (V : World) (hV : Below wr.heap.size wr V) => fault_walk wk ep st hwk (some ⟨b, off, none⟩) l.length c x V ⟨rdb hdat.1 (by decide) (bT hbel hV), rdb hdat.2 (by decide) (bT hbel hV)⟩ hlen.1 hlen.2)
        have HRB := hid (fun (V : World) (hV : Below wr.heap.size wr V) => repBy_walk wk ep st x.r.worker (some ⟨b, off, none⟩) c l V (rdb hr.1 (by decide) (bT hbel hV)) hn)
        have HK : Hid (∀ V, Below wr.heap.size wr V → (V.cell? ⟨w.heap.size, 0, none⟩ = some (.int .i64 wk) ∧ V.cell? ⟨w.heap.size, 1, none⟩ = some (.int .i64 ep) ∧ V.cell? ⟨w.heap.size, 2, none⟩ = some (.int .i64 st) ∧ V.cell? ⟨w.heap.size, 3, none⟩ = some (.slice (some ⟨b, off, none⟩) l.length c)) ∧ V.cell? ⟨b, off + k * 7, none⟩ = some (.int .i64 x.r.worker) ∧ V.cell? ⟨b, off + k * 7 + 1, none⟩ = some (.int .i64 x.r.epoch) ∧ V.cell? ⟨b, off + k * 7 + 2, none⟩ = some (.int .i64 x.r.step) ∧ V.cell? ⟨b, off + k * 7 + 3, none⟩ = some (.slice x.A x.r.sent.length x.c) ∧ V.cell? ⟨b, off + k * 7 + 4, none⟩ = some (.slice x.A' x.r.got.length x.c') ∧ V.cell? ⟨b, off + k * 7 + 5, none⟩ = some (.int .i64 x.r.waking) ∧ V.cell? ⟨b, off + k * 7 + 6, none⟩ = some (.int .i64 x.r.opn)) := hid fun V hV => ⟨⟨keepb hV q0, keepb hV q1, keepb hV q2, keepb hV q3⟩, keepb hV c0, keepb hV c1, keepb hV c2, keepb hV c3, keepb hV c4, keepb hV c5, keepb hV c6⟩
        have HD := hid (fun n => below_drewN (Below.refl wr.heap.size wr) n)
        unfold boardC repC at HRF
        unfold boardC at HRB
        have HC : Hid ((repV wk ep st x.r != 0) = true ∧ F = false ∨ (repV wk ep st x.r != 0) = false ∧ ((repIx (repsOf l) x.r.worker != (k : Int)) = true ∧ F = false ∨ (repIx (repsOf l) x.r.worker != (k : Int)) = false ∧ bdPre wk ep st (repsOf l) (k + 1))) := hid (by
          by_cases h1 : repV wk ep st x.r = 0
          · refine .inr ⟨by simpa using h1, ?_⟩
            by_cases h2 : ∃ (j : Nat) (y : Report), j < k ∧ (repsOf l)[j]? = some y ∧ y.worker = x.r.worker
            · obtain ⟨j, y, hj, hy, hyw⟩ := h2
              refine .inl ⟨?_, by rw [← HF.out]; exact bdB_no (bdOk_twice HX.out hy hj hyw)⟩
              have hne : repIx (repsOf l) x.r.worker ≠ (k : Int) := by
                unfold repIx
                cases hfi : (repsOf l).findIdx? (fun r => r.worker == x.r.worker) with
                | none => simp only; omega
                | some i =>
                  rw [List.findIdx?_eq_some_iff_getElem] at hfi
                  obtain ⟨hi, hw, hb⟩ := hfi
                  simp only
                  intro he
                  obtain rfl : i = k := by omega
                  have := hb j hj
                  rw [(List.getElem?_eq_some_iff.1 hy).2] at this
                  simp [hyw] at this
              simpa using hne
            · have hd : ∀ (j : Nat) y, j < k → (repsOf l)[j]? = some y → y.worker ≠ x.r.worker := fun j y hj hy he => h2 ⟨j, y, hj, hy, he⟩
              exact .inr ⟨by simpa using repIx_at HX.out rfl hd, bdPre_next HP.out HX.out h1 hd⟩
          · exact .inl ⟨by simpa using h1, by rw [← HF.out]; exact bdB_no (bdOk_at HX.out h1)⟩)
        generalize repV wk ep st x.r = rv at HRF HC
        generalize repIx (repsOf l) x.r.worker = ix at HRB HC
        clear hx hxm hdat hlen hr hs
        rcases HC.out with ⟨hc1, hv⟩ | ⟨hc1, ⟨hc2, hv⟩ | ⟨hc2, hpre⟩⟩
        · have HV := hid hv
          clear hv HC
          go_wp2_with fail
          refine wp_region_held_drew (S := (fun V => (V.cell? ⟨w.heap.size, 0, none⟩ = some (.int .i64 wk) ∧ V.cell? ⟨w.heap.size, 1, none⟩ = some (.int .i64 ep) ∧ V.cell? ⟨w.heap.size, 2, none⟩ = some (.int .i64 st) ∧ V.cell? ⟨w.heap.size, 3, none⟩ = some (.slice (some ⟨b, off, none⟩) l.length c)) ∧ V.cell? ⟨b, off + k * 7, none⟩ = some (.int .i64 x.r.worker) ∧ V.cell? ⟨b, off + k * 7 + 1, none⟩ = some (.int .i64 x.r.epoch) ∧ V.cell? ⟨b, off + k * 7 + 2, none⟩ = some (.int .i64 x.r.step) ∧ V.cell? ⟨b, off + k * 7 + 3, none⟩ = some (.slice x.A x.r.sent.length x.c) ∧ V.cell? ⟨b, off + k * 7 + 4, none⟩ = some (.slice x.A' x.r.got.length x.c') ∧ V.cell? ⟨b, off + k * 7 + 5, none⟩ = some (.int .i64 x.r.waking) ∧ V.cell? ⟨b, off + k * 7 + 6, none⟩ = some (.int .i64 x.r.opn))) (by kernel_rfl) (HK.out _ (HD.out 1)) (fun hHeld => ?_)
          refine wpAnyH_take (i := 0) (v := ?v0) rfl (by kernel_rfl) (by kernel_rfl) (by kernel_rfl) (fun _ _ _ h => h) (Or.inl ⟨by rfl, ?hy0⟩) (by assumption) ?rest0
          case hy0 => (intro w hSw; (try dsimp only at hSw); go_simp; (all_goals with_reducible rfl))
          try simp only [Act.put, List.setIfInBounds_toArray, List.set_cons_zero, List.set_cons_succ, List.getElem_toArray, List.getElem_cons_succ, List.getElem_cons_zero]
          refine wpAnyH_take (i := 1) (v := ?v1) rfl (by kernel_rfl) (by kernel_rfl) (by kernel_rfl) (fun _ _ _ h => h) (Or.inl ⟨by rfl, ?hy1⟩) (by assumption) ?rest1
          case hy1 => (intro w hSw; (try dsimp only at hSw); go_simp; (all_goals with_reducible rfl))
          try simp only [Act.put, List.setIfInBounds_toArray, List.set_cons_zero, List.set_cons_succ, List.getElem_toArray, List.getElem_cons_succ, List.getElem_cons_zero]
          refine wpAnyH_take (i := 2) (v := ?v2) rfl (by kernel_rfl) (by kernel_rfl) (by kernel_rfl) (fun _ _ _ h => h) (Or.inl ⟨by rfl, ?hy2⟩) (by assumption) ?rest2
          case hy2 => (intro w hSw; (try dsimp only at hSw); go_simp; (all_goals with_reducible rfl))
          try simp only [Act.put, List.setIfInBounds_toArray, List.set_cons_zero, List.set_cons_succ, List.getElem_toArray, List.getElem_cons_succ, List.getElem_cons_zero]
          refine wpAnyH_take (i := 3) (v := ?v3) rfl (by kernel_rfl) (by kernel_rfl) (by kernel_rfl) (fun _ _ _ h => h) (Or.inl ⟨by rfl, ?hy3⟩) (by assumption) ?rest3
          case hy3 => (intro w hSw; (try dsimp only at hSw); go_simp; (all_goals with_reducible rfl))
          try simp only [Act.put, List.setIfInBounds_toArray, List.set_cons_zero, List.set_cons_succ, List.getElem_toArray, List.getElem_cons_succ, List.getElem_cons_zero]
          refine wpAnyH_take (i := 4) (v := ?v4) rfl (by kernel_rfl) (by kernel_rfl) (by kernel_rfl) (fun _ _ _ h => h) (Or.inl ⟨by rfl, ?hy4⟩) (by assumption) ?rest4
          case hy4 => (intro w hSw; (try dsimp only at hSw); go_simp; (all_goals with_reducible rfl))
          try simp only [Act.put, List.setIfInBounds_toArray, List.set_cons_zero, List.set_cons_succ, List.getElem_toArray, List.getElem_cons_succ, List.getElem_cons_zero]
          refine wpAnyH_take (i := 5) (v := ?v5) rfl (by kernel_rfl) (by kernel_rfl) (by kernel_rfl) (fun _ _ _ h => h) (Or.inl ⟨by rfl, ?hy5⟩) (by assumption) ?rest5
          case hy5 => (intro w hSw; (try dsimp only at hSw); go_simp; (all_goals with_reducible rfl))
          try simp only [Act.put, List.setIfInBounds_toArray, List.set_cons_zero, List.set_cons_succ, List.getElem_toArray, List.getElem_cons_succ, List.getElem_cons_zero]
          refine wpAnyH_ready (rs := [6]) (by kernel_rfl) (by simp) ?_
          refine AllReadyH.cons rfl (fun K hK => ?_) AllReadyH.nil
          go_simp
          go_at_call 17
          refine (HRF.out _ (HD.out 1)).mono ?_
          rintro e w3 ⟨rfl, b3⟩
          have BB := bT (HD.out 1) b3
          go_wp2_with fail
          refine hK.out _ _ (HK.out _ BB) (fun hHeld => ?_)
          clear hK K
          refine wpAnyH_take (i := 7) (v := ?v7) rfl (by kernel_rfl) (by kernel_rfl) (by kernel_rfl) (fun _ _ _ h => h) (Or.inl ⟨by rfl, ?hy7⟩) (by assumption) ?rest7
          case hy7 => (intro w hSw; (try dsimp only at hSw); go_simp; (all_goals with_reducible rfl))
          try simp only [Act.put, List.setIfInBounds_toArray, List.set_cons_zero, List.set_cons_succ, List.getElem_toArray, List.getElem_cons_succ, List.getElem_cons_zero]
          refine wpAnyH_take (i := 8) (v := ?v8) rfl (by kernel_rfl) (by kernel_rfl) (by kernel_rfl) (fun _ _ _ h => h) (Or.inl ⟨by rfl, ?hy8⟩) (by assumption) ?rest8
          case hy8 => (intro w hSw; (try dsimp only at hSw); go_simp; (all_goals with_reducible rfl))
          try simp only [Act.put, List.setIfInBounds_toArray, List.set_cons_zero, List.set_cons_succ, List.getElem_toArray, List.getElem_cons_succ, List.getElem_cons_zero]
          refine wpAnyH_take (i := 9) (v := undef) rfl (by kernel_rfl) (by kernel_rfl) (by kernel_rfl) (fun _ _ _ h => h) (Or.inr ⟨by rfl, rfl⟩) (by assumption) ?rest9
          try simp only [Act.put, List.setIfInBounds_toArray, List.set_cons_zero, List.set_cons_succ, List.getElem_toArray, List.getElem_cons_succ, List.getElem_cons_zero]
          refine wpAnyH_take (i := 10) (v := undef) rfl (by kernel_rfl) (by kernel_rfl) (by kernel_rfl) (fun _ _ _ h => h) (Or.inr ⟨by rfl, rfl⟩) (by assumption) ?rest10
          try simp only [Act.put, List.setIfInBounds_toArray, List.set_cons_zero, List.set_cons_succ, List.getElem_toArray, List.getElem_cons_succ, List.getElem_cons_zero]
          refine wpAnyH_take (i := 11) (v := undef) rfl (by kernel_rfl) (by kernel_rfl) (by kernel_rfl) (fun _ _ _ h => h) (Or.inr ⟨by rfl, rfl⟩) (by assumption) ?rest11
          try simp only [Act.put, List.setIfInBounds_toArray, List.set_cons_zero, List.set_cons_succ, List.getElem_toArray, List.getElem_cons_succ, List.getElem_cons_zero]
          refine wpAnyH_take (i := 12) (v := undef) rfl (by kernel_rfl) (by kernel_rfl) (by kernel_rfl) (fun _ _ _ h => h) (Or.inr ⟨by rfl, rfl⟩) (by assumption) ?rest12
          try simp only [Act.put, List.setIfInBounds_toArray, List.set_cons_zero, List.set_cons_succ, List.getElem_toArray, List.getElem_cons_succ, List.getElem_cons_zero]
          refine wpAnyH_take (i := 13) (v := undef) rfl (by kernel_rfl) (by kernel_rfl) (by kernel_rfl) (fun _ _ _ h => h) (Or.inr ⟨by rfl, rfl⟩) (by assumption) ?rest13
          try simp only [Act.put, List.setIfInBounds_toArray, List.set_cons_zero, List.set_cons_succ, List.getElem_toArray, List.getElem_cons_succ, List.getElem_cons_zero]
          refine wpAnyH_take (i := 14) (v := undef) rfl (by kernel_rfl) (by kernel_rfl) (by kernel_rfl) (fun _ _ _ h => h) (Or.inr ⟨by rfl, rfl⟩) (by assumption) ?rest14
          try simp only [Act.put, List.setIfInBounds_toArray, List.set_cons_zero, List.set_cons_succ, List.getElem_toArray, List.getElem_cons_succ, List.getElem_cons_zero]
          refine wpAnyH_take (i := 15) (v := undef) rfl (by kernel_rfl) (by kernel_rfl) (by kernel_rfl) (fun _ _ _ h => h) (Or.inr ⟨by rfl, rfl⟩) (by assumption) ?rest15
          try simp only [Act.put, List.setIfInBounds_toArray, List.set_cons_zero, List.set_cons_succ, List.getElem_toArray, List.getElem_cons_succ, List.getElem_cons_zero]
          refine wpAnyH_take (i := 16) (v := undef) rfl (by kernel_rfl) (by kernel_rfl) (by kernel_rfl) (fun _ _ _ h => h) (Or.inr ⟨by rfl, rfl⟩) (by assumption) ?rest16
          try simp only [Act.put, List.setIfInBounds_toArray, List.set_cons_zero, List.set_cons_succ, List.getElem_toArray, List.getElem_cons_succ, List.getElem_cons_zero]
          refine wpAnyH_take (i := 17) (v := undef) rfl (by kernel_rfl) (by kernel_rfl) (by kernel_rfl) (fun _ _ _ h => h) (Or.inr ⟨by rfl, rfl⟩) (by assumption) ?rest17
          try simp only [Act.put, List.setIfInBounds_toArray, List.set_cons_zero, List.set_cons_succ, List.getElem_toArray, List.getElem_cons_succ, List.getElem_cons_zero]
          refine wpAnyH_take (i := 18) (v := undef) rfl (by kernel_rfl) (by kernel_rfl) (by kernel_rfl) (fun _ _ _ h => h) (Or.inr ⟨by rfl, rfl⟩) (by assumption) ?rest18
          try simp only [Act.put, List.setIfInBounds_toArray, List.set_cons_zero, List.set_cons_succ, List.getElem_toArray, List.getElem_cons_succ, List.getElem_cons_zero]
          refine wpAnyH_take (i := 19) (v := ?v19) rfl (by kernel_rfl) (by kernel_rfl) (by kernel_rfl) (fun _ _ _ h => h) (Or.inl ⟨by rfl, ?hy19⟩) (by assumption) ?rest19
          case hy19 => (intro w hSw; (try dsimp only at hSw); go_simp; (all_goals with_reducible rfl))
          try simp only [Act.put, List.setIfInBounds_toArray, List.set_cons_zero, List.set_cons_succ, List.getElem_toArray, List.getElem_cons_succ, List.getElem_cons_zero]
          refine wpAnyH_done (by kernel_rfl) ?_ _
          all_goals
            go_wp2_with fail
            go_ret
            exact ⟨by rw [HV.out]; rfl, bT hbel BB⟩
        · have HV := hid hv
          clear hv HC
          go_wp2_with fail
          go_region_held3 (fun V => (V.cell? ⟨w.heap.size, 0, none⟩ = some (.int .i64 wk) ∧ V.cell? ⟨w.heap.size, 1, none⟩ = some (.int .i64 ep) ∧ V.cell? ⟨w.heap.size, 2, none⟩ = some (.int .i64 st) ∧ V.cell? ⟨w.heap.size, 3, none⟩ = some (.slice (some ⟨b, off, none⟩) l.length c)) ∧ V.cell? ⟨b, off + k * 7, none⟩ = some (.int .i64 x.r.worker) ∧ V.cell? ⟨b, off + k * 7 + 1, none⟩ = some (.int .i64 x.r.epoch) ∧ V.cell? ⟨b, off + k * 7 + 2, none⟩ = some (.int .i64 x.r.step) ∧ V.cell? ⟨b, off + k * 7 + 3, none⟩ = some (.slice x.A x.r.sent.length x.c) ∧ V.cell? ⟨b, off + k * 7 + 4, none⟩ = some (.slice x.A' x.r.got.length x.c') ∧ V.cell? ⟨b, off + k * 7 + 5, none⟩ = some (.int .i64 x.r.waking) ∧ V.cell? ⟨b, off + k * 7 + 6, none⟩ = some (.int .i64 x.r.opn)) (first | exact HK.out _ (HD.out 1) | exact HK.out _ BB | exact HK.out _ (bT BB b4) | go_keep) ((first | (go_at_call 17; refine (HRF.out _ (HD.out 1)).mono ?_; rintro e w3 ⟨rfl, b3⟩; have BB := bT (HD.out 1) b3) | (go_at_call 18; refine (HRB.out _ BB).mono ?_; rintro e w4 ⟨rfl, b4⟩)))
          all_goals
            go_wp2_with fail
            go_ret
            exact ⟨by rw [HV.out]; rfl, bT (bT hbel BB) b4⟩
        · have HN := hid hpre
          clear hpre HC
          go_wp2_with fail
          go_region_held3 (fun V => (V.cell? ⟨w.heap.size, 0, none⟩ = some (.int .i64 wk) ∧ V.cell? ⟨w.heap.size, 1, none⟩ = some (.int .i64 ep) ∧ V.cell? ⟨w.heap.size, 2, none⟩ = some (.int .i64 st) ∧ V.cell? ⟨w.heap.size, 3, none⟩ = some (.slice (some ⟨b, off, none⟩) l.length c)) ∧ V.cell? ⟨b, off + k * 7, none⟩ = some (.int .i64 x.r.worker) ∧ V.cell? ⟨b, off + k * 7 + 1, none⟩ = some (.int .i64 x.r.epoch) ∧ V.cell? ⟨b, off + k * 7 + 2, none⟩ = some (.int .i64 x.r.step) ∧ V.cell? ⟨b, off + k * 7 + 3, none⟩ = some (.slice x.A x.r.sent.length x.c) ∧ V.cell? ⟨b, off + k * 7 + 4, none⟩ = some (.slice x.A' x.r.got.length x.c') ∧ V.cell? ⟨b, off + k * 7 + 5, none⟩ = some (.int .i64 x.r.waking) ∧ V.cell? ⟨b, off + k * 7 + 6, none⟩ = some (.int .i64 x.r.opn)) (first | exact HK.out _ (HD.out 1) | exact HK.out _ BB | exact HK.out _ (bT BB b4) | go_keep) ((first | (go_at_call 17; refine (HRF.out _ (HD.out 1)).mono ?_; rintro e w3 ⟨rfl, b3⟩; have BB := bT (HD.out 1) b3) | (go_at_call 18; refine (HRB.out _ BB).mono ?_; rintro e w4 ⟨rfl, b4⟩)))
          all_goals
            go_wp2_with fail
            go_roundw
            case rel => exact ⟨k + 1, by omega, by go_num, HW.out.b (bT BB b4), HN⟩
            case measure => simp [intOf]; omega
      · obtain rfl : k = l.length := by omega
        have HV : Hid (F = true) := hid (by rw [← HF.out]; exact bdB_yes (bdOk_of HFIT.out (by rw [repsOf_len]; exact HP.out)))
        go_wp2_with fail
        go_ret
        exact ⟨by rw [HV.out]; rfl, hbel⟩
  · have HO := hid (boardOpened_no wk ep st (w.alloc (.cells #[.int .i64 wk, .int .i64 ep, .int .i64 st, .slice A l.length c] 24)) hfit)
    unfold boardV at HO
    have HV : Hid (F = false) := hid (by rw [← HF.out]; exact bdB_no fun h => hfit (bdFits_iff.1 h.1))
    clear hfit
    go_enter Try.func13, Try.ntmps13
    go_wp2_with fail
    refine HO.out.mono ?_
    rintro e w1 ⟨rfl, b1⟩
    have hw1 := hw0.b b1
    go_wp2_with fail
    go_ret
    exact ⟨by rw [HV.out]; rfl, bA hw1.2.2.2.2.2 _⟩
end Go.Proofs.Ytaipjckcckfnaaa
