/- Copies of boards; the comparison of two boards. -/
import Derived.Test.YtaipjckcckfnaaaBoardU
namespace Go.Proofs.Ytaipjckcckfnaaa
open Go.ChangeShapes Go.WideShapes Go.ChangeAt Go.RowKit
set_option linter.unusedVariables false
set_option maxRecDepth 100000 in
set_option maxHeartbeats 4000000 in
theorem sameRep_walk (x x' : MRep) (w : World) (he : x'.r = x.r) (h1 : x.rd w w.heap.size) (h2 : x'.rd w w.heap.size) (hs : x.r.sent.length * 8 ≤ 140737488355328) (hg : x.r.got.length * 8 ≤ 140737488355328) :
    Calls Try.prog 14 #[.agg (repC x), .agg (repC x')] w fun e w' => e = .returned (.bool true) ∧ Below w.heap.size w w' := by
  obtain ⟨xA, xc, xA', xc', ⟨worker, epoch, step, sent, got, waking, opn⟩⟩ := x
  obtain ⟨yA, yc, yA', yc', r⟩ := x'
  simp only at he
  subst he
  obtain ⟨ha1, ha2⟩ := h1
  obtain ⟨hb1, hb2⟩ := h2
  unfold repC at *
  simp only at *
  have b0 := bA (bA (Below.refl w.heap.size w) (.cells #[.int .i64 worker, .int .i64 epoch, .int .i64 step, .slice xA sent.length xc, .slice xA' got.length xc', .int .i64 waking, .int .i64 opn] 33)) (.cells #[.int .i64 worker, .int .i64 epoch, .int .i64 step, .slice yA sent.length yc, .slice yA' got.length yc', .int .i64 waking, .int .i64 opn] 33)
  have HS := hid (sameInts_walk sent _ xA yA xc yc (rdb ha1 (by decide) b0) (rdb hb1 (by decide) b0) (by omega))
  have HG := hid (fun (V : World) (hV : Below w.heap.size w V) => sameInts_walk got V xA' yA' xc' yc' (rdb ha2 (by decide) hV) (rdb hb2 (by decide) hV) (by omega))
  go_enter Try.func14, Try.ntmps14
  go_wp2_with fail
  refine HS.out.mono ?_
  rintro e w1 ⟨rfl, b1⟩
  have c4 : w1.cell? ⟨w.heap.size, 4, none⟩ = some (.slice xA' got.length xc') := keepb b1 (by go_simp)
  have d4 : w1.cell? ⟨w.heap.size + 1, 4, none⟩ = some (.slice yA' got.length yc') := keepb b1 (by go_simp)
  have bb := bT b0 b1
  clear b1 b0
  go_wp2_with fail
  refine (HG.out w1 bb).mono ?_
  rintro e w2 ⟨rfl, b2⟩
  go_wp2_with fail
  go_ret
  exact ⟨rfl, bT bb b2⟩
theorem repsOf_pair {l l' : List MRep} (h : repsOf l' = repsOf l) {k : Nat} {x : MRep} (hx : l[k]? = some x) : ∃ x', l'[k]? = some x' ∧ x'.r = x.r := by
  have := repsOf_get hx
  rw [← h] at this
  exact repsOf_some this
theorem repsOf_eqlen {l l' : List MRep} (h : repsOf l' = repsOf l) : l'.length = l.length := by
  have := congrArg List.length h; rw [repsOf_len, repsOf_len] at this; exact this
set_option maxRecDepth 100000 in
set_option maxHeartbeats 4000000 in
theorem sameBd_walk (wk ep st : Int) (l l' : List MRep) (w : World) (A A' : Option Addr) (n c c' : Nat) (hf : repsOf l' = repsOf l) (hn : l.length = n) (h1 : Reps w w.heap.size A l) (h2 : Reps w w.heap.size A' l') (hl : n * 88 ≤ 140737488355328) (hs : ∀ x ∈ l, x.r.sent.length * 8 ≤ 140737488355328 ∧ x.r.got.length * 8 ≤ 140737488355328) :
    Calls Try.prog 8 #[.agg (boardC wk ep st A n c), .agg (boardC wk ep st A' n c')] w fun e w' => e = .returned (.bool true) ∧ Below w.heap.size w w' := by
  have HL := hid hn
  have HL' := hid ((repsOf_eqlen hf).trans hn)
  have HF := hid hf
  clear hn hf
  unfold boardC
  go_enter Try.func8, Try.ntmps8
  go_wp2_with fail
  go_loopw [5] (fun i wr => ∃ k : Nat, k ≤ n ∧ i = .int .i64 k ∧ Below (w.heap.size + 2) ((w.alloc (.cells #[.int .i64 wk, .int .i64 ep, .int .i64 st, .slice A n c] 24)).alloc (.cells #[.int .i64 wk, .int .i64 ep, .int .i64 st, .slice A' n c'] 24)) wr) (fun i _ => n - (intOf i).toNat)
  case atStart => exact ⟨0, by omega, rfl, Below.refl _ _⟩
  case round =>
    obtain ⟨k, hk, rfl, hbel⟩ := hrel
    have p0 : wr.cell? ⟨w.heap.size, 3, none⟩ = some (.slice A n c) := by rw [hbel.cell (p := ⟨w.heap.size, 3, none⟩) (by simp)]; go_simp
    have p1 : wr.cell? ⟨w.heap.size + 1, 3, none⟩ = some (.slice A' n c') := by rw [hbel.cell (p := ⟨w.heap.size + 1, 3, none⟩) (by simp)]; go_simp
    have b0 : Below w.heap.size w wr := (bA (bA (Below.refl w.heap.size w) _) _).trans (hbel.mono (by omega))
    have hzr : w.heap.size + 2 ≤ wr.heap.size := by have := hbel.size; simpa using this
    have HB := hid hbel
    clear hbel
    by_cases hlt : k < n
    · obtain ⟨x, hx⟩ : ∃ x, l[k]? = some x := ⟨_, List.getElem?_eq_getElem (by rw [HL.out]; exact hlt)⟩
      obtain ⟨x', hx', hxx⟩ := repsOf_pair HF.out hx
      obtain ⟨b, off, rfl, hb, c0, c1, c2, c3, c4, c5, c6⟩ := rep_cells (h1.1.below b0) rfl hx
      obtain ⟨b', off', rfl, hb', d0, d1, d2, d3, d4, d5, d6⟩ := rep_cells (h2.1.below b0) rfl hx'
      have hlen := hs x (List.mem_of_getElem? hx)
      have hd1 := Reps.data h1 (List.mem_of_getElem? hx)
      have hd2 := Reps.data h2 (List.mem_of_getElem? hx')
      have HSR := hid (fun (V : World) (hV : Below wr.heap.size wr V) => sameRep_walk x x' V hxx ⟨rdb hd1.1 (by decide) (bT b0 hV), rdb hd1.2 (by decide) (bT b0 hV)⟩ ⟨rdb hd2.1 (by decide) (bT b0 hV), rdb hd2.2 (by decide) (bT b0 hV)⟩ hlen.1 hlen.2)
      rw [hxx] at d0 d1 d2 d3 d4 d5 d6
      unfold repC at HSR
      rw [hxx] at HSR
      have HK : Hid (∀ V, Below wr.heap.size wr V → V.cell? ⟨w.heap.size, 3, none⟩ = some (.slice (some ⟨b, off, none⟩) n c) ∧ V.cell? ⟨w.heap.size + 1, 3, none⟩ = some (.slice (some ⟨b', off', none⟩) n c') ∧ V.cell? ⟨b, off + k * 7, none⟩ = some (.int .i64 x.r.worker) ∧ V.cell? ⟨b, off + k * 7 + 1, none⟩ = some (.int .i64 x.r.epoch) ∧ V.cell? ⟨b, off + k * 7 + 2, none⟩ = some (.int .i64 x.r.step) ∧ V.cell? ⟨b, off + k * 7 + 3, none⟩ = some (.slice x.A x.r.sent.length x.c) ∧ V.cell? ⟨b, off + k * 7 + 4, none⟩ = some (.slice x.A' x.r.got.length x.c') ∧ V.cell? ⟨b, off + k * 7 + 5, none⟩ = some (.int .i64 x.r.waking) ∧ V.cell? ⟨b, off + k * 7 + 6, none⟩ = some (.int .i64 x.r.opn) ∧ V.cell? ⟨b', off' + k * 7, none⟩ = some (.int .i64 x.r.worker) ∧ V.cell? ⟨b', off' + k * 7 + 1, none⟩ = some (.int .i64 x.r.epoch) ∧ V.cell? ⟨b', off' + k * 7 + 2, none⟩ = some (.int .i64 x.r.step) ∧ V.cell? ⟨b', off' + k * 7 + 3, none⟩ = some (.slice x'.A x.r.sent.length x'.c) ∧ V.cell? ⟨b', off' + k * 7 + 4, none⟩ = some (.slice x'.A' x.r.got.length x'.c') ∧ V.cell? ⟨b', off' + k * 7 + 5, none⟩ = some (.int .i64 x.r.waking) ∧ V.cell? ⟨b', off' + k * 7 + 6, none⟩ = some (.int .i64 x.r.opn)) := hid fun V hV => ⟨keepb hV p0, keepb hV p1, keepb hV c0, keepb hV c1, keepb hV c2, keepb hV c3, keepb hV c4, keepb hV c5, keepb hV c6, keepb hV d0, keepb hV d1, keepb hV d2, keepb hV d3, keepb hV d4, keepb hV d5, keepb hV d6⟩
      have HD := hid (fun m => below_drewN (Below.refl wr.heap.size wr) m)
      have z1 : (k : Int) < n := by omega
      clear hx hx' hxx hd1 hd2 hlen hs
      go_wp2_with fail
      refine wp_region_held_drew (S := (fun V => V.cell? ⟨w.heap.size, 3, none⟩ = some (.slice (some ⟨b, off, none⟩) n c) ∧ V.cell? ⟨w.heap.size + 1, 3, none⟩ = some (.slice (some ⟨b', off', none⟩) n c') ∧ V.cell? ⟨b, off + k * 7, none⟩ = some (.int .i64 x.r.worker) ∧ V.cell? ⟨b, off + k * 7 + 1, none⟩ = some (.int .i64 x.r.epoch) ∧ V.cell? ⟨b, off + k * 7 + 2, none⟩ = some (.int .i64 x.r.step) ∧ V.cell? ⟨b, off + k * 7 + 3, none⟩ = some (.slice x.A x.r.sent.length x.c) ∧ V.cell? ⟨b, off + k * 7 + 4, none⟩ = some (.slice x.A' x.r.got.length x.c') ∧ V.cell? ⟨b, off + k * 7 + 5, none⟩ = some (.int .i64 x.r.waking) ∧ V.cell? ⟨b, off + k * 7 + 6, none⟩ = some (.int .i64 x.r.opn) ∧ V.cell? ⟨b', off' + k * 7, none⟩ = some (.int .i64 x.r.worker) ∧ V.cell? ⟨b', off' + k * 7 + 1, none⟩ = some (.int .i64 x.r.epoch) ∧ V.cell? ⟨b', off' + k * 7 + 2, none⟩ = some (.int .i64 x.r.step) ∧ V.cell? ⟨b', off' + k * 7 + 3, none⟩ = some (.slice x'.A x.r.sent.length x'.c) ∧ V.cell? ⟨b', off' + k * 7 + 4, none⟩ = some (.slice x'.A' x.r.got.length x'.c') ∧ V.cell? ⟨b', off' + k * 7 + 5, none⟩ = some (.int .i64 x.r.waking) ∧ V.cell? ⟨b', off' + k * 7 + 6, none⟩ = some (.int .i64 x.r.opn))) (by kernel_rfl) (HK.out _ (HD.out 1)) (fun hHeld => ?_)
      refine wpAnyH_take (i := 0) (v := ?vr1_0) rfl (by kernel_rfl) (by kernel_rfl) (by kernel_rfl) (fun _ _ _ h => h) (Or.inl ⟨by rfl, ?hyr1_0⟩) (by assumption) ?restr1_0
      case hyr1_0 => (intro w hSw; (try dsimp only at hSw); go_simp; (all_goals with_reducible rfl))
      try simp only [Act.put, List.setIfInBounds_toArray, List.set_cons_zero, List.set_cons_succ, List.getElem_toArray, List.getElem_cons_succ, List.getElem_cons_zero]
      refine wpAnyH_take (i := 1) (v := ?vr1_1) rfl (by kernel_rfl) (by kernel_rfl) (by kernel_rfl) (fun _ _ _ h => h) (Or.inl ⟨by rfl, ?hyr1_1⟩) (by assumption) ?restr1_1
      case hyr1_1 => (intro w hSw; (try dsimp only at hSw); go_simp; (all_goals with_reducible rfl))
      try simp only [Act.put, List.setIfInBounds_toArray, List.set_cons_zero, List.set_cons_succ, List.getElem_toArray, List.getElem_cons_succ, List.getElem_cons_zero]
      refine wpAnyH_take (i := 2) (v := ?vr1_2) rfl (by kernel_rfl) (by kernel_rfl) (by kernel_rfl) (fun _ _ _ h => h) (Or.inl ⟨by rfl, ?hyr1_2⟩) (by assumption) ?restr1_2
      case hyr1_2 => (intro w hSw; (try dsimp only at hSw); go_simp; (all_goals with_reducible rfl))
      try simp only [Act.put, List.setIfInBounds_toArray, List.set_cons_zero, List.set_cons_succ, List.getElem_toArray, List.getElem_cons_succ, List.getElem_cons_zero]
      refine wpAnyH_take (i := 3) (v := ?vr1_3) rfl (by kernel_rfl) (by kernel_rfl) (by kernel_rfl) (fun _ _ _ h => h) (Or.inl ⟨by rfl, ?hyr1_3⟩) (by assumption) ?restr1_3
      case hyr1_3 => (intro w hSw; (try dsimp only at hSw); go_simp; (all_goals with_reducible rfl))
      try simp only [Act.put, List.setIfInBounds_toArray, List.set_cons_zero, List.set_cons_succ, List.getElem_toArray, List.getElem_cons_succ, List.getElem_cons_zero]
      refine wpAnyH_take (i := 4) (v := ?vr1_4) rfl (by kernel_rfl) (by kernel_rfl) (by kernel_rfl) (fun _ _ _ h => h) (Or.inl ⟨by rfl, ?hyr1_4⟩) (by assumption) ?restr1_4
      case hyr1_4 => (intro w hSw; (try dsimp only at hSw); go_simp; (all_goals with_reducible rfl))
      try simp only [Act.put, List.setIfInBounds_toArray, List.set_cons_zero, List.set_cons_succ, List.getElem_toArray, List.getElem_cons_succ, List.getElem_cons_zero]
      refine wpAnyH_take (i := 5) (v := ?vr1_5) rfl (by kernel_rfl) (by kernel_rfl) (by kernel_rfl) (fun _ _ _ h => h) (Or.inl ⟨by rfl, ?hyr1_5⟩) (by assumption) ?restr1_5
      case hyr1_5 => (intro w hSw; (try dsimp only at hSw); go_simp; (all_goals with_reducible rfl))
      try simp only [Act.put, List.setIfInBounds_toArray, List.set_cons_zero, List.set_cons_succ, List.getElem_toArray, List.getElem_cons_succ, List.getElem_cons_zero]
      refine wpAnyH_take (i := 6) (v := ?vr1_6) rfl (by kernel_rfl) (by kernel_rfl) (by kernel_rfl) (fun _ _ _ h => h) (Or.inl ⟨by rfl, ?hyr1_6⟩) (by assumption) ?restr1_6
      case hyr1_6 => (intro w hSw; (try dsimp only at hSw); go_simp; (all_goals with_reducible rfl))
      try simp only [Act.put, List.setIfInBounds_toArray, List.set_cons_zero, List.set_cons_succ, List.getElem_toArray, List.getElem_cons_succ, List.getElem_cons_zero]
      refine wpAnyH_take (i := 7) (v := ?vr1_7) rfl (by kernel_rfl) (by kernel_rfl) (by kernel_rfl) (fun _ _ _ h => h) (Or.inl ⟨by rfl, ?hyr1_7⟩) (by assumption) ?restr1_7
      case hyr1_7 => (intro w hSw; (try dsimp only at hSw); go_simp; (all_goals with_reducible rfl))
      try simp only [Act.put, List.setIfInBounds_toArray, List.set_cons_zero, List.set_cons_succ, List.getElem_toArray, List.getElem_cons_succ, List.getElem_cons_zero]
      refine wpAnyH_take (i := 8) (v := ?vr1_8) rfl (by kernel_rfl) (by kernel_rfl) (by kernel_rfl) (fun _ _ _ h => h) (Or.inl ⟨by rfl, ?hyr1_8⟩) (by assumption) ?restr1_8
      case hyr1_8 => (intro w hSw; (try dsimp only at hSw); go_simp; (all_goals with_reducible rfl))
      try simp only [Act.put, List.setIfInBounds_toArray, List.set_cons_zero, List.set_cons_succ, List.getElem_toArray, List.getElem_cons_succ, List.getElem_cons_zero]
      refine wpAnyH_take (i := 9) (v := ?vr1_9) rfl (by kernel_rfl) (by kernel_rfl) (by kernel_rfl) (fun _ _ _ h => h) (Or.inl ⟨by rfl, ?hyr1_9⟩) (by assumption) ?restr1_9
      case hyr1_9 => (intro w hSw; (try dsimp only at hSw); go_simp; (all_goals with_reducible rfl))
      try simp only [Act.put, List.setIfInBounds_toArray, List.set_cons_zero, List.set_cons_succ, List.getElem_toArray, List.getElem_cons_succ, List.getElem_cons_zero]
      refine wpAnyH_ready (rs := [10]) (by kernel_rfl) (by simp) ?_
      refine AllReadyH.cons rfl (fun K hK => ?_) AllReadyH.nil
      go_simp
      go_at_call 14
      refine (HSR.out _ (HD.out 1)).mono ?_
      rintro e w3 ⟨rfl, b3⟩
      have BB := bT (HD.out 1) b3
      go_wp2_with fail
      refine hK.out _ _ (HK.out _ BB) (fun hHeld => ?_)
      clear hK K
      refine wpAnyH_take (i := 11) (v := ?vr1_11) rfl (by kernel_rfl) (by kernel_rfl) (by kernel_rfl) (fun _ _ _ h => h) (Or.inl ⟨by rfl, ?hyr1_11⟩) (by assumption) ?restr1_11
      case hyr1_11 => (intro w hSw; (try dsimp only at hSw); go_simp; (all_goals with_reducible rfl))
      try simp only [Act.put, List.setIfInBounds_toArray, List.set_cons_zero, List.set_cons_succ, List.getElem_toArray, List.getElem_cons_succ, List.getElem_cons_zero]
      refine wpAnyH_done (by kernel_rfl) ?_ _
      go_wp2_with fail
      go_roundw
      case rel => exact ⟨k + 1, by omega, by go_num, HB.out.trans (BB.mono hzr)⟩
      case measure => simp [intOf]; omega
    · go_wp2_with fail
      go_ret
      exact ⟨rfl, b0⟩
/-- The copy under way: the box, the result's cells, the copy's. -/
def BcW (wk ep st : Int) (A : Option Addr) (n c : Nat) (A' : Option Addr) (k c' G : Nat) (w : World) : Prop :=
  (w.cell? ⟨G, 0, none⟩ = some (.int .i64 wk) ∧ w.cell? ⟨G, 1, none⟩ = some (.int .i64 ep) ∧ w.cell? ⟨G, 2, none⟩ = some (.int .i64 st) ∧ w.cell? ⟨G, 3, none⟩ = some (.slice A n c)) ∧
  (w.cell? ⟨G + 1, 0, none⟩ = some (.int .i64 0) ∧ w.cell? ⟨G + 1, 1, none⟩ = some (.int .i64 0) ∧ w.cell? ⟨G + 1, 2, none⟩ = some (.int .i64 0) ∧ w.cell? ⟨G + 1, 3, none⟩ = some (.slice none 0 0) ∧ ∀ o, w.frozen? ⟨G + 1, o, none⟩ = false) ∧
  (w.cell? ⟨G + 2, 0, none⟩ = some (.int .i64 wk) ∧ w.cell? ⟨G + 2, 1, none⟩ = some (.int .i64 ep) ∧ w.cell? ⟨G + 2, 2, none⟩ = some (.int .i64 st) ∧ w.cell? ⟨G + 2, 3, none⟩ = some (.slice A' k c') ∧ ∀ o, w.frozen? ⟨G + 2, o, none⟩ = false) ∧ G + 3 ≤ w.heap.size
theorem BcW.keep {wk ep st : Int} {A A' : Option Addr} {n c k c' G B : Nat} {w w' : World} (h : BcW wk ep st A n c A' k c' G w) (hB : G + 3 ≤ B) (hb : Below B w w') : BcW wk ep st A n c A' k c' G w' := by
  have kc : ∀ (g o : Nat), g < G + 3 → w'.cell? ⟨g, o, none⟩ = w.cell? ⟨g, o, none⟩ := fun g o hg => hb.cell (p := ⟨g, o, none⟩) (show g < B by omega)
  have kf : ∀ (g o : Nat), g < G + 3 → w'.frozen? ⟨g, o, none⟩ = w.frozen? ⟨g, o, none⟩ := fun g o hg => hb.frozen (p := ⟨g, o, none⟩) (show g < B by omega)
  obtain ⟨⟨a0, a1, a2, a3⟩, ⟨z0, z1, z2, z3, zf⟩, ⟨q0, q1, q2, q3, qf⟩, hs⟩ := h
  refine ⟨⟨?_, ?_, ?_, ?_⟩, ⟨?_, ?_, ?_, ?_, fun o => ?_⟩, ⟨?_, ?_, ?_, ?_, fun o => ?_⟩, Nat.le_trans hs hb.size⟩
  all_goals (first | rw [kc _ _ (by omega)] | rw [kf _ _ (by omega)])
  all_goals (first | assumption | exact zf o | exact qf o)
theorem BcW.store {wk ep st : Int} {A A' A2 : Option Addr} {n c k c' k2 c2 G : Nat} {w : World} (h : BcW wk ep st A n c A' k c' G w) : BcW wk ep st A n c A2 k2 c2 G (w.setCell ⟨G + 2, 3, none⟩ (.slice A2 k2 c2)) := by
  obtain ⟨⟨a0, a1, a2, a3⟩, ⟨z0, z1, z2, z3, zf⟩, ⟨q0, q1, q2, q3, qf⟩, hs⟩ := h
  refine ⟨⟨?_, ?_, ?_, ?_⟩, ⟨?_, ?_, ?_, ?_, fun o => by simpa using zf o⟩, ⟨?_, ?_, ?_, World.cell?_setCell_same _ _ _ q3, fun o => by simpa using qf o⟩, by simpa using hs⟩
  all_goals (refine (World.cell?_setCell_other _ _ _ _ (by simp)).trans ?_; assumption)
def BdsRel (wk ep st : Int) (A : Option Addr) (c : Nat) (l : List MRep) (w : World) (i : Value) (wr : World) : Prop :=
  ∃ (k c' : Nat) (A' : Option Addr) (acc : List MRep), k ≤ l.length ∧ i = .int .i64 k ∧ Hid (acc.length = k) ∧ Hid (repsOf acc = (repsOf l).take k) ∧ Heaped MRep.cells MRep.parts wr (w.heap.size + 3) 33 7 A' c' acc ∧ BcW wk ep st A l.length c A' k c' w.heap.size wr ∧ Below w.heap.size w wr
set_option maxRecDepth 100000 in
set_option maxHeartbeats 4000000 in
theorem boards_walk (wk ep st : Int) (A : Option Addr) (c : Nat) (l : List MRep) (w : World) (hr : Reps w w.heap.size A l) (hn : l.length * 88 ≤ 140737488355328) (hs : ∀ x ∈ l, x.r.sent.length * 8 ≤ 140737488355328 ∧ x.r.got.length * 8 ≤ 140737488355328) :
    Calls Try.prog 5 #[.agg (boardC wk ep st A l.length c)] w fun e w' => ∃ A' c' l', e = .returned (.agg (boardC wk ep st A' l.length c')) ∧ repsOf l' = repsOf l ∧ Heaped MRep.cells MRep.parts w' w.heap.size 33 7 A' c' l' ∧ Below w.heap.size w w' := by
  unfold boardC
  go_enter Try.func5, Try.ntmps5
  go_wp2_with fail
  go_loopw [4] (fun i wr => BdsRel wk ep st A c l w i wr) (fun i _ => l.length - (intOf i).toNat)
  case atStart =>
    refine ⟨0, 0, none, [], by omega, rfl, hid rfl, hid rfl, Heaped.nil, ⟨⟨?_, ?_, ?_, ?_⟩, ⟨?_, ?_, ?_, ?_, fun o => ?_⟩, ⟨?_, ?_, ?_, ?_, fun o => ?_⟩, by simp⟩, bA (bA (bA (Below.refl _ _) _) _) _⟩
    all_goals go_simp
  case round =>
    obtain ⟨k, c', A', acc, hk, rfl, HA, HF, hown, hbc, hbel⟩ := hrel
    have HBC := hid hbc
    obtain ⟨⟨a0, a1, a2, a3⟩, ⟨z0, z1, z2, z3, zf⟩, ⟨q0, q1, q2, q3, qf⟩, hsz⟩ := hbc
    by_cases hlt : k < l.length
    · obtain ⟨x, hx⟩ : ∃ x, l[k]? = some x := ⟨_, List.getElem?_eq_getElem hlt⟩
      have hxm := List.mem_of_getElem? hx
      obtain ⟨b, off, rfl, hb, c0, c1, c2, c3, c4, c5, c6⟩ := rep_cells (hr.1.below hbel) rfl hx
      have hdat := Reps.data hr hxm
      have hlen := hs x hxm
      have hbr : b < wr.heap.size := by omega
      have hkz : (k : Int) < (l.length : Int) := by omega
      have HX := hid (repsOf_get hx)
      have HC := hid (repCopy_walk x wr ⟨rdb hdat.1 (by decide) hbel, rdb hdat.2 (by decide) hbel⟩ hlen.1 hlen.2)
      unfold repC at HC
      clear hx hxm hdat hlen hs
      go_wp2_with fail
      refine HC.out.mono ?_
      rintro e w1 ⟨x', rfl, hxr, o1, o2, b1⟩
      have HW1 := HBC.out.keep hsz b1
      have HXR := hid hxr
      have hown1 := hown.below b1 (Nat.le_refl _)
      rw [hxr]
      have hok1 := hown.ok o1 (Nat.le_refl _) (by omega)
      have hok2 := hown.ok o2 (Nat.le_refl _) (by omega)
      have bb1 := bT hbel b1
      obtain ⟨⟨e0, e1, e2, e3⟩, ⟨y0, y1, y2, y3, yf⟩, ⟨p0, p1, p2, p3, pf⟩, hs1⟩ := id HW1
      have HWW := hid HW1
      have hn1 : (k + 1) * 88 ≤ 140737488355328 := by omega
      have hg0 : w.heap.size < w1.heap.size := by omega
      have hg1 : w.heap.size + 1 < w1.heap.size := by omega
      have hg2 : w.heap.size + 2 < w1.heap.size := by omega
      have hg2n : w.heap.size + 2 ≠ w1.heap.size := by omega
      have HFn : Hid (repsOf (acc ++ [x']) = (repsOf l).take (k + 1)) := hid (by
        rw [take_nextU HX.out]; unfold repsOf at HF ⊢; rw [List.map_append, HF.out, List.map_singleton, HXR.out])
      have hokp : ∀ o o', ∀ p ∈ MRep.parts x', p.ok ((w1.alloc o).alloc o') (w.heap.size + 3) (Value.slice A' acc.length c').ownBlock := fun o o' => by
        refine MRep.mem ?_ ?_
        · rw [HXR.out]; exact (hok1.alloc o).alloc o'
        · rw [HXR.out]; exact (hok2.alloc o).alloc o'
      have hrow : MRep.cells x' = [.int .i64 x.r.worker, .int .i64 x.r.epoch, .int .i64 x.r.step, .slice x'.A x.r.sent.length x'.c, .slice x'.A' x.r.got.length x'.c', .int .i64 x.r.waking, .int .i64 x.r.opn] := by unfold MRep.cells; rw [HXR.out]
      have hhow : ∀ (o : Obj) (w2 : World), Below (w.heap.size + 3) (w1.alloc o) w2 → BcW wk ep st (some ⟨b, off, none⟩) l.length c A' k c' w.heap.size w2 := fun o w2 h2 => HWW.out.keep (Nat.le_refl _) (((Below.refl (w.heap.size + 3) w1).alloc hs1 o).trans h2)
      have p3a : ∀ (cs : Array Value) (t : TypeId), (w1.alloc (.cells cs t)).cell? ⟨w.heap.size + 2, 3, none⟩ = some (.slice A' k c') := fun cs t => keepb (bA (Below.refl w1.heap.size w1) (.cells cs t)) p3
      clear hxr HC c0 c1 c2 c3 c4 c5 c6 a0 a1 a2 a3 z0 z1 z2 z3 zf q0 q1 q2 q3 qf e0 e1 e2 e3 y0 y1 y2 y3 yf p0 p1 p2 p3 pf HW1
      go_wp2_with (at_builtin; refine wp_heap _ rfl rfl el_reports rfl HA.out.symm ((hown1.alloc _).alloc _) x' (hokp _ _) rfl (by rw [hrow]; exact rd_newAt _ _ _ 7 1 _ (by simp) rfl) (one_rep x') hn1 (by simp; omega) ?_; intro A2 c2 w2 hown2 hb2 hg3; have hb3 := ((Below.refl (w.heap.size + 3) _).alloc (by simp; omega) _).trans hb2; obtain ⟨⟨e0, e1, e2, e3⟩, ⟨y0, y1, y2, y3, yf⟩, ⟨p0, p1, p2, p3, pf⟩, hs2⟩ := id (hhow _ _ hb3))
      go_roundw
      case rel => exact ⟨k + 1, c2, A2, acc ++ [x'], by omega, by go_num, hid (by rw [List.length_append, HA.out]; rfl), HFn, hown2.store (by show w.heap.size + 2 < _; omega) _, (hhow _ _ hb3).store, bS ((bA bb1 _).trans (hb3.mono (by omega))) (by show w.heap.size ≤ w.heap.size + 2; omega) _⟩
      case measure => simp [intOf]; omega
    · obtain rfl : k = l.length := by omega
      have HFF : Hid (repsOf acc = repsOf l) := hid (by rw [HF.out, List.take_of_length_le (by rw [repsOf_len]; exact Nat.le_refl _)])
      have hAA := HA.out
      clear HA HF
      go_wp2_with fail
      refine bodyPost_ret (v := .agg #[.int .i64 wk, .int .i64 ep, .int .i64 st, .slice A' l.length c']) (by simp [results, Try.results5, go_sem, *]) rfl ⟨A', c', acc, rfl, HFF.out, ?_, ?_⟩
      · refine Heaped.less (base := w.heap.size + 3) ?_ (by omega)
        repeat (with_reducible refine Heaped.store ?_ (by show w.heap.size + 1 < w.heap.size + 3; omega) _)
        exact hown
      · repeat (with_reducible refine bS ?_ (by simp; try omega) _)
        exact hbel
end Go.Proofs.Ytaipjckcckfnaaa
