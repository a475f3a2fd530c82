/- The statement on board.Hear. -/
import Derived.Test.YtaipjckcckfnaaaBoardV
import Derived.Test.YtaipjckcckfnaaaLBdReady
namespace Go.Proofs.Ytaipjckcckfnaaa
open Go.ChangeShapes Go.WideShapes Go.ChangeAt Go.RowKit
set_option linter.unusedVariables false
set_option linter.unusedSimpArgs false
def kIf (v : Option (List Report) × Int) (n : Int) : Int := match v.1 with | none => 0 | some _ => n
def RetBd1 (w : World) (a b d : Int) (v : List Report) (r : Int) (e : Ending) (w' : World) : Prop :=
  ∃ (A : Option Addr) (c : Nat) (l : List MRep), repsOf l = v ∧ e = .returned (.tuple #[.agg #[.int .i64 a, .int .i64 b, .int .i64 d, .slice A v.length c], .int .i64 r]) ∧ Reps w' w'.heap.size A l ∧ Below w.heap.size w w'
theorem RetBd.one {w w' : World} {wk ep st : Int} {v : Option (List Report) × Int} {e : Ending} (h : RetBd w wk ep st v e w') : RetBd1 w (kIf v wk) (kIf v ep) (kIf v st) (v.1.getD []) v.2 e w' := by
  obtain ⟨hb, ⟨h1, rfl⟩ | ⟨A, c, l, h1, rfl, h2⟩⟩ := h
  · refine ⟨none, 0, [], by rw [h1]; rfl, ?_, Led.nil, hb⟩
    unfold kIf; rw [h1]; rfl
  · have hl : l.length = (v.1.getD []).length := by rw [h1]; exact (repsOf_len l).symm
    rw [hl]
    refine ⟨A, c, l, by rw [h1]; rfl, ?_, h2, hb⟩
    unfold kIf; rw [h1]
theorem hearV_lens {wk ep st : Int} {l : List Report} {r : Report} {p : Report → Prop} (h : ∀ x ∈ l, p x) (hr : p r) : ((hearV wk ep st l r).1.getD []).length ≤ l.length + 1 ∧ ∀ x ∈ (hearV wk ep st l r).1.getD [], p x := by
  unfold hearV
  split
  · exact ⟨by simp, by simp⟩
  · split
    · exact ⟨by simp, by simp⟩
    · split
      · exact ⟨by simp, by simp⟩
      · refine ⟨by simp, fun x hx => ?_⟩
        simp at hx
        rcases hx with hx | rfl
        · exact h x hx
        · exact hr
set_option maxRecDepth 100000 in
set_option maxHeartbeats 4000000 in
theorem law_BoardHears (w : World) (x : Board) (A : Option Addr) (c : Nat) (h1 : I64 x.workers) (h2 : I64 x.epoch) (h3 : I64 x.step) (hf : Flat w w.heap.size 88 7 MRep.cells A c x.reps) (hg : ∀ y ∈ x.reps, y.wf w) (r : MRep) (hw : r.wf w) :
    Calls Try.prog 4 #[.agg #[.int .i64 x.workers, .int .i64 x.epoch, .int .i64 x.step, .slice A x.reps.length c], .agg #[.int .i64 r.r.worker, .int .i64 r.r.epoch, .int .i64 r.r.step, .slice r.A r.r.sent.length r.c, .slice r.A' r.r.got.length r.c', .int .i64 r.r.waking, .int .i64 r.r.opn]] w fun e w' => e = .returned (.bool true) ∧ Below w.heap.size w w' := by
  obtain ⟨wk, ep, st, l⟩ := x
  have hr := reps_of hf hg
  have hn : (l.length + 1) * 88 ≤ 140737488355328 := by
    obtain ⟨f1, f2, _, _⟩ := hf
    simp only at f1; omega
  have hs : ∀ x ∈ l, x.r.sent.length * 8 ≤ 140737488355328 ∧ x.r.got.length * 8 ≤ 140737488355328 := fun x hx => by
    obtain ⟨_, h, _⟩ := hg x hx
    omega
  have hsr : r.r.sent.length * 8 ≤ 140737488355328 ∧ r.r.got.length * 8 ≤ 140737488355328 := by
    obtain ⟨_, h, _⟩ := hw
    omega
  have hrd := hw.1
  clear h1 h2 h3 hf hg hw
  simp only at *
  have b0 := bA (bA (Below.refl w.heap.size w) (.cells #[.int .i64 wk, .int .i64 ep, .int .i64 st, .slice A l.length c] 24)) (.cells #[.int .i64 r.r.worker, .int .i64 r.r.epoch, .int .i64 r.r.step, .slice r.A r.r.sent.length r.c, .slice r.A' r.r.got.length r.c', .int .i64 r.r.waking, .int .i64 r.r.opn] 33)
  have hn1 : l.length * 88 ≤ 140737488355328 := by omega
  have HC := hid (boards_walk wk ep st A c l _ (hr.b b0) hn1 hs)
  have hrr : ∀ V, Below w.heap.size w V → r.rd V V.heap.size := fun V hV => ⟨rdb hrd.1 (by decide) hV, rdb hrd.2 (by decide) hV⟩
  have HR := hid (fun (V : World) (hV : Below w.heap.size w V) => (bdHeard_walk wk ep st A c l r V (hr.b hV) (hrr V hV) hn hs hsr).mono fun _ _ h => RetBd.one h)
  have HQ := hid (fun A' c' (l' : List MRep) (V : World) (he : repsOf l' = repsOf l) (hv : Reps V V.heap.size A' l') (hV : Below w.heap.size w V) => by
    have := (hear_walk wk ep st A' c' l' r V hv (hrr V hV) (by rw [repsOf_eqlen he]; exact hn) (repsOf_lens he hs) hsr).mono fun _ _ h => RetBd.one h
    rw [he, repsOf_eqlen he] at this
    exact this)
  have HS := hid (fun A' c' (l' : List MRep) (V : World) (he : repsOf l' = repsOf l) (hv : Reps V V.heap.size A' l') (hV : Below w.heap.size w V) => sameBd_walk wk ep st l' l V A' A l.length c' c he.symm (repsOf_eqlen he) hv (hr.b hV) hn1 (repsOf_lens he hs))
  have hv := hearV_lens (wk := wk) (ep := ep) (st := st) (l := repsOf l) (r := r.r) (p := fun x => x.sent.length * 8 ≤ 140737488355328 ∧ x.got.length * 8 ≤ 140737488355328) (fun x hx => by
    obtain ⟨i, hi⟩ := List.mem_iff_getElem?.1 hx
    obtain ⟨y, hy, rfl⟩ := repsOf_some hi
    exact hs y (List.mem_of_getElem? hy)) hsr
  rw [repsOf_len] at hv
  generalize hearV wk ep st (repsOf l) r.r = z at HR HQ hv
  generalize kIf z wk = k1 at HR HQ
  generalize kIf z ep = k2 at HR HQ
  generalize kIf z st = k3 at HR HQ
  generalize z.2 = z2 at HR HQ
  generalize z.1.getD [] = zl at HR HQ hv
  have HSA := hid (fun (l1 l2 : List MRep) A1 A2 c1 c2 (V : World) (h1 : repsOf l1 = zl) (h2 : repsOf l2 = zl) (hv1 : Reps V V.heap.size A1 l1) (hv2 : Reps V V.heap.size A2 l2) => by
    have e1 : l1.length = zl.length := by rw [← h1, repsOf_len]
    have e2 : l2.length = zl.length := by rw [← h2, repsOf_len]
    have := sameBd_walk k1 k2 k3 l1 l2 V A1 A2 zl.length c1 c2 (h2.trans h1.symm) e1 hv1 hv2 (by have := hv.1; omega) (fun x hx => by
      obtain ⟨i, hi⟩ := List.mem_iff_getElem?.1 hx
      have := hv.2 x.r (by rw [← h1]; exact List.mem_of_getElem? (repsOf_get hi))
      exact this)
    exact this)
  clear hv hrr hrd hs hsr
  unfold RetBd1 at HR HQ
  unfold boardC repC at *
  go_enter Try.func4, Try.ntmps4
  go_wp2_with fail
  refine HC.out.mono ?_
  rintro e w1 ⟨A1, c1, l1, rfl, he, hh, b1⟩
  have hr1 := hh.led
  have bb1 := bT b0 b1
  have HE := hid he
  have bX := bA (Below.refl w1.heap.size w1) (.cells #[.int .i64 wk, .int .i64 ep, .int .i64 st, .slice A1 l.length c1] 24)
  have hz1 : w.heap.size + 2 ≤ w1.heap.size := by have := b1.size; simpa using this
  have HK : Hid (∀ V, Below (w1.alloc (.cells #[.int .i64 wk, .int .i64 ep, .int .i64 st, .slice A1 l.length c1] 24)).heap.size (w1.alloc (.cells #[.int .i64 wk, .int .i64 ep, .int .i64 st, .slice A1 l.length c1] 24)) V → (V.cell? ⟨w.heap.size, 0, none⟩ = some (.int .i64 wk) ∧ V.cell? ⟨w.heap.size, 1, none⟩ = some (.int .i64 ep) ∧ V.cell? ⟨w.heap.size, 2, none⟩ = some (.int .i64 st) ∧ V.cell? ⟨w.heap.size, 3, none⟩ = some (.slice A l.length c)) ∧ (V.cell? ⟨w1.heap.size, 0, none⟩ = some (.int .i64 wk) ∧ V.cell? ⟨w1.heap.size, 1, none⟩ = some (.int .i64 ep) ∧ V.cell? ⟨w1.heap.size, 2, none⟩ = some (.int .i64 st) ∧ V.cell? ⟨w1.heap.size, 3, none⟩ = some (.slice A1 l.length c1)) ∧ V.cell? ⟨w.heap.size + 1, 0, none⟩ = some (.int .i64 r.r.worker) ∧ V.cell? ⟨w.heap.size + 1, 1, none⟩ = some (.int .i64 r.r.epoch) ∧ V.cell? ⟨w.heap.size + 1, 2, none⟩ = some (.int .i64 r.r.step) ∧ V.cell? ⟨w.heap.size + 1, 3, none⟩ = some (.slice r.A r.r.sent.length r.c) ∧ V.cell? ⟨w.heap.size + 1, 4, none⟩ = some (.slice r.A' r.r.got.length r.c') ∧ V.cell? ⟨w.heap.size + 1, 5, none⟩ = some (.int .i64 r.r.waking) ∧ V.cell? ⟨w.heap.size + 1, 6, none⟩ = some (.int .i64 r.r.opn) ∧ w1.heap.size < V.heap.size) := hid fun V hV => by
    have q : ∀ (o : Nat) v, ((w.alloc (.cells #[.int .i64 wk, .int .i64 ep, .int .i64 st, .slice A l.length c] 24)).alloc (.cells #[.int .i64 r.r.worker, .int .i64 r.r.epoch, .int .i64 r.r.step, .slice r.A r.r.sent.length r.c, .slice r.A' r.r.got.length r.c', .int .i64 r.r.waking, .int .i64 r.r.opn] 33)).cell? ⟨w.heap.size, o, none⟩ = some v → V.cell? ⟨w.heap.size, o, none⟩ = some v := fun o v h => keepb hV (keepb bX (keepb b1 h))
    have q' : ∀ (o : Nat) v, ((w.alloc (.cells #[.int .i64 wk, .int .i64 ep, .int .i64 st, .slice A l.length c] 24)).alloc (.cells #[.int .i64 r.r.worker, .int .i64 r.r.epoch, .int .i64 r.r.step, .slice r.A r.r.sent.length r.c, .slice r.A' r.r.got.length r.c', .int .i64 r.r.waking, .int .i64 r.r.opn] 33)).cell? ⟨w.heap.size + 1, o, none⟩ = some v → V.cell? ⟨w.heap.size + 1, o, none⟩ = some v := fun o v h => keepb hV (keepb bX (keepb b1 h))
    refine ⟨⟨q _ _ ?_, q _ _ ?_, q _ _ ?_, q _ _ ?_⟩, ⟨keepb hV ?_, keepb hV ?_, keepb hV ?_, keepb hV ?_⟩, q' _ _ ?_, q' _ _ ?_, q' _ _ ?_, q' _ _ ?_, q' _ _ ?_, q' _ _ ?_, q' _ _ ?_, by have := hV.size; simp at this; omega⟩
    all_goals go_simp
  have HRX := hid (Reps.b hr1 bX)
  have bbX := bT bb1 bX
  clear he hh b1 b0 hr1 bX hr
  obtain ⟨⟨q0, q1, q2, q3⟩, ⟨p0, p1, p2, p3⟩, r0, r1, r2, r3, r4, r5, r6, hs0⟩ := HK.out _ (Below.refl _ _)
  go_wp2_with fail
  refine (HQ.out A1 c1 l1 _ HE.out HRX.out bbX).mono ?_
  rintro e w2 ⟨A2, c2, l2, he2, rfl, hr2, b2⟩
  have bb2 := bT bbX b2
  have HE2 := hid he2
  have HR2 := hid hr2
  clear he2 hr2
  have bY := bA (Below.refl w2.heap.size w2) (.cells #[.int .i64 k1, .int .i64 k2, .int .i64 k3, .slice A2 zl.length c2] 24)
  obtain ⟨⟨q0, q1, q2, q3⟩, ⟨p0, p1, p2, p3⟩, r0, r1, r2, r3, r4, r5, r6, hs0⟩ := HK.out _ b2
  have HK2 : Hid (∀ V, Below (w2.alloc (.cells #[.int .i64 k1, .int .i64 k2, .int .i64 k3, .slice A2 zl.length c2] 24)).heap.size (w2.alloc (.cells #[.int .i64 k1, .int .i64 k2, .int .i64 k3, .slice A2 zl.length c2] 24)) V → V.cell? ⟨w2.heap.size, 0, none⟩ = some (.int .i64 k1) ∧ V.cell? ⟨w2.heap.size, 1, none⟩ = some (.int .i64 k2) ∧ V.cell? ⟨w2.heap.size, 2, none⟩ = some (.int .i64 k3) ∧ V.cell? ⟨w2.heap.size, 3, none⟩ = some (.slice A2 zl.length c2) ∧ w2.heap.size < V.heap.size) := hid fun V hV => by
    refine ⟨keepb hV ?_, keepb hV ?_, keepb hV ?_, keepb hV ?_, by have := hV.size; simp at this; omega⟩
    all_goals go_simp
  have h02 : w.heap.size < w2.heap.size := by omega
  have h03 : w.heap.size + 1 < w2.heap.size := by omega
  go_wp2_with fail
  refine (HR.out _ (bT bb2 bY)).mono ?_
  rintro e w3 ⟨A3, c3, l3, he3, rfl, hr3, b3⟩
  have bX3 := bT b2 (bT bY b3)
  have HE3 := hid he3
  have HR3 := hid hr3
  clear he3 hr3
  have bb3 := bT (bT bb2 bY) b3
  have bZ := bA (Below.refl w3.heap.size w3) (.cells #[.int .i64 k1, .int .i64 k2, .int .i64 k3, .slice A3 zl.length c3] 24)
  obtain ⟨⟨q0, q1, q2, q3⟩, ⟨p0, p1, p2, p3⟩, r0, r1, r2, r3, r4, r5, r6, hs0⟩ := HK.out _ bX3
  obtain ⟨s0, s1, s2, s3, hs2⟩ := HK2.out _ b3
  have h04 : w.heap.size < w3.heap.size := by omega
  go_wp2_with fail
  have hcall := HSA.out l2 l3 A2 A3 c2 c3 (w3.alloc (.cells #[.int .i64 k1, .int .i64 k2, .int .i64 k3, .slice A3 zl.length c3] 24)) HE2.out HE3.out (Reps.b HR2.out (bT bY (bT b3 bZ))) (Reps.b HR3.out bZ)
  refine hcall.mono ?_
  rintro e w4 ⟨rfl, b4⟩
  have bX4 := bT bX3 (bT bZ b4)
  have bb4 := bT (bT bb3 bZ) b4
  obtain ⟨⟨q0, q1, q2, q3⟩, ⟨p0, p1, p2, p3⟩, r0, r1, r2, r3, r4, r5, r6, hs0⟩ := HK.out _ bX4
  go_wp2_with fail
  refine (HS.out A1 c1 l1 w4 HE.out (Reps.b HRX.out bX4) bb4).mono ?_
  rintro e w5 ⟨rfl, b5⟩
  go_wp2_with fail
  go_ret
  exact ⟨rfl, bT bb4 b5⟩
end Go.Proofs.Ytaipjckcckfnaaa
