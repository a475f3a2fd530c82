/- The statement on board.Ready. -/
import Derived.Test.YtaipjckcckfnaaaBoardX
import Derived.Test.YtaipjckcckfnaaaBoardS
namespace Go.Proofs.Ytaipjckcckfnaaa
open Go.ChangeShapes Go.WideShapes Go.ChangeAt Go.RowKit
set_option linter.unusedVariables false
theorem repsOf_lens {l l' : List MRep} (h : repsOf l' = repsOf l) (hs : ∀ x ∈ l, x.r.sent.length * 8 ≤ 140737488355328 ∧ x.r.got.length * 8 ≤ 140737488355328) : ∀ x ∈ l', x.r.sent.length * 8 ≤ 140737488355328 ∧ x.r.got.length * 8 ≤ 140737488355328 := fun x hx => by
  obtain ⟨i, hi⟩ := List.mem_iff_getElem?.1 hx
  obtain ⟨y, hy, he⟩ := repsOf_pair h.symm hi
  rw [← he]
  exact hs y (List.mem_of_getElem? hy)
set_option maxRecDepth 100000 in
set_option maxHeartbeats 4000000 in
theorem law_BoardReadies (w : World) (x : Board) (A : Option Addr) (c : Nat) (h1 : I64 x.workers) (h2 : I64 x.epoch) (h3 : I64 x.step) (hf : Flat w w.heap.size 88 7 MRep.cells A c x.reps) (hg : ∀ y ∈ x.reps, y.wf w) :
    Calls Try.prog 3 #[.agg #[.int .i64 x.workers, .int .i64 x.epoch, .int .i64 x.step, .slice A x.reps.length c]] w fun e w' => e = .returned (.bool true) ∧ Below w.heap.size w w' := by
  obtain ⟨wk, ep, st, l⟩ := x
  have hr := reps_of hf hg
  have hn : l.length * 88 ≤ 140737488355328 := by
    obtain ⟨f1, f2, _, _⟩ := hf
    simp only at f1; omega
  have hs : ∀ x ∈ l, x.r.sent.length * 8 ≤ 140737488355328 ∧ x.r.got.length * 8 ≤ 140737488355328 := fun x hx => by
    obtain ⟨_, h, _⟩ := hg x hx
    omega
  clear h1 h2 h3 hf hg
  simp only at *
  have b0 := bA (Below.refl w.heap.size w) (.cells #[.int .i64 wk, .int .i64 ep, .int .i64 st, .slice A l.length c] 24)
  have HC := hid (boards_walk wk ep st A c l _ (hr.b b0) hn hs)
  have HR := hid (fun (V : World) (hV : Below w.heap.size w V) => bdReady_walk wk ep st A c l V (hr.b hV) hn hs)
  have HQ := hid (fun A' c' (l' : List MRep) (V : World) (he : repsOf l' = repsOf l) (hv : Reps V V.heap.size A' l') => by
    have := ready_walk wk ep st A' c' l' V hv (by rw [repsOf_eqlen he]; exact hn) (repsOf_lens he hs)
    rw [he, repsOf_eqlen he] at this
    exact this)
  have HS := hid (fun A' c' (l' : List MRep) (V : World) (he : repsOf l' = repsOf l) (hv : Reps V V.heap.size A' l') (hV : Below w.heap.size w V) => sameBd_walk wk ep st l' l V A' A l.length c' c he.symm (repsOf_eqlen he) hv (hr.b hV) hn (repsOf_lens he hs))
  generalize readyV wk ep st (repsOf l) = z at HR HQ
  obtain ⟨z1, z2, z3⟩ := z
  unfold RetIII at HR HQ
  unfold boardC at *
  go_enter Try.func3, Try.ntmps3
  go_wp2_with fail
  refine HC.out.mono ?_
  rintro e w1 ⟨A1, c1, l1, rfl, he, hh, b1⟩
  have hr1 := hh.led
  have bb1 := bT b0 b1
  have bX := bA (Below.refl w1.heap.size w1) (.cells #[.int .i64 wk, .int .i64 ep, .int .i64 st, .slice A1 l.length c1] 24)
  have HK : Hid (∀ V, Below (w1.heap.size + 1) (w1.alloc (.cells #[.int .i64 wk, .int .i64 ep, .int .i64 st, .slice A1 l.length c1] 24)) V → (V.cell? ⟨w.heap.size, 0, none⟩ = some (.int .i64 wk) ∧ V.cell? ⟨w.heap.size, 1, none⟩ = some (.int .i64 ep) ∧ V.cell? ⟨w.heap.size, 2, none⟩ = some (.int .i64 st) ∧ V.cell? ⟨w.heap.size, 3, none⟩ = some (.slice A l.length c)) ∧ V.cell? ⟨w1.heap.size, 0, none⟩ = some (.int .i64 wk) ∧ V.cell? ⟨w1.heap.size, 1, none⟩ = some (.int .i64 ep) ∧ V.cell? ⟨w1.heap.size, 2, none⟩ = some (.int .i64 st) ∧ V.cell? ⟨w1.heap.size, 3, none⟩ = some (.slice A1 l.length c1)) := hid fun V hV => by
    have hz : w.heap.size + 1 ≤ w1.heap.size := by have := b1.size; simpa using this
    have hV' : Below (w1.alloc (.cells #[.int .i64 wk, .int .i64 ep, .int .i64 st, .slice A1 l.length c1] 24)).heap.size (w1.alloc (.cells #[.int .i64 wk, .int .i64 ep, .int .i64 st, .slice A1 l.length c1] 24)) V := by simpa using hV
    have q : ∀ (o : Nat) v, (w.alloc (.cells #[.int .i64 wk, .int .i64 ep, .int .i64 st, .slice A l.length c] 24)).cell? ⟨w.heap.size, o, none⟩ = some v → V.cell? ⟨w.heap.size, o, none⟩ = some v := fun o v h => keepb hV' (keepb bX (keepb b1 h))
    refine ⟨⟨q _ _ ?_, q _ _ ?_, q _ _ ?_, q _ _ ?_⟩, ?_, ?_, ?_, ?_⟩
    all_goals (first | exact keepb hV' (by go_simp) | go_simp)
  have HE := hid he
  have hrX := Reps.b hr1 bX
  have bbX := bT bb1 bX
  have hl1 := repsOf_eqlen he
  have HRX := hid hrX
  clear he hh hrX b1 b0 hr1 bX hr hs
  obtain ⟨⟨q0, q1, q2, q3⟩, p0, p1, p2, p3⟩ := HK.out _ (Below.refl _ _)
  go_wp2_with fail
  refine (HQ.out A1 c1 l1 _ HE.out HRX.out).mono ?_
  rintro e w2 ⟨rfl, b2⟩
  have b2' := b2
  rw [show (w1.alloc (.cells #[.int .i64 wk, .int .i64 ep, .int .i64 st, .slice A1 l.length c1] 24)).heap.size = w1.heap.size + 1 by simp] at b2'
  obtain ⟨⟨q0, q1, q2, q3⟩, p0, p1, p2, p3⟩ := HK.out _ b2'
  have bb2 := bT bbX b2
  go_wp2_with fail
  refine (HR.out w2 bb2).mono ?_
  rintro e w3 ⟨rfl, b3⟩
  have bb3 := bT bb2 b3
  obtain ⟨⟨q0, q1, q2, q3⟩, p0, p1, p2, p3⟩ := HK.out _ (b2'.trans (b3.mono (by have := b2'.size; simpa using this)))
  go_wp2_with fail
  refine (HS.out A1 c1 l1 w3 HE.out (Reps.b HRX.out (bT b2 b3)) bb3).mono ?_
  rintro e w4 ⟨rfl, b4⟩
  go_wp2_with fail
  go_ret
  exact ⟨rfl, bT bb3 b4⟩
end Go.Proofs.Ytaipjckcckfnaaa
