/- Copies of reports and boards; the comparison of two boards. -/
import Derived.Test.YtaipjckcckfnaaaBoardT
import Derived.Test.YtaipjckcckfnaaaLibG
import Derived.Test.YtaipjckcckfnaaaSame
import Derived.Test.YtaipjckcckfnaaaCopy
namespace Go.Proofs.Ytaipjckcckfnaaa
open Go.ChangeShapes Go.WideShapes Go.ChangeAt Go.RowKit
set_option linter.unusedVariables false
theorem take_nextU {α : Type} {l : List α} {k : Nat} {x : α} (h : l[k]? = some x) : l.take (k + 1) = l.take k ++ [x] := by
  rw [List.take_add_one, h]; rfl
theorem one_cellU (v : Value) (h : v.oneCell' = true) : ∀ u ∈ (#[v] : Array Value).toList, u.oneCell' = true := by
  intro u hu; simp at hu; subst hu; exact h
theorem one_rep (x : MRep) : ∀ u ∈ x.cells, u.oneCell' = true := by
  intro u hu; simp [MRep.cells] at hu; rcases hu with rfl | rfl | rfl | rfl | rfl | rfl | rfl <;> rfl
def NumRel (l : List Int) (w : World) (s i : Value) (wr : World) : Prop :=
  ∃ (k c : Nat) (A : Option Addr), k ≤ l.length ∧ i = .int .i64 k ∧ s = .slice A k c ∧ wr.ownsRow w.heap.size 3 1 (.slice A k c) k ((l.take k).flatMap i64c) ∧ Below w.heap.size w wr
set_option maxHeartbeats 1000000 in
theorem numbers_walk (l : List Int) (w : World) (A : Option Addr) (c : Nat) (hr : Rd w w.heap.size A 1 l.length (l.flatMap i64c)) (hn : l.length * 8 ≤ 140737488355328) :
    Calls Try.prog 19 #[.slice A l.length c] w fun e w' => ∃ A' c', e = .returned (.slice A' l.length c') ∧ w'.ownsRow w.heap.size 3 1 (.slice A' l.length c') l.length (l.flatMap i64c) ∧ Below w.heap.size w w' := by
  generalize hL : l.length = n at *
  have HL := hid hL
  clear hL
  go_enter Try.func19, Try.ntmps19
  go_wp2_with fail
  go_loopw [3, 4] (NumRel l w) (fun _ i _ => n - (intOf i).toNat)
  case atStart => exact ⟨0, 0, none, by omega, rfl, rfl, World.ownsRow_nil _ _ _ _, Below.refl _ _⟩
  case round =>
    obtain ⟨k, c', A', hk, rfl, rfl, hown, hbel⟩ := hrel
    rw [HL.out] at hk
    by_cases hlt : k < n
    · obtain ⟨x, hx⟩ : ∃ x, l[k]? = some x := ⟨_, List.getElem?_eq_getElem (by rw [HL.out]; omega)⟩
      obtain ⟨b, off, rfl, hb, c0⟩ := icellB (hr.below hbel) HL.out hx
      have HT := hid (take_nextU hx)
      have hkz : (k : Int) < (n : Int) := by omega
      clear hx
      go_wp2_with (at_builtin; refine wp_app1 _ rfl rfl el_ints rfl (hown.alloc _) rfl (rd_new _ _ _ 1 1 rfl) (one_cellU _ rfl) (by omega) (Nat.le_trans hbel.size (by simp)) ?_; intro A2 c2 w2 hown2 hb2 hg2)
      go_roundw
      case rel => exact ⟨k + 1, c2, A2, by rw [HL.out]; omega, by go_num, rfl, by rw [HT.out, List.flatMap_append]; exact hown2, (hbel.alloc hbel.size _).trans hb2⟩
      case measure => simp [intOf]; omega
    · obtain rfl : n = k := by omega
      rw [List.take_of_length_le (by rw [HL.out]; omega)] at hown
      go_wp2
      go_ret
      exact ⟨_, _, rfl, hown, hbel⟩
/-- Seven cells of a report's block. -/
def RC (x : MRep) (b : Nat) (w : World) : Prop := w.cell? ⟨b, 0, none⟩ = some (.int .i64 x.r.worker) ∧ w.cell? ⟨b, 1, none⟩ = some (.int .i64 x.r.epoch) ∧ w.cell? ⟨b, 2, none⟩ = some (.int .i64 x.r.step) ∧ w.cell? ⟨b, 3, none⟩ = some (.slice x.A x.r.sent.length x.c) ∧ w.cell? ⟨b, 4, none⟩ = some (.slice x.A' x.r.got.length x.c') ∧ w.cell? ⟨b, 5, none⟩ = some (.int .i64 x.r.waking) ∧ w.cell? ⟨b, 6, none⟩ = some (.int .i64 x.r.opn)
set_option maxRecDepth 100000 in
set_option maxHeartbeats 4000000 in
theorem repCopy_walk (x : MRep) (w : World) (hx : x.rd w w.heap.size) (hs : x.r.sent.length * 8 ≤ 140737488355328) (hg : x.r.got.length * 8 ≤ 140737488355328) :
    Calls Try.prog 11 #[.agg (repC x)] w fun e w' => ∃ x' : MRep, e = .returned (.agg (repC x')) ∧ x'.r = x.r ∧ w'.ownsRow w.heap.size 3 1 (.slice x'.A x.r.sent.length x'.c) x.r.sent.length (x.r.sent.flatMap i64c) ∧ w'.ownsRow w.heap.size 3 1 (.slice x'.A' x.r.got.length x'.c') x.r.got.length (x.r.got.flatMap i64c) ∧ Below w.heap.size w w' := by
  obtain ⟨xA, xc, xA', xc', ⟨worker, epoch, step, sent, got, waking, opn⟩⟩ := x
  unfold repC at *
  obtain ⟨hx1, hx2⟩ := hx
  simp only at *
  obtain ⟨W, hW⟩ : ∃ W, W = (w.alloc (.cells #[.int .i64 worker, .int .i64 epoch, .int .i64 step, .slice xA sent.length xc, .slice xA' got.length xc', .int .i64 waking, .int .i64 opn] 33)).alloc (.cells #[.int .i64 0, .int .i64 0, .int .i64 0, .slice none 0 0, .slice none 0 0, .int .i64 0, .int .i64 0] 33) := ⟨_, rfl⟩
  have bW : Below w.heap.size w W := hW ▸ bA (bA (Below.refl _ _) _) _
  have hWs : W.heap.size = w.heap.size + 2 := by rw [hW]; simp
  have HS := hid (numbers_walk sent W xA xc (rdb hx1 (by decide) bW) hs)
  have q0 : W.cell? ⟨w.heap.size, 0, none⟩ = some (.int .i64 worker) := by rw [hW]; go_simp
  have z0 : W.cell? ⟨w.heap.size + 1, 0, none⟩ = some (.int .i64 0) := by rw [hW]; go_simp
  have q1 : W.cell? ⟨w.heap.size, 1, none⟩ = some (.int .i64 epoch) := by rw [hW]; go_simp
  have z1 : W.cell? ⟨w.heap.size + 1, 1, none⟩ = some (.int .i64 0) := by rw [hW]; go_simp
  have q2 : W.cell? ⟨w.heap.size, 2, none⟩ = some (.int .i64 step) := by rw [hW]; go_simp
  have z2 : W.cell? ⟨w.heap.size + 1, 2, none⟩ = some (.int .i64 0) := by rw [hW]; go_simp
  have q3 : W.cell? ⟨w.heap.size, 3, none⟩ = some (.slice xA sent.length xc) := by rw [hW]; go_simp
  have z3 : W.cell? ⟨w.heap.size + 1, 3, none⟩ = some (.slice none 0 0) := by rw [hW]; go_simp
  have q4 : W.cell? ⟨w.heap.size, 4, none⟩ = some (.slice xA' got.length xc') := by rw [hW]; go_simp
  have z4 : W.cell? ⟨w.heap.size + 1, 4, none⟩ = some (.slice none 0 0) := by rw [hW]; go_simp
  have q5 : W.cell? ⟨w.heap.size, 5, none⟩ = some (.int .i64 waking) := by rw [hW]; go_simp
  have z5 : W.cell? ⟨w.heap.size + 1, 5, none⟩ = some (.int .i64 0) := by rw [hW]; go_simp
  have q6 : W.cell? ⟨w.heap.size, 6, none⟩ = some (.int .i64 opn) := by rw [hW]; go_simp
  have z6 : W.cell? ⟨w.heap.size + 1, 6, none⟩ = some (.int .i64 0) := by rw [hW]; go_simp
  have f1 : ∀ o, W.frozen? ⟨w.heap.size, o, none⟩ = false := fun o => by rw [hW]; go_simp
  have f2 : ∀ o, W.frozen? ⟨w.heap.size + 1, o, none⟩ = false := fun o => by rw [hW]; go_simp
  go_enter Try.func11, Try.ntmps11
  go_wp2_with fail
  rw [← hW]
  clear hW
  refine HS.out.mono ?_
  rintro e w1 ⟨A1, k1, rfl, o1, b1⟩
  have bb1 := bT bW b1
  have p0 : w1.cell? ⟨w.heap.size, 0, none⟩ = some (.int .i64 worker) := keepb b1 q0
  have y0 : w1.cell? ⟨w.heap.size + 1, 0, none⟩ = some (.int .i64 0) := keepb b1 z0
  have p1 : w1.cell? ⟨w.heap.size, 1, none⟩ = some (.int .i64 epoch) := keepb b1 q1
  have y1 : w1.cell? ⟨w.heap.size + 1, 1, none⟩ = some (.int .i64 0) := keepb b1 z1
  have p2 : w1.cell? ⟨w.heap.size, 2, none⟩ = some (.int .i64 step) := keepb b1 q2
  have y2 : w1.cell? ⟨w.heap.size + 1, 2, none⟩ = some (.int .i64 0) := keepb b1 z2
  have p3 : w1.cell? ⟨w.heap.size, 3, none⟩ = some (.slice xA sent.length xc) := keepb b1 q3
  have y3 : w1.cell? ⟨w.heap.size + 1, 3, none⟩ = some (.slice none 0 0) := keepb b1 z3
  have p4 : w1.cell? ⟨w.heap.size, 4, none⟩ = some (.slice xA' got.length xc') := keepb b1 q4
  have y4 : w1.cell? ⟨w.heap.size + 1, 4, none⟩ = some (.slice none 0 0) := keepb b1 z4
  have p5 : w1.cell? ⟨w.heap.size, 5, none⟩ = some (.int .i64 waking) := keepb b1 q5
  have y5 : w1.cell? ⟨w.heap.size + 1, 5, none⟩ = some (.int .i64 0) := keepb b1 z5
  have p6 : w1.cell? ⟨w.heap.size, 6, none⟩ = some (.int .i64 opn) := keepb b1 q6
  have y6 : w1.cell? ⟨w.heap.size + 1, 6, none⟩ = some (.int .i64 0) := keepb b1 z6
  have h1 : ∀ o, w1.frozen? ⟨w.heap.size, o, none⟩ = false := fun o => keepf b1 (f1 o) (by show w.heap.size < W.heap.size; omega)
  have h2 : ∀ o, w1.frozen? ⟨w.heap.size + 1, o, none⟩ = false := fun o => keepf b1 (f2 o) (by show w.heap.size + 1 < W.heap.size; omega)
  have hs1 : w.heap.size + 2 ≤ w1.heap.size := by have := b1.size; omega
  have hs1' : w.heap.size < w1.heap.size := by omega
  have hs1'' : w.heap.size + 1 < w1.heap.size := by omega
  have o1' : (w1.setCell ⟨w.heap.size, 3, none⟩ (.slice A1 sent.length k1)).ownsRow (w.heap.size + 2) 3 1 (.slice A1 sent.length k1) sent.length (sent.flatMap i64c) := ownsRow_setCell_below (own_below (base' := w.heap.size + 2) o1 (Below.refl _ _) (by omega)) (by show w.heap.size < w.heap.size + 2; omega) _
  have bS1 : Below w.heap.size w (w1.setCell ⟨w.heap.size, 3, none⟩ (.slice A1 sent.length k1)) := bS bb1 (by simp) _
  have HG := hid (numbers_walk got (w1.setCell ⟨w.heap.size, 3, none⟩ (.slice A1 sent.length k1)) xA' xc' (rdb hx2 (by decide) bS1) hg)
  clear b1 o1 q0 z0 q1 z1 q2 z2 q3 z3 q4 z4 q5 z5 q6 z6 f1 f2
  go_wp2_with fail
  refine HG.out.mono ?_
  rintro e w2 ⟨A2, k2, rfl, o2, b2⟩
  have r0 : w2.cell? ⟨w.heap.size, 0, none⟩ = some (.int .i64 worker) := keepb b2 (by go_simp)
  have t0 : w2.cell? ⟨w.heap.size + 1, 0, none⟩ = some (.int .i64 0) := keepb b2 (by go_simp)
  have r1 : w2.cell? ⟨w.heap.size, 1, none⟩ = some (.int .i64 epoch) := keepb b2 (by go_simp)
  have t1 : w2.cell? ⟨w.heap.size + 1, 1, none⟩ = some (.int .i64 0) := keepb b2 (by go_simp)
  have r2 : w2.cell? ⟨w.heap.size, 2, none⟩ = some (.int .i64 step) := keepb b2 (by go_simp)
  have t2 : w2.cell? ⟨w.heap.size + 1, 2, none⟩ = some (.int .i64 0) := keepb b2 (by go_simp)
  have r3 : w2.cell? ⟨w.heap.size, 3, none⟩ = some (.slice A1 sent.length k1) := keepb b2 (by go_simp)
  have t3 : w2.cell? ⟨w.heap.size + 1, 3, none⟩ = some (.slice none 0 0) := keepb b2 (by go_simp)
  have r4 : w2.cell? ⟨w.heap.size, 4, none⟩ = some (.slice xA' got.length xc') := keepb b2 (by go_simp)
  have t4 : w2.cell? ⟨w.heap.size + 1, 4, none⟩ = some (.slice none 0 0) := keepb b2 (by go_simp)
  have r5 : w2.cell? ⟨w.heap.size, 5, none⟩ = some (.int .i64 waking) := keepb b2 (by go_simp)
  have t5 : w2.cell? ⟨w.heap.size + 1, 5, none⟩ = some (.int .i64 0) := keepb b2 (by go_simp)
  have r6 : w2.cell? ⟨w.heap.size, 6, none⟩ = some (.int .i64 opn) := keepb b2 (by go_simp)
  have t6 : w2.cell? ⟨w.heap.size + 1, 6, none⟩ = some (.int .i64 0) := keepb b2 (by go_simp)
  have i1 : ∀ o, w2.frozen? ⟨w.heap.size, o, none⟩ = false := fun o => keepf b2 (by simpa using h1 o) (by simp; omega)
  have i2 : ∀ o, w2.frozen? ⟨w.heap.size + 1, o, none⟩ = false := fun o => keepf b2 (by simpa using h2 o) (by simp; omega)
  have bb2 := bT bS1 b2
  have hsz1 : (w1.setCell ⟨w.heap.size, 3, none⟩ (.slice A1 sent.length k1)).heap.size = w1.heap.size := by simp
  have o1'' := own_below (base' := w.heap.size + 2) o1' b2 (Nat.le_refl _)
  have o2' := own_below (base' := w.heap.size + 2) o2 (Below.refl _ _) (by rw [hsz1]; omega)
  have hs2 : w.heap.size + 2 ≤ w2.heap.size := by have := b2.size; rw [hsz1] at this; omega
  have hs2' : w.heap.size < w2.heap.size := by omega
  have hs2'' : w.heap.size + 1 < w2.heap.size := by omega
  clear b2 o1' o2 p0 y0 p1 y1 p2 y2 p3 y3 p4 y4 p5 y5 p6 y6 h1 h2 hsz1
  go_wp2_with fail
  refine bodyPost_ret (v := .agg #[.int .i64 worker, .int .i64 epoch, .int .i64 step, .slice A1 sent.length k1, .slice A2 got.length k2, .int .i64 waking, .int .i64 opn]) (by simp [results, Try.results11, go_sem, *]) rfl ?_
  refine ⟨⟨A1, k1, A2, k2, ⟨worker, epoch, step, sent, got, waking, opn⟩⟩, rfl, rfl, ?_, ?_, ?_⟩
  · refine own_below (base' := w.heap.size) ?_ (Below.refl _ _) (show w.heap.size ≤ w.heap.size + 2 by omega)
    repeat (with_reducible refine ownsRow_setCell_below ?_ (by simp) _)
    exact o1''
  · refine own_below (base' := w.heap.size) ?_ (Below.refl _ _) (show w.heap.size ≤ w.heap.size + 2 by omega)
    repeat (with_reducible refine ownsRow_setCell_below ?_ (by simp) _)
    exact o2'
  · repeat (with_reducible refine bS ?_ (by simp; try omega) _)
    exact bb2
end Go.Proofs.Ytaipjckcckfnaaa
