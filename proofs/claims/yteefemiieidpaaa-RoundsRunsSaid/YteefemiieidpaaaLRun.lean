/- The statement on rounds.Run. -/
import Derived.Test.YteefemiieidpaaaRunW
import Derived.Test.YteefemiieidpaaaLBegin
namespace Go.Proofs.Yteefemiieidpaaa
open Go.ChangeShapes Go.WideShapes Go.ChangeAt Go.RowKit
set_option linter.unusedVariables false
set_option linter.unusedSimpArgs false
theorem small_runF (j : Job) : ∀ (n : Nat) (p : State × Int), SmallS p.1 → SmallS (runF j n p).1
  | 0, _, h => h
  | n + 1, p, h => by
    unfold runF
    split
    · exact small_runF j n _ (small_step h)
    · exact h
theorem small_runV (j : Job) : SmallS (runV j).1 := small_runF j _ _ (small_beg j)
set_option maxRecDepth 100000 in
set_option maxHeartbeats 2000000 in
theorem law_RoundsRuns (w : World) (j : Job) (A : Option Addr) (c : Nat) (hn : I64 j.graph.n) (hf : Flat w w.heap.size 24 3 Edge.cells A c j.graph.edges) (hw : ∀ x ∈ j.graph.edges, x.wf) (hk : I64 j.kind) (hs : I64 j.source) :
    Calls Try.prog 4 #[.agg #[.int .i64 j.graph.n, .slice A j.graph.edges.length c, .int .i64 j.kind, .int .i64 j.source]] w fun e w' => e = .returned (.bool true) ∧ Below w.heap.size w w' := by
  obtain ⟨f1, f2, f3, f4⟩ := hf
  clear hw hn hk hs
  have h24 : j.graph.edges.length * 24 ≤ 140737488355328 := by omega
  have hl : j.graph.edges.length ≤ 9223372036854775807 := by omega
  have hv := small_runV j
  have c1 := hid (run_walk j)
  have c2 := hid (ranOut_walk j)
  have c0 := hid (jobs_copy j)
  generalize runV j = z at c1 c2 hv
  obtain ⟨⟨s1, s2, s3, s4, vs, ml⟩, r⟩ := z
  simp only at hv c1 c2
  obtain ⟨v1, v2, v3⟩ := hv
  dsimp only at v1 v2 v3
  unfold jobVal at c0
  have b0 := bA (Below.refl w.heap.size w) (.cells #[.int .i64 j.graph.n, .slice A j.graph.edges.length c, .int .i64 j.kind, .int .i64 j.source] 26)
  clear f1 f2 f3
  go_enter Try.func4, Try.ntmps4
  go_wp2_with fail
  refine (c0.out _ A c (rdb f4 (by decide) b0) h24).mono ?_
  rintro e w1 ⟨A1, k1, rfl, r1, b1⟩
  obtain ⟨hc1, hf1⟩ := bcell b1
  have b01 := bT b0 b1
  have hz1 : w.heap.size < w1.heap.size := by have := b1.size; simp at this; omega
  go_wp2_with fail
  refine (c1.out _ A1 k1 r1 hl).mono ?_
  rintro e w2 ⟨A2, k2, B2, q2, m2, rfl, hm2, hp2, hq2, b2⟩
  have hr2 := hp2.to
  have hg2 := hq2.grid
  clear hp2 hq2
  dsimp only at hm2 hr2
  have HM2 := hid hm2
  clear hm2
  have b02 := bT b01 b2
  have j0 : w2.cell? ⟨w.heap.size, 0, none⟩ = some (.int .i64 j.graph.n) := keepb b2 (keepb b1 (by go_simp))
  have j1 : w2.cell? ⟨w.heap.size, 1, none⟩ = some (.slice A j.graph.edges.length c) := keepb b2 (keepb b1 (by go_simp))
  have j2 : w2.cell? ⟨w.heap.size, 2, none⟩ = some (.int .i64 j.kind) := keepb b2 (keepb b1 (by go_simp))
  have j3 : w2.cell? ⟨w.heap.size, 3, none⟩ = some (.int .i64 j.source) := keepb b2 (keepb b1 (by go_simp))
  have hz2 : w.heap.size < w2.heap.size := by have := b2.size; omega
  unfold stCells
  go_wp2_with fail
  have bX := bA (Below.refl w2.heap.size w2) (.cells #[.int .i64 s1, .int .i64 s2, .bool s3, .bool s4, .slice A2 vs.length k2, .slice B2 m2.length q2] 30)
  refine (c2.out _ A c (rdb f4 (by decide) (bT b02 bX)) hl).mono ?_
  rintro e w3 ⟨A3, k3, B3, q3, m3, rfl, hm3, hp3, hq3, b3⟩
  have hr3 := hp3.to
  have hg3 := hq3.grid
  clear hp3 hq3
  dsimp only at hm3 hr3
  have HM23 := hid (show lists m3 = lists m2 from hm3.trans HM2.out.symm)
  clear hm3
  have s0 : w3.cell? ⟨w2.heap.size, 0, none⟩ = some (.int .i64 s1) := keepb b3 (by go_simp)
  have s1' : w3.cell? ⟨w2.heap.size, 1, none⟩ = some (.int .i64 s2) := keepb b3 (by go_simp)
  have s2' : w3.cell? ⟨w2.heap.size, 2, none⟩ = some (.bool s3) := keepb b3 (by go_simp)
  have s3' : w3.cell? ⟨w2.heap.size, 3, none⟩ = some (.bool s4) := keepb b3 (by go_simp)
  have s4' : w3.cell? ⟨w2.heap.size, 4, none⟩ = some (.slice A2 vs.length k2) := keepb b3 (by go_simp)
  have s5' : w3.cell? ⟨w2.heap.size, 5, none⟩ = some (.slice B2 m2.length q2) := keepb b3 (by go_simp)
  have hz3 : w2.heap.size < w3.heap.size := by have := b3.size; simp at this; omega
  have b23 := bT bX b3
  have b03 := bT b02 b23
  clear b3 b2 b1
  unfold stCells
  have V1 := hid v1
  have V2 := hid v2
  have V3 := hid v3
  clear v1 v2 v3
  go_wp2_with fail
  have v1 := V1.out
  have v2 := V2.out
  have v3 := V3.out
  have bY := bA (Below.refl w3.heap.size w3) (.cells #[.int .i64 s1, .int .i64 s2, .bool s3, .bool s4, .slice A3 vs.length k3, .slice B3 m3.length q3] 30)
  have hsm := sameState_walk ⟨s1, s2, s3, s4, vs, m2⟩ m3 _ A2 A3 B2 B3 k2 k3 q2 q3 HM23.out (rdb hr2 (by decide) (bT b23 bY)) (rdb hr3 (by decide) bY) (by show vs.length ≤ _; omega) (Grid.b hg2 (by decide) (bT b23 bY)) (Grid.b hg3 (by decide) bY) (by have := lists_len HM2.out; show m2.length ≤ _; omega) (fun x hx => by
    obtain ⟨y, hy, he⟩ := lists_mem HM2.out hx
    rw [← he]; have := v3 y hy; omega)
  simp only [stCells] at hsm
  refine hsm.mono ?_
  rintro e w4 ⟨rfl, b4⟩
  go_wp2_with fail
  go_ret
  exact ⟨by simp, bT b03 (bT bY b4)⟩
end Go.Proofs.Yteefemiieidpaaa
