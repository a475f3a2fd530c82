/- The statements on graph.Reverse. -/
import Derived.Test.YtokbbcjclgnajaaERevR
import Derived.Test.YtokbbcjclgnajaaSameB
namespace Go.Proofs.Ytokbbcjclgnajaa
open Go.ChangeShapes Go.WideShapes Go.ChangeAt Go.RowKit
set_option linter.unusedVariables false
theorem reversedV_len (g : Graph) : (reversedV g).1.edges.length ≤ g.edges.length := by
  unfold reversedV; split
  · simp [zeroG]
  · simp [srtOf_len]
set_option maxRecDepth 100000 in
set_option maxHeartbeats 2000000 in
theorem law_GraphReverses (w : World) (g : Graph) (A : Option Addr) (c : Nat) (hn : I64 g.n) (hf : Flat w w.heap.size 24 3 Edge.cells A c g.edges) (hw : ∀ x ∈ g.edges, x.wf) :
    Calls Try.prog 4 #[.agg #[.int .i64 g.n, .slice A g.edges.length c]] w fun e w' => e = .returned (.bool true) ∧ Below w.heap.size w w' := by
  obtain ⟨f1, f2, f3, f4⟩ := hf
  clear hw hn
  have h24 : g.edges.length * 24 ≤ 140737488355328 := by omega
  have hl : g.edges.length ≤ 9223372036854775807 := by omega
  have hv := reversedV_len g
  have c1 := hid (fun w2 A2 k2 h => reverse_walk g w2 A2 k2 h h24)
  have c2 := hid (fun w2 A2 k2 h => graphReversed_walk g w2 A2 k2 h h24)
  generalize reversedV g = z at c1 c2 hv
  obtain ⟨⟨vn, vl⟩, r⟩ := z
  simp only at hv c1 c2
  have b0 := bA (Below.refl w.heap.size w) (.cells #[.int .i64 g.n, .slice A g.edges.length c] 24)
  have r0 := rdb f4 (by decide) b0
  clear f1 f2 f3
  go_enter Try.func4, Try.ntmps4
  go_wp2_with fail
  refine (graphs_copy g _ A c r0 h24).mono ?_
  rintro e w1 ⟨A1, k1, rfl, o1, b1⟩
  have b01 := bT b0 b1
  have hr1 := rd_own o1
  have j0 : w1.cell? ⟨w.heap.size, 0, none⟩ = some (.int .i64 g.n) := keepb b1 (by go_simp)
  have j1 : w1.cell? ⟨w.heap.size, 1, none⟩ = some (.slice A g.edges.length c) := keepb b1 (by go_simp)
  have bX := bA (Below.refl w1.heap.size w1) (.cells #[.int .i64 g.n, .slice A1 g.edges.length k1] 24)
  have g0 : (w1.alloc (.cells #[.int .i64 g.n, .slice A1 g.edges.length k1] 24)).cell? ⟨w1.heap.size, 0, none⟩ = some (.int .i64 g.n) := by go_simp
  have g1 : (w1.alloc (.cells #[.int .i64 g.n, .slice A1 g.edges.length k1] 24)).cell? ⟨w1.heap.size, 1, none⟩ = some (.slice A1 g.edges.length k1) := by go_simp
  have j0 := keepb bX j0
  have j1 := keepb bX j1
  go_wp2_with fail
  refine (c1.out _ A1 k1 (rdb hr1 (by decide) bX)).mono ?_
  rintro e w2 ⟨A2, k2, rfl, o2, b2⟩
  dsimp only at o2
  have b12 := bT bX b2
  have hr2 := rd_own o2
  have g0 := keepb b2 g0
  have g1 := keepb b2 g1
  have j0 := keepb b2 j0
  have j1 := keepb b2 j1
  have bY := bA (Below.refl w2.heap.size w2) (.cells #[.int .i64 vn, .slice A2 vl.length k2] 24)
  have h0 : (w2.alloc (.cells #[.int .i64 vn, .slice A2 vl.length k2] 24)).cell? ⟨w2.heap.size, 0, none⟩ = some (.int .i64 vn) := by go_simp
  have h1 : (w2.alloc (.cells #[.int .i64 vn, .slice A2 vl.length k2] 24)).cell? ⟨w2.heap.size, 1, none⟩ = some (.slice A2 vl.length k2) := by go_simp
  have g0 := keepb bY g0
  have g1 := keepb bY g1
  have j0 := keepb bY j0
  have j1 := keepb bY j1
  have b0Y := bT (bT b01 b12) bY
  clear o1 o2
  go_wp2_with fail
  refine (c2.out _ A c (rdb f4 (by decide) b0Y)).mono ?_
  rintro e w3 ⟨A3, k3, rfl, o3, b3⟩
  dsimp only at o3
  have hr3 := rd_own o3
  have b23 := bT bY b3
  have g0 := keepb b3 g0
  have g1 := keepb b3 g1
  have j0 := keepb b3 j0
  have j1 := keepb b3 j1
  have h0 := keepb b3 h0
  have h1 := keepb b3 h1
  have bZ := bA (Below.refl w3.heap.size w3) (.cells #[.int .i64 vn, .slice A3 vl.length k3] 24)
  have g0 := keepb bZ g0
  have g1 := keepb bZ g1
  have j0 := keepb bZ j0
  have j1 := keepb bZ j1
  have h0 := keepb bZ h0
  have h1 := keepb bZ h1
  have b0Z := bT (bT b0Y b3) bZ
  clear o3
  go_wp2_with fail
  refine (sameGraph_walk ⟨vn, vl⟩ _ A2 A3 k2 k3 (rdb hr2 (by decide) (bT b23 bZ)) (rdb hr3 (by decide) bZ) (by dsimp only; omega)).mono ?_
  rintro e w4 ⟨rfl, b4⟩
  have g0 := keepb b4 g0
  have g1 := keepb b4 g1
  have j0 := keepb b4 j0
  have j1 := keepb b4 j1
  have b1Z := bT (bT (bT b12 b23) bZ) b4
  go_wp2_with fail
  refine (sameGraph_walk g w4 A1 A k1 c (rdb hr1 (by decide) b1Z) (rdb f4 (by decide) (bT b0Z b4)) (by omega)).mono ?_
  rintro e w5 ⟨rfl, b5⟩
  go_wp2_with fail
  go_ret
  exact ⟨by simp, bT (bT b0Z b4) b5⟩
end Go.Proofs.Ytokbbcjclgnajaa
