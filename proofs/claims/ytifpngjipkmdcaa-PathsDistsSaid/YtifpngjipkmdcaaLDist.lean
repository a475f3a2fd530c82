/- The statement on paths.Dist. -/
import Derived.Test.YtifpngjipkmdcaaDisW
import Derived.Test.YtifpngjipkmdcaaDistR
import Derived.Test.YtifpngjipkmdcaaSameB
namespace Go.Proofs.Ytifpngjipkmdcaa
open Go.ChangeShapes Go.WideShapes Go.ChangeAt Go.RowKit
set_option linter.unusedVariables false
set_option linter.unusedSimpArgs false
set_option maxHeartbeats 1000000 in
theorem law_PathsDists (w : World) (g : Graph) (A : Option Addr) (c : Nat) (hn : I64 g.n) (hf : Flat w w.heap.size 24 3 Edge.cells A c g.edges) (hw : ∀ x ∈ g.edges, x.wf) (s : Int) (hs : (Lit.int .i64 s).wf = true) :
    Calls Try.prog 3 #[.agg #[.int .i64 g.n, .slice A g.edges.length c], .int .i64 s] w fun e w' => e = .returned (.bool true) ∧ Below w.heap.size w w' := by
  obtain ⟨f1, f2, f3, f4⟩ := hf
  clear hw hn hs
  have h24 : g.edges.length * 24 ≤ 140737488355328 := by omega
  have hl : g.edges.length ≤ 9223372036854775807 := by omega
  have hv := distV_len g s
  have c1 := hid (dist_walk g s)
  have c2 := hid (distOf_walk g s)
  generalize distV g s = z at c1 c2 hv
  obtain ⟨v, r⟩ := z
  simp only at hv
  have b0 := bA (Below.refl w.heap.size w) (.cells #[.int .i64 g.n, .slice A g.edges.length c] 24)
  have r0 := rdb f4 (by decide) b0
  clear f1 f2 f3
  go_enter Try.func3, Try.ntmps3
  go_wp2_with fail
  refine (graphs_copy g _ A c r0 h24).mono ?_
  rintro e w1 ⟨A1, k1, rfl, o1, b1⟩
  have b01 := bT b0 b1
  obtain ⟨hc1, hf1⟩ := bcell b1
  have hz1 : w.heap.size < w1.heap.size := by have := b1.size; simp at this; omega
  go_wp2_with fail
  have r1 := rdb (rd_own o1) (by decide) (bA (Below.refl w1.heap.size w1) (.cells #[.int .i64 g.n, .slice A1 g.edges.length k1] 24))
  have b1x := bA b01 (.cells #[.int .i64 g.n, .slice A1 g.edges.length k1] 24)
  have k0 : (w1.alloc (.cells #[.int .i64 g.n, .slice A1 g.edges.length k1] 24)).cell? ⟨w1.heap.size, 0, none⟩ = some (.int .i64 g.n) := by go_simp
  have k1' : (w1.alloc (.cells #[.int .i64 g.n, .slice A1 g.edges.length k1] 24)).cell? ⟨w1.heap.size, 1, none⟩ = some (.slice A1 g.edges.length k1) := by go_simp
  have j0 : (w1.alloc (.cells #[.int .i64 g.n, .slice A1 g.edges.length k1] 24)).cell? ⟨w.heap.size, 0, none⟩ = some (.int .i64 g.n) := by
    rw [(bA (Below.refl w1.heap.size w1) _).cell (p := ⟨w.heap.size, 0, none⟩) hz1]; exact keepb b1 (by go_simp)
  have j1 : (w1.alloc (.cells #[.int .i64 g.n, .slice A1 g.edges.length k1] 24)).cell? ⟨w.heap.size, 1, none⟩ = some (.slice A g.edges.length c) := by
    rw [(bA (Below.refl w1.heap.size w1) _).cell (p := ⟨w.heap.size, 1, none⟩) hz1]; exact keepb b1 (by go_simp)
  generalize hW : w1.alloc (.cells #[.int .i64 g.n, .slice A1 g.edges.length k1] 24) = wx at *
  have hzx : w1.heap.size < wx.heap.size := by rw [← hW]; simp
  clear hW
  refine (c1.out wx A1 k1 r1 hl).mono ?_
  rintro e w2 ⟨A2, k2, rfl, o2, b2⟩
  have b02 := bT b1x b2
  have k0 := keepb b2 k0
  have k1' := keepb b2 k1'
  have j0 := keepb b2 j0
  have j1 := keepb b2 j1
  go_wp2_with fail
  refine (c2.out w2 A c (rdb f4 (by decide) b02) hl).mono ?_
  rintro e w3 ⟨A3, k3, rfl, o3, b3⟩
  have b03 := bT b02 b3
  have k0 := keepb b3 k0
  have k1' := keepb b3 k1'
  have j0 := keepb b3 j0
  have j1 := keepb b3 j1
  go_wp2_with fail
  refine (sameInts_walk v _ A2 A3 k2 k3 (own_rdb o2 (by decide) b3) (rd_own o3) (by omega)).mono ?_
  rintro e w4 ⟨rfl, b4⟩
  have b04 := bT b03 b4
  have k0 := keepb b4 k0
  have k1' := keepb b4 k1'
  have j0 := keepb b4 j0
  have j1 := keepb b4 j1
  go_wp2_with fail
  refine (sameGraph_walk g w4 A1 A k1 c (rdb r1 (by decide) (bT (bT b2 b3) b4)) (rdb f4 (by decide) b04) (by omega)).mono ?_
  rintro e w5 ⟨rfl, b5⟩
  go_wp2_with fail
  go_ret
  exact ⟨rfl, bT b04 b5⟩
end Go.Proofs.Ytifpngjipkmdcaa
