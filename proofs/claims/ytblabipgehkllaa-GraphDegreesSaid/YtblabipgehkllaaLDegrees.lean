/- The statement on graph.Degrees. -/
import Derived.Test.YtblabipgehkllaaDegrees
namespace Go.Proofs.Ytblabipgehkllaa
open Go.ChangeShapes Go.WideShapes Go.ChangeAt Go.RowKit
set_option linter.unusedVariables false
theorem degV_len (g : Graph) : (degV g).1.length ≤ 200 := by
  unfold degV
  split
  · rename_i h
    have := (graphV_ok.1 h).1.2.1
    rw [degs_len]; omega
  · simp
set_option maxHeartbeats 1000000 in
theorem law_GraphDegrees (w : World) (g : Graph) (A : Option Addr) (c : Nat) (hn : I64 g.n) (hf : Flat w w.heap.size 24 3 Edge.cells A c g.edges) (hw : ∀ x ∈ g.edges, x.wf) :
    Calls Try.prog 17 #[.agg #[.int .i64 g.n, .slice A g.edges.length c]] w fun e w' => e = .returned (.bool true) ∧ Below w.heap.size w w' := by
  obtain ⟨f1, f2, f3, f4⟩ := hf
  clear hw hn
  have h24 : g.edges.length * 24 ≤ 140737488355328 := by omega
  have hl : g.edges.length ≤ 9223372036854775807 := by omega
  have hv := degV_len g
  have c1 := hid (degrees_walk g)
  have c2 := hid (degreesOf_walk g)
  generalize degV g = z at c1 c2 hv
  obtain ⟨v, r⟩ := z
  simp only at hv
  have b0 := bA (Below.refl w.heap.size w) (.cells #[.int .i64 g.n, .slice A g.edges.length c] 52)
  have r0 := rdb f4 (by decide) b0
  clear f1 f2 f3
  go_enter Try.func17, Try.ntmps17
  go_wp2_with fail
  refine (graphs_copy g _ A c r0 h24).mono ?_
  rintro e w1 ⟨A1, k1, rfl, o1, b1⟩
  have b01 := bT b0 b1
  obtain ⟨hc1, hf1⟩ := bcell b1
  go_wp2_with fail
  refine (c1.out _ A1 k1 (rd_own o1) hl).mono ?_
  rintro e w2 ⟨A2, k2, rfl, o2, b2⟩
  have b02 := bT b01 b2
  have hz1 : w.heap.size < w1.heap.size := by have := b1.size; simp at this; omega
  have hz2 : w.heap.size < w2.heap.size := by have := b2.size; omega
  obtain ⟨hc2, hf2⟩ := bcell b2
  go_wp2_with fail
  refine (c2.out _ A c (rdb f4 (by decide) b02) hl).mono ?_
  rintro e w3 ⟨A3, k3, rfl, o3, b3⟩
  go_wp2_with fail
  refine (sameInts_walk v _ A2 A3 k2 k3 (own_rdb o2 (by decide) b3) (rd_own o3) (by omega)).mono ?_
  rintro e w4 ⟨rfl, b4⟩
  go_wp2_with fail
  go_ret
  exact ⟨rfl, bT (bT b02 b3) b4⟩
end Go.Proofs.Ytblabipgehkllaa
