/- The statement on store.Build. -/
import Derived.Test.YtifpngjipkmdcaaStoW
import Derived.Test.YtifpngjipkmdcaaStoS
import Derived.Test.YtifpngjipkmdcaaSameB
namespace Go.Proofs.Ytifpngjipkmdcaa
open Go.ChangeShapes Go.WideShapes Go.ChangeAt Go.RowKit
set_option linter.unusedVariables false
set_option linter.unusedSimpArgs false
theorem wrapV_lenS (g : Graph) (a k : Int) : (builtV g a k).1.length ≤ 20020 := by
  unfold builtV
  split
  · simp
  · split
    · simp
    · generalize inkV g a k _ = l
      unfold wrapV wrapB
      have := (pack_len (l.length : Int)).1
      split
      · simp
      · simp only [List.length_append, quad, List.length_cons, List.length_nil]; omega
set_option maxHeartbeats 1000000 in
theorem law_StoreBuilds (w : World) (g : Graph) (A : Option Addr) (c : Nat) (hn : I64 g.n) (hf : Flat w w.heap.size 24 3 Edge.cells A c g.edges) (hw : ∀ x ∈ g.edges, x.wf) (s : Int) (hs : (Lit.int .i64 s).wf = true) (t : Int) (ht : (Lit.int .i64 t).wf = true) :
    Calls Try.prog 7 #[.agg #[.int .i64 g.n, .slice A g.edges.length c], .int .i64 s, .int .i64 t] w fun e w' => e = .returned (.bool true) ∧ Below w.heap.size w w' := by
  obtain ⟨f1, f2, f3, f4⟩ := hf
  clear hw hn hs ht
  have h24 : g.edges.length * 24 ≤ 140737488355328 := by omega
  have hl : g.edges.length ≤ 9223372036854775807 := by omega
  have hv := wrapV_lenS g s t
  have c1 := hid (build_walk g s t)
  have c2 := hid (built_walk g s t)
  generalize builtV g s t = z at c1 c2 hv
  obtain ⟨v, r⟩ := z
  simp only at hv
  have b0 := bA (Below.refl w.heap.size w) (.cells #[.int .i64 g.n, .slice A g.edges.length c] 24)
  have r0 := rdb f4 (by decide) b0
  clear f1 f2 f3
  go_enter Try.func7, Try.ntmps7
  go_wp2_with fail
  refine (graphs_copy g _ A c r0 h24).mono ?_
  rintro e w1 ⟨A1, k1, rfl, o1, b1⟩
  have b01 := bT b0 b1
  obtain ⟨hc1, hf1⟩ := bcell b1
  have hz1 : w.heap.size < w1.heap.size := by have := b1.size; simp at this; omega
  go_wp2_with fail
  have r1 := rdb (rd_own o1) (by decide) (bA (Below.refl w1.heap.size w1) (.cells #[.int .i64 g.n, .slice A1 g.edges.length k1] 24))
  have b1x := bA b01 (.cells #[.int .i64 g.n, .slice A1 g.edges.length k1] 24)
  have k0 : (w1.alloc (.cells #[.int .i64 g.n, .slice A1 g.edges.length k1] 24)).cell? ⟨w1.heap.size, 0, none⟩ = some (.int .i64 g.n) := by go_simp
  have k1' : (w1.alloc (.cells #[.int .i64 g.n, .slice A1 g.edges.length k1] 24)).cell? ⟨w1.heap.size, 1, none⟩ = some (.slice A1 g.edges.length k1) := by go_simp
  have j0 : (w1.alloc (.cells #[.int .i64 g.n, .slice A1 g.edges.length k1] 24)).cell? ⟨w.heap.size, 0, none⟩ = some (.int .i64 g.n) := by
    rw [(bA (Below.refl w1.heap.size w1) _).cell (p := ⟨w.heap.size, 0, none⟩) hz1]; exact keepb b1 (by go_simp)
  have j1 : (w1.alloc (.cells #[.int .i64 g.n, .slice A1 g.edges.length k1] 24)).cell? ⟨w.heap.size, 1, none⟩ = some (.slice A g.edges.length c) := by
    rw [(bA (Below.refl w1.heap.size w1) _).cell (p := ⟨w.heap.size, 1, none⟩) hz1]; exact keepb b1 (by go_simp)
  generalize hW : w1.alloc (.cells #[.int .i64 g.n, .slice A1 g.edges.length k1] 24) = wx at *
  have hzx : w1.heap.size < wx.heap.size := by rw [← hW]; simp
  clear hW
  refine (c1.out wx A1 k1 r1 h24).mono ?_
  rintro e w2 ⟨A2, k2, rfl, o2, b2⟩
  have b02 := bT b1x b2
  have k0 := keepb b2 k0
  have k1' := keepb b2 k1'
  have j0 := keepb b2 j0
  have j1 := keepb b2 j1
  go_wp2_with fail
  refine (c2.out w2 A c (rdb f4 (by decide) b02) h24).mono ?_
  rintro e w3 ⟨A3, k3, rfl, o3, b3⟩
  have b03 := bT b02 b3
  have k0 := keepb b3 k0
  have k1' := keepb b3 k1'
  have j0 := keepb b3 j0
  have j1 := keepb b3 j1
  go_wp2_with fail
  refine (sameBytes_walk v _ A2 A3 _ _ k2 k3 (own_rdb o2 (by decide) b3) (rd_own o3)).mono ?_
  rintro e w4 ⟨rfl, rfl⟩
  go_wp2_with fail
  refine (sameGraph_walk g w3 A1 A k1 c (rdb r1 (by decide) (bT b2 b3)) (rdb f4 (by decide) b03) (by omega)).mono ?_
  rintro e w5 ⟨rfl, b5⟩
  go_wp2_with fail
  go_ret
  exact ⟨rfl, bT b03 b5⟩
end Go.Proofs.Ytifpngjipkmdcaa
