/- The statement on graph.Check. -/
import Derived.Test.YtblabipgehkllaaGraphRef
namespace Go.Proofs.Ytblabipgehkllaa
open Go.ChangeShapes Go.WideShapes Go.ChangeAt Go.RowKit
set_option linter.unusedVariables false
set_option maxHeartbeats 1000000 in
theorem law_GraphChecks (w : World) (g : Graph) (A : Option Addr) (c : Nat) (hn : I64 g.n) (hf : Flat w w.heap.size 24 3 Edge.cells A c g.edges) (hw : ∀ x ∈ g.edges, x.wf) :
    Calls Try.prog 9 #[.agg #[.int .i64 g.n, .slice A g.edges.length c]] w fun e w' => e = .returned (.bool true) ∧ Below w.heap.size w w' := by
  obtain ⟨f1, f2, f3, f4⟩ := hf
  clear hw hn
  have h24 : g.edges.length * 24 ≤ 140737488355328 := by omega
  have hl : g.edges.length ≤ 9223372036854775807 := by omega
  generalize hG : graphV g = r
  have HG := hid hG
  clear hG f1 f2 f3
  go_enter Try.func9, Try.ntmps9
  go_wp2_with fail
  refine (graphs_copy g _ A c ((f4.alloc (Nat.le_refl _) _).any (by decide)) h24).mono ?_
  rintro e w1 ⟨A1, k1, rfl, o1, b1⟩
  have r1 := rd_own o1
  have r0 := ((f4.alloc (Nat.le_refl _) (.cells #[.int .i64 g.n, .slice A g.edges.length c] 52)).any (by decide)).below b1
  obtain ⟨hc1, hf1⟩ := bcell b1
  go_wp2_with fail
  refine (check_walk g _ A1 k1 r1 hl).mono ?_
  rintro e w2 ⟨rfl, b2⟩
  have r0' := ((r0.any (by decide)).below b2).any (by decide)
  obtain ⟨hc2, hf2⟩ := bcell b2
  have hz1 : w.heap.size < w1.heap.size := by have := b1.size; simp at this; omega
  have hz2 : w.heap.size < w2.heap.size := by have := b2.size; omega
  rw [HG.out]
  go_wp2_with fail
  refine (graphFault_walk g _ A c r0' hl).mono ?_
  rintro e w3 ⟨rfl, b3⟩
  rw [HG.out]
  go_wp2_with fail
  go_ret
  exact ⟨by simp, bT (bT (bT (bA (Below.refl _ _) _) b1) b2) b3⟩
end Go.Proofs.Ytblabipgehkllaa
