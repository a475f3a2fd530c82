/- The comparisons that the statements end in, second part. -/
import Derived.Test.YtfdaheenigmkmaaDoorDegrees
import Derived.Test.YtfdaheenigmkmaaDoorMem
namespace Go.Proofs.YtfdaheenigmkmaaDoor
open Go.ChangeShapes Go.WideShapes Go.ChangeAt Go.RowKit
set_option linter.unusedVariables false
set_option linter.unusedSimpArgs false
set_option maxHeartbeats 1000000 in
theorem sameGraph_walk (g : Graph) (w : World) (A A' : Option Addr) (c c' : Nat) (h1 : Rd w w.heap.size A 3 g.edges.length (g.edges.flatMap Edge.cells)) (h2 : Rd w w.heap.size A' 3 g.edges.length (g.edges.flatMap Edge.cells)) (hn : g.edges.length ≤ 140737488355328) :
    Calls Tryd.prog 10 #[.agg #[.int .i64 g.n, .slice A g.edges.length c], .agg #[.int .i64 g.n, .slice A' g.edges.length c']] w fun e w' => e = .returned (.bool true) ∧ Below w.heap.size w w' := by
  obtain ⟨gn, l⟩ := g
  simp only at h1 h2 hn ⊢
  generalize hL : l.length = n at *
  have HL := hid hL
  clear hL
  go_enter Tryd.func10, Tryd.ntmps10
  go_wp2_with fail
  go_loopw [5] (fun i wr => ∃ k : Nat, k ≤ n ∧ i = .int .i64 k ∧ Below (w.heap.size + 2) ((w.alloc (.cells #[.int .i64 gn, .slice A n c] 30)).alloc (.cells #[.int .i64 gn, .slice A' n c'] 30)) wr) (fun i _ => n - (intOf i).toNat)
  case atStart => exact ⟨0, by omega, rfl, Below.refl _ _⟩
  case round =>
    obtain ⟨k, hk, rfl, hbel⟩ := hrel
    have p0 : wr.cell? ⟨w.heap.size, 1, none⟩ = some (.slice A n c) := by rw [hbel.cell (p := ⟨w.heap.size, 1, none⟩) (by simp)]; go_simp
    have p1 : wr.cell? ⟨w.heap.size + 1, 1, none⟩ = some (.slice A' n c') := by rw [hbel.cell (p := ⟨w.heap.size + 1, 1, none⟩) (by simp)]; go_simp
    have b0 : Below w.heap.size w wr := (bA (bA (Below.refl w.heap.size w) _) _).trans (hbel.mono (by omega))
    by_cases hlt : k < n
    · obtain ⟨x, hx⟩ : ∃ x, l[k]? = some x := ⟨_, List.getElem?_eq_getElem (by rw [HL.out]; exact hlt)⟩
      obtain ⟨b, off, rfl, hb, c0, c1, c2⟩ := edge_cells (h1.below b0) HL.out hx
      obtain ⟨b', off', rfl, hb', d0, d1, d2⟩ := edge_cells (h2.below b0) HL.out hx
      clear hx
      have z1 : (k : Int) < n := by omega
      go_wp2_with fail
      go_quiet (fail)
      go_wp2_with fail
      go_roundw
      case rel => exact ⟨k + 1, by omega, by go_num, below_drewN hbel _⟩
      case measure => simp [intOf]; omega
    · go_wp2_with fail
      go_ret
      exact ⟨rfl, b0⟩
end Go.Proofs.YtfdaheenigmkmaaDoor
