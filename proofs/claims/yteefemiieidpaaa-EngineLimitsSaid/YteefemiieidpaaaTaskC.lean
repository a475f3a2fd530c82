/- The copy of a task; the statement on engine.Check. -/
import Derived.Test.YteefemiieidpaaaTask
namespace Go.Proofs.Yteefemiieidpaaa
open Go.ChangeShapes Go.WideShapes Go.ChangeAt Go.RowKit
set_option linter.unusedVariables false
set_option linter.unusedSimpArgs false
set_option maxHeartbeats 2000000 in
theorem jobs_copyO (j : Job) (w : World) (A : Option Addr) (c : Nat) (hr : Rd w w.heap.size A 3 j.graph.edges.length (j.graph.edges.flatMap Edge.cells)) (hn : j.graph.edges.length * 24 ≤ 140737488355328) :
    Calls Try.prog 8 #[jobVal j A c] w fun e w' => ∃ A' c', e = .returned (jobVal j A' c') ∧ w'.ownsRow w.heap.size 63 3 (.slice A' j.graph.edges.length c') j.graph.edges.length (j.graph.edges.flatMap Edge.cells) ∧ Below w.heap.size w w' := by
  unfold jobVal
  have r0 := ((hr.alloc (Nat.le_refl _) (.cells #[.int .i64 j.graph.n, .slice A j.graph.edges.length c, .int .i64 j.kind, .int .i64 j.source] 26)).alloc (by simp) (.cells #[.int .i64 0, .slice none 0 0, .int .i64 0, .int .i64 0] 26)).any (by decide)
  go_enter Try.func8, Try.ntmps8
  go_wp2_with fail
  refine (graphs_copy j.graph _ A c r0 hn).mono ?_
  rintro e w1 ⟨A1, k1, rfl, o1, b1⟩
  obtain ⟨hc1, hf1⟩ := bcell b1
  have hz1 : w.heap.size + 1 < w1.heap.size := by have := b1.size; simp at this; omega
  have r1 := rd_own o1
  have c0 : w1.cell? ⟨w.heap.size, 0, none⟩ = some (.int .i64 j.graph.n) := by rw [hc1 _ _ (by simp; omega)]; go_simp
  have c1 : w1.cell? ⟨w.heap.size, 1, none⟩ = some (.slice A j.graph.edges.length c) := by rw [hc1 _ _ (by simp; omega)]; go_simp
  have c2 : w1.cell? ⟨w.heap.size, 2, none⟩ = some (.int .i64 j.kind) := by rw [hc1 _ _ (by simp; omega)]; go_simp
  have c3 : w1.cell? ⟨w.heap.size, 3, none⟩ = some (.int .i64 j.source) := by rw [hc1 _ _ (by simp; omega)]; go_simp
  have e0 : w1.cell? ⟨w.heap.size + 1, 0, none⟩ = some (.int .i64 0) := by rw [hc1 _ _ (by simp)]; go_simp
  have e1 : w1.cell? ⟨w.heap.size + 1, 1, none⟩ = some (.slice none 0 0) := by rw [hc1 _ _ (by simp)]; go_simp
  have e2 : w1.cell? ⟨w.heap.size + 1, 2, none⟩ = some (.int .i64 0) := by rw [hc1 _ _ (by simp)]; go_simp
  have e3 : w1.cell? ⟨w.heap.size + 1, 3, none⟩ = some (.int .i64 0) := by rw [hc1 _ _ (by simp)]; go_simp
  go_wp2_with fail
  refine bodyPost_ret (v := .agg #[.int .i64 j.graph.n, .slice A1 j.graph.edges.length k1, .int .i64 j.kind, .int .i64 j.source]) (by simp [results, Try.results8, go_sem, *]) rfl ⟨A1, k1, rfl, ?_, ?_⟩
  · exact (own_more (ownsRow_setCell_below (ownsRow_setCell_below (ownsRow_setCell_below (ownsRow_setCell_below (ownsRow_setCell_below (ownsRow_setCell_below o1 (by simp; omega) _) (by simp; omega) _) (by simp) _) (by simp) _) (by simp) _) (by simp) _) (by simp; omega))
  · exact bS (bS (bS (bS (bS (bS (bT (bA (bA (Below.refl _ _) _) _) b1) (by simp) _) (by simp) _) (by simp) _) (by simp) _) (by simp) _) (by simp) _
set_option maxHeartbeats 2000000 in
theorem tasks_copy (t : Task) (w : World) (A : Option Addr) (c : Nat) (hr : Rd w w.heap.size A 3 t.job.graph.edges.length (t.job.graph.edges.flatMap Edge.cells)) (hn : t.job.graph.edges.length * 24 ≤ 140737488355328) :
    Calls Try.prog 14 #[taskVal t A c] w fun e w' => ∃ A' c', e = .returned (taskVal t A' c') ∧ Rd w' w'.heap.size A' 3 t.job.graph.edges.length (t.job.graph.edges.flatMap Edge.cells) ∧ Below w.heap.size w w' := by
  have b0 := bA (bA (Below.refl w.heap.size w) (.cells #[.int .i64 t.job.graph.n, .slice A t.job.graph.edges.length c, .int .i64 t.job.kind, .int .i64 t.job.source, .int .i64 t.workers, .int .i64 t.every, .int .i64 t.budget] 41)) (.cells #[.int .i64 0, .slice none 0 0, .int .i64 0, .int .i64 0, .int .i64 0, .int .i64 0, .int .i64 0] 41)
  have r0 := rdb hr (by decide) b0
  have hc := hid (jobs_copyO t.job _ A c r0 hn)
  unfold taskVal
  unfold jobVal at hc
  go_enter Try.func14, Try.ntmps14
  go_wp2_with fail
  refine hc.out.mono ?_
  rintro e w1 ⟨A1, k1, rfl, o1, b1⟩
  have c0 : w1.cell? ⟨w.heap.size, 0, none⟩ = some (.int .i64 t.job.graph.n) := keepb b1 (by go_simp)
  have c1 : w1.cell? ⟨w.heap.size, 1, none⟩ = some (.slice A t.job.graph.edges.length c) := keepb b1 (by go_simp)
  have c2 : w1.cell? ⟨w.heap.size, 2, none⟩ = some (.int .i64 t.job.kind) := keepb b1 (by go_simp)
  have c3 : w1.cell? ⟨w.heap.size, 3, none⟩ = some (.int .i64 t.job.source) := keepb b1 (by go_simp)
  have c4 : w1.cell? ⟨w.heap.size, 4, none⟩ = some (.int .i64 t.workers) := keepb b1 (by go_simp)
  have c5 : w1.cell? ⟨w.heap.size, 5, none⟩ = some (.int .i64 t.every) := keepb b1 (by go_simp)
  have c6 : w1.cell? ⟨w.heap.size, 6, none⟩ = some (.int .i64 t.budget) := keepb b1 (by go_simp)
  have e0 : w1.cell? ⟨w.heap.size + 1, 0, none⟩ = some (.int .i64 0) := keepb b1 (by go_simp)
  have e1 : w1.cell? ⟨w.heap.size + 1, 1, none⟩ = some (.slice none 0 0) := keepb b1 (by go_simp)
  have e2 : w1.cell? ⟨w.heap.size + 1, 2, none⟩ = some (.int .i64 0) := keepb b1 (by go_simp)
  have e3 : w1.cell? ⟨w.heap.size + 1, 3, none⟩ = some (.int .i64 0) := keepb b1 (by go_simp)
  have e4 : w1.cell? ⟨w.heap.size + 1, 4, none⟩ = some (.int .i64 0) := keepb b1 (by go_simp)
  have e5 : w1.cell? ⟨w.heap.size + 1, 5, none⟩ = some (.int .i64 0) := keepb b1 (by go_simp)
  have e6 : w1.cell? ⟨w.heap.size + 1, 6, none⟩ = some (.int .i64 0) := keepb b1 (by go_simp)
  have f0 : ∀ o, w1.frozen? ⟨w.heap.size, o, none⟩ = false := fun o => by rw [(bcell b1).2 _ _ (by simp; omega)]; go_simp
  have f1 : ∀ o, w1.frozen? ⟨w.heap.size + 1, o, none⟩ = false := fun o => by rw [(bcell b1).2 _ _ (by simp)]; go_simp
  have hz1 : w.heap.size + 1 < w1.heap.size := by have := b1.size; simp at this; omega
  have hz0 : w.heap.size < w1.heap.size := by omega
  go_wp2_with fail
  refine bodyPost_ret (v := .agg #[.int .i64 t.job.graph.n, .slice A1 t.job.graph.edges.length k1, .int .i64 t.job.kind, .int .i64 t.job.source, .int .i64 t.workers, .int .i64 t.every, .int .i64 t.budget]) (by simp [results, Try.results14, go_sem, *]) rfl ⟨A1, k1, rfl, ?_, ?_⟩
  · refine rd_own (e := 63) (base := w.heap.size + 2) (c := k1) ?_
    repeat (with_reducible refine ownsRow_setCell_below ?_ (by simp; try omega) _)
    exact own_more o1 (by simp)
  · repeat (with_reducible refine bS ?_ (by simp; try omega) _)
    exact bT b0 b1
end Go.Proofs.Yteefemiieidpaaa
