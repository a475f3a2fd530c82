/- The document's JobFault; the copy of a job; the statement on rounds.Check. -/
import Derived.Test.YteefemiieidpaaaJob
namespace Go.Proofs.Yteefemiieidpaaa
open Go.ChangeShapes Go.WideShapes Go.ChangeAt Go.RowKit
set_option linter.unusedVariables false
set_option linter.unusedSimpArgs false
set_option maxHeartbeats 2000000 in
theorem jobFault_walk (j : Job) (w : World) (A : Option Addr) (c : Nat) (hr : Rd w w.heap.size A 3 j.graph.edges.length (j.graph.edges.flatMap Edge.cells)) (hl : j.graph.edges.length ≤ 9223372036854775807) :
    Calls Try.prog 26 #[jobVal j A c] w fun e w' => e = .returned (.int .i64 (jobV j)) ∧ Below w.heap.size w w' := by
  unfold jobVal
  have r0 := (hr.alloc (Nat.le_refl _) (.cells #[.int .i64 j.graph.n, .slice A j.graph.edges.length c, .int .i64 j.kind, .int .i64 j.source] 26)).any (by decide)
  rcases graphV_cases j.graph with h0 | h1
  · obtain ⟨hn0, hn1⟩ := graphV_n h0
    have hcase : (inB j.kind 1 3 = false ∧ jobV j = 3) ∨ (inB j.kind 1 3 = true ∧ (j.kind == 1) = true ∧ inB j.source 0 (j.graph.n - 1) = false ∧ jobV j = 2) ∨ (inB j.kind 1 3 = true ∧ (j.kind == 1) = true ∧ inB j.source 0 (j.graph.n - 1) = true ∧ jobV j = 0) ∨ (inB j.kind 1 3 = true ∧ (j.kind == 1) = false ∧ jobV j = 0) := by
      unfold jobV
      rw [if_neg (by simp [h0])]
      by_cases hk : 1 ≤ j.kind ∧ j.kind ≤ 3
      · rw [if_neg (by simp [hk]), inB_yes hk]
        by_cases he : j.kind = 1
        · by_cases hs : 0 ≤ j.source ∧ j.source < j.graph.n
          · rw [if_neg (by simp [hs]), inB_yes (by omega)]; simp [he]
          · rw [if_pos ⟨he, hs⟩, inB_no (by omega)]; simp [he]
        · rw [if_neg (by simp [he])]; simp [he]
      · rw [if_pos hk, inB_no hk]; simp
    have H0 := hid h0
    clear h0
    rcases hcase with ⟨i1, hv⟩ | ⟨i1, i2, i3, hv⟩ | ⟨i1, i2, i3, hv⟩ | ⟨i1, i2, hv⟩
    all_goals
      have HV := hid hv
      clear hv
      go_enter Try.func26, Try.ntmps26
      go_wp2_with fail
      refine (graphFault_walk j.graph _ A c r0 hl).mono ?_
      rintro e w1 ⟨rfl, b1⟩
      rw [H0.out]
      obtain ⟨hc1, hf1⟩ := bcell b1
      go_wp2_with (go_at_call 52; refine (In_walk _ _ _ _).mono ?_; rintro e w' ⟨rfl, rfl⟩)
      go_ret
      rw [HV.out]
      exact ⟨rfl, bT (bA (Below.refl _ _) _) b1⟩
  · have hne : graphV j.graph ≠ 0 := by omega
    have HV : Hid (jobV j = graphV j.graph) := hid (by unfold jobV; rw [if_pos hne])
    have hb : (graphV j.graph == 0) = false := by simp [hne]
    have hc := hid (graphFault_walk j.graph _ A c r0 hl)
    generalize graphV j.graph = r at *
    clear h1 hne
    go_enter Try.func26, Try.ntmps26
    go_wp2_with fail
    refine hc.out.mono ?_
    rintro e w1 ⟨rfl, b1⟩
    obtain ⟨hc1, hf1⟩ := bcell b1
    go_wp2_with fail
    go_ret
    rw [HV.out]
    exact ⟨rfl, bT (bA (Below.refl _ _) _) b1⟩
theorem jobs_copy (j : Job) (w : World) (A : Option Addr) (c : Nat) (hr : Rd w w.heap.size A 3 j.graph.edges.length (j.graph.edges.flatMap Edge.cells)) (hn : j.graph.edges.length * 24 ≤ 140737488355328) :
    Calls Try.prog 8 #[jobVal j A c] w fun e w' => ∃ A' c', e = .returned (jobVal j A' c') ∧ Rd w' w'.heap.size A' 3 j.graph.edges.length (j.graph.edges.flatMap Edge.cells) ∧ Below w.heap.size w w' := by
  unfold jobVal
  have r0 := ((hr.alloc (Nat.le_refl _) (.cells #[.int .i64 j.graph.n, .slice A j.graph.edges.length c, .int .i64 j.kind, .int .i64 j.source] 26)).alloc (by simp) (.cells #[.int .i64 0, .slice none 0 0, .int .i64 0, .int .i64 0] 26)).any (by decide)
  go_enter Try.func8, Try.ntmps8
  go_wp2_with fail
  refine (graphs_copy j.graph _ A c r0 hn).mono ?_
  rintro e w1 ⟨A1, k1, rfl, o1, b1⟩
  obtain ⟨hc1, hf1⟩ := bcell b1
  have hz1 : w.heap.size + 1 < w1.heap.size := by have := b1.size; simp at this; omega
  have r1 := rd_own o1
  have c0 : w1.cell? ⟨w.heap.size, 0, none⟩ = some (.int .i64 j.graph.n) := by rw [hc1 _ _ (by simp; omega)]; go_simp
  have c1 : w1.cell? ⟨w.heap.size, 1, none⟩ = some (.slice A j.graph.edges.length c) := by rw [hc1 _ _ (by simp; omega)]; go_simp
  have c2 : w1.cell? ⟨w.heap.size, 2, none⟩ = some (.int .i64 j.kind) := by rw [hc1 _ _ (by simp; omega)]; go_simp
  have c3 : w1.cell? ⟨w.heap.size, 3, none⟩ = some (.int .i64 j.source) := by rw [hc1 _ _ (by simp; omega)]; go_simp
  have e0 : w1.cell? ⟨w.heap.size + 1, 0, none⟩ = some (.int .i64 0) := by rw [hc1 _ _ (by simp)]; go_simp
  have e1 : w1.cell? ⟨w.heap.size + 1, 1, none⟩ = some (.slice none 0 0) := by rw [hc1 _ _ (by simp)]; go_simp
  have e2 : w1.cell? ⟨w.heap.size + 1, 2, none⟩ = some (.int .i64 0) := by rw [hc1 _ _ (by simp)]; go_simp
  have e3 : w1.cell? ⟨w.heap.size + 1, 3, none⟩ = some (.int .i64 0) := by rw [hc1 _ _ (by simp)]; go_simp
  go_wp2_with fail
  refine bodyPost_ret (v := .agg #[.int .i64 j.graph.n, .slice A1 j.graph.edges.length k1, .int .i64 j.kind, .int .i64 j.source]) (by simp [results, Try.results8, go_sem, *]) rfl ⟨A1, k1, rfl, ?_, ?_⟩
  · exact (rd_own (ownsRow_setCell_below (ownsRow_setCell_below (ownsRow_setCell_below (ownsRow_setCell_below (ownsRow_setCell_below (ownsRow_setCell_below o1 (by simp; omega) _) (by simp; omega) _) (by simp) _) (by simp) _) (by simp) _) (by simp) _))
  · exact bS (bS (bS (bS (bS (bS (bT (bA (bA (Below.refl _ _) _) _) b1) (by simp) _) (by simp) _) (by simp) _) (by simp) _) (by simp) _) (by simp) _
end Go.Proofs.Yteefemiieidpaaa
