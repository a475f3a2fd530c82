/- rounds.Check, the document's JobFault, the copy of a job; the statement on rounds.Check. -/
import Derived.Test.YteefemiieidpaaaGraphRef
namespace Go.Proofs.Yteefemiieidpaaa
open Go.ChangeShapes Go.WideShapes Go.ChangeAt Go.RowKit
set_option linter.unusedVariables false
set_option linter.unusedSimpArgs false
noncomputable def jobV (j : Job) : Int := if graphV j.graph ≠ 0 then graphV j.graph else if ¬ (1 ≤ j.kind ∧ j.kind ≤ 3) then 3 else if j.kind = 1 ∧ ¬ (0 ≤ j.source ∧ j.source < j.graph.n) then 2 else 0
def jobVal (j : Job) (A : Option Addr) (c : Nat) : Value := .agg #[.int .i64 j.graph.n, .slice A j.graph.edges.length c, .int .i64 j.kind, .int .i64 j.source]
theorem graphV_cases (g : Graph) : graphV g = 0 ∨ graphV g = 1 ∨ graphV g = 2 := by
  unfold graphV; split <;> (try split) <;> simp
theorem graphV_n {g : Graph} (h : graphV g = 0) : 0 ≤ g.n ∧ g.n ≤ 200 := by
  have := (graphV_ok.1 h).1
  exact ⟨this.1, this.2.1⟩
set_option maxHeartbeats 2000000 in
theorem jobCheck_walk (j : Job) (w : World) (A : Option Addr) (c : Nat) (hr : Rd w w.heap.size A 3 j.graph.edges.length (j.graph.edges.flatMap Edge.cells)) (hl : j.graph.edges.length ≤ 9223372036854775807) :
    Calls Try.prog 17 #[jobVal j A c] w fun e w' => e = .returned (.int .i64 (jobV j)) ∧ Below w.heap.size w w' := by
  unfold jobVal
  have r0 := (hr.alloc (Nat.le_refl _) (.cells #[.int .i64 j.graph.n, .slice A j.graph.edges.length c, .int .i64 j.kind, .int .i64 j.source] 26)).any (by decide)
  rcases graphV_cases j.graph with h0 | h1
  · have hn := graphV_n h0
    by_cases hk : 1 ≤ j.kind ∧ j.kind ≤ 3
    · by_cases hs : j.kind = 1 ∧ ¬ (0 ≤ j.source ∧ j.source < j.graph.n)
      · have HV : Hid (jobV j = 2) := hid (by unfold jobV; rw [if_neg (by simp [h0]), if_neg (by simp [hk]), if_pos hs])
        have hd : j.source < 0 ∨ (0 ≤ j.source ∧ j.graph.n ≤ j.source) := by omega
        have hkb : (j.kind == 1) = true := by simp [hs]
        have H0 := hid h0
        obtain ⟨hk1, hk2⟩ := hk
        clear h0 hs
        rcases hd with hd | ⟨hd, hd2⟩
        all_goals
          go_enter Try.func17, Try.ntmps17
          go_wp2_with fail
          refine (check_walk j.graph _ A c r0 hl).mono ?_
          rintro e w1 ⟨rfl, b1⟩
          rw [H0.out]
          obtain ⟨hc1, hf1⟩ := bcell b1
          go_wp2_with fail
          go_ret
          rw [HV.out]
          exact ⟨rfl, bT (bA (Below.refl _ _) _) b1⟩
      · have HV : Hid (jobV j = 0) := hid (by unfold jobV; rw [if_neg (by simp [h0]), if_neg (by simp [hk]), if_neg hs])
        have hd : (j.kind == 1) = false ∨ ((j.kind == 1) = true ∧ 0 ≤ j.source ∧ j.source < j.graph.n) := by
          by_cases e : j.kind = 1
          · right; simp [e]; omega
          · left; simp [e]
        have H0 := hid h0
        obtain ⟨hk1, hk2⟩ := hk
        clear h0 hs
        rcases hd with hd | ⟨hd, hd2, hd3⟩
        all_goals
          go_enter Try.func17, Try.ntmps17
          go_wp2_with fail
          refine (check_walk j.graph _ A c r0 hl).mono ?_
          rintro e w1 ⟨rfl, b1⟩
          rw [H0.out]
          obtain ⟨hc1, hf1⟩ := bcell b1
          go_wp2_with fail
          go_ret
          rw [HV.out]
          exact ⟨rfl, bT (bA (Below.refl _ _) _) b1⟩
    · have HV : Hid (jobV j = 3) := hid (by unfold jobV; rw [if_neg (by simp [h0]), if_pos hk])
      have hd : j.kind < 1 ∨ (1 ≤ j.kind ∧ 3 < j.kind) := by omega
      have H0 := hid h0
      clear h0 hk
      rcases hd with hd | ⟨hd, hd2⟩
      all_goals
        go_enter Try.func17, Try.ntmps17
        go_wp2_with fail
        refine (check_walk j.graph _ A c r0 hl).mono ?_
        rintro e w1 ⟨rfl, b1⟩
        rw [H0.out]
        obtain ⟨hc1, hf1⟩ := bcell b1
        go_wp2_with fail
        go_ret
        rw [HV.out]
        exact ⟨rfl, bT (bA (Below.refl _ _) _) b1⟩
  · have hne : graphV j.graph ≠ 0 := by omega
    have HV : Hid (jobV j = graphV j.graph) := hid (by unfold jobV; rw [if_pos hne])
    have hb : (graphV j.graph == 0) = false := by simp [hne]
    have hc := hid (check_walk j.graph _ A c r0 hl)
    generalize graphV j.graph = r at *
    clear h1 hne
    go_enter Try.func17, Try.ntmps17
    go_wp2_with fail
    refine hc.out.mono ?_
    rintro e w1 ⟨rfl, b1⟩
    obtain ⟨hc1, hf1⟩ := bcell b1
    go_wp2_with fail
    go_ret
    rw [HV.out]
    exact ⟨rfl, bT (bA (Below.refl _ _) _) b1⟩
end Go.Proofs.Yteefemiieidpaaa
