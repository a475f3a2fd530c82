/- engine.Check, the document's TaskFault, the copy of a task; the statement on engine.Check. -/
import Derived.Test.YteefemiieidpaaaJobRef
import Derived.Test.YteefemiieidpaaaMem
namespace Go.Proofs.Yteefemiieidpaaa
open Go.ChangeShapes Go.WideShapes Go.ChangeAt Go.RowKit
set_option linter.unusedVariables false
set_option linter.unusedSimpArgs false
def taskFits (t : Task) : Prop := (1 ≤ t.workers ∧ t.workers ≤ 8) ∧ (1 ≤ t.every ∧ t.every ≤ 100000) ∧ 1 ≤ t.budget ∧ t.budget ≤ 1000
instance (t : Task) : Decidable (taskFits t) := inferInstanceAs (Decidable (_ ∧ _))
noncomputable def taskV (t : Task) : Int := if jobV t.job ≠ 0 then jobV t.job else if taskFits t then 0 else 2
def taskVal (t : Task) (A : Option Addr) (c : Nat) : Value := .agg #[.int .i64 t.job.graph.n, .slice A t.job.graph.edges.length c, .int .i64 t.job.kind, .int .i64 t.job.source, .int .i64 t.workers, .int .i64 t.every, .int .i64 t.budget]
set_option maxHeartbeats 2000000 in
theorem taskCheck_walk (t : Task) (w : World) (A : Option Addr) (c : Nat) (hr : Rd w w.heap.size A 3 t.job.graph.edges.length (t.job.graph.edges.flatMap Edge.cells)) (hl : t.job.graph.edges.length ≤ 9223372036854775807) :
    Calls Try.prog 36 #[taskVal t A c] w fun e w' => e = .returned (.int .i64 (taskV t)) ∧ Below w.heap.size w w' := by
  have b0 := bA (Below.refl w.heap.size w) (.cells #[.int .i64 t.job.graph.n, .slice A t.job.graph.edges.length c, .int .i64 t.job.kind, .int .i64 t.job.source, .int .i64 t.workers, .int .i64 t.every, .int .i64 t.budget] 41)
  have r0 := rdb hr (by decide) b0
  have hc := hid (jobCheck_walk t.job _ A c r0 hl)
  unfold taskVal
  unfold jobVal at hc
  by_cases h0 : jobV t.job = 0
  · have HV1 : Hid (taskFits t → taskV t = 0) := hid (fun h => by unfold taskV; rw [if_neg (by simp [h0]), if_pos h])
    have HV2 : Hid (¬ taskFits t → taskV t = 2) := hid (fun h => by unfold taskV; rw [if_neg (by simp [h0]), if_neg h])
    rw [h0] at hc
    generalize taskV t = v at *
    clear h0
    go_enter Try.func36, Try.ntmps36
    go_wp2_with fail
    refine hc.out.mono ?_
    rintro e w1 ⟨rfl, b1⟩
    obtain ⟨hc1, hf1⟩ := bcell b1
    go_wp2_with fail
    all_goals
      go_ret
      refine ⟨ret1 ?_, bT b0 b1⟩
      first
        | exact (HV1.out (by unfold taskFits; omega)).symm
        | exact (HV2.out (by unfold taskFits; omega)).symm
  · have HV : Hid (taskV t = jobV t.job) := hid (by unfold taskV; rw [if_pos h0])
    have hb : (jobV t.job == 0) = false := by simpa using h0
    generalize jobV t.job = r at *
    clear h0
    go_enter Try.func36, Try.ntmps36
    go_wp2_with fail
    refine hc.out.mono ?_
    rintro e w1 ⟨rfl, b1⟩
    go_wp2_with fail
    go_ret
    exact ⟨ret1 HV.out.symm, bT b0 b1⟩
set_option maxHeartbeats 2000000 in
theorem taskFault_walk (t : Task) (w : World) (A : Option Addr) (c : Nat) (hr : Rd w w.heap.size A 3 t.job.graph.edges.length (t.job.graph.edges.flatMap Edge.cells)) (hl : t.job.graph.edges.length ≤ 9223372036854775807) :
    Calls Try.prog 37 #[taskVal t A c] w fun e w' => e = .returned (.int .i64 (taskV t)) ∧ Below w.heap.size w w' := by
  have b0 := bA (Below.refl w.heap.size w) (.cells #[.int .i64 t.job.graph.n, .slice A t.job.graph.edges.length c, .int .i64 t.job.kind, .int .i64 t.job.source, .int .i64 t.workers, .int .i64 t.every, .int .i64 t.budget] 41)
  have r0 := rdb hr (by decide) b0
  have hc := hid (jobFault_walk t.job _ A c r0 hl)
  unfold taskVal
  unfold jobVal at hc
  by_cases h0 : jobV t.job = 0
  · have HV1 : Hid (taskFits t → taskV t = 0) := hid (fun h => by unfold taskV; rw [if_neg (by simp [h0]), if_pos h])
    have HV2 : Hid (¬ taskFits t → taskV t = 2) := hid (fun h => by unfold taskV; rw [if_neg (by simp [h0]), if_neg h])
    rw [h0] at hc
    generalize taskV t = v at *
    clear h0
    have hcase : (¬ (1 ≤ t.workers ∧ t.workers ≤ 8)) ∨ ((1 ≤ t.workers ∧ t.workers ≤ 8) ∧ ¬ (1 ≤ t.every ∧ t.every ≤ 100000)) ∨ ((1 ≤ t.workers ∧ t.workers ≤ 8) ∧ (1 ≤ t.every ∧ t.every ≤ 100000) ∧ ¬ (1 ≤ t.budget ∧ t.budget ≤ 1000)) ∨ ((1 ≤ t.workers ∧ t.workers ≤ 8) ∧ (1 ≤ t.every ∧ t.every ≤ 100000) ∧ (1 ≤ t.budget ∧ t.budget ≤ 1000)) := by omega
    rcases hcase with h1 | ⟨h1, h2⟩ | ⟨h1, h2, h3⟩ | ⟨h1, h2, h3⟩
    · have i1 := inB_no h1
      have HW := HV2.out (by unfold taskFits; omega)
      subst HW
      clear h1
      go_enter Try.func37, Try.ntmps37
      go_wp2_with fail
      refine hc.out.mono ?_
      rintro e w1 ⟨rfl, b1⟩
      obtain ⟨hc1, hf1⟩ := bcell b1
      go_wp2_with (go_at_call 52; refine (In_walk _ _ _ _).mono ?_; rintro e w' ⟨rfl, rfl⟩)
      go_ret
      exact ⟨rfl, bT b0 b1⟩
    · have i1 := inB_yes h1
      have i2 := inB_no h2
      have HW := HV2.out (by unfold taskFits; omega)
      subst HW
      clear h1 h2
      go_enter Try.func37, Try.ntmps37
      go_wp2_with fail
      refine hc.out.mono ?_
      rintro e w1 ⟨rfl, b1⟩
      obtain ⟨hc1, hf1⟩ := bcell b1
      go_wp2_with (go_at_call 52; refine (In_walk _ _ _ _).mono ?_; rintro e w' ⟨rfl, rfl⟩)
      go_ret
      exact ⟨rfl, bT b0 b1⟩
    · have i1 := inB_yes h1
      have i2 := inB_yes h2
      have i3 := inB_no h3
      have HW := HV2.out (by unfold taskFits; omega)
      subst HW
      clear h1 h2 h3
      go_enter Try.func37, Try.ntmps37
      go_wp2_with fail
      refine hc.out.mono ?_
      rintro e w1 ⟨rfl, b1⟩
      obtain ⟨hc1, hf1⟩ := bcell b1
      go_wp2_with (go_at_call 52; refine (In_walk _ _ _ _).mono ?_; rintro e w' ⟨rfl, rfl⟩)
      go_ret
      exact ⟨rfl, bT b0 b1⟩
    · have i1 := inB_yes h1
      have i2 := inB_yes h2
      have i3 := inB_yes h3
      have HW := HV1.out (by unfold taskFits; omega)
      subst HW
      clear h1 h2 h3
      go_enter Try.func37, Try.ntmps37
      go_wp2_with fail
      refine hc.out.mono ?_
      rintro e w1 ⟨rfl, b1⟩
      obtain ⟨hc1, hf1⟩ := bcell b1
      go_wp2_with (go_at_call 52; refine (In_walk _ _ _ _).mono ?_; rintro e w' ⟨rfl, rfl⟩)
      go_ret
      exact ⟨rfl, bT b0 b1⟩
  · have HV : Hid (taskV t = jobV t.job) := hid (by unfold taskV; rw [if_pos h0])
    have hb : (jobV t.job == 0) = false := by simpa using h0
    generalize jobV t.job = r at *
    clear h0
    go_enter Try.func37, Try.ntmps37
    go_wp2_with fail
    refine hc.out.mono ?_
    rintro e w1 ⟨rfl, b1⟩
    go_wp2_with fail
    go_ret
    exact ⟨ret1 HV.out.symm, bT b0 b1⟩
end Go.Proofs.Yteefemiieidpaaa
