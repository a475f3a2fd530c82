/- prog.Ways and the document's answer; the statement. -/
import Derived.Test.YteefemiieidpaaaBase
import Derived.Test.YteefemiieidpaaaMem
namespace Go.Proofs.Yteefemiieidpaaa
open Go.ChangeShapes Go.WideShapes Go.ChangeAt Go.RowKit
set_option linter.unusedVariables false
set_option linter.unusedSimpArgs false
/-- May there be such a kind, in such a phase? -/
def kindB (k p : Int) : Bool := inB k 1 3 && (decide (p = 0) || (decide (k = 3) && decide (p = 1)))
/-- The job of a kind. -/
def jobI (k : Int) : Value := if k = 1 then .iface 92 (.agg #[]) else if k = 2 then .iface 93 (.agg #[]) else if k = 3 then .iface 95 (.agg #[]) else .nilIface
theorem jobOf_walk (k : Int) (w : World) : Calls Try.prog 41 #[.int .i64 k] w fun e w' => e = .returned (jobI k) ∧ w = w' := by
  by_cases h1 : k = 1
  · subst h1
    go_enter Try.func41, Try.ntmps41
    go_wp2
    go_ret
    exact ⟨rfl, rfl⟩
  · by_cases h2 : k = 2
    · subst h2
      go_enter Try.func41, Try.ntmps41
      go_wp2
      go_ret
      exact ⟨rfl, rfl⟩
    · by_cases h3 : k = 3
      · subst h3
        go_enter Try.func41, Try.ntmps41
        go_wp2
        go_ret
        exact ⟨rfl, rfl⟩
      · have HJ : Hid (jobI k = .nilIface) := hid (by simp [jobI, h1, h2, h3])
        go_enter Try.func41, Try.ntmps41
        go_wp2
        go_ret
        rw [HJ.out]
        exact ⟨rfl, rfl⟩
theorem phases_walk (k p : Int) (w : World) : Calls Try.prog 42 #[.int .i64 k, .int .i64 p] w fun e w' => e = .returned (.bool (decide (p = 0) || (decide (k = 3) && decide (p = 1)))) ∧ w = w' := by
  by_cases h0 : p = 0
  · subst h0
    go_enter Try.func42, Try.ntmps42
    go_wp2
    go_ret
    exact ⟨rfl, rfl⟩
  · by_cases h1 : p = 1
    · subst h1
      go_enter Try.func42, Try.ntmps42
      go_wp2
      go_ret
      exact ⟨retb (by rw [Bool.eq_iff_iff]; simp), rfl⟩
    · go_enter Try.func42, Try.ntmps42
      go_wp2
      go_ret
      exact ⟨retb (by simp [h0, h1]), rfl⟩
theorem kindMay_walk (k p : Int) (w : World) : Calls Try.prog 53 #[.int .i64 k, .int .i64 p] w fun e w' => e = .returned (.bool (kindB k p)) ∧ w = w' := by
  have HF : Hid (kindB k p = (inB k 1 3 && (decide (p = 0) || (decide (k = 3) && decide (p = 1))))) := hid rfl
  cases hi : inB k 1 3
  · rw [hi] at HF
    go_enter Try.func53, Try.ntmps53
    go_wp2_with (go_at_call 52; refine (In_walk _ _ _ _).mono ?_; rintro e w' ⟨rfl, rfl⟩)
    go_ret
    exact ⟨by rw [HF.out]; rfl, rfl⟩
  · rw [hi] at HF
    have h3 : k = 3 ∨ (decide (k = 3) = false ∧ k ≠ 3) := by by_cases h : k = 3 <;> simp [h]
    have hp : p = 0 ∨ p = 1 ∨ (p ≠ 0 ∧ p ≠ 1) := by omega
    rcases hp with rfl | rfl | ⟨hp1, hp2⟩ <;> rcases h3 with rfl | ⟨h3, h3'⟩
    all_goals
      go_enter Try.func53, Try.ntmps53
      go_wp2_with (go_at_call 52; refine (In_walk _ _ _ _).mono ?_; rintro e w' ⟨rfl, rfl⟩)
      go_ret
      rw [HF.out]
      exact ⟨retb (by simp [*]), rfl⟩
/-- What both say. -/
def waysV (k p : Int) : Bool × Bool × Int := if kindB k p = true then (decide (k ≠ 3) || decide (p = 0), decide (k = 2) || decide (p = 1), 0) else (false, false, 3)
theorem distWays_walk (p : Int) (w : World) : Calls Try.prog 95 #[.agg #[], .int .i64 p] w fun e w' => e = .returned (.tuple #[.bool true, .bool false]) ∧ Below w.heap.size w w' := by
  go_enter Try.func95, Try.ntmps95
  go_wp2
  go_ret2
  exact ⟨rfl, bA (Below.refl _ _) _⟩
theorem weakWays_walk (p : Int) (w : World) : Calls Try.prog 99 #[.agg #[], .int .i64 p] w fun e w' => e = .returned (.tuple #[.bool true, .bool true]) ∧ Below w.heap.size w w' := by
  go_enter Try.func99, Try.ntmps99
  go_wp2
  go_ret2
  exact ⟨rfl, bA (Below.refl _ _) _⟩
theorem strongWays_walk (p : Int) (w : World) : Calls Try.prog 101 #[.agg #[], .int .i64 p] w fun e w' => e = .returned (.tuple #[.bool (p == 0), .bool (p == 1)]) ∧ Below w.heap.size w w' := by
  go_enter Try.func101, Try.ntmps101
  go_wp2
  go_ret2
  exact ⟨rfl, bA (Below.refl _ _) _⟩
set_option maxRecDepth 100000 in
set_option maxHeartbeats 2000000 in
theorem ways_walk (k p : Int) (w : World) : Calls Try.prog 45 #[.int .i64 k, .int .i64 p] w fun e w' => e = .returned (.tuple #[.bool (waysV k p).1, .bool (waysV k p).2.1, .int .i64 (waysV k p).2.2]) ∧ Below w.heap.size w w' := by
  have hk : k = 1 ∨ k = 2 ∨ k = 3 ∨ (k ≠ 1 ∧ k ≠ 2 ∧ k ≠ 3) := by omega
  rcases hk with rfl | rfl | rfl | ⟨k1, k2, k3⟩
  · have hj := hid (jobOf_walk 1)
    have hph := hid (phases_walk 1 p)
    have hm : ∀ w, (method 238 92 (.agg #[]) "paceline/prog.ways").run Try.prog w = .ok (95, .agg #[]) w := fun _ => by kernel_rfl
    cases hp : (decide (p = 0) || (decide ((1 : Int) = 3) && decide (p = 1)))
    · rw [hp] at hph
      have HV : Hid (waysV 1 p = (false, false, 3)) := hid (by unfold waysV kindB; rw [hp]; simp)
      clear hp hm
      go_enter Try.func45, Try.ntmps45
      go_wp2_with fail
      refine (hj.out _).mono ?_
      rintro e w' ⟨rfl, rfl⟩
      rw [show jobI 1 = .iface 92 (.agg #[]) from rfl]
      go_wp2_with fail
      refine (hph.out _).mono ?_
      rintro e w' ⟨rfl, rfl⟩
      go_wp2_with fail
      go_ret3
      rw [HV.out]
      exact ⟨rfl, Below.refl _ _⟩
    · rw [hp] at hph
      have HV : Hid (waysV 1 p = (true, false, 0)) := hid (by unfold waysV kindB; rw [hp]; simp; revert hp; simp [inB]; omega)
      clear hp
      go_enter Try.func45, Try.ntmps45
      go_wp2_with fail
      refine (hj.out _).mono ?_
      rintro e w' ⟨rfl, rfl⟩
      rw [show jobI 1 = .iface 92 (.agg #[]) from rfl]
      go_wp2_with fail
      refine (hph.out _).mono ?_
      rintro e w' ⟨rfl, rfl⟩
      go_wp2_with fail
      refine (distWays_walk p _).mono ?_
      rintro e w1 ⟨rfl, b1⟩
      go_wp2_with fail
      go_ret3
      rw [HV.out]
      exact ⟨rfl, b1⟩
  · have hj := hid (jobOf_walk 2)
    have hph := hid (phases_walk 2 p)
    have hm : ∀ w, (method 238 93 (.agg #[]) "paceline/prog.ways").run Try.prog w = .ok (99, .agg #[]) w := fun _ => by kernel_rfl
    cases hp : (decide (p = 0) || (decide ((2 : Int) = 3) && decide (p = 1)))
    · rw [hp] at hph
      have HV : Hid (waysV 2 p = (false, false, 3)) := hid (by unfold waysV kindB; rw [hp]; simp)
      clear hp hm
      go_enter Try.func45, Try.ntmps45
      go_wp2_with fail
      refine (hj.out _).mono ?_
      rintro e w' ⟨rfl, rfl⟩
      rw [show jobI 2 = .iface 93 (.agg #[]) from rfl]
      go_wp2_with fail
      refine (hph.out _).mono ?_
      rintro e w' ⟨rfl, rfl⟩
      go_wp2_with fail
      go_ret3
      rw [HV.out]
      exact ⟨rfl, Below.refl _ _⟩
    · rw [hp] at hph
      have HV : Hid (waysV 2 p = (true, true, 0)) := hid (by unfold waysV kindB; rw [hp]; simp; revert hp; simp [inB])
      clear hp
      go_enter Try.func45, Try.ntmps45
      go_wp2_with fail
      refine (hj.out _).mono ?_
      rintro e w' ⟨rfl, rfl⟩
      rw [show jobI 2 = .iface 93 (.agg #[]) from rfl]
      go_wp2_with fail
      refine (hph.out _).mono ?_
      rintro e w' ⟨rfl, rfl⟩
      go_wp2_with fail
      refine (weakWays_walk p _).mono ?_
      rintro e w1 ⟨rfl, b1⟩
      go_wp2_with fail
      go_ret3
      rw [HV.out]
      exact ⟨rfl, b1⟩
  · have hj := hid (jobOf_walk 3)
    have hph := hid (phases_walk 3 p)
    have hm : ∀ w, (method 238 95 (.agg #[]) "paceline/prog.ways").run Try.prog w = .ok (101, .agg #[]) w := fun _ => by kernel_rfl
    cases hp : (decide (p = 0) || (decide ((3 : Int) = 3) && decide (p = 1)))
    · rw [hp] at hph
      have HV : Hid (waysV 3 p = (false, false, 3)) := hid (by unfold waysV kindB; rw [hp]; simp)
      clear hp hm
      go_enter Try.func45, Try.ntmps45
      go_wp2_with fail
      refine (hj.out _).mono ?_
      rintro e w' ⟨rfl, rfl⟩
      rw [show jobI 3 = .iface 95 (.agg #[]) from rfl]
      go_wp2_with fail
      refine (hph.out _).mono ?_
      rintro e w' ⟨rfl, rfl⟩
      go_wp2_with fail
      go_ret3
      rw [HV.out]
      exact ⟨rfl, Below.refl _ _⟩
    · rw [hp] at hph
      have HV : Hid (waysV 3 p = ((p == 0), (p == 1), 0)) := hid (by unfold waysV kindB; rw [hp]; simp; simp [inB]; constructor <;> (rw [Bool.eq_iff_iff]; simp))
      clear hp
      go_enter Try.func45, Try.ntmps45
      go_wp2_with fail
      refine (hj.out _).mono ?_
      rintro e w' ⟨rfl, rfl⟩
      rw [show jobI 3 = .iface 95 (.agg #[]) from rfl]
      go_wp2_with fail
      refine (hph.out _).mono ?_
      rintro e w' ⟨rfl, rfl⟩
      go_wp2_with fail
      refine (strongWays_walk p _).mono ?_
      rintro e w1 ⟨rfl, b1⟩
      go_wp2_with fail
      go_ret3
      rw [HV.out]
      exact ⟨rfl, b1⟩
  · have hj := hid (jobOf_walk k)
    have HJ : Hid (jobI k = .nilIface) := hid (by simp [jobI, k1, k2, k3])
    have HV : Hid (waysV k p = (false, false, 3)) := hid (by unfold waysV kindB; rw [show inB k 1 3 = false by simp [inB]; omega]; simp)
    go_enter Try.func45, Try.ntmps45
    go_wp2_with fail
    refine (hj.out _).mono ?_
    rintro e w' ⟨rfl, rfl⟩
    rw [HJ.out]
    go_wp2_with fail
    go_ret3
    rw [HV.out]
    exact ⟨rfl, Below.refl _ _⟩
set_option maxHeartbeats 2000000 in
theorem waysOf_walk (k p : Int) (w : World) : Calls Try.prog 29 #[.int .i64 k, .int .i64 p] w fun e w' => e = .returned (.tuple #[.bool (waysV k p).1, .bool (waysV k p).2.1, .int .i64 (waysV k p).2.2]) ∧ w = w' := by
  have hm := hid (kindMay_walk k p)
  cases hk : kindB k p
  · rw [hk] at hm
    have HV : Hid (waysV k p = (false, false, 3)) := hid (by unfold waysV; rw [hk]; rfl)
    clear hk
    go_enter Try.func29, Try.ntmps29
    go_wp2_with fail
    refine (hm.out _).mono ?_
    rintro e w' ⟨rfl, rfl⟩
    go_wp2_with fail
    go_ret3
    rw [HV.out]
    exact ⟨rfl, rfl⟩
  · rw [hk] at hm
    have HV : Hid (waysV k p = (decide (k ≠ 3) || decide (p = 0), decide (k = 2) || decide (p = 1), 0)) := hid (by unfold waysV; rw [hk]; rfl)
    clear hk
    have h3 : k = 3 ∨ k = 2 ∨ (k ≠ 3 ∧ k ≠ 2) := by omega
    have hp : p = 0 ∨ p = 1 ∨ (p ≠ 0 ∧ p ≠ 1) := by omega
    rcases h3 with rfl | rfl | ⟨h31, h32⟩ <;> rcases hp with rfl | rfl | ⟨hp1, hp2⟩
    all_goals
      go_enter Try.func29, Try.ntmps29
      go_wp2_with fail
      refine (hm.out _).mono ?_
      rintro e w' ⟨rfl, rfl⟩
      go_wp2_with fail
      go_ret3
      rw [HV.out]
      exact ⟨by simp [*], rfl⟩
end Go.Proofs.Yteefemiieidpaaa
