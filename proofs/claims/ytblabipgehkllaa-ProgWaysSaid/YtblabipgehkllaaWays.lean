/- prog.Ways and the document's answer; the statement. -/
import Derived.Test.YtblabipgehkllaaIn
import Derived.Test.YtblabipgehkllaaLibB
namespace Go.Proofs.Ytblabipgehkllaa
open Go.ChangeShapes Go.WideShapes Go.ChangeAt Go.RowKit
set_option linter.unusedVariables false
/-- May there be such a kind, in such a phase? -/
def kindB (k p : Int) : Bool := inB k 1 3 && (decide (p = 0) || (decide (k = 3) && decide (p = 1)))
/-- The job of a kind. -/
def jobI (k : Int) : Value := if k = 1 then .iface 117 (.agg #[]) else if k = 2 then .iface 118 (.agg #[]) else if k = 3 then .iface 120 (.agg #[]) else .nilIface
theorem jobOf_walk (k : Int) (w : World) : Calls Try.prog 84 #[.int .i64 k] w fun e w' => e = .returned (jobI k) ∧ w = w' := by
  by_cases h1 : k = 1
  · subst h1
    go_enter Try.func84, Try.ntmps84
    go_wp2
    go_ret
    exact ⟨rfl, rfl⟩
  · by_cases h2 : k = 2
    · subst h2
      go_enter Try.func84, Try.ntmps84
      go_wp2
      go_ret
      exact ⟨rfl, rfl⟩
    · by_cases h3 : k = 3
      · subst h3
        go_enter Try.func84, Try.ntmps84
        go_wp2
        go_ret
        exact ⟨rfl, rfl⟩
      · have HJ : Hid (jobI k = .nilIface) := hid (by simp [jobI, h1, h2, h3])
        go_enter Try.func84, Try.ntmps84
        go_wp2
        go_ret
        rw [HJ.out]
        exact ⟨rfl, rfl⟩
theorem phases_walk (k p : Int) (w : World) : Calls Try.prog 85 #[.int .i64 k, .int .i64 p] w fun e w' => e = .returned (.bool (decide (p = 0) || (decide (k = 3) && decide (p = 1)))) ∧ w = w' := by
  by_cases h0 : p = 0
  · subst h0
    go_enter Try.func85, Try.ntmps85
    go_wp2
    go_ret
    exact ⟨rfl, rfl⟩
  · by_cases h1 : p = 1
    · subst h1
      go_enter Try.func85, Try.ntmps85
      go_wp2
      go_ret
      exact ⟨retb (by rw [Bool.eq_iff_iff]; simp), rfl⟩
    · go_enter Try.func85, Try.ntmps85
      go_wp2
      go_ret
      exact ⟨retb (by simp [h0, h1]), rfl⟩
theorem kindMay_walk (k p : Int) (w : World) : Calls Try.prog 86 #[.int .i64 k, .int .i64 p] w fun e w' => e = .returned (.bool (kindB k p)) ∧ w = w' := by
  have HF : Hid (kindB k p = (inB k 1 3 && (decide (p = 0) || (decide (k = 3) && decide (p = 1))))) := hid rfl
  cases hi : inB k 1 3
  · rw [hi] at HF
    go_enter Try.func86, Try.ntmps86
    go_wp2_with (go_at_call 72; refine (In_walk _ _ _ _).mono ?_; rintro e w' ⟨rfl, rfl⟩)
    go_ret
    exact ⟨by rw [HF.out]; rfl, rfl⟩
  · rw [hi] at HF
    have h3 : k = 3 ∨ (decide (k = 3) = false ∧ k ≠ 3) := by by_cases h : k = 3 <;> simp [h]
    have hp : p = 0 ∨ p = 1 ∨ (p ≠ 0 ∧ p ≠ 1) := by omega
    rcases hp with rfl | rfl | ⟨hp1, hp2⟩ <;> rcases h3 with rfl | ⟨h3, h3'⟩
    all_goals
      go_enter Try.func86, Try.ntmps86
      go_wp2_with (go_at_call 72; refine (In_walk _ _ _ _).mono ?_; rintro e w' ⟨rfl, rfl⟩)
      go_ret
      rw [HF.out]
      exact ⟨retb (by simp [*]), rfl⟩
/-- What both say. -/
def waysV (k p : Int) : Bool × Bool × Int := if kindB k p = true then (decide (k ≠ 3) || decide (p = 0), decide (k = 2) || decide (p = 1), 0) else (false, false, 3)
theorem distWays_walk (p : Int) (w : World) : Calls Try.prog 105 #[.agg #[], .int .i64 p] w fun e w' => e = .returned (.tuple #[.bool true, .bool false]) ∧ Below w.heap.size w w' := by
  go_enter Try.func105, Try.ntmps105
  go_wp2
  go_ret2
  exact ⟨rfl, bA (Below.refl _ _) _⟩
theorem weakWays_walk (p : Int) (w : World) : Calls Try.prog 108 #[.agg #[], .int .i64 p] w fun e w' => e = .returned (.tuple #[.bool true, .bool true]) ∧ Below w.heap.size w w' := by
  go_enter Try.func108, Try.ntmps108
  go_wp2
  go_ret2
  exact ⟨rfl, bA (Below.refl _ _) _⟩
theorem strongWays_walk (p : Int) (w : World) : Calls Try.prog 110 #[.agg #[], .int .i64 p] w fun e w' => e = .returned (.tuple #[.bool (p == 0), .bool (p == 1)]) ∧ Below w.heap.size w w' := by
  go_enter Try.func110, Try.ntmps110
  go_wp2
  go_ret2
  exact ⟨rfl, bA (Below.refl _ _) _⟩
set_option maxRecDepth 100000 in
set_option maxHeartbeats 2000000 in
theorem ways_walk (k p : Int) (w : World) : Calls Try.prog 65 #[.int .i64 k, .int .i64 p] w fun e w' => e = .returned (.tuple #[.bool (waysV k p).1, .bool (waysV k p).2.1, .int .i64 (waysV k p).2.2]) ∧ Below w.heap.size w w' := by
  have hk : k = 1 ∨ k = 2 ∨ k = 3 ∨ (k ≠ 1 ∧ k ≠ 2 ∧ k ≠ 3) := by omega
  rcases hk with rfl | rfl | rfl | ⟨k1, k2, k3⟩
  · have hj := hid (jobOf_walk 1)
    have hph := hid (phases_walk 1 p)
    have hm : ∀ w, (method 241 117 (.agg #[]) "paceline/prog.ways").run Try.prog w = .ok (105, .agg #[]) w := fun _ => by kernel_rfl
    cases hp : (decide (p = 0) || (decide ((1 : Int) = 3) && decide (p = 1)))
    · rw [hp] at hph
      have HV : Hid (waysV 1 p = (false, false, 3)) := hid (by unfold waysV kindB; rw [hp]; simp)
      clear hp hm
      go_enter Try.func65, Try.ntmps65
      go_wp2_with fail
      refine (hj.out _).mono ?_
      rintro e w' ⟨rfl, rfl⟩
      rw [show jobI 1 = .iface 117 (.agg #[]) from rfl]
      go_wp2_with fail
      refine (hph.out _).mono ?_
      rintro e w' ⟨rfl, rfl⟩
      go_wp2_with fail
      go_ret3
      rw [HV.out]
      exact ⟨rfl, Below.refl _ _⟩
    · rw [hp] at hph
      have HV : Hid (waysV 1 p = (true, false, 0)) := hid (by unfold waysV kindB; rw [hp]; simp; revert hp; simp [inB]; omega)
      clear hp
      go_enter Try.func65, Try.ntmps65
      go_wp2_with fail
      refine (hj.out _).mono ?_
      rintro e w' ⟨rfl, rfl⟩
      rw [show jobI 1 = .iface 117 (.agg #[]) from rfl]
      go_wp2_with fail
      refine (hph.out _).mono ?_
      rintro e w' ⟨rfl, rfl⟩
      go_wp2_with fail
      refine (distWays_walk p _).mono ?_
      rintro e w1 ⟨rfl, b1⟩
      go_wp2_with fail
      go_ret3
      rw [HV.out]
      exact ⟨rfl, b1⟩
  · have hj := hid (jobOf_walk 2)
    have hph := hid (phases_walk 2 p)
    have hm : ∀ w, (method 241 118 (.agg #[]) "paceline/prog.ways").run Try.prog w = .ok (108, .agg #[]) w := fun _ => by kernel_rfl
    cases hp : (decide (p = 0) || (decide ((2 : Int) = 3) && decide (p = 1)))
    · rw [hp] at hph
      have HV : Hid (waysV 2 p = (false, false, 3)) := hid (by unfold waysV kindB; rw [hp]; simp)
      clear hp hm
      go_enter Try.func65, Try.ntmps65
      go_wp2_with fail
      refine (hj.out _).mono ?_
      rintro e w' ⟨rfl, rfl⟩
      rw [show jobI 2 = .iface 118 (.agg #[]) from rfl]
      go_wp2_with fail
      refine (hph.out _).mono ?_
      rintro e w' ⟨rfl, rfl⟩
      go_wp2_with fail
      go_ret3
      rw [HV.out]
      exact ⟨rfl, Below.refl _ _⟩
    · rw [hp] at hph
      have HV : Hid (waysV 2 p = (true, true, 0)) := hid (by unfold waysV kindB; rw [hp]; simp; revert hp; simp [inB])
      clear hp
      go_enter Try.func65, Try.ntmps65
      go_wp2_with fail
      refine (hj.out _).mono ?_
      rintro e w' ⟨rfl, rfl⟩
      rw [show jobI 2 = .iface 118 (.agg #[]) from rfl]
      go_wp2_with fail
      refine (hph.out _).mono ?_
      rintro e w' ⟨rfl, rfl⟩
      go_wp2_with fail
      refine (weakWays_walk p _).mono ?_
      rintro e w1 ⟨rfl, b1⟩
      go_wp2_with fail
      go_ret3
      rw [HV.out]
      exact ⟨rfl, b1⟩
  · have hj := hid (jobOf_walk 3)
    have hph := hid (phases_walk 3 p)
    have hm : ∀ w, (method 241 120 (.agg #[]) "paceline/prog.ways").run Try.prog w = .ok (110, .agg #[]) w := fun _ => by kernel_rfl
    cases hp : (decide (p = 0) || (decide ((3 : Int) = 3) && decide (p = 1)))
    · rw [hp] at hph
      have HV : Hid (waysV 3 p = (false, false, 3)) := hid (by unfold waysV kindB; rw [hp]; simp)
      clear hp hm
      go_enter Try.func65, Try.ntmps65
      go_wp2_with fail
      refine (hj.out _).mono ?_
      rintro e w' ⟨rfl, rfl⟩
      rw [show jobI 3 = .iface 120 (.agg #[]) from rfl]
      go_wp2_with fail
      refine (hph.out _).mono ?_
      rintro e w' ⟨rfl, rfl⟩
      go_wp2_with fail
      go_ret3
      rw [HV.out]
      exact ⟨rfl, Below.refl _ _⟩
    · rw [hp] at hph
      have HV : Hid (waysV 3 p = ((p == 0), (p == 1), 0)) := hid (by unfold waysV kindB; rw [hp]; simp; simp [inB]; constructor <;> (rw [Bool.eq_iff_iff]; simp))
      clear hp
      go_enter Try.func65, Try.ntmps65
      go_wp2_with fail
      refine (hj.out _).mono ?_
      rintro e w' ⟨rfl, rfl⟩
      rw [show jobI 3 = .iface 120 (.agg #[]) from rfl]
      go_wp2_with fail
      refine (hph.out _).mono ?_
      rintro e w' ⟨rfl, rfl⟩
      go_wp2_with fail
      refine (strongWays_walk p _).mono ?_
      rintro e w1 ⟨rfl, b1⟩
      go_wp2_with fail
      go_ret3
      rw [HV.out]
      exact ⟨rfl, b1⟩
  · have hj := hid (jobOf_walk k)
    have HJ : Hid (jobI k = .nilIface) := hid (by simp [jobI, k1, k2, k3])
    have HV : Hid (waysV k p = (false, false, 3)) := hid (by unfold waysV kindB; rw [show inB k 1 3 = false by simp [inB]; omega]; simp)
    go_enter Try.func65, Try.ntmps65
    go_wp2_with fail
    refine (hj.out _).mono ?_
    rintro e w' ⟨rfl, rfl⟩
    rw [HJ.out]
    go_wp2_with fail
    go_ret3
    rw [HV.out]
    exact ⟨rfl, Below.refl _ _⟩
set_option maxHeartbeats 2000000 in
theorem waysOf_walk (k p : Int) (w : World) : Calls Try.prog 66 #[.int .i64 k, .int .i64 p] w fun e w' => e = .returned (.tuple #[.bool (waysV k p).1, .bool (waysV k p).2.1, .int .i64 (waysV k p).2.2]) ∧ w = w' := by
  have hm := hid (kindMay_walk k p)
  cases hk : kindB k p
  · rw [hk] at hm
    have HV : Hid (waysV k p = (false, false, 3)) := hid (by unfold waysV; rw [hk]; rfl)
    clear hk
    go_enter Try.func66, Try.ntmps66
    go_wp2_with fail
    refine (hm.out _).mono ?_
    rintro e w' ⟨rfl, rfl⟩
    go_wp2_with fail
    go_ret3
    rw [HV.out]
    exact ⟨rfl, rfl⟩
  · rw [hk] at hm
    have HV : Hid (waysV k p = (decide (k ≠ 3) || decide (p = 0), decide (k = 2) || decide (p = 1), 0)) := hid (by unfold waysV; rw [hk]; rfl)
    clear hk
    have h3 : k = 3 ∨ k = 2 ∨ (k ≠ 3 ∧ k ≠ 2) := by omega
    have hp : p = 0 ∨ p = 1 ∨ (p ≠ 0 ∧ p ≠ 1) := by omega
    rcases h3 with rfl | rfl | ⟨h31, h32⟩ <;> rcases hp with rfl | rfl | ⟨hp1, hp2⟩
    all_goals
      go_enter Try.func66, Try.ntmps66
      go_wp2_with fail
      refine (hm.out _).mono ?_
      rintro e w' ⟨rfl, rfl⟩
      go_wp2_with fail
      go_ret3
      rw [HV.out]
      exact ⟨by simp [*], rfl⟩
set_option maxHeartbeats 1000000 in
theorem law_ProgWays (w : World) (k : Int) (hk : (Lit.int .i64 k).wf = true) (p : Int) (hp : (Lit.int .i64 p).wf = true) :
    Calls Try.prog 20 #[.int .i64 k, .int .i64 p] w fun e w' => e = .returned (.bool true) ∧ Below w.heap.size w w' := by
  clear hk hp
  have c1 := hid (ways_walk k p)
  have c2 := hid (waysOf_walk k p)
  generalize waysV k p = z at c1 c2
  obtain ⟨a, b, r⟩ := z
  cases a <;> cases b
  all_goals
    go_enter Try.func20, Try.ntmps20
    go_wp2_with fail
    refine (c1.out _).mono ?_
    rintro e w1 ⟨rfl, b1⟩
    go_wp2_with fail
    refine (c2.out _).mono ?_
    rintro e w2 ⟨rfl, rfl⟩
    go_wp2_with fail
    go_ret
    exact ⟨rfl, b1⟩
end Go.Proofs.Ytblabipgehkllaa
