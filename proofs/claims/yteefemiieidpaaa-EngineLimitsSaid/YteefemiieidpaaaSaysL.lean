/- prog.Say; the statement on it. -/
import Derived.Test.YteefemiieidpaaaSays
namespace Go.Proofs.Yteefemiieidpaaa
open Go.ChangeShapes Go.WideShapes Go.ChangeAt Go.RowKit
set_option linter.unusedVariables false
set_option linter.unusedSimpArgs false
theorem distSay_walk (x : Val) (p wt : Int) (hx0 : 0 ≤ x.a) (hx1 : x.a ≤ 4398046511104) (hw0 : 0 ≤ wt) (hw1 : wt ≤ 1099511627776) (w : World) : Calls Try.prog 93 #[.agg #[], .agg #[.int .i64 x.a, .int .i64 x.label], .int .i64 p, .int .i64 wt] w (RetII w (if 4398046511104 < x.a + wt then (0, 6) else (x.a + wt, 0))) := by
  have hs : IntKind.i64.wrap (4398046511104 - wt) = 4398046511104 - wt := IntWalk.i64_in _ (by omega)
  have ha : IntKind.i64.wrap (x.a + wt) = x.a + wt := IntWalk.i64_in _ (by omega)
  by_cases ho : 4398046511104 < x.a + wt
  · have ho2 : 4398046511104 - wt < x.a := by omega
    rw [if_pos ho]
    go_enter Try.func93, Try.ntmps93
    go_wp2_with fail
    go_ret2
    exact ⟨rfl, bA (bA (Below.refl _ _) _) _⟩
  · have ho2 : ¬ 4398046511104 - wt < x.a := by omega
    rw [if_neg ho]
    go_enter Try.func93, Try.ntmps93
    go_wp2_with fail
    go_ret2
    exact ⟨rfl, bA (bA (Below.refl _ _) _) _⟩
theorem weakSay_walk (x : Val) (p wt : Int) (w : World) : Calls Try.prog 97 #[.agg #[], .agg #[.int .i64 x.a, .int .i64 x.label], .int .i64 p, .int .i64 wt] w (RetII w (x.a, 0)) := by
  go_enter Try.func97, Try.ntmps97
  go_wp2_with fail
  go_ret2
  exact ⟨rfl, bA (bA (Below.refl _ _) _) _⟩
set_option maxRecDepth 100000 in
set_option maxHeartbeats 4000000 in
theorem say1_walk (x : Val) (p wt : Int) (hx : x.wf) (hwt : I64 wt) (w : World) : Calls Try.prog 46 #[.int .i64 1, .agg #[.int .i64 x.a, .int .i64 x.label], .int .i64 p, .int .i64 wt] w (RetII w (sayV 1 x p wt)) := by
  have hj := hid (jobOf_walk 1)
  have hph := phases_walk 1 p
  have b0 := bA (Below.refl w.heap.size w) (.cells #[.int .i64 x.a, .int .i64 x.label] 50)
  have hV := value_walk 1 x (w.alloc (.cells #[.int .i64 x.a, .int .i64 x.label] 50))
  have hkb : kindB 1 p = (decide (p = 0) || (decide ((1 : Int) = 3) && decide (p = 1))) := by unfold kindB; rw [show inB 1 1 3 = true from rfl, Bool.true_and]
  cases hp : (decide (p = 0) || (decide ((1 : Int) = 3) && decide (p = 1))) with
  | false =>
    · have HE := hid (sayV_kind (x := x) (wt := wt) (hkb.trans hp))
      rw [hp] at hph
      have HPH := hid hph
      clear hp hph hV hkb
      go_enter Try.func46, Try.ntmps46
      go_wp2_with fail
      refine (hj.out _).mono ?_
      rintro e w' ⟨rfl, rfl⟩
      rw [show jobI 1 = .iface 92 (.agg #[]) from rfl]
      go_wp2_with fail
      refine (HPH.out _).mono ?_
      rintro e w' ⟨rfl, rfl⟩
      go_wp2_with fail
      go_ret2
      rw [HE.out]
      exact ⟨rfl, b0⟩
  | true =>
    have hk := hkb.trans hp
    rw [hp] at hph
    have HPH := hid hph
    clear hp hph hkb
    have hcase : (vB 1 x = false) ∨ (vB 1 x = true ∧ x.a = -1) ∨ (vB 1 x = true ∧ ¬ x.a = -1 ∧ wt < 0) ∨ (vB 1 x = true ∧ ¬ x.a = -1 ∧ ¬ wt < 0 ∧ 1099511627776 < wt) ∨ (vB 1 x = true ∧ ¬ x.a = -1 ∧ ¬ wt < 0 ∧ ¬ 1099511627776 < wt) := by
      cases vB 1 x
      · exact .inl rfl
      · by_cases h2 : x.a = -1
        · exact .inr (.inl ⟨rfl, h2⟩)
        · by_cases h3 : wt < 0
          · exact .inr (.inr (.inl ⟨rfl, h2, h3⟩))
          · by_cases h4 : 1099511627776 < wt
            · exact .inr (.inr (.inr (.inl ⟨rfl, h2, h3, h4⟩)))
            · exact .inr (.inr (.inr (.inr ⟨rfl, h2, h3, h4⟩)))
    rcases hcase with h1 | ⟨h1, h2⟩ | ⟨h1, h2, h3⟩ | ⟨h1, h2, h3, h4⟩ | ⟨h1, h2, h3, h4⟩
    · have HE := hid (sayV_bad (wt := wt) hk (.inl h1))
      rw [h1] at hV
      have HVV := hid hV
      clear hV hk h1
      go_enter Try.func46, Try.ntmps46
      go_wp2_with fail
      refine (hj.out _).mono ?_
      rintro e w' ⟨rfl, rfl⟩
      rw [show jobI 1 = .iface 92 (.agg #[]) from rfl]
      go_wp2_with fail
      refine (HPH.out _).mono ?_
      rintro e w' ⟨rfl, rfl⟩
      go_wp2_with fail
      refine HVV.out.mono ?_
      rintro e w1 ⟨rfl, b1⟩
      have q0 : w1.cell? ⟨w.heap.size, 0, none⟩ = some (.int .i64 x.a) := keepb b1 (by go_simp)
      have q1 : w1.cell? ⟨w.heap.size, 1, none⟩ = some (.int .i64 x.label) := keepb b1 (by go_simp)
      go_wp2_with fail
      go_ret2
      rw [HE.out]
      exact ⟨rfl, bT b0 b1⟩
    · have HE := hid (sayV_bad (x := x) (wt := wt) hk (.inr (.inl h2)))
      rw [h1] at hV
      have HVV := hid hV
      have h2b : (x.a == -1) = true := by simpa using h2
      clear hV hk h1 h2
      go_enter Try.func46, Try.ntmps46
      go_wp2_with fail
      refine (hj.out _).mono ?_
      rintro e w' ⟨rfl, rfl⟩
      rw [show jobI 1 = .iface 92 (.agg #[]) from rfl]
      go_wp2_with fail
      refine (HPH.out _).mono ?_
      rintro e w' ⟨rfl, rfl⟩
      go_wp2_with fail
      refine HVV.out.mono ?_
      rintro e w1 ⟨rfl, b1⟩
      have q0 : w1.cell? ⟨w.heap.size, 0, none⟩ = some (.int .i64 x.a) := keepb b1 (by go_simp)
      have q1 : w1.cell? ⟨w.heap.size, 1, none⟩ = some (.int .i64 x.label) := keepb b1 (by go_simp)
      go_wp2_with fail
      go_ret2
      rw [HE.out]
      exact ⟨rfl, bT b0 b1⟩
    · have HE := hid (sayV_bad (x := x) (wt := wt) hk (.inr (.inr (by omega))))
      rw [h1] at hV
      have HVV := hid hV
      have h2b : (x.a == -1) = false := by simpa using h2
      clear hV hk h1 h2
      go_enter Try.func46, Try.ntmps46
      go_wp2_with fail
      refine (hj.out _).mono ?_
      rintro e w' ⟨rfl, rfl⟩
      rw [show jobI 1 = .iface 92 (.agg #[]) from rfl]
      go_wp2_with fail
      refine (HPH.out _).mono ?_
      rintro e w' ⟨rfl, rfl⟩
      go_wp2_with fail
      refine HVV.out.mono ?_
      rintro e w1 ⟨rfl, b1⟩
      have q0 : w1.cell? ⟨w.heap.size, 0, none⟩ = some (.int .i64 x.a) := keepb b1 (by go_simp)
      have q1 : w1.cell? ⟨w.heap.size, 1, none⟩ = some (.int .i64 x.label) := keepb b1 (by go_simp)
      go_wp2_with fail
      go_ret2
      rw [HE.out]
      exact ⟨rfl, bT b0 b1⟩
    · have HE := hid (sayV_bad (x := x) (wt := wt) hk (.inr (.inr (by omega))))
      rw [h1] at hV
      have HVV := hid hV
      have h2b : (x.a == -1) = false := by simpa using h2
      clear hV hk h1 h2
      go_enter Try.func46, Try.ntmps46
      go_wp2_with fail
      refine (hj.out _).mono ?_
      rintro e w' ⟨rfl, rfl⟩
      rw [show jobI 1 = .iface 92 (.agg #[]) from rfl]
      go_wp2_with fail
      refine (HPH.out _).mono ?_
      rintro e w' ⟨rfl, rfl⟩
      go_wp2_with fail
      refine HVV.out.mono ?_
      rintro e w1 ⟨rfl, b1⟩
      have q0 : w1.cell? ⟨w.heap.size, 0, none⟩ = some (.int .i64 x.a) := keepb b1 (by go_simp)
      have q1 : w1.cell? ⟨w.heap.size, 1, none⟩ = some (.int .i64 x.label) := keepb b1 (by go_simp)
      go_wp2_with fail
      go_ret2
      rw [HE.out]
      exact ⟨rfl, bT b0 b1⟩
    · have h5 := vB_ok h1
      have hnb : ¬ (vB 1 x = false ∨ x.a = -1 ∨ ¬ (0 ≤ wt ∧ wt ≤ 1099511627776)) := by
        rintro (h | h | h)
        · rw [h1] at h; cases h
        · exact h2 h
        · omega
      have htop : topS 1 ≤ 4398046511104 := by unfold topS; split <;> omega
      have hm : ∀ w, (method 238 92 (.agg #[]) "paceline/prog.say").run Try.prog w = .ok (93, .agg #[]) w := fun _ => by kernel_rfl
      have HC := hid (fun w => distSay_walk x p wt (by omega) (by omega) (by omega) (by omega) w)
      have HE : Hid (sayV 1 x p wt = if 4398046511104 < x.a + wt then (0, 6) else (x.a + wt, 0)) := hid (by
        split
        · rename_i ho; exact sayV_over hk hnb ho
        · rename_i ho; exact sayV_sum hk hnb ho)
      generalize (if 4398046511104 < x.a + wt then ((0 : Int), (6 : Int)) else (x.a + wt, 0)) = z at HC HE
      rw [h1] at hV
      have HVV := hid hV
      have h2b : (x.a == -1) = false := by simpa using h2
      clear hV hk h1 h2 hnb h5 htop
      go_enter Try.func46, Try.ntmps46
      go_wp2_with fail
      refine (hj.out _).mono ?_
      rintro e w' ⟨rfl, rfl⟩
      rw [show jobI 1 = .iface 92 (.agg #[]) from rfl]
      go_wp2_with fail
      refine (HPH.out _).mono ?_
      rintro e w' ⟨rfl, rfl⟩
      go_wp2_with fail
      refine HVV.out.mono ?_
      rintro e w1 ⟨rfl, b1⟩
      have q0 : w1.cell? ⟨w.heap.size, 0, none⟩ = some (.int .i64 x.a) := keepb b1 (by go_simp)
      have q1 : w1.cell? ⟨w.heap.size, 1, none⟩ = some (.int .i64 x.label) := keepb b1 (by go_simp)
      go_wp2_with fail
      refine (HC.out _).mono ?_
      rintro e w2 ⟨rfl, b2⟩
      go_wp2_with fail
      go_ret2
      rw [HE.out]
      exact ⟨rfl, bT (bT b0 b1) b2⟩
set_option maxRecDepth 100000 in
set_option maxHeartbeats 4000000 in
theorem say2_walk (x : Val) (p wt : Int) (hx : x.wf) (hwt : I64 wt) (w : World) : Calls Try.prog 46 #[.int .i64 2, .agg #[.int .i64 x.a, .int .i64 x.label], .int .i64 p, .int .i64 wt] w (RetII w (sayV 2 x p wt)) := by
  have hj := hid (jobOf_walk 2)
  have hph := phases_walk 2 p
  have b0 := bA (Below.refl w.heap.size w) (.cells #[.int .i64 x.a, .int .i64 x.label] 50)
  have hV := value_walk 2 x (w.alloc (.cells #[.int .i64 x.a, .int .i64 x.label] 50))
  have hkb : kindB 2 p = (decide (p = 0) || (decide ((2 : Int) = 3) && decide (p = 1))) := by unfold kindB; rw [show inB 2 1 3 = true from rfl, Bool.true_and]
  cases hp : (decide (p = 0) || (decide ((2 : Int) = 3) && decide (p = 1))) with
  | false =>
    · have HE := hid (sayV_kind (x := x) (wt := wt) (hkb.trans hp))
      rw [hp] at hph
      have HPH := hid hph
      clear hp hph hV hkb
      go_enter Try.func46, Try.ntmps46
      go_wp2_with fail
      refine (hj.out _).mono ?_
      rintro e w' ⟨rfl, rfl⟩
      rw [show jobI 2 = .iface 93 (.agg #[]) from rfl]
      go_wp2_with fail
      refine (HPH.out _).mono ?_
      rintro e w' ⟨rfl, rfl⟩
      go_wp2_with fail
      go_ret2
      rw [HE.out]
      exact ⟨rfl, b0⟩
  | true =>
    have hk := hkb.trans hp
    rw [hp] at hph
    have HPH := hid hph
    clear hp hph hkb
    have hcase : (vB 2 x = false) ∨ (vB 2 x = true ∧ x.a = -1) ∨ (vB 2 x = true ∧ ¬ x.a = -1 ∧ wt < 0) ∨ (vB 2 x = true ∧ ¬ x.a = -1 ∧ ¬ wt < 0 ∧ 1099511627776 < wt) ∨ (vB 2 x = true ∧ ¬ x.a = -1 ∧ ¬ wt < 0 ∧ ¬ 1099511627776 < wt) := by
      cases vB 2 x
      · exact .inl rfl
      · by_cases h2 : x.a = -1
        · exact .inr (.inl ⟨rfl, h2⟩)
        · by_cases h3 : wt < 0
          · exact .inr (.inr (.inl ⟨rfl, h2, h3⟩))
          · by_cases h4 : 1099511627776 < wt
            · exact .inr (.inr (.inr (.inl ⟨rfl, h2, h3, h4⟩)))
            · exact .inr (.inr (.inr (.inr ⟨rfl, h2, h3, h4⟩)))
    rcases hcase with h1 | ⟨h1, h2⟩ | ⟨h1, h2, h3⟩ | ⟨h1, h2, h3, h4⟩ | ⟨h1, h2, h3, h4⟩
    · have HE := hid (sayV_bad (wt := wt) hk (.inl h1))
      rw [h1] at hV
      have HVV := hid hV
      clear hV hk h1
      go_enter Try.func46, Try.ntmps46
      go_wp2_with fail
      refine (hj.out _).mono ?_
      rintro e w' ⟨rfl, rfl⟩
      rw [show jobI 2 = .iface 93 (.agg #[]) from rfl]
      go_wp2_with fail
      refine (HPH.out _).mono ?_
      rintro e w' ⟨rfl, rfl⟩
      go_wp2_with fail
      refine HVV.out.mono ?_
      rintro e w1 ⟨rfl, b1⟩
      have q0 : w1.cell? ⟨w.heap.size, 0, none⟩ = some (.int .i64 x.a) := keepb b1 (by go_simp)
      have q1 : w1.cell? ⟨w.heap.size, 1, none⟩ = some (.int .i64 x.label) := keepb b1 (by go_simp)
      go_wp2_with fail
      go_ret2
      rw [HE.out]
      exact ⟨rfl, bT b0 b1⟩
    · have HE := hid (sayV_bad (x := x) (wt := wt) hk (.inr (.inl h2)))
      rw [h1] at hV
      have HVV := hid hV
      have h2b : (x.a == -1) = true := by simpa using h2
      clear hV hk h1 h2
      go_enter Try.func46, Try.ntmps46
      go_wp2_with fail
      refine (hj.out _).mono ?_
      rintro e w' ⟨rfl, rfl⟩
      rw [show jobI 2 = .iface 93 (.agg #[]) from rfl]
      go_wp2_with fail
      refine (HPH.out _).mono ?_
      rintro e w' ⟨rfl, rfl⟩
      go_wp2_with fail
      refine HVV.out.mono ?_
      rintro e w1 ⟨rfl, b1⟩
      have q0 : w1.cell? ⟨w.heap.size, 0, none⟩ = some (.int .i64 x.a) := keepb b1 (by go_simp)
      have q1 : w1.cell? ⟨w.heap.size, 1, none⟩ = some (.int .i64 x.label) := keepb b1 (by go_simp)
      go_wp2_with fail
      go_ret2
      rw [HE.out]
      exact ⟨rfl, bT b0 b1⟩
    · have HE := hid (sayV_bad (x := x) (wt := wt) hk (.inr (.inr (by omega))))
      rw [h1] at hV
      have HVV := hid hV
      have h2b : (x.a == -1) = false := by simpa using h2
      clear hV hk h1 h2
      go_enter Try.func46, Try.ntmps46
      go_wp2_with fail
      refine (hj.out _).mono ?_
      rintro e w' ⟨rfl, rfl⟩
      rw [show jobI 2 = .iface 93 (.agg #[]) from rfl]
      go_wp2_with fail
      refine (HPH.out _).mono ?_
      rintro e w' ⟨rfl, rfl⟩
      go_wp2_with fail
      refine HVV.out.mono ?_
      rintro e w1 ⟨rfl, b1⟩
      have q0 : w1.cell? ⟨w.heap.size, 0, none⟩ = some (.int .i64 x.a) := keepb b1 (by go_simp)
      have q1 : w1.cell? ⟨w.heap.size, 1, none⟩ = some (.int .i64 x.label) := keepb b1 (by go_simp)
      go_wp2_with fail
      go_ret2
      rw [HE.out]
      exact ⟨rfl, bT b0 b1⟩
    · have HE := hid (sayV_bad (x := x) (wt := wt) hk (.inr (.inr (by omega))))
      rw [h1] at hV
      have HVV := hid hV
      have h2b : (x.a == -1) = false := by simpa using h2
      clear hV hk h1 h2
      go_enter Try.func46, Try.ntmps46
      go_wp2_with fail
      refine (hj.out _).mono ?_
      rintro e w' ⟨rfl, rfl⟩
      rw [show jobI 2 = .iface 93 (.agg #[]) from rfl]
      go_wp2_with fail
      refine (HPH.out _).mono ?_
      rintro e w' ⟨rfl, rfl⟩
      go_wp2_with fail
      refine HVV.out.mono ?_
      rintro e w1 ⟨rfl, b1⟩
      have q0 : w1.cell? ⟨w.heap.size, 0, none⟩ = some (.int .i64 x.a) := keepb b1 (by go_simp)
      have q1 : w1.cell? ⟨w.heap.size, 1, none⟩ = some (.int .i64 x.label) := keepb b1 (by go_simp)
      go_wp2_with fail
      go_ret2
      rw [HE.out]
      exact ⟨rfl, bT b0 b1⟩
    · have h5 := vB_ok h1
      have hnb : ¬ (vB 2 x = false ∨ x.a = -1 ∨ ¬ (0 ≤ wt ∧ wt ≤ 1099511627776)) := by
        rintro (h | h | h)
        · rw [h1] at h; cases h
        · exact h2 h
        · omega
      have htop : topS 2 ≤ 4398046511104 := by unfold topS; split <;> omega
      have hm : ∀ w, (method 238 93 (.agg #[]) "paceline/prog.say").run Try.prog w = .ok (97, .agg #[]) w := fun _ => by kernel_rfl
      have HC := hid (fun w => weakSay_walk x p wt w)
      have HE := hid (sayV_a hk hnb (by decide))
      rw [h1] at hV
      have HVV := hid hV
      have h2b : (x.a == -1) = false := by simpa using h2
      clear hV hk h1 h2 hnb h5 htop
      go_enter Try.func46, Try.ntmps46
      go_wp2_with fail
      refine (hj.out _).mono ?_
      rintro e w' ⟨rfl, rfl⟩
      rw [show jobI 2 = .iface 93 (.agg #[]) from rfl]
      go_wp2_with fail
      refine (HPH.out _).mono ?_
      rintro e w' ⟨rfl, rfl⟩
      go_wp2_with fail
      refine HVV.out.mono ?_
      rintro e w1 ⟨rfl, b1⟩
      have q0 : w1.cell? ⟨w.heap.size, 0, none⟩ = some (.int .i64 x.a) := keepb b1 (by go_simp)
      have q1 : w1.cell? ⟨w.heap.size, 1, none⟩ = some (.int .i64 x.label) := keepb b1 (by go_simp)
      go_wp2_with fail
      refine (HC.out _).mono ?_
      rintro e w2 ⟨rfl, b2⟩
      go_wp2_with fail
      go_ret2
      rw [HE.out]
      exact ⟨rfl, bT (bT b0 b1) b2⟩
set_option maxRecDepth 100000 in
set_option maxHeartbeats 4000000 in
theorem say3_walk (x : Val) (p wt : Int) (hx : x.wf) (hwt : I64 wt) (w : World) : Calls Try.prog 46 #[.int .i64 3, .agg #[.int .i64 x.a, .int .i64 x.label], .int .i64 p, .int .i64 wt] w (RetII w (sayV 3 x p wt)) := by
  have hj := hid (jobOf_walk 3)
  have hph := phases_walk 3 p
  have b0 := bA (Below.refl w.heap.size w) (.cells #[.int .i64 x.a, .int .i64 x.label] 50)
  have hV := value_walk 3 x (w.alloc (.cells #[.int .i64 x.a, .int .i64 x.label] 50))
  have hkb : kindB 3 p = (decide (p = 0) || (decide ((3 : Int) = 3) && decide (p = 1))) := by unfold kindB; rw [show inB 3 1 3 = true from rfl, Bool.true_and]
  cases hp : (decide (p = 0) || (decide ((3 : Int) = 3) && decide (p = 1))) with
  | false =>
    · have HE := hid (sayV_kind (x := x) (wt := wt) (hkb.trans hp))
      rw [hp] at hph
      have HPH := hid hph
      clear hp hph hV hkb
      go_enter Try.func46, Try.ntmps46
      go_wp2_with fail
      refine (hj.out _).mono ?_
      rintro e w' ⟨rfl, rfl⟩
      rw [show jobI 3 = .iface 95 (.agg #[]) from rfl]
      go_wp2_with fail
      refine (HPH.out _).mono ?_
      rintro e w' ⟨rfl, rfl⟩
      go_wp2_with fail
      go_ret2
      rw [HE.out]
      exact ⟨rfl, b0⟩
  | true =>
    have hk := hkb.trans hp
    rw [hp] at hph
    have HPH := hid hph
    clear hp hph hkb
    have hcase : (vB 3 x = false) ∨ (vB 3 x = true ∧ x.a = -1) ∨ (vB 3 x = true ∧ ¬ x.a = -1 ∧ wt < 0) ∨ (vB 3 x = true ∧ ¬ x.a = -1 ∧ ¬ wt < 0 ∧ 1099511627776 < wt) ∨ (vB 3 x = true ∧ ¬ x.a = -1 ∧ ¬ wt < 0 ∧ ¬ 1099511627776 < wt) := by
      cases vB 3 x
      · exact .inl rfl
      · by_cases h2 : x.a = -1
        · exact .inr (.inl ⟨rfl, h2⟩)
        · by_cases h3 : wt < 0
          · exact .inr (.inr (.inl ⟨rfl, h2, h3⟩))
          · by_cases h4 : 1099511627776 < wt
            · exact .inr (.inr (.inr (.inl ⟨rfl, h2, h3, h4⟩)))
            · exact .inr (.inr (.inr (.inr ⟨rfl, h2, h3, h4⟩)))
    rcases hcase with h1 | ⟨h1, h2⟩ | ⟨h1, h2, h3⟩ | ⟨h1, h2, h3, h4⟩ | ⟨h1, h2, h3, h4⟩
    · have HE := hid (sayV_bad (wt := wt) hk (.inl h1))
      rw [h1] at hV
      have HVV := hid hV
      clear hV hk h1
      go_enter Try.func46, Try.ntmps46
      go_wp2_with fail
      refine (hj.out _).mono ?_
      rintro e w' ⟨rfl, rfl⟩
      rw [show jobI 3 = .iface 95 (.agg #[]) from rfl]
      go_wp2_with fail
      refine (HPH.out _).mono ?_
      rintro e w' ⟨rfl, rfl⟩
      go_wp2_with fail
      refine HVV.out.mono ?_
      rintro e w1 ⟨rfl, b1⟩
      have q0 : w1.cell? ⟨w.heap.size, 0, none⟩ = some (.int .i64 x.a) := keepb b1 (by go_simp)
      have q1 : w1.cell? ⟨w.heap.size, 1, none⟩ = some (.int .i64 x.label) := keepb b1 (by go_simp)
      go_wp2_with fail
      go_ret2
      rw [HE.out]
      exact ⟨rfl, bT b0 b1⟩
    · have HE := hid (sayV_bad (x := x) (wt := wt) hk (.inr (.inl h2)))
      rw [h1] at hV
      have HVV := hid hV
      have h2b : (x.a == -1) = true := by simpa using h2
      clear hV hk h1 h2
      go_enter Try.func46, Try.ntmps46
      go_wp2_with fail
      refine (hj.out _).mono ?_
      rintro e w' ⟨rfl, rfl⟩
      rw [show jobI 3 = .iface 95 (.agg #[]) from rfl]
      go_wp2_with fail
      refine (HPH.out _).mono ?_
      rintro e w' ⟨rfl, rfl⟩
      go_wp2_with fail
      refine HVV.out.mono ?_
      rintro e w1 ⟨rfl, b1⟩
      have q0 : w1.cell? ⟨w.heap.size, 0, none⟩ = some (.int .i64 x.a) := keepb b1 (by go_simp)
      have q1 : w1.cell? ⟨w.heap.size, 1, none⟩ = some (.int .i64 x.label) := keepb b1 (by go_simp)
      go_wp2_with fail
      go_ret2
      rw [HE.out]
      exact ⟨rfl, bT b0 b1⟩
    · have HE := hid (sayV_bad (x := x) (wt := wt) hk (.inr (.inr (by omega))))
      rw [h1] at hV
      have HVV := hid hV
      have h2b : (x.a == -1) = false := by simpa using h2
      clear hV hk h1 h2
      go_enter Try.func46, Try.ntmps46
      go_wp2_with fail
      refine (hj.out _).mono ?_
      rintro e w' ⟨rfl, rfl⟩
      rw [show jobI 3 = .iface 95 (.agg #[]) from rfl]
      go_wp2_with fail
      refine (HPH.out _).mono ?_
      rintro e w' ⟨rfl, rfl⟩
      go_wp2_with fail
      refine HVV.out.mono ?_
      rintro e w1 ⟨rfl, b1⟩
      have q0 : w1.cell? ⟨w.heap.size, 0, none⟩ = some (.int .i64 x.a) := keepb b1 (by go_simp)
      have q1 : w1.cell? ⟨w.heap.size, 1, none⟩ = some (.int .i64 x.label) := keepb b1 (by go_simp)
      go_wp2_with fail
      go_ret2
      rw [HE.out]
      exact ⟨rfl, bT b0 b1⟩
    · have HE := hid (sayV_bad (x := x) (wt := wt) hk (.inr (.inr (by omega))))
      rw [h1] at hV
      have HVV := hid hV
      have h2b : (x.a == -1) = false := by simpa using h2
      clear hV hk h1 h2
      go_enter Try.func46, Try.ntmps46
      go_wp2_with fail
      refine (hj.out _).mono ?_
      rintro e w' ⟨rfl, rfl⟩
      rw [show jobI 3 = .iface 95 (.agg #[]) from rfl]
      go_wp2_with fail
      refine (HPH.out _).mono ?_
      rintro e w' ⟨rfl, rfl⟩
      go_wp2_with fail
      refine HVV.out.mono ?_
      rintro e w1 ⟨rfl, b1⟩
      have q0 : w1.cell? ⟨w.heap.size, 0, none⟩ = some (.int .i64 x.a) := keepb b1 (by go_simp)
      have q1 : w1.cell? ⟨w.heap.size, 1, none⟩ = some (.int .i64 x.label) := keepb b1 (by go_simp)
      go_wp2_with fail
      go_ret2
      rw [HE.out]
      exact ⟨rfl, bT b0 b1⟩
    · have h5 := vB_ok h1
      have hnb : ¬ (vB 3 x = false ∨ x.a = -1 ∨ ¬ (0 ≤ wt ∧ wt ≤ 1099511627776)) := by
        rintro (h | h | h)
        · rw [h1] at h; cases h
        · exact h2 h
        · omega
      have htop : topS 3 ≤ 4398046511104 := by unfold topS; split <;> omega
      have hm : ∀ w, (method 238 95 (.agg #[]) "paceline/prog.say").run Try.prog w = .ok (97, .agg #[]) w := fun _ => by kernel_rfl
      have HC := hid (fun w => weakSay_walk x p wt w)
      have HE := hid (sayV_a hk hnb (by decide))
      rw [h1] at hV
      have HVV := hid hV
      have h2b : (x.a == -1) = false := by simpa using h2
      clear hV hk h1 h2 hnb h5 htop
      go_enter Try.func46, Try.ntmps46
      go_wp2_with fail
      refine (hj.out _).mono ?_
      rintro e w' ⟨rfl, rfl⟩
      rw [show jobI 3 = .iface 95 (.agg #[]) from rfl]
      go_wp2_with fail
      refine (HPH.out _).mono ?_
      rintro e w' ⟨rfl, rfl⟩
      go_wp2_with fail
      refine HVV.out.mono ?_
      rintro e w1 ⟨rfl, b1⟩
      have q0 : w1.cell? ⟨w.heap.size, 0, none⟩ = some (.int .i64 x.a) := keepb b1 (by go_simp)
      have q1 : w1.cell? ⟨w.heap.size, 1, none⟩ = some (.int .i64 x.label) := keepb b1 (by go_simp)
      go_wp2_with fail
      refine (HC.out _).mono ?_
      rintro e w2 ⟨rfl, b2⟩
      go_wp2_with fail
      go_ret2
      rw [HE.out]
      exact ⟨rfl, bT (bT b0 b1) b2⟩
set_option maxHeartbeats 2000000 in
theorem say_walk (k : Int) (x : Val) (p wt : Int) (hx : x.wf) (hwt : I64 wt) (w : World) : Calls Try.prog 46 #[.int .i64 k, .agg #[.int .i64 x.a, .int .i64 x.label], .int .i64 p, .int .i64 wt] w (RetII w (sayV k x p wt)) := by
  have hk : k = 1 ∨ k = 2 ∨ k = 3 ∨ (k ≠ 1 ∧ k ≠ 2 ∧ k ≠ 3) := by omega
  rcases hk with rfl | rfl | rfl | ⟨k1, k2, k3⟩
  · exact say1_walk x p wt hx hwt w
  · exact say2_walk x p wt hx hwt w
  · exact say3_walk x p wt hx hwt w
  · have hj := hid (jobOf_walk k)
    have HJ : Hid (jobI k = .nilIface) := hid (by simp [jobI, k1, k2, k3])
    have HE : Hid (sayV k x p wt = (0, 3)) := hid (sayV_kind (by unfold kindB; rw [show inB k 1 3 = false by simp [inB]; omega]; simp))
    go_enter Try.func46, Try.ntmps46
    go_wp2_with fail
    refine (hj.out _).mono ?_
    rintro e w' ⟨rfl, rfl⟩
    rw [HJ.out]
    go_wp2_with fail
    go_ret2
    rw [HE.out]
    exact ⟨rfl, bA (Below.refl _ _) _⟩
end Go.Proofs.Yteefemiieidpaaa
