/- prog.Say, the document's Said; the statement. -/
import Derived.Test.YteefemiieidpaaaWays
import Derived.Test.YteefemiieidpaaaMem
namespace Go.Proofs.Yteefemiieidpaaa
open Go.ChangeShapes Go.WideShapes Go.ChangeAt Go.RowKit
set_option linter.unusedVariables false
set_option linter.unusedSimpArgs false
def topS (k : Int) : Int := if k = 1 then 4398046511104 else 199
def vB (k : Int) (x : Val) : Bool := inB x.a (-1) (topS k) && inB x.label (-1) 199
theorem vB_yes {k : Int} {x : Val} (h1 : -1 ≤ x.a) (h2 : x.a ≤ topS k) (h3 : -1 ≤ x.label) (h4 : x.label ≤ 199) : vB k x = true := by
  unfold vB; rw [inB_yes ⟨h1, h2⟩, inB_yes ⟨h3, h4⟩]; rfl
theorem vB_no {k : Int} {x : Val} (h : ¬ ((-1 ≤ x.a ∧ x.a ≤ topS k) ∧ -1 ≤ x.label ∧ x.label ≤ 199)) : vB k x = false := by
  unfold vB
  by_cases h1 : -1 ≤ x.a ∧ x.a ≤ topS k
  · rw [inB_no (n := x.label) (fun h2 => h ⟨h1, h2⟩)]; simp
  · rw [inB_no h1]; rfl
theorem vB_ok {k : Int} {x : Val} (h : vB k x = true) : (-1 ≤ x.a ∧ x.a ≤ topS k) ∧ -1 ≤ x.label ∧ x.label ≤ 199 := by
  refine Classical.byContradiction fun hc => ?_
  rw [vB_no hc] at h; cases h
theorem topS_walk (k : Int) (w : World) : Calls Try.prog 44 #[.int .i64 k] w fun e w' => e = .returned (.int .i64 (topS k)) ∧ w = w' := by
  by_cases h : k = 1
  · have HV : Hid (topS k = 4398046511104) := hid (by unfold topS; rw [if_pos h])
    go_enter Try.func44, Try.ntmps44
    go_wp2_with fail
    go_ret
    exact ⟨by rw [HV.out]; rfl, rfl⟩
  · have HV : Hid (topS k = 199) := hid (by unfold topS; rw [if_neg h])
    have hb : (k == 1) = false := by simpa using h
    go_enter Try.func44, Try.ntmps44
    go_wp2_with fail
    go_ret
    exact ⟨by rw [HV.out]; rfl, rfl⟩
theorem topR_walk (k : Int) (w : World) : Calls Try.prog 55 #[.int .i64 k] w fun e w' => e = .returned (.int .i64 (topS k)) ∧ w = w' := by
  by_cases h : k = 1
  · have HV : Hid (topS k = 4398046511104) := hid (by unfold topS; rw [if_pos h])
    go_enter Try.func55, Try.ntmps55
    go_wp2_with fail
    go_ret
    exact ⟨by rw [HV.out]; rfl, rfl⟩
  · have HV : Hid (topS k = 199) := hid (by unfold topS; rw [if_neg h])
    have hb : (k == 1) = false := by simpa using h
    go_enter Try.func55, Try.ntmps55
    go_wp2_with fail
    go_ret
    exact ⟨by rw [HV.out]; rfl, rfl⟩
set_option maxHeartbeats 2000000 in
theorem valueR_walk (k : Int) (x : Val) (w : World) : Calls Try.prog 54 #[.int .i64 k, .agg #[.int .i64 x.a, .int .i64 x.label]] w fun e w' => e = .returned (.bool (vB k x)) ∧ Below w.heap.size w w' := by
  have HT := hid (topR_walk k)
  have HI := hid (fun n lo hi => In_walk n lo hi)
  generalize hF : vB k x = F
  have HF := hid hF
  clear hF
  cases h1 : inB x.a (-1) (topS k) with
  | false =>
    have HV : Hid (F = false) := hid (by rw [← HF.out]; unfold vB; rw [h1]; rfl)
    go_enter Try.func54, Try.ntmps54
    go_wp2_with fail
    go_quiet ((first | (go_at_call 55; exact qsame (HT.out _)) | (go_at_call 52; exact qsame (HI.out _ _ _ _))))
    go_wp2_with fail
    go_ret
    exact ⟨by rw [HV.out]; rfl, below_drewN (bA (Below.refl _ _) _) _⟩
  | true =>
    have HV : Hid (F = inB x.label (-1) 199) := hid (by rw [← HF.out]; unfold vB; rw [h1]; rfl)
    go_enter Try.func54, Try.ntmps54
    go_wp2_with fail
    go_quiet ((first | (go_at_call 55; exact qsame (HT.out _)) | (go_at_call 52; exact qsame (HI.out _ _ _ _))))
    go_wp2_with fail
    go_ret
    exact ⟨by rw [HV.out]; rfl, below_drewN (bA (Below.refl _ _) _) _⟩
set_option maxHeartbeats 4000000 in
theorem value_walk (k : Int) (x : Val) (w : World) : Calls Try.prog 43 #[.int .i64 k, .agg #[.int .i64 x.a, .int .i64 x.label]] w fun e w' => e = .returned (.bool (vB k x)) ∧ Below w.heap.size w w' := by
  have HT := hid (topS_walk k)
  generalize hF : vB k x = F
  have HF := hid hF
  clear hF
  have hcase : (decide (-1 ≤ x.a) = false ∧ F = false) ∨ (decide (-1 ≤ x.a) = true ∧ decide (x.a ≤ topS k) = false ∧ F = false) ∨ (decide (-1 ≤ x.a) = true ∧ decide (x.a ≤ topS k) = true ∧ decide (-1 ≤ x.label) = false ∧ F = false) ∨ (decide (-1 ≤ x.a) = true ∧ decide (x.a ≤ topS k) = true ∧ decide (-1 ≤ x.label) = true ∧ decide (x.label < 200) = false ∧ F = false) ∨ (decide (-1 ≤ x.a) = true ∧ decide (x.a ≤ topS k) = true ∧ decide (-1 ≤ x.label) = true ∧ decide (x.label < 200) = true ∧ F = true) := by
    by_cases h1 : -1 ≤ x.a
    · refine .inr ?_
      by_cases h2 : x.a ≤ topS k
      · refine .inr ?_
        by_cases h3 : -1 ≤ x.label
        · refine .inr ?_
          by_cases h4 : x.label < 200
          · exact .inr ⟨decide_eq_true h1, decide_eq_true h2, decide_eq_true h3, decide_eq_true h4, by rw [← HF.out]; exact vB_yes h1 h2 h3 (by omega)⟩
          · exact .inl ⟨decide_eq_true h1, decide_eq_true h2, decide_eq_true h3, decide_eq_false h4, by rw [← HF.out]; exact vB_no (by omega)⟩
        · exact .inl ⟨decide_eq_true h1, decide_eq_true h2, decide_eq_false h3, by rw [← HF.out]; exact vB_no (by omega)⟩
      · exact .inl ⟨decide_eq_true h1, decide_eq_false h2, by rw [← HF.out]; exact vB_no (by omega)⟩
    · exact .inl ⟨decide_eq_false h1, by rw [← HF.out]; exact vB_no (by omega)⟩
  clear HF
  rcases hcase with ⟨h1, hv⟩ | ⟨h1, h2, hv⟩ | ⟨h1, h2, h3, hv⟩ | ⟨h1, h2, h3, h4, hv⟩ | ⟨h1, h2, h3, h4, hv⟩
  all_goals
    have HV := hid hv
    clear hv
    go_enter Try.func43, Try.ntmps43
    go_wp2_with fail
    go_quiet ((go_at_call 44; exact qsame (HT.out _)))
    go_wp2_with fail
    go_ret
    exact ⟨by rw [HV.out]; rfl, below_drewN (bA (Below.refl _ _) _) _⟩
noncomputable def sayV (k : Int) (x : Val) (p wt : Int) : Int × Int :=
  if kindB k p = false then (0, 3) else if vB k x = false ∨ x.a = -1 ∨ ¬ (0 ≤ wt ∧ wt ≤ 1099511627776) then (0, 2) else if k ≠ 1 then (x.a, 0) else if 4398046511104 < x.a + wt then (0, 6) else (x.a + wt, 0)
theorem sayV_kind {k p wt : Int} {x : Val} (h : kindB k p = false) : sayV k x p wt = (0, 3) := by unfold sayV; rw [if_pos h]
theorem sayV_bad {k p wt : Int} {x : Val} (h : kindB k p = true) (h2 : vB k x = false ∨ x.a = -1 ∨ ¬ (0 ≤ wt ∧ wt ≤ 1099511627776)) : sayV k x p wt = (0, 2) := by unfold sayV; rw [if_neg (by rw [h]; simp), if_pos h2]
theorem sayV_a {k p wt : Int} {x : Val} (h : kindB k p = true) (h2 : ¬ (vB k x = false ∨ x.a = -1 ∨ ¬ (0 ≤ wt ∧ wt ≤ 1099511627776))) (h3 : k ≠ 1) : sayV k x p wt = (x.a, 0) := by unfold sayV; rw [if_neg (by rw [h]; simp), if_neg h2, if_pos h3]
theorem sayV_over {p wt : Int} {x : Val} (h : kindB 1 p = true) (h2 : ¬ (vB 1 x = false ∨ x.a = -1 ∨ ¬ (0 ≤ wt ∧ wt ≤ 1099511627776))) (h3 : 4398046511104 < x.a + wt) : sayV 1 x p wt = (0, 6) := by unfold sayV; rw [if_neg (by rw [h]; simp), if_neg h2, if_neg (by simp), if_pos h3]
theorem sayV_sum {p wt : Int} {x : Val} (h : kindB 1 p = true) (h2 : ¬ (vB 1 x = false ∨ x.a = -1 ∨ ¬ (0 ≤ wt ∧ wt ≤ 1099511627776))) (h3 : ¬ 4398046511104 < x.a + wt) : sayV 1 x p wt = (x.a + wt, 0) := by unfold sayV; rw [if_neg (by rw [h]; simp), if_neg h2, if_neg (by simp), if_neg h3]
abbrev RetII (w : World) (v : Int × Int) (e : Ending) (w' : World) : Prop := e = .returned (.tuple #[.int .i64 v.1, .int .i64 v.2]) ∧ Below w.heap.size w w'
set_option maxHeartbeats 4000000 in
theorem said_walk (k : Int) (x : Val) (p wt : Int) (hx : x.wf) (hwt : I64 wt) (w : World) : Calls Try.prog 30 #[.int .i64 k, .agg #[.int .i64 x.a, .int .i64 x.label], .int .i64 p, .int .i64 wt] w (RetII w (sayV k x p wt)) := by
  have hK := kindMay_walk k p
  have b0 := bA (Below.refl w.heap.size w) (.cells #[.int .i64 x.a, .int .i64 x.label] 50)
  have hV := valueR_walk k x (w.alloc (.cells #[.int .i64 x.a, .int .i64 x.label] 50))
  have hI := fun w => In_walk wt 0 1099511627776 w
  cases hk : kindB k p with
  | false =>
    have HE := hid (sayV_kind (x := x) (wt := wt) hk)
    rw [hk] at hK
    have HK := hid hK
    clear hK hV hI hk
    go_enter Try.func30, Try.ntmps30
    go_wp2_with fail
    refine (HK.out _).mono ?_
    rintro e w' ⟨rfl, rfl⟩
    go_wp2_with fail
    go_ret2
    rw [HE.out]
    exact ⟨rfl, b0⟩
  | true =>
    rw [hk] at hK
    have HK := hid hK
    have hcase : (vB k x = false) ∨ (vB k x = true ∧ x.a < 0) ∨ (vB k x = true ∧ ¬ x.a < 0 ∧ ¬ (0 ≤ wt ∧ wt ≤ 1099511627776)) ∨ (vB k x = true ∧ ¬ x.a < 0 ∧ (0 ≤ wt ∧ wt ≤ 1099511627776)) := by
      cases vB k x
      · exact .inl rfl
      · by_cases h2 : x.a < 0
        · exact .inr (.inl ⟨rfl, h2⟩)
        · by_cases h3 : 0 ≤ wt ∧ wt ≤ 1099511627776
          · exact .inr (.inr (.inr ⟨rfl, h2, h3⟩))
          · exact .inr (.inr (.inl ⟨rfl, h2, h3⟩))
    rcases hcase with h1 | ⟨h1, h2⟩ | ⟨h1, h2, h3⟩ | ⟨h1, h2, h3⟩
    · have HE := hid (sayV_bad (wt := wt) hk (.inl h1))
      rw [h1] at hV
      have HVV := hid hV
      clear hK hV hI hk h1
      go_enter Try.func30, Try.ntmps30
      go_wp2_with fail
      refine (HK.out _).mono ?_
      rintro e w' ⟨rfl, rfl⟩
      go_wp2_with fail
      refine HVV.out.mono ?_
      rintro e w1 ⟨rfl, b1⟩
      go_wp2_with fail
      go_ret2
      rw [HE.out]
      exact ⟨rfl, bT b0 b1⟩
    · have h4 := vB_ok h1
      have HE := hid (sayV_bad (x := x) (wt := wt) hk (.inr (.inl (by omega))))
      rw [h1] at hV
      have HVV := hid hV
      clear hK hV hI hk h1 h4
      go_enter Try.func30, Try.ntmps30
      go_wp2_with fail
      refine (HK.out _).mono ?_
      rintro e w' ⟨rfl, rfl⟩
      go_wp2_with fail
      refine HVV.out.mono ?_
      rintro e w1 ⟨rfl, b1⟩
      have q0 : w1.cell? ⟨w.heap.size, 0, none⟩ = some (.int .i64 x.a) := keepb b1 (by go_simp)
      go_wp2_with fail
      go_ret2
      rw [HE.out]
      exact ⟨rfl, bT b0 b1⟩
    · have HE := hid (sayV_bad (x := x) (wt := wt) hk (.inr (.inr h3)))
      rw [inB_no h3] at hI
      rw [h1] at hV
      have HVV := hid hV
      have HI := hid hI
      clear hK hV hI hk h1 h3
      go_enter Try.func30, Try.ntmps30
      go_wp2_with fail
      refine (HK.out _).mono ?_
      rintro e w' ⟨rfl, rfl⟩
      go_wp2_with fail
      refine HVV.out.mono ?_
      rintro e w1 ⟨rfl, b1⟩
      have q0 : w1.cell? ⟨w.heap.size, 0, none⟩ = some (.int .i64 x.a) := keepb b1 (by go_simp)
      go_wp2_with fail
      refine (HI.out _).mono ?_
      rintro e w' ⟨rfl, rfl⟩
      go_wp2_with fail
      go_ret2
      rw [HE.out]
      exact ⟨rfl, bT b0 b1⟩
    · have hnb : ¬ (vB k x = false ∨ x.a = -1 ∨ ¬ (0 ≤ wt ∧ wt ≤ 1099511627776)) := by
        rintro (h | h | h)
        · rw [h1] at h; cases h
        · omega
        · exact h h3
      have h5 := vB_ok h1
      have htop : topS k ≤ 4398046511104 := by unfold topS; split <;> omega
      have hw1 : IntKind.i64.wrap (x.a + wt) = x.a + wt := IntWalk.i64_in _ (by omega)
      have hx0 : 0 ≤ x.a := by omega
      have hx1 : x.a ≤ 4398046511104 := by omega
      have hwt0 : 0 ≤ wt := h3.1
      have hwt1 : wt ≤ 1099511627776 := h3.2
      rw [inB_yes h3] at hI
      rw [h1] at hV
      have HVV := hid hV
      have HI := hid hI
      by_cases hk1 : k = 1
      · subst hk1
        by_cases ho : 4398046511104 < x.a + wt
        · have HE := hid (sayV_over hk hnb ho)
          clear hK hV hI hk h1 h3 hnb h5 htop
          go_enter Try.func30, Try.ntmps30
          go_wp2_with fail
          refine (HK.out _).mono ?_
          rintro e w' ⟨rfl, rfl⟩
          go_wp2_with fail
          refine HVV.out.mono ?_
          rintro e w1 ⟨rfl, b1⟩
          have q0 : w1.cell? ⟨w.heap.size, 0, none⟩ = some (.int .i64 x.a) := keepb b1 (by go_simp)
          go_wp2_with fail
          refine (HI.out _).mono ?_
          rintro e w' ⟨rfl, rfl⟩
          go_wp2_with fail
          go_ret2
          rw [HE.out]
          exact ⟨rfl, bT b0 b1⟩
        · have HE := hid (sayV_sum hk hnb ho)
          clear hK hV hI hk h1 h3 hnb h5 htop
          go_enter Try.func30, Try.ntmps30
          go_wp2_with fail
          refine (HK.out _).mono ?_
          rintro e w' ⟨rfl, rfl⟩
          go_wp2_with fail
          refine HVV.out.mono ?_
          rintro e w1 ⟨rfl, b1⟩
          have q0 : w1.cell? ⟨w.heap.size, 0, none⟩ = some (.int .i64 x.a) := keepb b1 (by go_simp)
          go_wp2_with fail
          refine (HI.out _).mono ?_
          rintro e w' ⟨rfl, rfl⟩
          go_wp2_with fail
          go_ret2
          rw [HE.out]
          exact ⟨rfl, bT b0 b1⟩
      · have HE := hid (sayV_a hk hnb hk1)
        have hkb : (k != 1) = true := by simpa using hk1
        clear hK hV hI hk h1 h3 hnb h5 htop hk1
        go_enter Try.func30, Try.ntmps30
        go_wp2_with fail
        refine (HK.out _).mono ?_
        rintro e w' ⟨rfl, rfl⟩
        go_wp2_with fail
        refine HVV.out.mono ?_
        rintro e w1 ⟨rfl, b1⟩
        have q0 : w1.cell? ⟨w.heap.size, 0, none⟩ = some (.int .i64 x.a) := keepb b1 (by go_simp)
        go_wp2_with fail
        refine (HI.out _).mono ?_
        rintro e w' ⟨rfl, rfl⟩
        go_wp2_with fail
        go_ret2
        rw [HE.out]
        exact ⟨rfl, bT b0 b1⟩
end Go.Proofs.Yteefemiieidpaaa
