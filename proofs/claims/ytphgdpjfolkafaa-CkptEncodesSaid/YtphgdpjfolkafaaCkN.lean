/- The document's SavedMay. -/
import Derived.Test.YtphgdpjfolkafaaCkM
namespace Go.Proofs.Ytphgdpjfolkafaa
open Go.ChangeShapes Go.WideShapes Go.ChangeAt Go.RowKit
set_option linter.unusedVariables false
set_option linter.unusedSimpArgs false
theorem top1_walk (w : World) : Calls Try.prog 120 #[.int .i64 1] w fun e w' => e = .returned (.int .i64 4398046511104) ∧ w = w' := by
  go_enter Try.func120, Try.ntmps120
  go_wp2_with fail
  go_ret
  exact ⟨rfl, rfl⟩
set_option maxHeartbeats 2000000 in
theorem valueMay1_walk (x : Val) (w : World) : Calls Try.prog 96 #[.int .i64 1, .agg #[.int .i64 x.a, .int .i64 x.label]] w fun e w' => e = .returned (.bool (valB1 x)) ∧ Below w.heap.size w w' := by
  have HT := hid top1_walk
  have HI := hid (fun n lo hi => In_walk n lo hi)
  generalize hF : valB1 x = F
  have HF := hid hF
  clear hF
  cases h1 : inB x.a (-1) 4398046511104 with
  | false =>
    have HV : Hid (F = false) := hid (by rw [← HF.out]; unfold valB1; rw [h1]; rfl)
    go_enter Try.func96, Try.ntmps96
    go_wp2_with fail
    go_quiet ((first | (go_at_call 120; exact qsame (HT.out _)) | (go_at_call 92; exact qsame (HI.out _ _ _ _))))
    go_wp2_with fail
    go_ret
    exact ⟨by rw [HV.out]; rfl, below_drewN (bA (Below.refl _ _) _) _⟩
  | true =>
    have HV : Hid (F = inB x.label (-1) 199) := hid (by rw [← HF.out]; unfold valB1; rw [h1]; rfl)
    go_enter Try.func96, Try.ntmps96
    go_wp2_with fail
    go_quiet ((first | (go_at_call 120; exact qsame (HT.out _)) | (go_at_call 92; exact qsame (HI.out _ _ _ _))))
    go_wp2_with fail
    go_ret
    exact ⟨by rw [HV.out]; rfl, below_drewN (bA (Below.refl _ _) _) _⟩
set_option maxHeartbeats 2000000 in
theorem mailMay_walk (x : Mail) (w : World) : Calls Try.prog 74 #[.agg #[.int .i64 x.to, .int .i64 x.val]] w fun e w' => e = .returned (.bool (mlB x)) ∧ Below w.heap.size w w' := by
  have HI := hid (fun n lo hi => In_walk n lo hi)
  generalize hF : mlB x = F
  have HF := hid hF
  clear hF
  cases h1 : inB x.to 0 199 with
  | false =>
    have HV : Hid (F = false) := hid (by rw [← HF.out]; unfold mlB; rw [h1]; rfl)
    go_enter Try.func74, Try.ntmps74
    go_wp2_with (go_at_call 92; refine (HI.out _ _ _ _).mono ?_; rintro e w2 ⟨rfl, rfl⟩)
    go_ret
    exact ⟨by rw [HV.out]; rfl, bA (Below.refl _ _) _⟩
  | true =>
    have HV : Hid (F = inB x.val 0 4398046511104) := hid (by rw [← HF.out]; unfold mlB; rw [h1]; rfl)
    go_enter Try.func74, Try.ntmps74
    go_wp2_with (go_at_call 92; refine (HI.out _ _ _ _).mono ?_; rintro e w2 ⟨rfl, rfl⟩)
    go_ret
    exact ⟨by rw [HV.out]; rfl, bA (Below.refl _ _) _⟩
set_option maxRecDepth 100000 in
set_option maxHeartbeats 8000000 in
theorem savedMay_walk (s : Saved) (w : World) (A B : Option Addr) (c d : Nat) (hv : Rd w w.heap.size A 2 s.vals.length (s.vals.flatMap Val.cells)) (hm : Rd w w.heap.size B 2 s.mail.length (s.mail.flatMap Mail.cells)) :
    Calls Try.prog 55 #[.agg (svC s A c B d)] w fun e w' => e = .returned (.bool (svB s)) ∧ Below w.heap.size w w' := by
  generalize hF : svB s = F
  have HF := hid hF
  clear hF
  have HNO : Hid (¬ svOk s → F = false) := hid fun h => by rw [← HF.out]; exact svB_no h
  have HI := hid (fun n lo hi => In_walk n lo hi)
  have HVM := hid valueMay1_walk
  have HMM := hid mailMay_walk
  obtain ⟨st, ph, fr, vs, ms⟩ := s
  unfold svC
  simp only at *
  have hcase : ¬ (0 ≤ st ∧ st ≤ 100000) ∨ ((0 ≤ st ∧ st ≤ 100000) ∧ ¬ (0 ≤ ph ∧ ph ≤ 1)) ∨ ((0 ≤ st ∧ st ≤ 100000) ∧ (0 ≤ ph ∧ ph ≤ 1) ∧ 200 < (vs.length : Int)) ∨ ((0 ≤ st ∧ st ≤ 100000) ∧ (0 ≤ ph ∧ ph ≤ 1) ∧ ¬ 200 < (vs.length : Int) ∧ 5000 < (ms.length : Int)) ∨ ((0 ≤ st ∧ st ≤ 100000) ∧ (0 ≤ ph ∧ ph ≤ 1) ∧ ¬ 200 < (vs.length : Int) ∧ ¬ 5000 < (ms.length : Int)) := by omega
  rcases hcase with h1 | ⟨h1, h3⟩ | ⟨h1, h3, h4⟩ | ⟨h1, h3, h4, h5⟩ | ⟨h1, h3, h4, h5⟩
  · have HV : Hid (F = false) := hid (HNO.out fun h => by have := h.1.1; simp only at this; omega)
    have i1 := inB_no h1
    go_enter Try.func55, Try.ntmps55
    go_wp2_with (go_at_call 92; refine (HI.out _ _ _ _).mono ?_; rintro e w2 ⟨rfl, rfl⟩)
    go_ret
    exact ⟨by rw [HV.out]; rfl, bA (Below.refl _ _) _⟩
  · have HV : Hid (F = false) := hid (HNO.out fun h => by have := h.1.2.1; simp only at this; omega)
    have i1 := inB_yes h1
    have i2 := inB_no h3
    clear h1 h3
    go_enter Try.func55, Try.ntmps55
    go_wp2_with (go_at_call 92; refine (HI.out _ _ _ _).mono ?_; rintro e w2 ⟨rfl, rfl⟩)
    go_ret
    exact ⟨by rw [HV.out]; rfl, bA (Below.refl _ _) _⟩
  · have HV : Hid (F = false) := hid (HNO.out fun h => by have := h.1.2.2.1; simp only at this; omega)
    have i1 := inB_yes h1
    have i2 := inB_yes h3
    clear h1 h3
    go_enter Try.func55, Try.ntmps55
    go_wp2_with (go_at_call 92; refine (HI.out _ _ _ _).mono ?_; rintro e w2 ⟨rfl, rfl⟩)
    go_ret
    exact ⟨by rw [HV.out]; rfl, bA (Below.refl _ _) _⟩
  · have HV : Hid (F = false) := hid (HNO.out fun h => by have := h.1.2.2.2; simp only at this; omega)
    have i1 := inB_yes h1
    have i2 := inB_yes h3
    clear h1 h3
    go_enter Try.func55, Try.ntmps55
    go_wp2_with (go_at_call 92; refine (HI.out _ _ _ _).mono ?_; rintro e w2 ⟨rfl, rfl⟩)
    go_ret
    exact ⟨by rw [HV.out]; rfl, bA (Below.refl _ _) _⟩
  · have HFIT : Hid (svFits ⟨st, ph, fr, vs, ms⟩) := hid ⟨⟨by dsimp only; omega, by dsimp only; omega⟩, by dsimp only; omega, by dsimp only; omega, by dsimp only; omega⟩
    clear HNO
    have i1 := inB_yes h1
    have i2 := inB_yes h3
    clear h1 h3
    obtain ⟨W, hW⟩ : ∃ W, W = w.alloc (.cells #[.int .i64 st, .int .i64 ph, .bool fr, .slice A vs.length c, .slice B ms.length d] 36) := ⟨_, rfl⟩
    have b0 : Below w.heap.size w W := by rw [hW]; exact bA (Below.refl _ _) _
    have hWs : W.heap.size = w.heap.size + 1 := by rw [hW]; simp
    have q3 : W.cell? ⟨w.heap.size, 3, none⟩ = some (.slice A vs.length c) := by rw [hW]; go_simp
    have q4 : W.cell? ⟨w.heap.size, 4, none⟩ = some (.slice B ms.length d) := by rw [hW]; go_simp
    go_enter Try.func55, Try.ntmps55
    go_wp2_with (go_at_call 92; refine (HI.out _ _ _ _).mono ?_; rintro e w2 ⟨rfl, rfl⟩)
    rw [← hW]
    clear hW
    go_loopw [3] (fun i wr => VRel W vs i wr) (fun i _ => vs.length - (intOf i).toNat)
    case atStart => exact ⟨0, by omega, rfl, hid fun i x h => by omega, Below.refl _ _⟩
    case round =>
      obtain ⟨k, hkl, rfl, HV1, hbel⟩ := hrel
      have q3 := keepb hbel q3
      have q4 := keepb hbel q4
      have hb0 := bT b0 hbel
      have hsz := hbel.size
      by_cases hlt : k < vs.length
      · obtain ⟨x, hx⟩ : ∃ x, vs[k]? = some x := ⟨_, List.getElem?_eq_getElem hlt⟩
        obtain ⟨b, off, rfl, hb, c0, c1⟩ := vals_cells (hv.below hb0) rfl hx
        have hkz : (k : Int) < (vs.length : Int) := by omega
        have HX := hid hx
        clear hx
        by_cases hok : svVal x
        · have e1 := valB1_yes hok
          go_wp2_with fail
          refine (HVM.out x _).mono ?_
          rintro e w2 ⟨rfl, b2⟩
          go_wp2_with fail
          go_roundw
          case rel => exact ⟨k + 1, by omega, by go_num, hid (get_more HV1.out HX.out hok), bT hbel b2⟩
          case measure => simp [intOf]; omega
        · have HV : Hid (F = false) := hid (by rw [← HF.out]; exact svB_val HX.out hok)
          have e1 := valB1_no hok
          go_wp2_with fail
          refine (HVM.out x _).mono ?_
          rintro e w2 ⟨rfl, b2⟩
          go_wp2_with fail
          go_ret
          exact ⟨by rw [HV.out]; rfl, bT hb0 b2⟩
      · have HAV : Hid (∀ x ∈ vs, svVal x) := hid (all_of_get (by omega) HV1.out)
        have hkz : ¬ ((k : Int) < (vs.length : Int)) := by omega
        clear hkl HV1
        go_wp2_with fail
        go_loopw [4] (fun i wm => MRel wr ms i wm) (fun i _ => ms.length - (intOf i).toNat)
        case atStart => exact ⟨0, by omega, rfl, hid fun i x h => by omega, Below.refl _ _⟩
        case round =>
          obtain ⟨m, hml, rfl, HM1, hbm⟩ := hrel
          have q4 := keepb hbm q4
          have hb1 := bT hb0 hbm
          have hsz2 := hbm.size
          by_cases hlm : m < ms.length
          · obtain ⟨x, hx⟩ : ∃ x, ms[m]? = some x := ⟨_, List.getElem?_eq_getElem hlm⟩
            obtain ⟨b, off, rfl, hb, c0, c1⟩ := mail_cells (hm.below hb1) rfl hx
            have hmz : (m : Int) < (ms.length : Int) := by omega
            have HX := hid hx
            clear hx
            by_cases hok : mlOk x
            · have e1 := mlB_yes hok
              go_wp2_with fail
              refine (HMM.out x _).mono ?_
              rintro e w2 ⟨rfl, b2⟩
              go_wp2_with fail
              go_roundw
              case rel => exact ⟨m + 1, by omega, by go_num, hid (get_more HM1.out HX.out hok), bT hbm b2⟩
              case measure => simp [intOf]; omega
            · have HV : Hid (F = false) := hid (by rw [← HF.out]; exact svB_mail HX.out hok)
              have e1 := mlB_no hok
              go_wp2_with fail
              refine (HMM.out x _).mono ?_
              rintro e w2 ⟨rfl, b2⟩
              go_wp2_with fail
              go_ret
              exact ⟨by rw [HV.out]; rfl, bT hb1 b2⟩
          · have HAM : Hid (∀ x ∈ ms, mlOk x) := hid (all_of_get (by omega) HM1.out)
            have hmz : ¬ ((m : Int) < (ms.length : Int)) := by omega
            have HSO := hid (isOrdered_walk ms wr B d ((hm.below hb1).any (by omega)) (by omega))
            go_wp2_with fail
            refine HSO.out.mono ?_
            rintro e w2 ⟨rfl, b2⟩
            go_wp2_with fail
            go_ret
            exact ⟨by rw [← svB_eq HFIT.out HAV.out HAM.out, HF.out]; rfl, bT hb1 b2⟩
end Go.Proofs.Ytphgdpjfolkafaa
