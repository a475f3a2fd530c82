/- The document's StateMay. -/
import Derived.Test.YteefemiieidpaaaAnsW
namespace Go.Proofs.Yteefemiieidpaaa
open Go.ChangeShapes Go.WideShapes Go.ChangeAt Go.RowKit
set_option linter.unusedVariables false
set_option linter.unusedSimpArgs false
theorem top_walk (k : Int) (w : World) : Calls Try.prog 55 #[.int .i64 k] w fun e w' => e = .returned (.int .i64 (topV k)) ∧ w = w' := by
  by_cases h : k = 1
  · have HV : Hid (topV k = 4398046511104) := hid (by unfold topV; rw [if_pos h])
    go_enter Try.func55, Try.ntmps55
    go_wp2_with fail
    go_ret
    exact ⟨by rw [HV.out]; rfl, rfl⟩
  · have HV : Hid (topV k = 199) := hid (by unfold topV; rw [if_neg h])
    have hb : (k == 1) = false := by simpa using h
    go_enter Try.func55, Try.ntmps55
    go_wp2_with fail
    go_ret
    exact ⟨by rw [HV.out]; rfl, rfl⟩
def kindB2 (k p : Int) : Bool := inB k 1 3 && (p == 0 || (k == 3 && p == 1))
theorem kindMay_walk2 (k p : Int) (w : World) : Calls Try.prog 53 #[.int .i64 k, .int .i64 p] w fun e w' => e = .returned (.bool (kindB2 k p)) ∧ w = w' := by
  cases hi : inB k 1 3 with
  | false =>
    have HV : Hid (kindB2 k p = false) := hid (by unfold kindB2; rw [hi]; rfl)
    go_enter Try.func53, Try.ntmps53
    go_wp2_with fail
    refine (In_walk _ _ _ _).mono ?_
    rintro e w2 ⟨rfl, rfl⟩
    rw [hi]
    go_wp2_with fail
    go_ret
    exact ⟨by rw [HV.out]; rfl, rfl⟩
  | true =>
    have HV : Hid (kindB2 k p = (p == 0 || (k == 3 && p == 1))) := hid (by unfold kindB2; rw [hi]; rfl)
    go_enter Try.func53, Try.ntmps53
    go_wp2_with fail
    refine (In_walk _ _ _ _).mono ?_
    rintro e w2 ⟨rfl, rfl⟩
    rw [hi]
    go_wp2_with fail
    all_goals
      go_ret
      exact ⟨by rw [HV.out]; simp [*], rfl⟩
def valB (k : Int) (x : Val) : Bool := inB x.a (-1) (topV k) && inB x.label (-1) 199
theorem valB_yes {k : Int} {x : Val} (h : valOk k x) : valB k x = true := by
  obtain ⟨h1, h2, h3⟩ := h
  unfold valB; rw [inB_yes h1, inB_yes ⟨h2, h3⟩]; rfl
theorem valB_no {k : Int} {x : Val} (h : ¬ valOk k x) : valB k x = false := by
  unfold valB
  by_cases h1 : -1 ≤ x.a ∧ x.a ≤ topV k
  · rw [inB_no (n := x.label) (fun h2 => h ⟨h1, h2⟩)]; simp
  · rw [inB_no h1]; rfl
set_option maxHeartbeats 2000000 in
theorem valueMay_walk (k : Int) (x : Val) (w : World) : Calls Try.prog 54 #[.int .i64 k, .agg #[.int .i64 x.a, .int .i64 x.label]] w fun e w' => e = .returned (.bool (valB k x)) ∧ Below w.heap.size w w' := by
  have HT := hid (top_walk k)
  have HI := hid (fun n lo hi => In_walk n lo hi)
  generalize hF : valB k x = F
  have HF := hid hF
  clear hF
  cases h1 : inB x.a (-1) (topV k) with
  | false =>
    have HV : Hid (F = false) := hid (by rw [← HF.out]; unfold valB; rw [h1]; rfl)
    go_enter Try.func54, Try.ntmps54
    go_wp2_with fail
    go_quiet ((first | (go_at_call 55; exact qsame (HT.out _)) | (go_at_call 52; exact qsame (HI.out _ _ _ _))))
    go_wp2_with fail
    go_ret
    exact ⟨by rw [HV.out]; rfl, below_drewN (bA (Below.refl _ _) _) _⟩
  | true =>
    have HV : Hid (F = inB x.label (-1) 199) := hid (by rw [← HF.out]; unfold valB; rw [h1]; rfl)
    go_enter Try.func54, Try.ntmps54
    go_wp2_with fail
    go_quiet ((first | (go_at_call 55; exact qsame (HT.out _)) | (go_at_call 52; exact qsame (HI.out _ _ _ _))))
    go_wp2_with fail
    go_ret
    exact ⟨by rw [HV.out]; rfl, below_drewN (bA (Below.refl _ _) _) _⟩
theorem kindB_yes {k p : Int} (hk : 1 ≤ k ∧ k ≤ 3) (h : p = 0 ∨ p = 1 ∧ k = 3) : kindB2 k p = true := by
  unfold kindB2; rw [inB_yes hk]
  rcases h with rfl | ⟨rfl, rfl⟩ <;> rfl
theorem kindB_out {k p : Int} (h : kindB2 k p = true) : p = 0 ∨ p = 1 ∧ k = 3 := by
  unfold kindB2 at h
  simp only [Bool.and_eq_true, Bool.or_eq_true, beq_iff_eq] at h
  rcases h.2 with h | h
  · exact .inl h
  · exact .inr ⟨h.2, h.1⟩
def StRel (j : Job) (s : State) (W : World) (v mn : Value) (wr : World) : Prop :=
  ∃ k : Nat, k ≤ s.mail.length ∧ v = .int .i64 k ∧ mn = .int .i64 (manyM (s.mail.take k) : Nat) ∧ Hid (∀ (i : Nat) x, i < k → s.vals[i]? = some x → valOk j.kind x) ∧ Hid (∀ (i : Nat) (x : ML Int), i < k → s.mail[i]? = some x → rowOk j.kind x.l) ∧ Below W.heap.size W wr
def RoRel (kd : Int) (l : List Int) (V : World) (i : Value) (wr : World) : Prop :=
  ∃ k : Nat, k ≤ l.length ∧ i = .int .i64 k ∧ Hid (∀ (j : Nat) (x : Int), j < k → l[j]? = some x → 0 ≤ x ∧ x ≤ topV kd) ∧ Hid (∀ j, j + 1 < k → adjI l j) ∧ Below V.heap.size V wr
set_option maxRecDepth 100000 in
set_option maxHeartbeats 8000000 in
theorem stateMay_walk (j : Job) (hj : jobV j = 0) (s : State) (w : World) (A B B' : Option Addr) (c d d' : Nat)
    (hv : Rd w w.heap.size B 2 s.vals.length (s.vals.flatMap Val.cells)) (hg : Grid i64c 1 w w.heap.size B' s.mail) (hz : ∀ x ∈ s.mail, x.l.length ≤ 140737488355328) :
    Calls Try.prog 27 #[.agg (jobC j A c), .agg (stCells s B d B' d')] w fun e w' => e = .returned (.bool (stB j s)) ∧ Below w.heap.size w w' := by
  have hk := jobV_kind hj
  have hn := jobV_n hj
  clear hj
  generalize hF : stB j s = F
  have HF := hid hF
  clear hF
  have HNO : Hid (¬ stOk j s → F = false) := hid fun h => by rw [← HF.out]; exact stB_no h
  have HYES : Hid (stOk j s → F = true) := hid fun h => by rw [← HF.out]; exact stB_yes h
  obtain ⟨⟨n, es⟩, kind, src⟩ := j
  obtain ⟨step, phase, fresh, done, vs, ml⟩ := s
  unfold jobC stCells
  simp only at *
  clear HF
  obtain ⟨n, rfl⟩ := Int.eq_ofNat_of_zero_le hn.1
  obtain ⟨W, hW⟩ : ∃ W, W = (w.alloc (.cells #[.int .i64 (n : Int), .slice A es.length c, .int .i64 kind, .int .i64 src] 26)).alloc (.cells #[.int .i64 step, .int .i64 phase, .bool fresh, .bool done, .slice B vs.length d, .slice B' ml.length d'] 30) := ⟨_, rfl⟩
  have b0 : Below w.heap.size w W := by rw [hW]; exact bA (bA (Below.refl _ _) _) _
  have hWs : W.heap.size = w.heap.size + 2 := by rw [hW]; simp
  have j0 : W.cell? ⟨w.heap.size, 0, none⟩ = some (.int .i64 (n : Int)) := by rw [hW]; go_simp
  have j2 : W.cell? ⟨w.heap.size, 2, none⟩ = some (.int .i64 kind) := by rw [hW]; go_simp
  have q0 : W.cell? ⟨w.heap.size + 1, 0, none⟩ = some (.int .i64 step) := by rw [hW]; go_simp
  have q1 : W.cell? ⟨w.heap.size + 1, 1, none⟩ = some (.int .i64 phase) := by rw [hW]; go_simp
  have q2 : W.cell? ⟨w.heap.size + 1, 2, none⟩ = some (.bool fresh) := by rw [hW]; go_simp
  have q3 : W.cell? ⟨w.heap.size + 1, 3, none⟩ = some (.bool done) := by rw [hW]; go_simp
  have q4 : W.cell? ⟨w.heap.size + 1, 4, none⟩ = some (.slice B vs.length d) := by rw [hW]; go_simp
  have q5 : W.cell? ⟨w.heap.size + 1, 5, none⟩ = some (.slice B' ml.length d') := by rw [hW]; go_simp
  have hI := fun w => In_walk step 0 100000 w
  have hK := fun w => kindMay_walk2 kind phase w
  cases h1 : inB step 0 100000 with
  | false =>
    rw [h1] at hI
    have HV : Hid (F = false) := hid (HNO.out fun h => by rw [inB_yes h.1] at h1; cases h1)
    have HI := hid hI
    clear hI hK
    go_enter Try.func27, Try.ntmps27
    go_wp2_with fail
    refine (HI.out _).mono ?_
    rintro e w2 ⟨rfl, rfl⟩
    go_wp2_with fail
    go_ret
    exact ⟨by rw [HV.out]; rfl, bA (bA (Below.refl _ _) _) _⟩
  | true =>
    rw [h1] at hI
    have HI := hid hI
    cases h2 : kindB2 kind phase with
    | false =>
      rw [h2] at hK
      have HV : Hid (F = false) := hid (HNO.out fun h => by rw [kindB_yes hk h.2.1] at h2; cases h2)
      have HK := hid hK
      clear hI hK
      go_enter Try.func27, Try.ntmps27
      go_wp2_with (first | (go_at_call 52; refine (HI.out _).mono ?_; rintro e w2 ⟨rfl, rfl⟩) | (go_at_call 53; refine (HK.out _).mono ?_; rintro e w2 ⟨rfl, rfl⟩))
      go_ret
      exact ⟨by rw [HV.out]; rfl, bA (bA (Below.refl _ _) _) _⟩
    | true =>
      rw [h2] at hK
      have HK := hid hK
      clear hI hK
      have hcase : (((vs.length : Int) != (n : Int)) = true) ∨ (((vs.length : Int) != (n : Int)) = false ∧ ((ml.length : Int) != (n : Int)) = true) ∨ (((vs.length : Int) != (n : Int)) = false ∧ ((ml.length : Int) != (n : Int)) = false) := by
        cases h3 : ((vs.length : Int) != (n : Int)) with
        | true => exact .inl rfl
        | false =>
          cases h4 : ((ml.length : Int) != (n : Int)) with
          | true => exact .inr (.inl ⟨rfl, rfl⟩)
          | false => exact .inr (.inr ⟨rfl, rfl⟩)
      rcases hcase with h3 | ⟨h3, h4⟩ | ⟨h3, h4⟩
      · have HV : Hid (F = false) := hid (HNO.out fun h => by have := h.2.2.1; simp only at this; simp [this] at h3)
        go_enter Try.func27, Try.ntmps27
        go_wp2_with (first | (go_at_call 52; refine (HI.out _).mono ?_; rintro e w2 ⟨rfl, rfl⟩) | (go_at_call 53; refine (HK.out _).mono ?_; rintro e w2 ⟨rfl, rfl⟩))
        go_ret
        exact ⟨by rw [HV.out]; rfl, bA (bA (Below.refl _ _) _) _⟩
      · have HV : Hid (F = false) := hid (HNO.out fun h => by have := h.2.2.2.1; simp only at this; simp [this] at h4)
        go_enter Try.func27, Try.ntmps27
        go_wp2_with (first | (go_at_call 52; refine (HI.out _).mono ?_; rintro e w2 ⟨rfl, rfl⟩) | (go_at_call 53; refine (HK.out _).mono ?_; rintro e w2 ⟨rfl, rfl⟩))
        go_ret
        exact ⟨by rw [HV.out]; rfl, bA (bA (Below.refl _ _) _) _⟩
      · have HVN : Hid (vs.length = n) := hid (by have : (vs.length : Int) = (n : Int) := by simpa using h3
                                                  omega)
        have HMN : Hid (ml.length = n) := hid (by have : (ml.length : Int) = (n : Int) := by simpa using h4
                                                  omega)
        have HPH := hid (kindB_out h2)
        have HMEM : Hid (∀ (k : Nat) (x : ML Int), ml[k]? = some x → x.l.length ≤ 140737488355328) := hid fun k x hx => hz x (List.mem_of_getElem? hx)
        have HLE : Hid (∀ k, manyM (ml.take k) ≤ 28147497671065600) := hid fun k => by
          have h5 := manyM_le (b := 140737488355328) (ml.take k) (fun x hx => hz x (List.mem_of_mem_take hx))
          have h6 : (ml.take k).length ≤ 200 := by rw [List.length_take]; have := HMN.out; omega
          have h7 := Nat.mul_le_mul_right 140737488355328 h6
          omega
        have HST : Hid (0 ≤ step ∧ step ≤ 100000) := hid (by
          refine Classical.byContradiction fun hc => ?_
          rw [inB_no hc] at h1; cases h1)
        clear hz h1 h2
        go_enter Try.func27, Try.ntmps27
        go_wp2_with (first | (go_at_call 52; refine (HI.out _).mono ?_; rintro e w2 ⟨rfl, rfl⟩) | (go_at_call 53; refine (HK.out _).mono ?_; rintro e w2 ⟨rfl, rfl⟩))
        rw [← hW]
        clear hW
        go_loopw [5, 6, 7, 8] (fun mn v _ _ wr => StRel ⟨⟨(n : Int), es⟩, kind, src⟩ ⟨step, phase, fresh, done, vs, ml⟩ W v mn wr) (fun _ v _ _ _ => ml.length - (intOf v).toNat)
        case atStart => exact ⟨0, by omega, rfl, rfl, hid fun i x h => by omega, hid fun i x h => by omega, Below.refl _ _⟩
        case round =>
          obtain ⟨V0, hV0⟩ : ∃ V0, V0 = wr := ⟨_, rfl⟩
          subst hV0
          obtain ⟨k, hkl, rfl, rfl, HV1, HV2, hbel⟩ := hrel
          dsimp only at hkl HV1 HV2
          have hM0 := HLE.out k
          have j0 := keepb hbel j0
          have j2 := keepb hbel j2
          have q2 := keepb hbel q2
          have q3 := keepb hbel q3
          have q4 := keepb hbel q4
          have q5 := keepb hbel q5
          have hb0 := bT b0 hbel
          have hsz := hbel.size
          by_cases hlt : k < ml.length
          · obtain ⟨l, hl⟩ : ∃ l, ml[k]? = some l := ⟨_, List.getElem?_eq_getElem hlt⟩
            obtain ⟨x, hx⟩ : ∃ x, vs[k]? = some x := ⟨_, List.getElem?_eq_getElem (by have := HVN.out; have := HMN.out; omega)⟩
            have hM1 := HLE.out (k + 1)
            have hMt := manyM_take hl
            rw [hMt] at hM1
            have HMT := hid hMt
            clear hMt
            generalize manyM (ml.take k) = M at *
            obtain ⟨b, off, rfl, hb, c0⟩ := ml_cell (hg.1.below hb0) rfl hl
            obtain ⟨b', off', rfl, hb', e0, e1⟩ := vcells (hv.below hb0) rfl hx
            have hrow : Rd V0 V0.heap.size l.A 1 l.l.length (l.l.flatMap i64c) := rdb (Grid.data hg (List.mem_of_getElem? hl)) (by decide) hb0
            have hll := HMEM.out k l hl
            have HX := hid hx
            have HL := hid hl
            have hk2 : k < 200 := by have := HMN.out; omega
            have hkz : (k : Int) < (ml.length : Int) := by omega
            have hkn : (k : Int) < (n : Int) := by have := HMN.out; omega
            have hkv : (k : Int) < (vs.length : Int) := by have := HVN.out; have := HMN.out; omega
            have hbr : b < V0.heap.size := by omega
            have hbr' : b' < V0.heap.size := by omega
            have hVM := fun w => valueMay_walk kind x w
            clear hx hl
            by_cases hval : valOk kind x
            · rw [valB_yes hval] at hVM
              have HVM := hid hVM
              have HVAL := hid hval
              clear hVM hval
              have HV1' : Hid (∀ (i : Nat) y, i < k + 1 → vs[i]? = some y → valOk kind y) := hid fun i y hi hy => by
                rcases Nat.lt_or_ge i k with h | h
                · exact HV1.out i y h hy
                · obtain rfl : i = k := by omega
                  rw [HX.out] at hy
                  injection hy with hy
                  rw [← hy]
                  exact HVAL.out
              have HV2' : Hid (rowOk kind l.l → ∀ (i : Nat) (y : ML Int), i < k + 1 → ml[i]? = some y → rowOk kind y.l) := hid fun hr i y hi hy => by
                rcases Nat.lt_or_ge i k with h | h
                · exact HV2.out i y h hy
                · obtain rfl : i = k := by omega
                  rw [HL.out] at hy
                  injection hy with hy
                  rw [← hy]
                  exact hr
              go_wp2_with fail
              go_region_with ((go_at_call 54; refine (HVM.out _).mono ?_; rintro e w3 ⟨rfl, b3⟩))
              all_goals
                have hb3 : Below V0.heap.size V0 w3 := (Below.refl V0.heap.size V0).drew.trans b3
                have j2 := keepb hb3 j2
                have q5 := keepb hb3 q5
                have c0 := keepb hb3 c0
                have hrow := rdb hrow (by decide) hb3
                have hz3 := hb3.size
                have hbr3 : b < w3.heap.size := by omega
                go_wp2_with fail
                go_loopw [8] (fun i wr => RoRel kind l.l w3 i wr) (fun i _ => l.l.length - (intOf i).toNat)
                case atStart => exact ⟨0, by omega, rfl, hid fun i x h => by omega, hid fun i h => by omega, Below.refl _ _⟩
                case round =>
                  obtain ⟨V1, hV1⟩ : ∃ V1, V1 = wr := ⟨_, rfl⟩
                  subst hV1
                  obtain ⟨i, hi, rfl, HA, HB, hb4⟩ := hrel
                  have j2 := keepb hb4 j2
                  have hb04 := bT hb0 (bT hb3 hb4)
                  have HTOP := hid (top_walk kind)
                  by_cases hlt2 : i < l.l.length
                  · obtain ⟨y, hy⟩ : ∃ y, l.l[i]? = some y := ⟨_, List.getElem?_eq_getElem hlt2⟩
                    obtain ⟨b2, off2, hA2, hbb2, _⟩ := hrow.2 (show 0 < l.l.length by omega)
                    rw [hA2] at hrow
                    have f0 := icell (rdb hrow (by decide) hb4) rfl hy
                    have hIN := fun w => In_walk y 0 (topV kind) w
                    have HY := hid hy
                    have hiz : (i : Int) < (l.l.length : Int) := by omega
                    clear hy
                    rw [hA2]
                    by_cases hin : 0 ≤ y ∧ y ≤ topV kind
                    · rw [inB_yes hin] at hIN
                      have HIN := hid hIN
                      have HA' : Hid (∀ (j : Nat) (x : Int), j < i + 1 → l.l[j]? = some x → 0 ≤ x ∧ x ≤ topV kind) := hid fun q z hq hz => by
                        rcases Nat.lt_or_ge q i with h | h
                        · exact HA.out q z h hz
                        · obtain rfl : q = i := by omega
                          rw [HY.out] at hz
                          injection hz with hz
                          rw [← hz]; exact hin
                      clear hin hIN
                      cases i with
                      | zero =>
                        rw [Nat.add_zero] at f0
                        have hi0 : (0 : Int) < (l.l.length : Int) := by omega
                        go_wp2_with fail
                        go_quiet ((first | (go_at_call 55; exact qsame (HTOP.out _)) | (go_at_call 52; exact qsame (HIN.out _))))
                        go_wp2_with fail
                        go_roundw
                        case rel => exact ⟨0 + 1, by omega, by go_num, HA', hid fun q hq => by omega, below_drewN hb4 _⟩
                        case measure => simp [intOf]; omega
                      | succ m =>
                        obtain ⟨z, hz⟩ : ∃ z, l.l[m]? = some z := ⟨_, List.getElem?_eq_getElem (by omega)⟩
                        have f1 := icell (rdb hrow (by decide) hb4) rfl hz
                        have HZ := hid hz
                        have hm1 : (m : Int) + 1 < (l.l.length : Int) := by omega
                        have hm2 : (0 : Int) ≤ (m : Int) + 1 := by omega
                        have hm3 : (0 : Int) < (m : Int) + 1 := by omega
                        have hm4 : (m : Int) < (l.l.length : Int) := by omega
                        have hm5 : (0 : Int) ≤ (m : Int) := by omega
                        have hw2 : IntKind.i64.wrap ((m : Int) + 1 - 1) = (m : Int) := by rw [show (m : Int) + 1 - 1 = (m : Int) by omega]; exact IntWalk.i64_in _ (by omega)
                        clear hz hiz
                        by_cases hyz : y < z
                        · have HV : Hid (F = false) := hid (HNO.out fun h => by have := (h.2.2.2.2.2.1 k l HL.out).1 m z y HZ.out HY.out; omega)
                          go_wp2_with fail
                          go_quiet ((first | (go_at_call 55; exact qsame (HTOP.out _)) | (go_at_call 52; exact qsame (HIN.out _))))
                          go_wp2_with fail
                          go_ret
                          exact ⟨by rw [HV.out]; rfl, below_drewN hb04 _⟩
                        · have HB' : Hid (∀ q, q + 1 < m + 1 + 1 → adjI l.l q) := hid fun q hq => by
                            rcases Nat.lt_or_ge (q + 1) (m + 1) with h | h
                            · exact HB.out q h
                            · obtain rfl : q = m := by omega
                              intro u v hu hv2
                              rw [HZ.out] at hu
                              rw [HY.out] at hv2
                              injection hu with hu
                              injection hv2 with hv2
                              omega
                          go_wp2_with fail
                          go_quiet ((first | (go_at_call 55; exact qsame (HTOP.out _)) | (go_at_call 52; exact qsame (HIN.out _))))
                          go_wp2_with fail
                          go_roundw
                          case rel => exact ⟨m + 1 + 1, by omega, by go_num, HA', HB', below_drewN hb4 _⟩
                          case measure => simp [intOf]; omega
                    · rw [inB_no hin] at hIN
                      have HIN := hid hIN
                      have HV : Hid (F = false) := hid (HNO.out fun h => hin ((h.2.2.2.2.2.1 k l HL.out).2 i y HY.out))
                      clear hin hIN
                      go_wp2_with fail
                      go_quiet ((first | (go_at_call 55; exact qsame (HTOP.out _)) | (go_at_call 52; exact qsame (HIN.out _))))
                      go_wp2_with fail
                      go_ret
                      exact ⟨by rw [HV.out]; rfl, below_drewN hb04 _⟩
                  · obtain rfl : i = l.l.length := by omega
                    have HRO := hid (HV2'.out ⟨fun q => by
                      rcases Nat.lt_or_ge (q + 1) l.l.length with h | h
                      · exact HB.out q h
                      · exact adjI_out h, fun q z hz => HA.out q z (List.getElem?_eq_some_iff.1 hz).1 hz⟩)
                    have hz1 : IntKind.i64.wrap ((M : Int) + (l.l.length : Int)) = (M : Int) + (l.l.length : Int) := IntWalk.i64_in _ (by omega)
                    go_wp2_with fail
                    go_roundw
                    case rel => exact ⟨k + 1, by show k + 1 ≤ ml.length; omega, by go_num, by show _ = Value.int .i64 ((manyM (ml.take (k + 1)) : Nat) : Int); rw [HMT.out]; simp, HV1', HRO, bT hbel (bT hb3 hb4)⟩
                    case measure => simp [intOf]; omega
            · rw [valB_no hval] at hVM
              have HVM := hid hVM
              have HV : Hid (F = false) := hid (HNO.out fun h => hval (h.2.2.2.2.1 k x HX.out))
              clear hVM hval
              go_wp2_with fail
              go_region_with ((go_at_call 54; refine (HVM.out _).mono ?_; rintro e w3 ⟨rfl, b3⟩))
              all_goals
                go_wp2_with fail
                go_ret
                exact ⟨by rw [HV.out]; rfl, bT hb0 ((Below.refl V0.heap.size V0).drew.trans b3)⟩
          · obtain rfl : k = ml.length := by omega
            have hkn : ¬ ((ml.length : Int) < (n : Int)) := by have := HMN.out; omega
            have HFV : Hid (F = (!((fresh && done) || (decide ((0 : Int) < (manyM (ml.take ml.length) : Int)) && (fresh || done))) && decide ((manyM (ml.take ml.length) : Int) ≤ 5000))) := hid (by
              have e1 : ml.take ml.length = ml := List.take_of_length_le (Nat.le_refl _)
              rw [e1]
              by_cases hs : stOk ⟨⟨(n : Int), es⟩, kind, src⟩ ⟨step, phase, fresh, done, vs, ml⟩
              · rw [HYES.out hs]
                obtain ⟨_, _, _, _, _, _, s7, s8, s9⟩ := hs
                dsimp only at s7 s8 s9
                have e2 : (manyM ml : Int) ≤ 5000 := by omega
                rw [decide_eq_true e2]
                rcases s9 with s9 | ⟨s9, s10⟩
                · have e3 : decide ((0 : Int) < (manyM ml : Int)) = false := decide_eq_false (by omega)
                  rw [e3]
                  cases hf1 : fresh <;> cases hd1 : done <;> first | rfl | exact absurd ⟨hf1, hd1⟩ s7
                · rw [s9, s10]; simp
              · rw [HNO.out hs]
                symm
                refine Bool.eq_false_iff.2 fun hc => hs ?_
                simp only [Bool.and_eq_true, Bool.not_eq_true', Bool.or_eq_false_iff, Bool.and_eq_false_iff, decide_eq_true_eq, decide_eq_false_iff_not] at hc
                obtain ⟨⟨c1, c2⟩, c3⟩ := hc
                refine ⟨HST.out, HPH.out, by have := HVN.out; dsimp only; omega, by have := HMN.out; dsimp only; omega, fun i x hx => HV1.out i x (by have := (List.getElem?_eq_some_iff.1 hx).1; have := HVN.out; have := HMN.out; dsimp only at *; omega) hx, fun i x hx => HV2.out i x (List.getElem?_eq_some_iff.1 hx).1 hx, ?_, ?_, ?_⟩
                · rintro ⟨h5, h6⟩
                  dsimp only at h5 h6
                  rcases c1 with h7 | h7
                  · rw [h5] at h7; cases h7
                  · rw [h6] at h7; cases h7
                · dsimp only; omega
                · dsimp only
                  rcases c2 with h5 | h5
                  · exact .inl (by omega)
                  · exact .inr h5)
            generalize manyM (ml.take ml.length) = M at *
            go_wp2_with fail
            all_goals
              go_ret
              exact ⟨by rw [HFV.out]; first | (simp [*]; done) | (simp [*]; intros; omega), hb0⟩
end Go.Proofs.Yteefemiieidpaaa
