/- The document's big, moveOf. -/
import Derived.Test.YtfdaheenigmkmaaDoorRdM
import Derived.Test.YtfdaheenigmkmaaDoorMvL
import Derived.Deep.DeepCutAuto
namespace Go.Proofs.YtfdaheenigmkmaaDoor
open Go.RowKit Go.ChangeShapes Go.WideShapes Go.ChangeAt
set_option linter.unusedVariables false
set_option linter.unusedSimpArgs false
def BgR (s : ByteArray) (v3 v4 : Value) : Prop :=
  ∃ (i : Nat) (a : Int), v4 = .int .i64 (i : Nat) ∧ v3 = .int .i64 a ∧ i ≤ s.size ∧ Hid (∃ n : Nat, a = n ∧ bigF n (s.data.toList.drop i) = bigF 0 s.data.toList) ∧ Hid (0 ≤ a ∧ a ≤ 1152921504606846979)
theorem byte_at {s : ByteArray} {i : Nat} (h : i < s.size) : ∃ c : UInt8, s[i]'h = c ∧ s.data.toList[i]? = some c ∧ s.data.toList.drop i = c :: s.data.toList.drop (i + 1) := by
  have hl : i < s.data.toList.length := by rw [Array.length_toList]; exact h
  exact ⟨s[i]'h, rfl, List.getElem?_eq_getElem hl, List.drop_eq_getElem_cons hl⟩
set_option maxRecDepth 100000 in
set_option maxHeartbeats 4000000 in
theorem big_walk (s : ByteArray) (w : World) (hs : s.size ≤ 5000000) : Calls Tryd.prog 26 #[.string s] w fun e w' => e = .returned (.int .i64 (bigV s.data.toList)) ∧ w' = w := by
  have hlen : s.data.toList.length = s.size := by rw [Array.length_toList]; rfl
  by_cases h0 : s.size = 0
  · have HV := hid (show bigV s.data.toList = -1 by unfold bigV; rw [if_pos (.inl (by omega))])
    have h0b : ((s.size : Int) == 0) = true := by simpa using h0
    go_enter Tryd.func26, Tryd.ntmps26
    go_wp2_with fail
    go_ret
    exact ⟨by rw [HV.out]; rfl, rfl⟩
  · have h0b : ((s.size : Int) == 0) = false := by simpa using h0
    by_cases h19 : 19 < s.size
    · have h19z : (19 : Int) < (s.size : Int) := by omega
      have HV := hid (show bigV s.data.toList = -1 by unfold bigV; rw [if_pos (.inr (.inl (by omega)))])
      go_enter Tryd.func26, Tryd.ntmps26
      go_wp2_with fail
      go_ret
      exact ⟨by rw [HV.out]; rfl, rfl⟩
    · have h19z : ¬ (19 : Int) < (s.size : Int) := by omega
      have h0z : 0 < s.size := by omega
      obtain ⟨c0, hg0, hc0, hd0⟩ := byte_at h0z
      by_cases hlead : c0.toNat = 48 ∧ 1 < s.size
      · obtain ⟨h48, h1s⟩ := hlead
        have h1z : (1 : Int) < (s.size : Int) := by omega
        have h48z : (c0.toNat : Int) = 48 := by omega
        have HV := hid (show bigV s.data.toList = -1 by unfold bigV; rw [if_pos (.inr (.inr ⟨by rw [hc0, show c0 = 48 from UInt8.toNat_inj.1 h48], by omega⟩))])
        clear hc0 hd0
        go_enter Tryd.func26, Tryd.ntmps26
        go_wp2_with fail
        go_ret
        exact ⟨by rw [HV.out]; rfl, rfl⟩
      · have HV := hid (show bigV s.data.toList = bigF 0 s.data.toList by
          unfold bigV
          rw [if_neg]
          rintro (h | h | ⟨h, h'⟩)
          · omega
          · omega
          · rw [hc0] at h
            exact hlead ⟨by rw [Option.some.inj h]; rfl, by omega⟩)
        have H0 := hid (show BgR s (.int .i64 0) (.int .i64 0) from ⟨0, 0, rfl, rfl, by omega, hid ⟨0, rfl, rfl⟩, hid ⟨by decide, by decide⟩⟩)
        clear hc0 hd0
        go_enter Tryd.func26, Tryd.ntmps26
        go_wp2_with fail
        all_goals
          clear h0b hlead
          go_loopw [3, 4] (fun v3 v4 wr => BgR s v3 v4 ∧ Hid (wr = w)) (fun _ v4 _ => s.size - (intOf v4).toNat)
          case atStart => exact ⟨H0.out, hid rfl⟩
          case round =>
            obtain ⟨⟨i, a, rfl, rfl, hi, HN, HA⟩, HW⟩ := hrel
            have hW := HW.out
            subst hW
            have hA := HA.out
            by_cases hlt : i < s.size
            · have hiz : (i : Int) < (s.size : Int) := by omega
              obtain ⟨c, hg, hc, hd⟩ := byte_at hlt
              have HST := hid (show bigV s.data.toList = if c.toNat < 48 ∨ 57 < c.toNat ∨ (115292150460684697 : Int) < a then -1 else bigF (10 * a.toNat + (c.toNat - 48)) (s.data.toList.drop (i + 1)) by
                obtain ⟨n, hn, hn2⟩ := HN.out
                rw [HV.out, ← hn2, hd]
                conv => lhs; unfold bigF
                subst hn
                simp only [Int.toNat_natCast]
                by_cases hh : c.toNat < 48 ∨ 57 < c.toNat ∨ 115292150460684697 < n
                · rw [if_pos hh, if_pos (by omega)]
                · rw [if_neg hh, if_neg (by omega)])
              have hNxt : c.toNat < 256 := c.toNat_lt
              clear hc hd
              obtain ⟨cz, hcz⟩ : ∃ cz : Int, cz = (c.toNat : Int) := ⟨_, rfl⟩
              have hcr := hcz.symm
              by_cases h1 : c.toNat < 48
              · have h1z : cz < 48 := by omega
                have HE := hid (show bigV s.data.toList = -1 by rw [HST.out, if_pos (.inl h1)])
                clear hcz
                go_wp2_with fail
                go_ret
                exact ⟨by rw [HE.out]; rfl, rfl⟩
              · have h1z : ¬ cz < 48 := by omega
                by_cases h2 : 57 < c.toNat
                · have h2z : 57 < cz := by omega
                  have HE := hid (show bigV s.data.toList = -1 by rw [HST.out, if_pos (.inr (.inl h2))])
                  clear hcz
                  go_wp2_with fail
                  go_ret
                  exact ⟨by rw [HE.out]; rfl, rfl⟩
                · have h2z : ¬ 57 < cz := by omega
                  by_cases h3 : (115292150460684697 : Int) < a
                  · have HE := hid (show bigV s.data.toList = -1 by rw [HST.out, if_pos (.inr (.inr h3))])
                    clear hcz
                    go_wp2_with fail
                    go_ret
                    exact ⟨by rw [HE.out]; rfl, rfl⟩
                  · have w1 : IntKind.i64.wrap (10 * a) = 10 * a := IntWalk.i64_in _ (by omega)
                    have w2 : IntKind.u8.wrap (cz - 48) = cz - 48 := by unfold IntKind.wrap; simp [IntKind.signed, IntKind.bits]; omega
                    have w3 : IntKind.i64.wrap (cz - 48) = cz - 48 := IntWalk.i64_in _ (by omega)
                    have w4 : IntKind.i64.wrap (10 * a + (cz - 48)) = 10 * a + (cz - 48) := IntWalk.i64_in _ (by omega)
                    have w5 : IntKind.i64.wrap ((i : Int) + 1) = (i : Int) + 1 := IntWalk.i64_in _ (by omega)
                    have HR := hid (show BgR s (.int .i64 (10 * a + (cz - 48))) (.int .i64 ((i : Int) + 1)) from ⟨i + 1, _, by go_num, rfl, by omega, hid ⟨10 * a.toNat + (c.toNat - 48), by omega, by rw [← HV.out, HST.out, if_neg (by omega)]⟩, hid ⟨by omega, by omega⟩⟩)
                    clear hcz
                    go_wp2_with fail
                    go_roundw
                    case rel => exact ⟨HR.out, hid trivial⟩
                    case measure => simp [intOf]; omega
            · obtain rfl : i = s.size := by omega
              have HF := hid (show bigV s.data.toList = if (1152921504606846976 : Int) < a then -1 else a by
                obtain ⟨n, hn, hn2⟩ := HN.out
                rw [HV.out, ← hn2, show s.data.toList.drop s.size = [] from List.drop_eq_nil_of_le (by omega)]
                subst hn
                unfold bigF
                by_cases hh : 1152921504606846976 < n
                · rw [if_pos hh, if_pos (by omega)]
                · rw [if_neg hh, if_neg (by omega)])
              by_cases h3 : (1152921504606846976 : Int) < a
              · have HE := hid (show bigV s.data.toList = -1 by rw [HF.out, if_pos h3])
                go_wp2_with fail
                go_ret
                exact ⟨by rw [HE.out]; rfl, rfl⟩
              · have HE := hid (show bigV s.data.toList = a by rw [HF.out, if_neg h3])
                go_wp2_with fail
                go_ret
                exact ⟨by rw [HE.out]; rfl, rfl⟩
end Go.Proofs.YtfdaheenigmkmaaDoor
