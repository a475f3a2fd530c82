/- The document's number. -/
import Derived.Test.YtfdaheenigmkmaaDoorBigW
import Derived.Test.YtfdaheenigmkmaaDoorRdG
namespace Go.Proofs.YtfdaheenigmkmaaDoor
open Go.RowKit Go.ChangeShapes Go.WideShapes Go.ChangeAt
set_option linter.unusedVariables false
set_option linter.unusedSimpArgs false
/-- The number, and the place behind it; or -1. -/
def numA (l : List UInt8) (fr : Nat) (e : UInt8) : Int × Int := match numberL (l.drop fr) e with
  | some (n, r) => (n, (l.length : Int) - r.length)
  | none => (0, -1)
def DnR (s : ByteArray) (fr : Nat) (e : UInt8) (v8 v9 : Value) : Prop :=
  ∃ (i : Nat) (a : Int), v9 = .int .i64 (i : Nat) ∧ v8 = .int .i64 a ∧ fr ≤ i ∧ i ≤ s.size ∧ Hid (∃ n : Nat, a = n ∧ numF ((s.data.toList.drop fr).headD 0) e (i - fr) n (s.data.toList.drop i) = numberL (s.data.toList.drop fr) e) ∧ Hid (0 ≤ a ∧ a < 10 ^ (i - fr)) ∧ i - fr ≤ 18
set_option maxRecDepth 100000 in
set_option maxHeartbeats 8000000 in
theorem number_walk (s : ByteArray) (fr : Nat) (e : UInt8) (E : Int) (hE : (e.toNat : Int) = E) (he : E < 48) (w : World) (hs : s.size ≤ 5000000) (hf : fr ≤ s.size) :
    Calls Tryd.prog 17 #[.string s, .int .i64 (fr : Nat), .int .u8 E] w fun x w' => x = .returned (.tuple #[.int .i64 (numA s.data.toList fr e).1, .int .i64 (numA s.data.toList fr e).2]) ∧ w' = w := by
  have HSS := hid (show s.data.toList.length = s.size by rw [Array.length_toList]; rfl)
  have HEE := hid hE
  clear hE
  go_enter Tryd.func17, Tryd.ntmps17
  go_wp2_with fail
  go_loopw [8, 9] (fun v8 v9 wr => DnR s fr e v8 v9 ∧ Hid (wr = w)) (fun _ v9 _ => s.size - (intOf v9).toNat)
  case atStart => exact ⟨⟨fr, 0, rfl, rfl, Nat.le_refl _, hf, hid ⟨0, rfl, by rw [Nat.sub_self]; rfl⟩, hid ⟨by decide, by rw [Nat.sub_self]; decide⟩, by omega⟩, hid rfl⟩
  case round =>
    obtain ⟨⟨i, a, rfl, rfl, hfi, hi, HN, HA, h18⟩, HW⟩ := hrel
    have hW := HW.out
    subst hW
    by_cases hlt : i < s.size
    · have hiz : (i : Int) < (s.size : Int) := by omega
      obtain ⟨c, hg, hc, hd⟩ := byte_at hlt
      obtain ⟨c0, hg0, hc0, hd0⟩ := byte_at (s := s) (i := fr) (by omega)
      have HST := hid (show numberL (s.data.toList.drop fr) e = if c = e ∧ 0 < i - fr ∧ (c0 ≠ 48 ∨ i - fr = 1) then some (a.toNat, s.data.toList.drop (i + 1)) else if c.toNat < 48 ∨ 57 < c.toNat ∨ 17 < i - fr then none else numF c0 e (i - fr + 1) (10 * a.toNat + (c.toNat - 48)) (s.data.toList.drop (i + 1)) by
        obtain ⟨n, hn, hn2⟩ := HN.out
        subst hn
        rw [← hn2, hd, hd0]
        rfl)
      have HD0 := hid (show (s.data.toList.drop fr).headD 0 = c0 by rw [hd0]; rfl)
      have HLEN := hid (show (s.data.toList.length : Int) - (s.data.toList.drop (i + 1)).length = (i : Int) + 1 by rw [List.length_drop, HSS.out]; omega)
      have hfz : (fr : Int) ≤ (i : Int) := by omega
      obtain ⟨cz, hcz⟩ : ∃ cz : Int, cz = (c.toNat : Int) := ⟨_, rfl⟩
      have hcr := hcz.symm
      obtain ⟨dz, hdz⟩ : ∃ dz : Int, dz = (c0.toNat : Int) := ⟨_, rfl⟩
      have hdr := hdz.symm
      have hNxt : c.toNat < 256 := c.toNat_lt
      have w5 : IntKind.i64.wrap ((i : Int) + 1) = (i : Int) + 1 := IntWalk.i64_in _ (by omega)
      have w6 : IntKind.i64.wrap ((fr : Int) + 1) = (fr : Int) + 1 := IntWalk.i64_in _ (by omega)
      have w7 : IntKind.i64.wrap ((i : Int) - (fr : Int)) = (i : Int) - (fr : Int) := IntWalk.i64_in _ (by omega)
      clear hc hd hc0 hd0
      by_cases h1 : c = e
      · have h1z : (cz == E) = true := by rw [beq_iff_eq, hcz, h1]; exact HEE.out
        have hlow : c.toNat < 48 := by rw [h1]; have := HEE.out; omega
        have hlz : cz < 48 := by omega
        by_cases h2 : fr < i
        · have h2z : (fr : Int) < (i : Int) := by omega
          by_cases h3 : c0.toNat = 48
          · have h3z : (dz != 48) = false := by rw [bne_eq_false_iff_eq]; omega
            by_cases h4 : i = fr + 1
            · have h4z : ((i : Int) == (fr : Int) + 1) = true := by rw [beq_iff_eq]; omega
              have HV := hid (show numA s.data.toList fr e = (a, (i : Int) + 1) by
                unfold numA
                rw [HST.out, if_pos ⟨h1, by omega, .inr (by omega)⟩]
                dsimp only
                rw [HLEN.out]
                have := HA.out.1
                congr 1; omega)
              clear h4 hcz hdz h1
              go_wp2_with fail
              go_ret2
              exact ⟨by rw [HV.out]; rfl, rfl⟩
            · have h4z : ((i : Int) == (fr : Int) + 1) = false := by rw [beq_eq_false_iff_ne]; omega
              have HV := hid (show numA s.data.toList fr e = (0, -1) by
                unfold numA
                rw [HST.out, if_neg (by rintro ⟨_, _, h | h⟩; exact h (UInt8.toNat_inj.1 h3); omega), if_pos (.inl hlow)])
              clear h4 hcz hdz h1
              go_wp2_with fail
              go_ret2
              exact ⟨by rw [HV.out]; rfl, rfl⟩
          · have h3z : (dz != 48) = true := by rw [bne_iff_ne]; omega
            have HV := hid (show numA s.data.toList fr e = (a, (i : Int) + 1) by
              unfold numA
              rw [HST.out, if_pos ⟨h1, by omega, .inl (fun h => h3 (by rw [h]; rfl))⟩]
              dsimp only
              rw [HLEN.out]
              have := HA.out.1
              congr 1; omega)
            clear hcz hdz h1
            go_wp2_with fail
            go_ret2
            exact ⟨by rw [HV.out]; rfl, rfl⟩
        · have h2z : ¬ (fr : Int) < (i : Int) := by omega
          have HV := hid (show numA s.data.toList fr e = (0, -1) by
            unfold numA
            rw [HST.out, if_neg (by rintro ⟨_, h, _⟩; omega), if_pos (.inl hlow)])
          clear hcz hdz h1
          go_wp2_with fail
          go_ret2
          exact ⟨by rw [HV.out]; rfl, rfl⟩
      · have h1z : (cz == E) = false := by
          rw [beq_eq_false_iff_ne]
          intro h
          exact h1 (UInt8.toNat_inj.1 (by have := HEE.out; omega))
        have HST2 := hid (show numberL (s.data.toList.drop fr) e = if c.toNat < 48 ∨ 57 < c.toNat ∨ 17 < i - fr then none else numF c0 e (i - fr + 1) (10 * a.toNat + (c.toNat - 48)) (s.data.toList.drop (i + 1)) by rw [HST.out, if_neg (fun h => h1 h.1)])
        clear h1 HST
        by_cases h2 : c.toNat < 48
        · have h2z : cz < 48 := by omega
          have HV := hid (show numA s.data.toList fr e = (0, -1) by unfold numA; rw [HST2.out, if_pos (.inl h2)])
          clear hcz hdz
          go_wp2_with fail
          go_ret2
          exact ⟨by rw [HV.out]; rfl, rfl⟩
        · have h2z : ¬ cz < 48 := by omega
          by_cases h3 : 57 < c.toNat
          · have h3z : 57 < cz := by omega
            have HV := hid (show numA s.data.toList fr e = (0, -1) by unfold numA; rw [HST2.out, if_pos (.inr (.inl h3))])
            clear hcz hdz
            go_wp2_with fail
            go_ret2
            exact ⟨by rw [HV.out]; rfl, rfl⟩
          · have h3z : ¬ 57 < cz := by omega
            by_cases h4 : 17 < i - fr
            · have h4z : 17 < (i : Int) - (fr : Int) := by omega
              have HV := hid (show numA s.data.toList fr e = (0, -1) by unfold numA; rw [HST2.out, if_pos (.inr (.inr h4))])
              clear hcz hdz
              go_wp2_with fail
              go_ret2
              exact ⟨by rw [HV.out]; rfl, rfl⟩
            · have h4z : ¬ 17 < (i : Int) - (fr : Int) := by omega
              have hA2 : 0 ≤ a ∧ a < 1000000000000000000 := by
                have h9 := HA.out
                have : (10 : Int) ^ (i - fr) ≤ 10 ^ 18 := by
                  have : (10 : Nat) ^ (i - fr) ≤ 10 ^ 18 := Nat.pow_le_pow_right (by decide) (by omega)
                  exact_mod_cast this
                have e18 : (10 : Int) ^ 18 = 1000000000000000000 := by decide
                exact ⟨h9.1, by omega⟩
              have hA3 : a < 100000000000000000 := by
                have h9 := HA.out
                have : (10 : Int) ^ (i - fr) ≤ 10 ^ 17 := by
                  have : (10 : Nat) ^ (i - fr) ≤ 10 ^ 17 := Nat.pow_le_pow_right (by decide) (by omega)
                  exact_mod_cast this
                have e17 : (10 : Int) ^ 17 = 100000000000000000 := by decide
                omega
              have w1 : IntKind.i64.wrap (10 * a) = 10 * a := IntWalk.i64_in _ (by omega)
              have w2 : IntKind.u8.wrap (cz - 48) = cz - 48 := by unfold IntKind.wrap; simp [IntKind.signed, IntKind.bits]; omega
              have w3 : IntKind.i64.wrap (cz - 48) = cz - 48 := IntWalk.i64_in _ (by omega)
              have w4 : IntKind.i64.wrap (10 * a + (cz - 48)) = 10 * a + (cz - 48) := IntWalk.i64_in _ (by omega)
              have HR := hid (show DnR s fr e (.int .i64 (10 * a + (cz - 48))) (.int .i64 ((i : Int) + 1)) from ⟨i + 1, _, by go_num, rfl, by omega, by omega, hid ⟨10 * a.toNat + (c.toNat - 48), by omega, by rw [HST2.out, if_neg (by omega), HD0.out, show i + 1 - fr = i - fr + 1 by omega]⟩, hid ⟨by omega, by
                have h9 := HA.out
                rw [show i + 1 - fr = (i - fr) + 1 by omega, Int.pow_succ]
                omega⟩, by omega⟩)
              clear hcz hdz hA2 hA3
              go_wp2_with fail
              go_roundw
              case rel => exact ⟨HR.out, hid trivial⟩
              case measure => simp [intOf]; omega
    · have hiz : ¬ (i : Int) < (s.size : Int) := by omega
      have HV := hid (show numA s.data.toList fr e = (0, -1) by
        obtain ⟨n, hn, hn2⟩ := HN.out
        unfold numA
        rw [← hn2, show s.data.toList.drop i = [] from List.drop_eq_nil_of_le (by rw [HSS.out]; omega)]
        rfl)
      go_wp2_with fail
      go_ret2
      exact ⟨by rw [HV.out]; rfl, rfl⟩
end Go.Proofs.YtfdaheenigmkmaaDoor
