/- varint: walks. -/
import Derived.Test.YtdmakcenfbfpaaaRows
import Derived.Test.YtdmakcenfbfpaaaBase
import Derived.Test.YtdmakcenfbfpaaaSpec
namespace Go.Proofs.Ytdmakcenfbfpaaa
open Go.ChangeShapes Go.WideShapes Go.ChangeAt Go.RowKit
theorem and127 (x : Int) (h0 : 0 ≤ x) (h1 : x ≤ 255) : bits BinOp.and IntKind.u8 x 127 = x % 128 := by
  have : ∀ y : Fin 256, bits BinOp.and IntKind.u8 (y.val : Int) 127 = (y.val : Int) % 128 := by decide +kernel
  have h := this ⟨x.toNat, by omega⟩
  simpa [Int.toNat_of_nonneg h0] using h
theorem pow7 (k : Nat) (hk : k ≤ 9) : (2 : Int) ^ (7 * k) ≤ 9223372036854775808 ∧ (k ≤ 8 → (2 : Int) ^ (7 * k) ≤ 72057594037927936) ∧ 1 ≤ (2 : Int) ^ (7 * k) := by
  have : ∀ j : Fin 10, (2 : Int) ^ (7 * j.val) ≤ 9223372036854775808 ∧ (j.val ≤ 8 → (2 : Int) ^ (7 * j.val) ≤ 72057594037927936) ∧ 1 ≤ (2 : Int) ^ (7 * j.val) := by decide +kernel
  exact this ⟨k, by omega⟩
theorem or_shl (m y : Int) (k : Nat) (h0 : 0 ≤ m) (h1 : m < 2 ^ (7 * k)) (hy0 : 0 ≤ y) (hy : y ≤ 127) (hk : k ≤ 9) (h9 : k = 9 → y ≤ 1) : bits BinOp.or IntKind.u64 m (IntKind.u64.wrap (y * 2 ^ (7 * k))) = m + y * 2 ^ (7 * k) := by
  obtain ⟨p1, p2, p3⟩ := pow7 k hk
  obtain ⟨a, rfl⟩ := Int.eq_ofNat_of_zero_le h0
  obtain ⟨b, rfl⟩ := Int.eq_ofNat_of_zero_le hy0
  have hp : ((2 : Int) ^ (7 * k)) = ((2 ^ (7 * k) : Nat) : Int) := by simp
  rw [hp] at h1 p1 p2 p3 ⊢
  generalize hP : (2 ^ (7 * k) : Nat) = P at *
  have hle : b * P ≤ 18446744073709551615 - P + 1 := by
    by_cases e : k = 9
    · have hb : b ≤ 1 := by have := h9 e; omega
      have : b * P ≤ 1 * P := Nat.mul_le_mul_right _ hb
      omega
    · have hb : b ≤ 127 := by omega
      have : b * P ≤ 127 * P := Nat.mul_le_mul_right _ hb
      have := p2 (by omega)
      omega
  have hw : IntKind.u64.wrap ((b : Int) * (P : Int)) = ((b * P : Nat) : Int) := by
    rw [← Int.natCast_mul]; exact IntWalk.u64_in _ (by omega)
  rw [hw]
  have hor : a ||| (b * P) = a + b * P := by
    have := Nat.two_pow_add_eq_or_of_lt (i := 7 * k) (b := a) (by rw [hP]; omega) b
    rw [hP] at this
    rw [Nat.mul_comm b P, Nat.or_comm, ← this, Nat.add_comm]
  have e : bits BinOp.or IntKind.u64 (a : Int) ((b * P : Nat) : Int) = IntKind.u64.wrap ((a ||| (b * P) : Nat) : Int) := by
    simp only [bits, BitVec.toNat_or]
    congr 2
    rw [BitVec.toNat_ofInt, BitVec.toNat_ofInt]
    have hb64 : IntKind.u64.bits = 64 := rfl
    rw [hb64]
    congr 1 <;> omega
  rw [e, hor, IntWalk.u64_in _ (by omega)]
  simp
theorem acc (m x : Int) (k : Nat) (h0 : 0 ≤ m) (h1 : m < 2 ^ (7 * k)) (hx0 : 0 ≤ x) (hx : x ≤ 255) (hk : k ≤ 9) (h9 : k = 9 → x ≤ 1) :
    bits BinOp.or IntKind.u64 m (IntKind.u64.wrap (IntKind.u64.wrap (bits BinOp.and IntKind.u8 x 127) * 2 ^ (7 * k))) = m + x % 128 * 2 ^ (7 * k) := by
  rw [and127 x hx0 hx, IntWalk.u64_in (x % 128) (by omega)]
  exact or_shl m (x % 128) k h0 h1 (by omega) (by omega) hk (by omega)
set_option maxHeartbeats 2000000 in
theorem get_walk (l : List Int) (w : World) (A : Option Addr) (n c : Nat) (hr : Rd w w.heap.size A 1 n (l.map (Value.int .u8))) (hl : ∀ x ∈ l, 0 ≤ x ∧ x ≤ 255) (hn : n ≤ 9223372036854775807) :
    Calls Try.prog 56 #[.slice A n c] w fun e w' => e = .returned (.tuple #[.int .u64 (getv l).1, .int .i64 (getv l).2.1, .int .i64 (getv l).2.2]) ∧ w = w' := by
  have hlen : l.length = n := by simpa using hr.1
  go_enter Try.func56, Try.ntmps56
  go_wp2
  go_loop [5, 10] (fun a i => ∃ k : Nat, ∃ m : Int, k ≤ n ∧ k ≤ 9 ∧ 0 ≤ m ∧ m < 2 ^ (7 * k) ∧ Hid (getv l = getGo (l.drop k) k m) ∧ i = .int .i64 k ∧ a = .int .u64 m) (fun _ i => n - (intOf i).toNat)
  case atStart => exact ⟨0, 0, by omega, by omega, by omega, by simp, rfl, rfl, rfl⟩
  case round =>
    obtain ⟨k, m, hk, hk9, hm0, hm1, HG, rfl, rfl⟩ := hrel
    by_cases hlt : k < n
    · obtain ⟨b, off, rfl, hb, hc⟩ := hr.at_ hlt
      have hkl : k < l.length := by omega
      obtain ⟨x, hx⟩ : ∃ x, l[k]? = some x := ⟨_, List.getElem?_eq_getElem hkl⟩
      have hcell := hc k (Value.int .u8 x) (by simp [hx])
      obtain ⟨hx0, hx1⟩ := hl x (List.mem_of_getElem? hx)
      have hd : l.drop k = x :: l.drop (k + 1) := by rw [List.drop_eq_getElem_cons hkl]; congr 1; rw [List.getElem?_eq_getElem hkl] at hx; exact Option.some.inj hx
      have HE : Hid (getv l = if k = 9 ∧ 1 < x then (0, 0, 6) else if x < 128 then (if x = 0 ∧ 0 < k then (0, 0, 3) else (m + x * 2 ^ (7 * k), (k : Int) + 1, 0)) else getGo (l.drop (k + 1)) (k + 1) (m + (x - 128) * 2 ^ (7 * k))) := by
        have := HG.out
        rw [hd, getGo] at this
        exact this
      clear hx hd hlen hc HG
      have hs : (0 : Int) ≤ 7 * (k : Int) := by omega
      by_cases hbad : k = 9 ∧ 1 < x
      · have HV : Hid (getv l = (0, 0, 6)) := by have := HE.out; rw [if_pos hbad] at this; exact this
        obtain ⟨rfl, h1x⟩ := hbad
        go_wp2
        go_ret3
        rw [HV.out]
        exact ⟨rfl, rfl⟩
      · have HE2 := HE.out
        rw [if_neg hbad] at HE2
        by_cases hx00 : x = 0
        · by_cases hk0 : 0 < k
          · have HV : Hid (getv l = (0, 0, 3)) := by rw [if_pos (by omega), if_pos ⟨hx00, hk0⟩] at HE2; exact HE2
            subst hx00
            clear HE HE2
            go_wp2
            all_goals go_ret3
            all_goals rw [HV.out]
            all_goals exact ⟨rfl, rfl⟩
          · obtain rfl : k = 0 := by omega
            have HV : Hid (getv l = (m, 1, 0)) := by
              rw [if_pos (by omega), if_neg (by omega)] at HE2
              exact hid (by rw [HE2, hx00]; simp)
            obtain rfl : m = 0 := by simp at hm1; omega
            subst hx00
            clear HE HE2
            simp only [Nat.add_zero] at hcell
            go_wp2
            go_ret3
            rw [HV.out]
            exact ⟨rfl, rfl⟩
        · by_cases h9 : k = 9
          · subst h9
            obtain rfl : x = 1 := by omega
            have HV : Hid (getv l = (m + 1 * 2 ^ (7 * 9), 10, 0)) := by rw [if_pos (by omega), if_neg (by omega)] at HE2; exact HE2
            have ha := acc m 1 9 hm0 hm1 (by omega) (by omega) (by omega) (by omega)
            have HA := hid ha
            clear HE HE2 ha
            go_wp2
            go_ret3
            rw [HV.out]
            exact ⟨ret3 HA.out rfl rfl, rfl⟩
          · have h9' : ((k : Int) == 9) = false := by simp; omega
            have ha := acc m x k hm0 hm1 hx0 hx1 hk9 (by omega)
            have HA := hid ha
            clear ha
            by_cases hx128 : x < 128
            · have HV : Hid (getv l = (m + x * 2 ^ (7 * k), (k : Int) + 1, 0)) := by rw [if_pos (by omega), if_neg (by omega)] at HE2; exact HE2
              clear HE HE2
              have hxx : (x == 0) = false := by simp [hx00]
              go_wp2
              go_ret3
              rw [HV.out]
              have hA := HA.out
              rw [Int.emod_eq_of_lt hx0 hx128] at hA
              exact ⟨ret3 hA rfl rfl, rfl⟩
            · rw [if_neg hx128] at HE2
              have HF := hid HE2
              clear HE HE2
              go_wp2
              go_round
              case rel =>
                refine ⟨k + 1, m + (x - 128) * 2 ^ (7 * k), by omega, by omega, ?_, ?_, HF, by go_num, ?_⟩
                · have := pow7 k hk9
                  have : 0 ≤ (x - 128) * 2 ^ (7 * k) := Int.mul_nonneg (by omega) (by omega)
                  omega
                · have e : (2 : Int) ^ (7 * (k + 1)) = 128 * 2 ^ (7 * k) := by rw [Nat.mul_add, Int.pow_add]; simp [Int.mul_comm]
                  have : (x - 128) * 2 ^ (7 * k) ≤ 127 * 2 ^ (7 * k) := Int.mul_le_mul_of_nonneg_right (by omega) (by have := pow7 k hk9; omega)
                  omega
                · have hA := HA.out
                  rw [show x % 128 = x - 128 by omega] at hA
                  rw [← hA]
              case measure => simp [intOf]; omega
    · go_wp2
      go_ret3
      rw [HG.out, List.drop_eq_nil_of_le (by omega)]
      exact ⟨rfl, rfl⟩
end Go.Proofs.Ytdmakcenfbfpaaa
