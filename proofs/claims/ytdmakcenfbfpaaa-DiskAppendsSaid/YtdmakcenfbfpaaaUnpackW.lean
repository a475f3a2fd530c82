/- The document's Unpacked: the walk; the statement on varint.Get. -/
import Derived.Test.YtdmakcenfbfpaaaUnpack
namespace Go.Proofs.Ytdmakcenfbfpaaa
open Go.ChangeShapes Go.WideShapes Go.ChangeAt Go.RowKit
set_option linter.unusedVariables false
set_option linter.unusedSimpArgs false
def UnpRel (l : List Int) (K : Nat) (a i : Value) : Prop :=
  ∃ (j : Nat) (m q : Int), j ≤ K + 1 ∧ Hid (m = hv ((l.take (K + 1)).drop j)) ∧ Hid (q = (j : Int) - 1) ∧ i = .int .i64 q ∧ a = .int .u64 m
def tri (a b c : Int) : Value := .tuple #[.int .u64 a, .int .i64 b, .int .i64 c]
set_option maxHeartbeats 4000000 in
theorem unpacked_walk (l : List Int) (w : World) (A : Option Addr) (n c : Nat) (hr : Rd w w.heap.size A 1 n (l.flatMap u8c)) (hl : ∀ x ∈ l, 0 ≤ x ∧ x ≤ 255) (hn : n ≤ 9223372036854775807) :
    Calls Try.prog 58 #[.slice A n c] w fun e w' => e = .returned (tri (getv l).1 (getv l).2.1 (getv l).2.2) ∧ w = w' := by
  have hlen : l.length = n := by
    have h1 := hr.1
    have h2 := (flatMap_get (l := l) (cells := u8c) (sz := 1) (fun _ _ => rfl)).1
    omega
  have hcell : ∀ (k : Nat) (x : Int), l[k]? = some x → ∃ b off, A = some ⟨b, off, none⟩ ∧ w.cell? ⟨b, off + k, none⟩ = some (.int .u8 x) := by
    intro k x hx
    have hk := (List.getElem?_eq_some_iff.1 hx).1
    obtain ⟨b, off, e, _, hc⟩ := hr.at_ (show k < n by omega)
    have := hc _ _ ((flatMap_get (l := l) (cells := u8c) (sz := 1) (fun _ _ => rfl)).2 k x 0 (.int .u8 x) hx rfl)
    simp only [Nat.mul_one, Nat.add_zero] at this
    exact ⟨b, off, e, this⟩
  obtain ⟨m1, m2, m3, m4⟩ := more_spec 10 l
  obtain ⟨K, hK⟩ : ∃ K, more 10 l = K := ⟨_, rfl⟩
  rw [hK] at m1 m2 m3 m4
  have HC := hid hcell
  have HL := hid hlen
  have HLL := hid hl
  have M3 := hid m3
  have M4 := hid m4
  have HK := hid hK
  have mn : K ≤ n := by omega
  clear hcell hlen hl m3 m4 hK m2 hr
  go_enter Try.func58, Try.ntmps58
  go_wp2
  go_loop [5] (fun i => ∃ k : Nat, k ≤ K ∧ i = .int .i64 k) (fun i => K - (intOf i).toNat)
  case atStart => exact ⟨0, by omega, rfl⟩
  case round =>
    obtain ⟨k, hk, rfl⟩ := hrel
    by_cases hlt : k < K
    · obtain ⟨x, hx⟩ : ∃ x, l[k]? = some x := ⟨_, List.getElem?_eq_getElem (by have := HL.out; omega)⟩
      have hx1 := M3.out k x hlt hx
      obtain ⟨b, off, rfl, hc⟩ := HC.out k x hx
      have HX := hid hx
      clear hx
      have hd : decide (128 ≤ x) = true := by simp; omega
      have hk10 : k < 10 := by omega
      have hkn : k < n := by omega
      go_wp2
      go_round
      case rel => exact ⟨k + 1, by omega, by go_num⟩
      case measure => simp [intOf]; omega
    · obtain rfl : k = K := by omega
      rcases (show k = 10 ∨ (k = n ∧ k < 10) ∨ (k < 10 ∧ k < n) by omega) with h10 | ⟨hkn, h10⟩ | ⟨h10, hkn⟩
      · have HV := hid (getv_over l HLL.out (by rw [HK.out, h10]))
        obtain ⟨x, hx⟩ : ∃ x, l[9]? = some x := ⟨_, List.getElem?_eq_getElem (by have := HL.out; omega)⟩
        have hx1 := M3.out 9 x (by omega) hx
        obtain ⟨b, off, rfl, hc⟩ := HC.out 9 x hx
        have HX := hid hx
        subst h10
        rw [show ((10 : Nat) : Int) = 10 from rfl]
        clear hx
        go_wp2
        all_goals go_ret3
        all_goals rw [HV.out]
        all_goals exact ⟨rfl, rfl⟩
      · have HV := hid (getv_short l HLL.out (by rw [HK.out, HL.out, hkn]) (by have := HL.out; omega))
        subst hkn
        go_wp2
        all_goals go_ret3
        all_goals rw [HV.out]
        all_goals exact ⟨rfl, rfl⟩
      · obtain ⟨x, hx⟩ : ∃ x, l[k]? = some x := ⟨_, List.getElem?_eq_getElem (by have := HL.out; omega)⟩
        have hx1 := M4.out h10 x hx
        have hx0 := (HLL.out x (List.mem_of_getElem? hx)).1
        have hV := getv_at l HLL.out k x HK.out (by omega) hx hx1
        have hw := hid (fun (i : Nat) (hi : i ≤ k) (h9 : k = 9 → x ≤ 1) => hv_small l i k x (by omega) hx hx1 hx0 h9 hi)
        obtain ⟨b, off, rfl, hc⟩ := HC.out k x hx
        have HX := hid hx
        clear hx M4 M3
        by_cases hbad : k = 9 ∧ 1 < x
        · have HV := hid hV
          rw [if_pos hbad] at HV
          obtain ⟨rfl, hx2⟩ := hbad
          rw [show ((9 : Nat) : Int) = 9 from rfl]
          clear hV
          go_wp2
          go_ret3
          rw [HV.out]
          exact ⟨rfl, rfl⟩
        · rw [if_neg hbad] at hV
          by_cases hz : x = 0 ∧ 0 < k
          · rw [if_pos hz] at hV
            have HV := hid hV
            obtain ⟨rfl, hk0⟩ := hz
            clear hV
            by_cases h9 : k = 9
            · subst h9
              rw [show ((9 : Nat) : Int) = 9 from rfl]
              go_wp2
              all_goals go_ret3
              all_goals rw [HV.out]
              all_goals exact ⟨rfl, rfl⟩
            · have h9' : k < 9 := by omega
              clear h9
              go_wp2
              all_goals go_ret3
              all_goals rw [HV.out]
              all_goals exact ⟨rfl, rfl⟩
          · rw [if_neg hz] at hV
            have HV := hid hV
            have hw2 := hid (fun (i : Nat) (hi : i ≤ k) => hw.out i hi (by omega))
            have hxz : 0 < k → x ≠ 0 := fun h e => hz ⟨e, h⟩
            clear hV hw hz
            rcases (show k = 9 ∨ k = 0 ∨ (0 < k ∧ k < 9) by omega) with h9 | h0 | ⟨hk0, h9⟩
            · subst h9
              obtain rfl : x = 1 := by have := hxz (by omega); omega
              rw [show ((9 : Nat) : Int) = 9 from rfl]
              clear hxz hbad
              go_wp2
              · go_loop [6, 7] (UnpRel l 9) (fun _ i => (intOf i + 1).toNat)
                case atStart => exact ⟨9 + 1, 0, 9, by omega, hid (by rw [List.drop_eq_nil_of_le (by rw [List.length_take]; omega)]; rfl), hid (by omega), rfl, rfl⟩
                case round =>
                  obtain ⟨j, m, q, hj, HM, HQ, rfl, rfl⟩ := hrel
                  cases j with
                  | zero =>
                    obtain rfl : q = -1 := by have := HQ.out; omega
                    go_wp2
                    go_ret3
                    rw [HV.out]
                    have hM := HM.out
                    rw [List.drop_zero] at hM
                    exact ⟨ret3 hM rfl rfl, rfl⟩
                  | succ i =>
                    obtain rfl : q = (i : Int) := by have := HQ.out; omega
                    obtain ⟨y, hy⟩ : ∃ y, l[i]? = some y := ⟨_, List.getElem?_eq_getElem (by have := HL.out; omega)⟩
                    obtain ⟨hy0, hy1⟩ := HLL.out y (List.mem_of_getElem? hy)
                    obtain ⟨b', off', hA, hc'⟩ := HC.out i y hy
                    injection hA with hA
                    injection hA with hA1 hA2
                    subst hA1
                    subst hA2
                    have HS := hid (hv_step l i 9 y (by omega) hy)
                    have hbd := hw2.out i (by omega)
                    rw [← HM.out] at hbd
                    obtain ⟨hb0, hb1⟩ := hbd
                    have hym : 0 ≤ y % 128 ∧ y % 128 ≤ 127 := by omega
                    obtain ⟨hym0, hym1⟩ := hym
                    have hin : i < n := by omega
                    clear hy
                    go_wp2
                    go_round
                    case rel => exact ⟨i, m * 128 + y % 128, (i : Int) - 1, by omega, hid (by rw [HS.out, ← HM.out]; omega), hid (by omega), rfl, rfl⟩
                    case measure => simp [intOf]
            · subst h0
              rw [show ((0 : Nat) : Int) = 0 from rfl]
              clear hxz hbad
              simp only [Nat.add_zero] at hc
              go_wp2
              · go_loop [6, 7] (UnpRel l 0) (fun _ i => (intOf i + 1).toNat)
                case atStart => exact ⟨0 + 1, 0, 0, by omega, hid (by rw [List.drop_eq_nil_of_le (by rw [List.length_take]; omega)]; rfl), hid (by omega), rfl, rfl⟩
                case round =>
                  obtain ⟨j, m, q, hj, HM, HQ, rfl, rfl⟩ := hrel
                  cases j with
                  | zero =>
                    obtain rfl : q = -1 := by have := HQ.out; omega
                    go_wp2
                    go_ret3
                    rw [HV.out]
                    have hM := HM.out
                    rw [List.drop_zero] at hM
                    exact ⟨ret3 hM rfl rfl, rfl⟩
                  | succ i =>
                    obtain rfl : q = (i : Int) := by have := HQ.out; omega
                    obtain ⟨y, hy⟩ : ∃ y, l[i]? = some y := ⟨_, List.getElem?_eq_getElem (by have := HL.out; omega)⟩
                    obtain ⟨hy0, hy1⟩ := HLL.out y (List.mem_of_getElem? hy)
                    obtain ⟨b', off', hA, hc'⟩ := HC.out i y hy
                    injection hA with hA
                    injection hA with hA1 hA2
                    subst hA1
                    subst hA2
                    have HS := hid (hv_step l i 0 y (by omega) hy)
                    have hbd := hw2.out i (by omega)
                    rw [← HM.out] at hbd
                    obtain ⟨hb0, hb1⟩ := hbd
                    have hym : 0 ≤ y % 128 ∧ y % 128 ≤ 127 := by omega
                    obtain ⟨hym0, hym1⟩ := hym
                    have hin : i < n := by omega
                    clear hy
                    go_wp2
                    go_round
                    case rel => exact ⟨i, m * 128 + y % 128, (i : Int) - 1, by omega, hid (by rw [HS.out, ← HM.out]; omega), hid (by omega), rfl, rfl⟩
                    case measure => simp [intOf]
            · have hxb : (x == 0) = false := by simp [hxz hk0]
              clear hxz hbad
              go_wp2
              · go_loop [6, 7] (UnpRel l k) (fun _ i => (intOf i + 1).toNat)
                case atStart => exact ⟨k + 1, 0, k, by omega, hid (by rw [List.drop_eq_nil_of_le (by rw [List.length_take]; omega)]; rfl), hid (by omega), rfl, rfl⟩
                case round =>
                  obtain ⟨j, m, q, hj, HM, HQ, rfl, rfl⟩ := hrel
                  cases j with
                  | zero =>
                    obtain rfl : q = -1 := by have := HQ.out; omega
                    go_wp2
                    go_ret3
                    rw [HV.out]
                    have hM := HM.out
                    rw [List.drop_zero] at hM
                    exact ⟨ret3 hM rfl rfl, rfl⟩
                  | succ i =>
                    obtain rfl : q = (i : Int) := by have := HQ.out; omega
                    obtain ⟨y, hy⟩ : ∃ y, l[i]? = some y := ⟨_, List.getElem?_eq_getElem (by have := HL.out; omega)⟩
                    obtain ⟨hy0, hy1⟩ := HLL.out y (List.mem_of_getElem? hy)
                    obtain ⟨b', off', hA, hc'⟩ := HC.out i y hy
                    injection hA with hA
                    injection hA with hA1 hA2
                    subst hA1
                    subst hA2
                    have HS := hid (hv_step l i k y (by omega) hy)
                    have hbd := hw2.out i (by omega)
                    rw [← HM.out] at hbd
                    obtain ⟨hb0, hb1⟩ := hbd
                    have hym : 0 ≤ y % 128 ∧ y % 128 ≤ 127 := by omega
                    obtain ⟨hym0, hym1⟩ := hym
                    have hin : i < n := by omega
                    clear hy
                    go_wp2
                    go_round
                    case rel => exact ⟨i, m * 128 + y % 128, (i : Int) - 1, by omega, hid (by rw [HS.out, ← HM.out]; omega), hid (by omega), rfl, rfl⟩
                    case measure => simp [intOf]
theorem flat_u8 (l : List Int) : l.flatMap u8c = l.map (Value.int .u8) := by
  induction l with
  | nil => rfl
  | cons x l ih => rw [List.flatMap_cons, List.map_cons, ih]; rfl
/-- varint.Get, at cells that are told one by one. -/
theorem get_any (l : List Int) (w : World) (A : Option Addr) (n c : Nat) (hr : Rd w w.heap.size A 1 n (l.flatMap u8c)) (hl : ∀ x ∈ l, 0 ≤ x ∧ x ≤ 255) (hn : n ≤ 9223372036854775807) :
    Calls Try.prog 56 #[.slice A n c] w fun e w' => e = .returned (tri (getv l).1 (getv l).2.1 (getv l).2.2) ∧ w = w' :=
  get_walk l w A n c (by rw [← flat_u8]; exact hr) hl hn
end Go.Proofs.Ytdmakcenfbfpaaa
