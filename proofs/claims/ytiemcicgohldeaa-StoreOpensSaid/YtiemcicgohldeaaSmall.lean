/- varint.Zag, link.Open, owner: walks. -/
import Derived.Test.YtiemcicgohldeaaBase
namespace Go.Proofs.Ytiemcicgohldeaa
open Go.ChangeShapes Go.WideShapes Go.ChangeAt Go.RowKit
set_option linter.unusedVariables false
set_option linter.unusedSimpArgs false
/-! ### Zag -/
def zagv (u : Int) : Int := if u % 2 = 0 then u / 2 else -(u / 2) - 1
theorem andU1 (u : Int) (h0 : 0 ≤ u) (h1 : u ≤ 18446744073709551615) : bits BinOp.and IntKind.u64 u 1 = u % 2 := by
  have e : bits BinOp.and IntKind.u64 u 1 = IntKind.u64.wrap (((BitVec.ofInt 64 u &&& BitVec.ofInt 64 1).toNat : Nat) : Int) := rfl
  obtain ⟨n, rfl⟩ := Int.eq_ofNat_of_zero_le h0
  rw [e, BitVec.toNat_and, BitVec.toNat_ofInt, BitVec.toNat_ofInt]
  have e1 : ((n : Int) % (2 ^ 64 : Nat)).toNat = n := by omega
  have e2 : ((1 : Int) % (2 ^ 64 : Nat)).toNat = 1 := by decide
  rw [e1, e2, Nat.and_one_is_mod, IntWalk.u64_in _ (by omega)]
  omega
theorem i64_wrapL (n : Int) (h : 9223372036854775808 ≤ n) (h2 : n ≤ 18446744073709551615) : IntKind.i64.wrap n = n - 18446744073709551616 := by
  rw [IntKind.wrap_i64]; omega
theorem zag_bits (u : Int) (h0 : 0 ≤ u) (h1 : u ≤ 18446744073709551615) : bits BinOp.xor IntKind.i64 (u / 2) (wrap64 (-wrap64 (bits BinOp.and IntKind.u64 u 1))) = zagv u := by
  rw [andU1 u h0 h1]
  have e : ∀ x y : Int, bits BinOp.xor IntKind.i64 x y = IntKind.i64.wrap (((BitVec.ofInt 64 x ^^^ BitVec.ofInt 64 y).toNat : Nat) : Int) := fun _ _ => rfl
  by_cases hn : u % 2 = 0
  · have e1 : wrap64 (-wrap64 (u % 2)) = 0 := by rw [hn]; decide +kernel
    rw [e1, e]
    have : (BitVec.ofInt 64 (u / 2) ^^^ BitVec.ofInt 64 0) = BitVec.ofInt 64 (u / 2) := by simp
    rw [this, BitVec.toNat_ofInt, IntWalk.i64_in _ (by omega), zagv, if_pos hn]
    omega
  · have hn' : u % 2 = 1 := by omega
    have e1 : wrap64 (-wrap64 (u % 2)) = -1 := by rw [hn']; decide +kernel
    rw [e1, e]
    have a1 : BitVec.ofInt 64 (-1) = BitVec.allOnes 64 := by decide +kernel
    have : (BitVec.ofInt 64 (u / 2) ^^^ BitVec.ofInt 64 (-1)) = ~~~ BitVec.ofInt 64 (u / 2) := by rw [a1]; exact BitVec.xor_allOnes
    rw [this, BitVec.toNat_not, BitVec.toNat_ofInt, zagv, if_neg hn]
    rw [i64_wrapL _ (by omega) (by omega)]
    omega
/-! ### owner -/
def Fits (n k : Int) : Prop := 0 ≤ n ∧ n ≤ 200 ∧ 1 ≤ k ∧ k ≤ 8
def fitsB (n k : Int) : Bool := decide (0 ≤ n ∧ n ≤ 200 ∧ 1 ≤ k ∧ k ≤ 8)
theorem fits_yes {n k : Int} (h : Fits n k) : fitsB n k = true := by unfold fitsB; unfold Fits at h; simp [h]
theorem fits_no {n k : Int} (h : ¬ Fits n k) : fitsB n k = false := by unfold fitsB; unfold Fits at h; simpa using h
theorem fits_walk (n k : Int) (w : World) :
    Calls Try.prog 56 #[.int .i64 n, .int .i64 k] w fun e w' => e = .returned (.bool (fitsB n k)) ∧ w = w' := by
  have hd : n < 0 ∨ (0 ≤ n ∧ 200 < n) ∨ (0 ≤ n ∧ n ≤ 200 ∧ k < 1) ∨ (0 ≤ n ∧ n ≤ 200 ∧ 1 ≤ k) := by omega
  have HF : Hid (fitsB n k = (decide (0 ≤ n) && decide (n ≤ 200) && decide (1 ≤ k) && decide (k ≤ 8))) := hid (by simp [fitsB, Bool.and_assoc])
  rcases hd with h1 | ⟨h1, h2⟩ | ⟨h1, h2, h3⟩ | ⟨h1, h2, h3⟩
  all_goals
    go_enter Try.func56, Try.ntmps56
    go_wp2
    go_ret
    rw [HF.out]
  · exact ⟨retb (by simp; omega), rfl⟩
  · exact ⟨retb (by simp; omega), rfl⟩
  · exact ⟨retb (by simp; omega), rfl⟩
  · exact ⟨retb (by simp [h1, h2, h3]), rfl⟩
theorem ownerOf_yes (v n k : Int) (w : World) (h : Fits n k) (hv : 0 ≤ v ∧ v < n) :
    Calls Try.prog 60 #[.int .i64 v, .int .i64 n, .int .i64 k] w fun e w' => e = .returned (.tuple #[.int .i64 (v % k), .int .i64 0]) ∧ w = w' := by
  obtain ⟨h1, h2, h3, h4⟩ := h
  obtain ⟨h5, h6⟩ := hv
  have i1 := inB_yes ⟨h1, h2⟩
  have i2 := inB_yes ⟨h3, h4⟩
  have i3 := inB_yes (n := v) (lo := 0) (hi := n - 1) (by omega)
  obtain ⟨q, rfl⟩ := Int.eq_ofNat_of_zero_le h5
  go_enter Try.func60, Try.ntmps60
  go_wp2_with (go_at_call 59; refine (In_walk _ _ _ _).mono ?_; rintro e w' ⟨rfl, rfl⟩)
  go_loop [8, 9] (fun a i => ∃ j : Nat, j ≤ q ∧ i = .int .i64 j ∧ a = .int .i64 ((j : Int) % k)) (fun _ i => q - (intOf i).toNat)
  case atStart => exact ⟨0, by omega, rfl, by simp⟩
  case round =>
    obtain ⟨j, hj, rfl, rfl⟩ := hrel
    have h7 : 0 ≤ (j : Int) % k ∧ (j : Int) % k < k := ⟨Int.emod_nonneg _ (by omega), Int.emod_lt_of_pos _ (by omega)⟩
    by_cases hlt : j < q
    · by_cases he : (j : Int) % k + 1 = k
      · have HE : Hid (((j : Int) + 1) % k = 0) := by
          have e1 : ((j : Int) + 1) % k = ((j : Int) % k + 1) % k := by rw [Int.emod_add_emod]
          exact hid (by rw [e1, he, Int.emod_self])
        generalize (j : Int) % k = r at *
        obtain ⟨h8, h9⟩ := h7
        have hb : (r + 1 == k) = true := by simp [he]
        have HR := hid he
        clear he
        go_wp2
        go_round
        case rel => exact ⟨j + 1, by omega, by go_num, by rw [Int.natCast_add, Int.natCast_one, HE.out]⟩
        case measure => simp [intOf]; omega
      · have HE : Hid (((j : Int) + 1) % k = (j : Int) % k + 1) := by
          have e1 : ((j : Int) + 1) % k = ((j : Int) % k + 1) % k := by rw [Int.emod_add_emod]
          exact hid (by rw [e1, Int.emod_eq_of_lt (by omega) (by omega)])
        generalize (j : Int) % k = r at *
        obtain ⟨h8, h9⟩ := h7
        have hb : (r + 1 == k) = false := by simp [he]
        go_wp2
        go_round
        case rel => exact ⟨j + 1, by omega, by go_num, by rw [Int.natCast_add, Int.natCast_one, HE.out]⟩
        case measure => simp [intOf]; omega
    · have hq : j = q := by omega
      subst hq
      go_wp2
      go_ret2
      exact ⟨rfl, rfl⟩
theorem ownerOf_size (v n k : Int) (w : World) (h : ¬ Fits n k) :
    Calls Try.prog 60 #[.int .i64 v, .int .i64 n, .int .i64 k] w fun e w' => e = .returned (.tuple #[.int .i64 0, .int .i64 1]) ∧ w = w' := by
  have hn : inB n 0 200 = false ∨ inB k 1 8 = false := by
    unfold Fits at h
    simp only [inB, decide_eq_false_iff_not]
    omega
  cases i1 : inB n 0 200 <;> cases i2 : inB k 1 8 <;> simp only [i1, i2, reduceCtorEq, or_false, or_true] at hn
  all_goals
    go_enter Try.func60, Try.ntmps60
    go_wp2_with (go_at_call 59; refine (In_walk _ _ _ _).mono ?_; rintro e w' ⟨rfl, rfl⟩)
    go_ret2
    exact ⟨rfl, rfl⟩
theorem ownerOf_range (v n k : Int) (w : World) (h : Fits n k) (hv : ¬ (0 ≤ v ∧ v < n)) :
    Calls Try.prog 60 #[.int .i64 v, .int .i64 n, .int .i64 k] w fun e w' => e = .returned (.tuple #[.int .i64 0, .int .i64 2]) ∧ w = w' := by
  obtain ⟨h1, h2, h3, h4⟩ := h
  have i1 := inB_yes ⟨h1, h2⟩
  have i2 := inB_yes ⟨h3, h4⟩
  have i3 := inB_no (n := v) (lo := 0) (hi := n - 1) (by omega)
  go_enter Try.func60, Try.ntmps60
  go_wp2_with (go_at_call 59; refine (In_walk _ _ _ _).mono ?_; rintro e w' ⟨rfl, rfl⟩)
  go_ret2
  exact ⟨rfl, rfl⟩
/-- Of: both texts answer one pair. -/
def ofV (v n k : Int) : Int × Int := if 0 ≤ n ∧ n ≤ 200 ∧ 1 ≤ k ∧ k ≤ 8 then (if 0 ≤ v ∧ v < n then (v % k, 0) else (0, 2)) else (0, 1)
theorem ownerOf_walk (v n k : Int) (w : World) :
    Calls Try.prog 60 #[.int .i64 v, .int .i64 n, .int .i64 k] w fun e w' => e = .returned (.tuple #[.int .i64 (ofV v n k).1, .int .i64 (ofV v n k).2]) ∧ w = w' := by
  unfold ofV
  by_cases h : Fits n k
  · by_cases hv : 0 ≤ v ∧ v < n
    · rw [if_pos (show 0 ≤ n ∧ n ≤ 200 ∧ 1 ≤ k ∧ k ≤ 8 from h), if_pos hv]; exact ownerOf_yes v n k w h hv
    · rw [if_pos (show 0 ≤ n ∧ n ≤ 200 ∧ 1 ≤ k ∧ k ≤ 8 from h), if_neg hv]; exact ownerOf_range v n k w h hv
  · rw [if_neg (show ¬ (0 ≤ n ∧ n ≤ 200 ∧ 1 ≤ k ∧ k ≤ 8) from h)]; exact ownerOf_size v n k w h
end Go.Proofs.Ytiemcicgohldeaa
