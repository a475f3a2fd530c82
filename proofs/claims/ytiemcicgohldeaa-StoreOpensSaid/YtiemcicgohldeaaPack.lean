/- varint.Put and the document's Packed: one list of bytes. -/
import Derived.Test.YtiemcicgohldeaaBase
namespace Go.Proofs.Ytiemcicgohldeaa
open Go.ChangeShapes Go.WideShapes Go.ChangeAt Go.RowKit
set_option linter.unusedVariables false
set_option linter.unusedSimpArgs false
/-- The bytes of a number; 'f': how many more may follow. -/
def packF : Nat → Int → List Int
  | 0, n => [n]
  | f + 1, n => if n < 128 then [n] else (n % 128 + 128) :: packF f (n / 128)
def pack (n : Int) : List Int := packF 9 n
theorem packF_small (f : Nat) (n : Int) (h : n < 128) : packF f n = [n] := by
  cases f with
  | zero => rfl
  | succ f => rw [packF, if_pos h]
theorem packF_len : ∀ f n, (packF f n).length ≤ f + 1 ∧ 1 ≤ (packF f n).length
  | 0, n => by simp [packF]
  | f + 1, n => by
    rw [packF]
    split
    · simp
    · have := packF_len f (n / 128)
      simp only [List.length_cons]
      omega
theorem pack_len (n : Int) : (pack n).length ≤ 10 ∧ 1 ≤ (pack n).length := packF_len 9 n
theorem packF_byte : ∀ (f : Nat) (n : Int), 0 ≤ n → n < 128 * 128 ^ f → ∀ x ∈ packF f n, 0 ≤ x ∧ x ≤ 255
  | 0, n, h0, h1, x, hx => by simp [packF] at hx; subst hx; simp at h1; omega
  | f + 1, n, h0, h1, x, hx => by
    rw [packF] at hx
    split at hx
    · simp at hx; subst hx; omega
    · rcases List.mem_cons.1 hx with rfl | hx
      · omega
      · have hp : (128 : Int) ^ (f + 1) = 128 ^ f * 128 := Int.pow_succ ..
        rw [hp] at h1
        have hP : (0 : Int) < 128 ^ f := Int.pow_pos (by decide)
        generalize (128 : Int) ^ f = P at *
        exact packF_byte f (n / 128) (by omega) (by omega) x hx
theorem pack_byte (n : Int) (h0 : 0 ≤ n) (h1 : n ≤ 18446744073709551615) : ∀ x ∈ pack n, 0 ≤ x ∧ x ≤ 255 := packF_byte 9 n h0 (by omega)
theorem or128 (m : Int) (h0 : 0 ≤ m) : bits BinOp.or IntKind.u8 (m % 256) 128 = m % 128 + 128 := by
  have : ∀ y : Fin 256, bits BinOp.or IntKind.u8 (y.val : Int) 128 = (y.val : Int) % 128 + 128 := by decide +kernel
  have h := this ⟨(m % 256).toNat, by omega⟩
  have e2 : (((m % 256).toNat : Nat) : Int) = m % 256 := by omega
  simp only [e2] at h
  rw [h]
  omega
/-- A slice comes back, new memory. -/
def RetS (E sz : Nat) (w : World) (n : Nat) (xs : List Value) (e : Ending) (w' : World) : Prop :=
  ∃ A c, e = .returned (.slice A n c) ∧ w'.ownsRow w.heap.size E sz (.slice A n c) n xs ∧ Below w.heap.size w w'
def PutRel (n0 : Int) (w : World) (a s : Value) (wr : World) : Prop :=
  ∃ (f k c : Nat) (m : Int) (acc : List Int) (A : Option Addr), Hid (pack n0 = acc ++ packF f m) ∧ Hid (k = acc.length) ∧ k + f = 9 ∧ 0 ≤ m ∧ m ≤ 18446744073709551615 ∧ Hid (m < 128 * 128 ^ f) ∧ a = .int .u64 m ∧ s = .slice A k c ∧
    wr.ownsRow w.heap.size 5 1 (.slice A k c) k (acc.flatMap u8c) ∧ Below w.heap.size w wr
set_option maxHeartbeats 1000000 in
theorem put_walk (n : Int) (h0 : 0 ≤ n) (h1 : n ≤ 18446744073709551615) (w : World) :
    Calls Try.prog 64 #[.int .u64 n] w (RetS 5 1 w (pack n).length ((pack n).flatMap u8c)) := by
  go_enter Try.func64, Try.ntmps64
  go_wp2
  go_loopw [0, 3] (PutRel n w) (fun a _ _ => (intOf a).toNat)
  case atStart => exact ⟨9, 0, 0, n, [], none, hid rfl, hid rfl, by omega, h0, h1, hid (by omega), rfl, rfl, World.ownsRow_nil _ _ _ _, Below.refl _ _⟩
  case round =>
    obtain ⟨f, k, c, m, acc, A, HP, HK, hkf, hm0, hm1, HB, rfl, rfl, hown, hbel⟩ := hrel
    by_cases hlt : m < 128
    · have hd : decide (128 ≤ m) = false := by simp; omega
      go_wp2_with (at_builtin; refine wp_app1 _ rfl rfl el_bytes rfl (hown.alloc _) rfl (rd_new _ _ _ 1 1 rfl) (by intro u hu; simp at hu; subst hu; rfl) (by omega) (Nat.le_trans hbel.size (by simp)) ?_; intro A' c' w1 hown1 hb1 hg1)
      go_ret
      have e : pack n = acc ++ [m] := by rw [HP.out, packF_small f m hlt]
      have el : (pack n).length = k + 1 := by rw [e, List.length_append, ← HK.out]; rfl
      rw [el, e, List.flatMap_append]
      exact ⟨A', c', rfl, hown1, (hbel.alloc hbel.size _).trans hb1⟩
    · cases f with
      | zero => have := HB.out; simp at this; omega
      | succ f =>
        have ho := or128 m hm0
        have hp : (128 : Int) ^ (f + 1) = 128 ^ f * 128 := Int.pow_succ ..
        have HB2 : Hid (m / 128 < 128 * 128 ^ f) := by
          have := HB.out
          rw [hp] at this
          exact hid (by generalize (128 : Int) ^ f = P at *; omega)
        have HP2 : Hid (pack n = (acc ++ [m % 128 + 128]) ++ packF f (m / 128)) := by
          have := HP.out
          rw [packF, if_neg hlt] at this
          exact hid (by rw [this]; simp)
        clear hp
        have hd : decide (128 ≤ m) = true := by simp; omega
        go_wp2_with (at_builtin; refine wp_app1 _ rfl rfl el_bytes rfl (hown.alloc _) rfl (rd_new _ _ _ 1 1 rfl) (by intro u hu; simp at hu; subst hu; rfl) (by omega) (Nat.le_trans hbel.size (by simp)) ?_; intro A' c' w1 hown1 hb1 hg1)
        go_roundw
        case rel => exact ⟨f, k + 1, c', m / 128, acc ++ [m % 128 + 128], A', HP2, hid (by rw [List.length_append, ← HK.out]; rfl), by omega, by omega, by omega, HB2, rfl, rfl, by rw [List.flatMap_append]; exact hown1, (hbel.alloc hbel.size _).trans hb1⟩
        case measure => simp [intOf]; omega
set_option maxHeartbeats 1000000 in
theorem packed_walk : ∀ (f : Nat) (n : Int), 0 ≤ n → n ≤ 18446744073709551615 → n < 128 * 128 ^ f → f ≤ 9 → ∀ w : World,
    Calls Try.prog 36 #[.int .u64 n] w (RetS 5 1 w (packF f n).length ((packF f n).flatMap u8c)) := by
  intro f
  induction f with
  | zero =>
    intro n h0 h1 hb hf w
    have hlt : n < 128 := by simpa using hb
    rw [packF_small 0 n hlt]
    clear hb
    go_enter Try.func36, Try.ntmps36
    go_wp2_with fail
    go_ret
    exact ⟨_, _, rfl, World.ownsRow_lit _ _ 1 (Nat.le_refl _) (by simp [maxLen]) rfl, bA (Below.refl _ _) _⟩
  | succ f ih =>
    intro n h0 h1 hb hf w
    by_cases hlt : n < 128
    · rw [packF_small _ n hlt]
      clear hb
      go_enter Try.func36, Try.ntmps36
      go_wp2_with fail
      go_ret
      exact ⟨_, _, rfl, World.ownsRow_lit _ _ 1 (Nat.le_refl _) (by simp [maxLen]) rfl, bA (Below.refl _ _) _⟩
    · have hp : (128 : Int) ^ (f + 1) = 128 ^ f * 128 := Int.pow_succ ..
      have hb2 : n / 128 < 128 * 128 ^ f := by
        rw [hp] at hb
        generalize (128 : Int) ^ f = P at *
        omega
      have c := hid (ih (n / 128) (by omega) (by omega) hb2 (by omega))
      rw [packF, if_neg hlt]
      have hl := (packF_len f (n / 128)).1
      generalize packF f (n / 128) = l at *
      generalize hL : (n % 128 + 128) :: l = L
      have HL := hid hL
      clear hp hb2 hb ih hL
      have hd : decide (n < 128) = false := by simp; omega
      have hm : 0 ≤ n % 128 ∧ n % 128 < 128 := by omega
      obtain ⟨hm1, hm2⟩ := hm
      go_enter Try.func36, Try.ntmps36
      go_wp2_with fail
      refine (c.out _).mono ?_
      rintro e w1 ⟨A1, c1, rfl, o1, b1⟩
      have hown := own_below (w := w.alloc (.cells #[.int .u8 (n % 128 + 128)] 5)) (World.ownsRow_lit (base := w.heap.size) (e := 5) (size := 1) w #[.int .u8 (n % 128 + 128)] 1 (Nat.le_refl _) (by simp [maxLen]) rfl) b1 (Nat.le_refl _)
      have hr := rd_own o1
      go_wp2_with (at_builtin; refine wp_app1 _ rfl rfl el_bytes rfl hown rfl hr (one_u8 l) (by omega) (by have := b1.size; simp at this; omega) ?_; intro A' c' w2 hown1 hb1 hg1)
      go_ret
      have el : L.length = 1 + l.length := by rw [← HL.out]; simp [Nat.add_comm]
      rw [el, ← HL.out]
      exact ⟨A', c', rfl, hown1, (bT (bA (Below.refl _ _) _) b1).trans hb1⟩
theorem packed_any (n : Int) (h0 : 0 ≤ n) (h1 : n ≤ 18446744073709551615) (w : World) :
    Calls Try.prog 36 #[.int .u64 n] w (RetS 5 1 w (pack n).length ((pack n).flatMap u8c)) :=
  packed_walk 9 n h0 h1 (by omega) (Nat.le_refl _) w
end Go.Proofs.Ytiemcicgohldeaa
