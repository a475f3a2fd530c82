/- varint.Put and the document's Packed: one list of bytes. -/
import Derived.Test.YteefemiieidpaaaBase
namespace Go.Proofs.Yteefemiieidpaaa
open Go.ChangeShapes Go.WideShapes Go.ChangeAt Go.RowKit
set_option linter.unusedVariables false
set_option linter.unusedSimpArgs false
/-- The bytes of a number; 'f': how many more may follow. -/
def packF : Nat → Int → List Int
  | 0, n => [n]
  | f + 1, n => if n < 128 then [n] else (n % 128 + 128) :: packF f (n / 128)
def pack (n : Int) : List Int := packF 9 n
theorem packF_small (f : Nat) (n : Int) (h : n < 128) : packF f n = [n] := by
  cases f with
  | zero => rfl
  | succ f => rw [packF, if_pos h]
theorem packF_len : ∀ f n, (packF f n).length ≤ f + 1 ∧ 1 ≤ (packF f n).length
  | 0, n => by simp [packF]
  | f + 1, n => by
    rw [packF]
    split
    · simp
    · have := packF_len f (n / 128)
      simp only [List.length_cons]
      omega
theorem pack_len (n : Int) : (pack n).length ≤ 10 ∧ 1 ≤ (pack n).length := packF_len 9 n
theorem packF_byte : ∀ (f : Nat) (n : Int), 0 ≤ n → n < 128 * 128 ^ f → ∀ x ∈ packF f n, 0 ≤ x ∧ x ≤ 255
  | 0, n, h0, h1, x, hx => by simp [packF] at hx; subst hx; simp at h1; omega
  | f + 1, n, h0, h1, x, hx => by
    rw [packF] at hx
    split at hx
    · simp at hx; subst hx; omega
    · rcases List.mem_cons.1 hx with rfl | hx
      · omega
      · have hp : (128 : Int) ^ (f + 1) = 128 ^ f * 128 := Int.pow_succ ..
        rw [hp] at h1
        have hP : (0 : Int) < 128 ^ f := Int.pow_pos (by decide)
        generalize (128 : Int) ^ f = P at *
        exact packF_byte f (n / 128) (by omega) (by omega) x hx
theorem pack_byte (n : Int) (h0 : 0 ≤ n) (h1 : n ≤ 18446744073709551615) : ∀ x ∈ pack n, 0 ≤ x ∧ x ≤ 255 := packF_byte 9 n h0 (by omega)
theorem or128 (m : Int) (h0 : 0 ≤ m) : bits BinOp.or IntKind.u8 (m % 256) 128 = m % 128 + 128 := by
  have : ∀ y : Fin 256, bits BinOp.or IntKind.u8 (y.val : Int) 128 = (y.val : Int) % 128 + 128 := by decide +kernel
  have h := this ⟨(m % 256).toNat, by omega⟩
  have e2 : (((m % 256).toNat : Nat) : Int) = m % 256 := by omega
  simp only [e2] at h
  rw [h]
  omega
/-- A slice comes back, new memory. -/
def RetS (E sz : Nat) (w : World) (n : Nat) (xs : List Value) (e : Ending) (w' : World) : Prop :=
  ∃ A c, e = .returned (.slice A n c) ∧ w'.ownsRow w.heap.size E sz (.slice A n c) n xs ∧ Below w.heap.size w w'
def PutRel (n0 : Int) (w : World) (a s : Value) (wr : World) : Prop :=
  ∃ (f k c : Nat) (m : Int) (acc : List Int) (A : Option Addr), Hid (pack n0 = acc ++ packF f m) ∧ Hid (k = acc.length) ∧ k + f = 9 ∧ 0 ≤ m ∧ m ≤ 18446744073709551615 ∧ Hid (m < 128 * 128 ^ f) ∧ a = .int .u64 m ∧ s = .slice A k c ∧
    wr.ownsRow w.heap.size 5 1 (.slice A k c) k (acc.flatMap u8c) ∧ Below w.heap.size w wr
end Go.Proofs.Yteefemiieidpaaa
