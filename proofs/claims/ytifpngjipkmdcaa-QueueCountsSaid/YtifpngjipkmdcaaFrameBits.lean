/- Bits of 32-bit numbers, as the model reckons them. -/
import Derived.Test.YtifpngjipkmdcaaMem
import Derived.Test.YtifpngjipkmdcaaCrc
namespace Go.Proofs.Ytifpngjipkmdcaa
open Go.RowKit
theorem u32_in' (n : Nat) (h : n < 4294967296) : IntKind.u32.wrap (n : Int) = (n : Int) := IntWalk.u32_in _ (by omega)
theorem bv32 (a : Nat) (h : a < 4294967296) : (BitVec.ofInt IntKind.u32.bits (a : Int)).toNat = a := by
  rw [BitVec.toNat_ofInt]
  have : IntKind.u32.bits = 32 := rfl
  rw [this]; omega
theorem bv8 (a : Nat) (h : a < 256) : (BitVec.ofInt IntKind.u8.bits (a : Int)).toNat = a := by
  rw [BitVec.toNat_ofInt]
  have : IntKind.u8.bits = 8 := rfl
  rw [this]; omega
theorem xor32 (a b : Nat) (ha : a < 4294967296) (hb : b < 4294967296) : bits BinOp.xor IntKind.u32 (a : Int) (b : Int) = ((a ^^^ b : Nat) : Int) := by
  have h : bits BinOp.xor IntKind.u32 (a : Int) (b : Int) = IntKind.u32.wrap ((a ^^^ b : Nat) : Int) := by
    simp only [bits, BitVec.toNat_xor]
    rw [bv32 a ha, bv32 b hb]
  rw [h, u32_in' _ (Nat.xor_lt_two_pow (n := 32) (by omega) (by omega))]
theorem xor8 (a b : Nat) (ha : a < 256) (hb : b < 256) : bits BinOp.xor IntKind.u8 (a : Int) (b : Int) = ((a ^^^ b : Nat) : Int) := by
  have h : bits BinOp.xor IntKind.u8 (a : Int) (b : Int) = IntKind.u8.wrap ((a ^^^ b : Nat) : Int) := by
    simp only [bits, BitVec.toNat_xor]
    rw [bv8 a ha, bv8 b hb]
  have h2 : a ^^^ b < 256 := Nat.xor_lt_two_pow (n := 8) (by omega) (by omega)
  rw [h, IntWalk.u8_in _ (by omega)]
theorem and1 (a : Nat) (ha : a < 4294967296) : bits BinOp.and IntKind.u32 (a : Int) 1 = ((a % 2 : Nat) : Int) := by
  have h : bits BinOp.and IntKind.u32 (a : Int) ((1 : Nat) : Int) = IntKind.u32.wrap ((a &&& 1 : Nat) : Int) := by
    simp only [bits, BitVec.toNat_and]
    rw [bv32 a ha, bv32 1 (by omega)]
  rw [Nat.and_one_is_mod] at h
  rw [show (1 : Int) = ((1 : Nat) : Int) from rfl, h, u32_in' _ (by omega)]
theorem not32 (a : Nat) (ha : a < 4294967296) : bits BinOp.xor IntKind.u32 4294967295 (a : Int) = ((4294967295 - a : Nat) : Int) := by
  have h := xor32 4294967295 a (by omega) ha
  have e : 4294967295 ^^^ a = 4294967295 - a := by
    have := BitVec.toNat_not (x := BitVec.ofNat 32 a)
    rw [BitVec.not_def, BitVec.toNat_xor] at this
    simp only [BitVec.toNat_allOnes, BitVec.toNat_ofNat] at this
    have h1 : a % 2 ^ 32 = a := by omega
    rw [h1] at this
    exact this
  rw [e] at h
  exact h
end Go.Proofs.Ytifpngjipkmdcaa
