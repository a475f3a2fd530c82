/- varint.Zig and varint.Zag answer what the document's functions answer, for every number. -/
import Derived.Test.YtblabipgehkllaaTypes
namespace Go.Proofs.Ytblabipgehkllaa
open Go.ChangeShapes Go.WideShapes Go.ChangeAt Go.RowKit
set_option linter.unusedVariables false
/-- Zig's plain answer. -/
def zigv (n : Int) : Int := if 0 ≤ n then 2 * n else 2 * (-(n + 1)) + 1
theorem xor64 (x y : Int) : bits BinOp.xor IntKind.u64 x y = IntKind.u64.wrap (((BitVec.ofInt 64 x ^^^ BitVec.ofInt 64 y).toNat : Nat) : Int) := rfl
theorem zig_bits (n : Int) (h : I64 n) : bits BinOp.xor IntKind.u64 (IntKind.u64.wrap (IntKind.u64.wrap n * 2)) (IntKind.u64.wrap (n / 9223372036854775808)) = zigv n := by
  obtain ⟨h0, h1⟩ := h
  by_cases hn : 0 ≤ n
  · have e1 : n / 9223372036854775808 = 0 := by omega
    rw [e1, IntWalk.u64_in n (by omega), IntWalk.u64_in (n * 2) (by omega), IntWalk.u64_in 0 (by omega)]
    have e : bits BinOp.xor IntKind.u64 (n * 2) 0 = n * 2 := by
      rw [xor64]
      have : (BitVec.ofInt 64 (n * 2) ^^^ BitVec.ofInt 64 0) = BitVec.ofInt 64 (n * 2) := by simp
      rw [this, BitVec.toNat_ofInt, IntWalk.u64_in _ (by omega)]
      omega
    rw [e, zigv, if_pos hn]
    omega
  · have e1 : n / 9223372036854775808 = -1 := by omega
    have w1 : IntKind.u64.wrap n = n + 18446744073709551616 := by simp [IntKind.wrap, IntKind.bits, IntKind.signed]; omega
    have w2 : IntKind.u64.wrap ((n + 18446744073709551616) * 2) = n * 2 + 18446744073709551616 := by simp [IntKind.wrap, IntKind.bits, IntKind.signed]; omega
    have w3 : IntKind.u64.wrap (-1) = 18446744073709551615 := by decide +kernel
    rw [e1, w1, w2, w3]
    have e : bits BinOp.xor IntKind.u64 (n * 2 + 18446744073709551616) 18446744073709551615 = -(n * 2) - 1 := by
      rw [xor64]
      have a1 : BitVec.ofInt 64 18446744073709551615 = BitVec.allOnes 64 := by decide +kernel
      have : (BitVec.ofInt 64 (n * 2 + 18446744073709551616) ^^^ BitVec.ofInt 64 18446744073709551615) = ~~~ BitVec.ofInt 64 (n * 2 + 18446744073709551616) := by
        rw [a1]
        exact BitVec.xor_allOnes
      rw [this, BitVec.toNat_not, BitVec.toNat_ofInt, IntWalk.u64_in _ (by omega)]
      omega
    rw [e, zigv, if_neg hn]
    omega
theorem zig_walk (n : Int) (h : I64 n) (w : World) :
    Calls Try.prog 24 #[.int .i64 n] w fun e w' => e = .returned (.int .u64 (zigv n)) ∧ w = w' := by
  obtain ⟨h0, h1⟩ := h
  have H := zig_bits n ⟨h0, h1⟩
  go_enter Try.func24, Try.ntmps24
  go_wp2
  go_ret
  exact ⟨rfl, rfl⟩
theorem zig_ref (n : Int) (h : I64 n) (w : World) :
    Calls Try.prog 25 #[.int .i64 n] w fun e w' => e = .returned (.int .u64 (zigv n)) ∧ w = w' := by
  obtain ⟨h0, h1⟩ := h
  by_cases hn : 0 ≤ n
  · have H : Hid (zigv n = 2 * n) := hid (by simp [zigv, hn])
    go_enter Try.func25, Try.ntmps25
    go_wp2
    go_ret
    exact ⟨congrArg _ (congrArg _ H.out.symm), rfl⟩
  · have H : Hid (zigv n = 2 * (-(n + 1)) + 1) := hid (by simp [zigv, hn])
    go_enter Try.func25, Try.ntmps25
    go_wp2
    go_ret
    exact ⟨congrArg _ (congrArg _ H.out.symm), rfl⟩
theorem law_VarintZigs (w : World) (a : Int) (wa : (Lit.int .i64 a).wf = true) :
    Calls Try.prog 4 #[.int .i64 a] w fun e w' => e = .returned (.bool true) ∧ Below w.heap.size w w' := by
  have h := i64_of wa
  generalize hz : zigv a = z
  have h1 := zig_walk a h
  have h2 := zig_ref a h
  rw [hz] at h1 h2
  clear hz
  go_enter Try.func4, Try.ntmps4
  go_wp2_with fail
  refine (h1 _).mono ?_
  rintro e w' ⟨rfl, rfl⟩
  go_wp2_with fail
  refine (h2 _).mono ?_
  rintro e w' ⟨rfl, rfl⟩
  go_wp2_with fail
  go_ret
  exact ⟨by simp, Below.refl _ _⟩
end Go.Proofs.Ytblabipgehkllaa
