/- frame.Wrap, the document's Wrapped; the statement. -/
import Derived.Test.YtphgdpjfolkafaaDoorFrameSum2
import Derived.Test.YtphgdpjfolkafaaDoorPack
import Derived.Test.YtphgdpjfolkafaaDoorBytes
import Derived.Test.YtphgdpjfolkafaaDoorMem
namespace Go.Proofs.YtphgdpjfolkafaaDoor
open Go.ChangeShapes Go.WideShapes Go.ChangeAt Go.RowKit
set_option linter.unusedVariables false
set_option linter.unusedSimpArgs false
/-- The four bytes of a sum. -/
def quad (s : Int) : List Int := [s % 256, s / 256 % 256, s / 65536 % 256, s / 16777216]
def wrapB (l : List Int) : List Int := (pack l.length ++ l) ++ quad (sumV (pack l.length ++ l))
def wrapV (l : List Int) : List Int × Int := if 20000 < l.length then ([], 1) else (wrapB l, 0)
theorem sumV_lt (l : List Int) (h : ∀ x ∈ l, 0 ≤ x ∧ x ≤ 255) : 0 ≤ sumV l ∧ sumV l < 4294967296 := by
  unfold sumV crc
  omega
theorem quad_byte (s : Int) (h0 : 0 ≤ s) (h1 : s < 4294967296) : ∀ x ∈ quad s, 0 ≤ x ∧ x ≤ 255 := by
  intro x hx
  simp [quad] at hx
  omega
theorem one1 (k : IntKind) (x : Int) : ∀ u ∈ (#[Value.int k x] : Array Value).toList, u.oneCell' = true := by
  intro u hu; simp at hu; subst hu; rfl
theorem one4b (k : IntKind) (a b c d : Int) : ∀ u ∈ (#[Value.int k a, Value.int k b, Value.int k c, Value.int k d] : Array Value).toList, u.oneCell' = true := by
  intro u hu; simp at hu; rcases hu with rfl | rfl | rfl | rfl <;> rfl
theorem wrapV_big {l : List Int} (h : 20000 < l.length) : wrapV l = ([], 1) := by unfold wrapV; rw [if_pos h]
theorem wrapV_ok {l : List Int} (h : ¬ 20000 < l.length) : wrapV l = (wrapB l, 0) := by unfold wrapV; rw [if_neg h]
def WrapRel (B : List Int) (s : Int) (w : World) (v i : Value) (wr : World) : Prop :=
  ∃ (k m c : Nat) (A : Option Addr), k ≤ 4 ∧ i = .int .i64 k ∧ Hid (m = B.length + k) ∧ m ≤ 20010 + k ∧ v = .slice A m c ∧ wr.ownsRow w.heap.size 5 1 (.slice A m c) m ((B ++ (quad s).take k).flatMap u8c) ∧ Below w.heap.size w wr
end Go.Proofs.YtphgdpjfolkafaaDoor
