/- Bytes as a string; the comparison of two lists of bytes. -/
import Derived.Test.YteefemiieidpaaaBase
namespace Go.Proofs.Yteefemiieidpaaa
open Go.ChangeShapes Go.WideShapes Go.ChangeAt Go.RowKit
set_option linter.unusedVariables false
set_option linter.unusedSimpArgs false
theorem run_str {P : Program} (w : World) (src e : TypeId) (hs : P.underlying src = some (.slice e)) (he : P.underlying e = some (.int .u8)) {dst : TypeId} (hd : P.underlying dst = some .string)
    (l : List Int) (A : Option Addr) (n c B : Nat) (hr : Rd w B A 1 n (l.flatMap u8c)) : (convert src dst (.slice A n c)).run P w = .ok (.string (strOfNums l)) w := by
  have hlen : l.length = n := by
    have h1 := hr.1
    have h2 := (flatMap_get (l := l) (cells := u8c) (sz := 1) (fun _ _ => rfl)).1
    omega
  rcases Nat.eq_zero_or_pos n with h0 | h0
  · subst h0
    obtain rfl : l = [] := List.eq_nil_of_length_eq_zero hlen
    cases A with
    | none => exact run_convert_bytes_nil w src e hs he 0 c dst hd
    | some a =>
      rw [run_convert_bytes_string w src dst e _ 0 c hs he hd]
      have hl : (loadCells a 0).run P w = .ok ([].map (Value.int .u8)).toArray w := by simpa using run_loadCells_list (P := P) w a [] (fun j v hj => by simp at hj)
      rw [run_bytesToString w _ 0 c [] hl, foldl_push_bytes]
      simp [strOfNums, ByteArray.empty, ByteArray.emptyWithCapacity]
      rfl
  · obtain ⟨b, off, rfl, _, hc⟩ := hr.2 h0
    refine run_convert_bytes_arg w src e hs he b off n c l hlen (fun i hi => ?_) dst hd
    obtain ⟨x, hx⟩ : ∃ x, l[i]? = some x := ⟨_, List.getElem?_eq_getElem (by omega)⟩
    have := hc _ _ ((flatMap_get (l := l) (cells := u8c) (sz := 1) (fun _ _ => rfl)).2 i x 0 (.int .u8 x) hx rfl)
    simp only [Nat.mul_one, Nat.add_zero] at this
    rw [this]
    simp [List.getD, hx]
end Go.Proofs.Yteefemiieidpaaa
