/- The copies that the statements make of their arguments, and the comparisons that they end in. -/
import Derived.Test.YtaipjckcckfnaaaTypes
namespace Go.Proofs.Ytaipjckcckfnaaa
open Go.ChangeShapes Go.WideShapes Go.ChangeAt Go.RowKit
set_option linter.unusedVariables false
theorem one_u8 (l : List Int) : ∀ u ∈ l.flatMap u8c, u.oneCell' = true := by
  intro u hu; obtain ⟨x, _, h⟩ := List.mem_flatMap.1 hu; simp [u8c] at h; subst h; rfl
theorem one_i64 (l : List Int) : ∀ u ∈ l.flatMap i64c, u.oneCell' = true := by
  intro u hu; obtain ⟨x, _, h⟩ := List.mem_flatMap.1 hu; simp [i64c] at h; subst h; rfl
theorem one_Mail (l : List Mail) : ∀ u ∈ l.flatMap Mail.cells, u.oneCell' = true := by
  intro u hu; obtain ⟨x, _, h⟩ := List.mem_flatMap.1 hu; simp [Mail.cells] at h; rcases h with rfl | rfl <;> rfl
theorem one_Edge (l : List Edge) : ∀ u ∈ l.flatMap Edge.cells, u.oneCell' = true := by
  intro u hu; obtain ⟨x, _, h⟩ := List.mem_flatMap.1 hu; simp [Edge.cells] at h; rcases h with rfl | rfl | rfl <;> rfl
theorem one_Hop (l : List Hop) : ∀ u ∈ l.flatMap Hop.cells, u.oneCell' = true := by
  intro u hu; obtain ⟨x, _, h⟩ := List.mem_flatMap.1 hu; simp [Hop.cells] at h; rcases h with rfl | rfl <;> rfl
theorem one_Val (l : List Val) : ∀ u ∈ l.flatMap Val.cells, u.oneCell' = true := by
  intro u hu; obtain ⟨x, _, h⟩ := List.mem_flatMap.1 hu; simp [Val.cells] at h; rcases h with rfl | rfl <;> rfl
theorem one_Move (l : List Move) : ∀ u ∈ l.flatMap Move.cells, u.oneCell' = true := by
  intro u hu; obtain ⟨x, _, h⟩ := List.mem_flatMap.1 hu; simp [Move.cells] at h; rcases h with rfl | rfl | rfl <;> rfl
theorem one_Packet (l : List Packet) : ∀ u ∈ l.flatMap Packet.cells, u.oneCell' = true := by
  intro u hu; obtain ⟨x, _, h⟩ := List.mem_flatMap.1 hu; simp [Packet.cells] at h; rcases h with rfl | rfl | rfl | rfl <;> rfl
theorem el_ints : ElemTy Try.prog 31 3 1 8 := elemTy (z := .int .i64 0) Try.underlying31 (by decide) (by decide) (by kernel_rfl) rfl
end Go.Proofs.Ytaipjckcckfnaaa
