/- The copies that the statements make of their arguments, and the comparisons that they end in. -/
import Derived.Test.YtafnbackjjaelaaDoorTypes
namespace Go.Proofs.YtafnbackjjaelaaDoor
open Go.ChangeShapes Go.WideShapes Go.ChangeAt Go.RowKit
set_option linter.unusedVariables false
theorem one_u8 (l : List Int) : ∀ u ∈ l.flatMap u8c, u.oneCell' = true := by
  intro u hu; obtain ⟨x, _, h⟩ := List.mem_flatMap.1 hu; simp [u8c] at h; subst h; rfl
theorem one_i64 (l : List Int) : ∀ u ∈ l.flatMap i64c, u.oneCell' = true := by
  intro u hu; obtain ⟨x, _, h⟩ := List.mem_flatMap.1 hu; simp [i64c] at h; subst h; rfl
theorem one_Mail (l : List Mail) : ∀ u ∈ l.flatMap Mail.cells, u.oneCell' = true := by
  intro u hu; obtain ⟨x, _, h⟩ := List.mem_flatMap.1 hu; simp [Mail.cells] at h; rcases h with rfl | rfl <;> rfl
theorem one_Edge (l : List Edge) : ∀ u ∈ l.flatMap Edge.cells, u.oneCell' = true := by
  intro u hu; obtain ⟨x, _, h⟩ := List.mem_flatMap.1 hu; simp [Edge.cells] at h; rcases h with rfl | rfl | rfl <;> rfl
theorem one_Hop (l : List Hop) : ∀ u ∈ l.flatMap Hop.cells, u.oneCell' = true := by
  intro u hu; obtain ⟨x, _, h⟩ := List.mem_flatMap.1 hu; simp [Hop.cells] at h; rcases h with rfl | rfl <;> rfl
theorem one_Val (l : List Val) : ∀ u ∈ l.flatMap Val.cells, u.oneCell' = true := by
  intro u hu; obtain ⟨x, _, h⟩ := List.mem_flatMap.1 hu; simp [Val.cells] at h; rcases h with rfl | rfl <;> rfl
theorem one_Move (l : List Move) : ∀ u ∈ l.flatMap Move.cells, u.oneCell' = true := by
  intro u hu; obtain ⟨x, _, h⟩ := List.mem_flatMap.1 hu; simp [Move.cells] at h; rcases h with rfl | rfl | rfl <;> rfl
theorem one_Packet (l : List Packet) : ∀ u ∈ l.flatMap Packet.cells, u.oneCell' = true := by
  intro u hu; obtain ⟨x, _, h⟩ := List.mem_flatMap.1 hu; simp [Packet.cells] at h; rcases h with rfl | rfl | rfl | rfl <;> rfl
theorem el_bytes : ElemTy Tryd.prog 45 5 1 1 := elemTy (z := .int .u8 0) Tryd.underlying45 (by decide) (by decide) (by kernel_rfl) rfl
theorem el_ints : ElemTy Tryd.prog 57 3 1 8 := elemTy (z := .int .i64 0) Tryd.underlying57 (by decide) (by decide) (by kernel_rfl) rfl
theorem el_edges : ElemTy Tryd.prog 29 62 3 24 := elemTy (z := .agg #[.int .i64 0, .int .i64 0, .int .i64 0]) Tryd.underlying29 (by decide) (by decide) (by kernel_rfl) rfl
theorem el_moves : ElemTy Tryd.prog 22 49 3 24 := elemTy (z := .agg #[.int .i64 0, .int .i64 0, .int .i64 0]) Tryd.underlying22 (by decide) (by decide) (by kernel_rfl) rfl
theorem moves_copy (l : List Move) (w : World) (A : Option Addr) (n c B : Nat) (hr : Rd w B A 3 n (l.flatMap Move.cells)) (hn : n * 24 ≤ 140737488355328) :
    Calls Tryd.prog 6 #[.slice A n c] w fun e w' => ∃ A' c', e = .returned (.slice A' n c') ∧ w'.ownsRow w.heap.size 49 3 (.slice A' n c') n (l.flatMap Move.cells) ∧ Below w.heap.size w w' := by
  go_enter Tryd.func6, Tryd.ntmps6
  go_wp2_with (at_builtin; refine wp_app0 _ rfl rfl el_moves rfl rfl hr (one_Move l) hn (Nat.le_refl _) ?_; intro A' c' w1 hown hbw)
  go_ret
  exact ⟨A', c', rfl, hown, hbw⟩
end Go.Proofs.YtafnbackjjaelaaDoor
