/- The copies that the statements make of their arguments, and the comparisons that they end in. -/
import Derived.Test.YtdmakcenfbfpaaaTypes
namespace Go.Proofs.Ytdmakcenfbfpaaa
open Go.ChangeShapes Go.WideShapes Go.ChangeAt Go.RowKit
set_option linter.unusedVariables false
set_option linter.unusedSimpArgs false
theorem one_u8 (l : List Int) : ∀ u ∈ l.flatMap u8c, u.oneCell' = true := by
  intro u hu; obtain ⟨x, _, h⟩ := List.mem_flatMap.1 hu; simp [u8c] at h; subst h; rfl
theorem one_i64 (l : List Int) : ∀ u ∈ l.flatMap i64c, u.oneCell' = true := by
  intro u hu; obtain ⟨x, _, h⟩ := List.mem_flatMap.1 hu; simp [i64c] at h; subst h; rfl
theorem one_Mail (l : List Mail) : ∀ u ∈ l.flatMap Mail.cells, u.oneCell' = true := by
  intro u hu; obtain ⟨x, _, h⟩ := List.mem_flatMap.1 hu; simp [Mail.cells] at h; rcases h with rfl | rfl <;> rfl
theorem one_Edge (l : List Edge) : ∀ u ∈ l.flatMap Edge.cells, u.oneCell' = true := by
  intro u hu; obtain ⟨x, _, h⟩ := List.mem_flatMap.1 hu; simp [Edge.cells] at h; rcases h with rfl | rfl | rfl <;> rfl
theorem one_Hop (l : List Hop) : ∀ u ∈ l.flatMap Hop.cells, u.oneCell' = true := by
  intro u hu; obtain ⟨x, _, h⟩ := List.mem_flatMap.1 hu; simp [Hop.cells] at h; rcases h with rfl | rfl <;> rfl
theorem one_Val (l : List Val) : ∀ u ∈ l.flatMap Val.cells, u.oneCell' = true := by
  intro u hu; obtain ⟨x, _, h⟩ := List.mem_flatMap.1 hu; simp [Val.cells] at h; rcases h with rfl | rfl <;> rfl
theorem one_Move (l : List Move) : ∀ u ∈ l.flatMap Move.cells, u.oneCell' = true := by
  intro u hu; obtain ⟨x, _, h⟩ := List.mem_flatMap.1 hu; simp [Move.cells] at h; rcases h with rfl | rfl | rfl <;> rfl
theorem one_Packet (l : List Packet) : ∀ u ∈ l.flatMap Packet.cells, u.oneCell' = true := by
  intro u hu; obtain ⟨x, _, h⟩ := List.mem_flatMap.1 hu; simp [Packet.cells] at h; rcases h with rfl | rfl | rfl | rfl <;> rfl
theorem el_bytes : ElemTy Try.prog 25 5 1 1 := elemTy (z := .int .u8 0) Try.underlying25 (by decide) (by decide) (by kernel_rfl) rfl
theorem el_ints : ElemTy Try.prog 43 3 1 8 := elemTy (z := .int .i64 0) Try.underlying43 (by decide) (by decide) (by kernel_rfl) rfl
theorem el_mails : ElemTy Try.prog 51 91 2 16 := elemTy (z := .agg #[.int .i64 0, .int .i64 0]) Try.underlying51 (by decide) (by decide) (by kernel_rfl) rfl
theorem el_edges : ElemTy Try.prog 39 87 3 24 := elemTy (z := .agg #[.int .i64 0, .int .i64 0, .int .i64 0]) Try.underlying39 (by decide) (by decide) (by kernel_rfl) rfl
theorem el_hops : ElemTy Try.prog 82 84 2 16 := elemTy (z := .agg #[.int .i64 0, .int .i64 0]) Try.underlying82 (by decide) (by decide) (by kernel_rfl) rfl
theorem octets_copy (l : List Int) (w : World) (A : Option Addr) (n c B : Nat) (hr : Rd w B A 1 n (l.flatMap u8c)) (hn : n * 1 ≤ 140737488355328) :
    Calls Try.prog 10 #[.slice A n c] w fun e w' => ∃ A' c', e = .returned (.slice A' n c') ∧ w'.ownsRow w.heap.size 5 1 (.slice A' n c') n (l.flatMap u8c) ∧ Below w.heap.size w w' := by
  go_enter Try.func10, Try.ntmps10
  go_wp2_with (at_builtin; refine wp_app0 _ rfl rfl el_bytes rfl rfl hr (one_u8 l) hn (Nat.le_refl _) ?_; intro A' c' w1 hown hbw)
  go_ret
  exact ⟨A', c', rfl, hown, hbw⟩
theorem mails_copy (l : List Mail) (w : World) (A : Option Addr) (n c B : Nat) (hr : Rd w B A 2 n (l.flatMap Mail.cells)) (hn : n * 16 ≤ 140737488355328) :
    Calls Try.prog 42 #[.slice A n c] w fun e w' => ∃ A' c', e = .returned (.slice A' n c') ∧ w'.ownsRow w.heap.size 91 2 (.slice A' n c') n (l.flatMap Mail.cells) ∧ Below w.heap.size w w' := by
  go_enter Try.func42, Try.ntmps42
  go_wp2_with (at_builtin; refine wp_app0 _ rfl rfl el_mails rfl rfl hr (one_Mail l) hn (Nat.le_refl _) ?_; intro A' c' w1 hown hbw)
  go_ret
  exact ⟨A', c', rfl, hown, hbw⟩
end Go.Proofs.Ytdmakcenfbfpaaa
