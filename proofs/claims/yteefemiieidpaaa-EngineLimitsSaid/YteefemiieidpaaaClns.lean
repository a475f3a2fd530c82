/- slices.Clone at values and at numbers. -/
import Derived.Test.YteefemiieidpaaaLink
namespace Go.Proofs.Yteefemiieidpaaa
open Go.ChangeShapes Go.WideShapes Go.ChangeAt Go.RowKit
set_option linter.unusedVariables false
set_option linter.unusedSimpArgs false
theorem cloneVals_walk (l : List Val) (A : Option Addr) (n c B : Nat) (w : World) (hr : Rd w B A 2 n (l.flatMap Val.cells)) (hn : n * 16 ≤ 140737488355328) :
    Calls Try.prog 20 #[.slice A n c] w (RetS 50 2 w n (l.flatMap Val.cells)) := by
  cases A with
  | none =>
    have h0 : n = 0 := by
      rcases Nat.eq_zero_or_pos n with h | h
      · exact h
      · obtain ⟨b, off, e, _⟩ := hr.2 h; cases e
    subst h0
    have hl := hr.1
    have hx : l.flatMap Val.cells = [] := List.eq_nil_of_length_eq_zero (by simpa using hl)
    rw [hx]
    clear hx hl hr
    have hnil := fun w => Lib.run_eql_slice_nil (P := Try.prog) w 27 50 none 0 c 0 0 Try.underlying27
    go_enter Try.func20, Try.ntmps20
    go_wp2
    go_ret
    exact ⟨none, 0, rfl, World.ownsRow_nil _ _ _ _, Below.refl _ _⟩
  | some a =>
    have hnil := fun w => Lib.run_eql_slice_nil (P := Try.prog) w 27 50 (some a) n c 0 0 Try.underlying27
    have r0 := (hr.any (by decide)).alloc (Nat.le_refl _) (.cells #[] 50)
    have o0 : (w.alloc (.cells #[] 50)).ownsRow w.heap.size 50 2 (.slice (some ⟨w.heap.size, 0, none⟩) 0 0) 0 [] := World.ownsRow_lit w #[] 0 (Nat.le_refl _) (by simp [maxLen]) rfl
    go_enter Try.func20, Try.ntmps20
    go_wp2_with (at_builtin; refine wp_app1 _ rfl rfl el_vals rfl o0 rfl r0 (one_Val l) (by omega) (by simp) ?_; intro A' c' w1 hown1 hb1 hg1)
    go_ret
    rw [Nat.zero_add] at hown1
    exact ⟨A', c', by rw [← Nat.zero_add n]; rfl, hown1, (bA (Below.refl _ _) _).trans hb1⟩
theorem cloneInts_walk (l : List Int) (A : Option Addr) (n c B : Nat) (w : World) (hr : Rd w B A 1 n (l.flatMap i64c)) (hn : n * 8 ≤ 140737488355328) :
    Calls Try.prog 40 #[.slice A n c] w (RetS 3 1 w n (l.flatMap i64c)) := by
  cases A with
  | none =>
    have h0 : n = 0 := by
      rcases Nat.eq_zero_or_pos n with h | h
      · exact h
      · obtain ⟨b, off, e, _⟩ := hr.2 h; cases e
    subst h0
    have hl := hr.1
    have hx : l.flatMap i64c = [] := List.eq_nil_of_length_eq_zero (by simpa using hl)
    rw [hx]
    clear hx hl hr
    have hnil := fun w => Lib.run_eql_slice_nil (P := Try.prog) w 53 3 none 0 c 0 0 Try.underlying53
    go_enter Try.func40, Try.ntmps40
    go_wp2
    go_ret
    exact ⟨none, 0, rfl, World.ownsRow_nil _ _ _ _, Below.refl _ _⟩
  | some a =>
    have hnil := fun w => Lib.run_eql_slice_nil (P := Try.prog) w 53 3 (some a) n c 0 0 Try.underlying53
    have r0 := (hr.any (by decide)).alloc (Nat.le_refl _) (.cells #[] 3)
    have o0 : (w.alloc (.cells #[] 3)).ownsRow w.heap.size 3 1 (.slice (some ⟨w.heap.size, 0, none⟩) 0 0) 0 [] := World.ownsRow_lit w #[] 0 (Nat.le_refl _) (by simp [maxLen]) rfl
    go_enter Try.func40, Try.ntmps40
    go_wp2_with (at_builtin; refine wp_app1 _ rfl rfl el_ints rfl o0 rfl r0 (one_i64 l) (by omega) (by simp) ?_; intro A' c' w1 hown1 hb1 hg1)
    go_ret
    rw [Nat.zero_add] at hown1
    exact ⟨A', c', by rw [← Nat.zero_add n]; rfl, hown1, (bA (Below.refl _ _) _).trans hb1⟩
end Go.Proofs.Yteefemiieidpaaa
