/- link: the small functions. -/
import Derived.Test.YtifpngjipkmdcaaBase
import Derived.Test.YtifpngjipkmdcaaMem
import Derived.Test.YtifpngjipkmdcaaPack
namespace Go.Proofs.Ytifpngjipkmdcaa
open Go.ChangeShapes Go.WideShapes Go.ChangeAt Go.RowKit
set_option linter.unusedVariables false
set_option linter.unusedSimpArgs false
def endsB (e n : Int) : Bool := decide (0 ≤ e ∧ e ≤ 1099511627776 ∧ 0 ≤ n ∧ n ≤ 1099511627776)
def senderB (e b : Int) (n : Nat) : Bool := decide (0 ≤ e ∧ e ≤ 1099511627776 ∧ 0 ≤ b ∧ b ≤ 1099511627776 ∧ n ≤ 5000)
theorem clone_walk (l : List Mail) (A : Option Addr) (n c B : Nat) (w : World) (hr : Rd w B A 2 n (l.flatMap Mail.cells)) (hn : n * 16 ≤ 140737488355328) :
    Calls Try.prog 71 #[.slice A n c] w (RetS 62 2 w n (l.flatMap Mail.cells)) := by
  cases A with
  | none =>
    have h0 : n = 0 := by
      rcases Nat.eq_zero_or_pos n with h | h
      · exact h
      · obtain ⟨b, off, e, _⟩ := hr.2 h; cases e
    subst h0
    have hl := hr.1
    have hx : l.flatMap Mail.cells = [] := List.eq_nil_of_length_eq_zero (by simpa using hl)
    rw [hx]
    clear hx hl hr
    have hnil := fun w => Lib.run_eql_slice_nil (P := Try.prog) w 35 62 none 0 c 0 0 Try.underlying35
    go_enter Try.func71, Try.ntmps71
    go_wp2
    go_ret
    exact ⟨none, 0, rfl, World.ownsRow_nil _ _ _ _, Below.refl _ _⟩
  | some a =>
    have hnil := fun w => Lib.run_eql_slice_nil (P := Try.prog) w 35 62 (some a) n c 0 0 Try.underlying35
    have r0 := (hr.any (by decide)).alloc (Nat.le_refl _) (.cells #[] 62)
    have o0 : (w.alloc (.cells #[] 62)).ownsRow w.heap.size 62 2 (.slice (some ⟨w.heap.size, 0, none⟩) 0 0) 0 [] := World.ownsRow_lit w #[] 0 (Nat.le_refl _) (by simp [maxLen]) rfl
    go_enter Try.func71, Try.ntmps71
    go_wp2_with (at_builtin; refine wp_app1 _ rfl rfl el_mails rfl o0 rfl r0 (one_Mail l) (by omega) (by simp) ?_; intro A' c' w1 hown1 hb1 hg1)
    go_ret
    rw [Nat.zero_add] at hown1
    exact ⟨A', c', by rw [← Nat.zero_add n]; rfl, hown1, (bA (Below.refl _ _) _).trans hb1⟩
end Go.Proofs.Ytifpngjipkmdcaa
