/- board.Open and the document's answer. -/
import Derived.Test.YtaipjckcckfnaaaIn
namespace Go.Proofs.Ytaipjckcckfnaaa
open Go.ChangeShapes Go.WideShapes Go.ChangeAt Go.RowKit
set_option linter.unusedVariables false
def BoardOk (a b c : Int) : Prop := 1 ≤ a ∧ a ≤ 8 ∧ 0 ≤ b ∧ b ≤ 1099511627776 ∧ 0 ≤ c ∧ c ≤ 100000
def boardV (a b c e : Int) : Value := .tuple #[.agg #[.int .i64 a, .int .i64 b, .int .i64 c, .slice none 0 0], .int .i64 e]
theorem boardOpen_yes (a b c : Int) (w : World) (h : BoardOk a b c) :
    Calls Try.prog 20 #[.int .i64 a, .int .i64 b, .int .i64 c] w fun e w' => e = .returned (boardV a b c 0) ∧ Below w.heap.size w w' := by
  obtain ⟨h1, h2, h3, h4, h5, h6⟩ := h
  go_enter Try.func20, Try.ntmps20
  go_wp2
  exact bodyPost_ret (v := boardV a b c 0) (by simp [results, boardV, Try.results20, go_sem]) rfl ⟨rfl, (Below.refl _ _).alloc (Nat.le_refl _) _⟩
theorem boardOpen_no (a b c : Int) (w : World) (h : ¬ BoardOk a b c) :
    Calls Try.prog 20 #[.int .i64 a, .int .i64 b, .int .i64 c] w fun e w' => e = .returned (boardV 0 0 0 2) ∧ Below w.heap.size w w' := by
  unfold BoardOk at h
  go_enter Try.func20, Try.ntmps20
  go_wp2
  all_goals exact bodyPost_ret (v := boardV 0 0 0 2) (by simp [results, boardV, Try.results20, go_sem]) rfl ⟨rfl, (Below.refl _ _).alloc (Nat.le_refl _) _⟩
theorem boardOpened_yes (a b c : Int) (w : World) (h : BoardOk a b c) :
    Calls Try.prog 21 #[.int .i64 a, .int .i64 b, .int .i64 c] w fun e w' => e = .returned (boardV a b c 0) ∧ Below w.heap.size w w' := by
  obtain ⟨h1, h2, h3, h4, h5, h6⟩ := h
  have i1 := inB_yes ⟨h1, h2⟩
  have i2 := inB_yes ⟨h3, h4⟩
  have i3 := inB_yes ⟨h5, h6⟩
  go_enter Try.func21, Try.ntmps21
  go_wp2_with (go_at_call 24; refine (In_walk _ _ _ _).mono ?_; rintro e w' ⟨rfl, rfl⟩)
  exact bodyPost_ret (v := boardV a b c 0) (by simp [results, boardV, Try.results21, go_sem]) rfl ⟨rfl, (Below.refl _ _).alloc (Nat.le_refl _) _⟩
theorem boardOpened_no (a b c : Int) (w : World) (h : ¬ BoardOk a b c) :
    Calls Try.prog 21 #[.int .i64 a, .int .i64 b, .int .i64 c] w fun e w' => e = .returned (boardV 0 0 0 2) ∧ Below w.heap.size w w' := by
  have hn : inB a 1 8 = false ∨ inB b 0 1099511627776 = false ∨ inB c 0 100000 = false := by
    unfold BoardOk at h
    simp only [inB, decide_eq_false_iff_not]
    omega
  cases i1 : inB a 1 8 <;> cases i2 : inB b 0 1099511627776 <;> cases i3 : inB c 0 100000 <;> simp only [i1, i2, i3, reduceCtorEq, or_false, or_true] at hn
  all_goals
    go_enter Try.func21, Try.ntmps21
    go_wp2_with (go_at_call 24; refine (In_walk _ _ _ _).mono ?_; rintro e w' ⟨rfl, rfl⟩)
    exact bodyPost_ret (v := boardV 0 0 0 2) (by simp [results, boardV, Try.results21, go_sem]) rfl ⟨rfl, (Below.refl _ _).alloc (Nat.le_refl _) _⟩
theorem sameBoard_nil (a b c : Int) (w : World) :
    Calls Try.prog 8 #[.agg #[.int .i64 a, .int .i64 b, .int .i64 c, .slice none 0 0], .agg #[.int .i64 a, .int .i64 b, .int .i64 c, .slice none 0 0]] w fun e w' => e = .returned (.bool true) ∧ Below w.heap.size w w' := by
  go_enter Try.func8, Try.ntmps8
  go_wp2
  refine wp_loop_rounds 1 ?_
  rw [rounds_succ]
  go_wp2
  go_ret
  exact ⟨rfl, ((Below.refl _ _).alloc (Nat.le_refl _) _).alloc (by simp) _⟩
end Go.Proofs.Ytaipjckcckfnaaa
