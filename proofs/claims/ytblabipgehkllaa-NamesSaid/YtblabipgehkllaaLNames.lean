/- The statement on the names: the numbers of package api. -/
import Derived.Test.YtblabipgehkllaaLibC
namespace Go.Proofs.Ytblabipgehkllaa
open Go.ChangeShapes Go.WideShapes Go.ChangeAt Go.RowKit
set_option linter.unusedVariables false
def kindsL : List Int := [1, 2, 3, 0, 1, -1, 1, 2, 3, 4, 5, 6, 7, 8, 0, 1, 2]
def limitsL : List Int := [100000, 2000, 20000, 20, 40, 1152921504606846976, 200, 600, 1099511627776, 20000, 8, 5000, 1000, 4, 5000, 4398046511104, 100000, 100000]
theorem kinds_same (w : World) (A A' : Option Addr) (h1 : Rd w w.heap.size A 1 17 (kindsL.flatMap i64c)) (h2 : Rd w w.heap.size A' 1 17 (kindsL.flatMap i64c)) :
    Calls Try.prog 23 #[.slice A 17 17, .slice A' 17 17] w fun e w' => e = .returned (.bool true) ∧ Below w.heap.size w w' :=
  sameInts_walk kindsL w A A' 17 17 h1 h2 (by decide)
theorem limits_same (w : World) (A A' : Option Addr) (h1 : Rd w w.heap.size A 1 18 (limitsL.flatMap i64c)) (h2 : Rd w w.heap.size A' 1 18 (limitsL.flatMap i64c)) :
    Calls Try.prog 23 #[.slice A 18 18, .slice A' 18 18] w fun e w' => e = .returned (.bool true) ∧ Below w.heap.size w w' :=
  sameInts_walk limitsL w A A' 18 18 h1 h2 (by decide)
theorem kinds_rd (w : World) : Rd (w.alloc (.cells (kindsL.flatMap i64c).toArray 3)) (w.heap.size + 1) (some ⟨w.heap.size, 0, none⟩) 1 17 (kindsL.flatMap i64c) := rd_new w _ _ 1 17 rfl
theorem limits_rd (w : World) : Rd (w.alloc (.cells (limitsL.flatMap i64c).toArray 3)) (w.heap.size + 1) (some ⟨w.heap.size, 0, none⟩) 1 18 (limitsL.flatMap i64c) := rd_new w _ _ 1 18 rfl
theorem kinds_two (w : World) (h : Nat) (hh : w.heap.size = h) : Calls Try.prog 23 #[.slice (some ⟨h, 0, none⟩) 17 17, .slice (some ⟨h + 1, 0, none⟩) 17 17] ((w.alloc (.cells #[.int .i64 1, .int .i64 2, .int .i64 3, .int .i64 0, .int .i64 1, .int .i64 (-1), .int .i64 1, .int .i64 2, .int .i64 3, .int .i64 4, .int .i64 5, .int .i64 6, .int .i64 7, .int .i64 8, .int .i64 0, .int .i64 1, .int .i64 2] 3)).alloc (.cells #[.int .i64 1, .int .i64 2, .int .i64 3, .int .i64 0, .int .i64 1, .int .i64 (-1), .int .i64 1, .int .i64 2, .int .i64 3, .int .i64 4, .int .i64 5, .int .i64 6, .int .i64 7, .int .i64 8, .int .i64 0, .int .i64 1, .int .i64 2] 3)) fun e w' => e = .returned (.bool true) ∧ Below h w w' := by
  subst hh
  have h2 := kinds_rd (w.alloc (.cells (kindsL.flatMap i64c).toArray 3))
  simp only [World.size_alloc] at h2
  refine Calls.mono (kinds_same ((w.alloc (.cells (kindsL.flatMap i64c).toArray 3)).alloc (.cells (kindsL.flatMap i64c).toArray 3)) _ _ (((kinds_rd w).alloc (by simp) _).any (by decide)) (h2.any (by decide))) ?_
  rintro e w1 ⟨rfl, b1⟩
  exact ⟨rfl, bT (bA (bA (Below.refl _ _) _) _) b1⟩
theorem limits_two (w : World) (h : Nat) (hh : w.heap.size = h) : Calls Try.prog 23 #[.slice (some ⟨h, 0, none⟩) 18 18, .slice (some ⟨h + 1, 0, none⟩) 18 18] ((w.alloc (.cells #[.int .i64 100000, .int .i64 2000, .int .i64 20000, .int .i64 20, .int .i64 40, .int .i64 1152921504606846976, .int .i64 200, .int .i64 600, .int .i64 1099511627776, .int .i64 20000, .int .i64 8, .int .i64 5000, .int .i64 1000, .int .i64 4, .int .i64 5000, .int .i64 4398046511104, .int .i64 100000, .int .i64 100000] 3)).alloc (.cells #[.int .i64 100000, .int .i64 2000, .int .i64 20000, .int .i64 20, .int .i64 40, .int .i64 1152921504606846976, .int .i64 200, .int .i64 600, .int .i64 1099511627776, .int .i64 20000, .int .i64 8, .int .i64 5000, .int .i64 1000, .int .i64 4, .int .i64 5000, .int .i64 4398046511104, .int .i64 100000, .int .i64 100000] 3)) fun e w' => e = .returned (.bool true) ∧ Below h w w' := by
  subst hh
  have h2 := limits_rd (w.alloc (.cells (limitsL.flatMap i64c).toArray 3))
  simp only [World.size_alloc] at h2
  refine Calls.mono (limits_same ((w.alloc (.cells (limitsL.flatMap i64c).toArray 3)).alloc (.cells (limitsL.flatMap i64c).toArray 3)) _ _ (((limits_rd w).alloc (by simp) _).any (by decide)) (h2.any (by decide))) ?_
  rintro e w1 ⟨rfl, b1⟩
  exact ⟨rfl, bT (bA (bA (Below.refl _ _) _) _) b1⟩
set_option maxRecDepth 100000 in
set_option maxHeartbeats 1000000 in
theorem law_Names (w : World) :
    Calls Try.prog 3 #[] w fun e w' => e = .returned (.bool true) ∧ Below w.heap.size w w' := by
  go_enter Try.func3, Try.ntmps3
  go_wp2_with fail
  refine wp_loop_rounds 14 ?_
  iterate 14 (rw [rounds_succ]; go_wp2_with fail)
  refine (kinds_two _ _ (by simp)).mono ?_
  rintro e w1 ⟨rfl, b1⟩
  go_wp2_with fail
  refine (limits_two _ _ rfl).mono ?_
  rintro e w2 ⟨rfl, b2⟩
  go_wp2_with fail
  go_ret
  exact ⟨rfl, bT ((bA (Below.refl _ _) _).trans (b1.mono (by omega))) b2⟩
end Go.Proofs.Ytblabipgehkllaa
