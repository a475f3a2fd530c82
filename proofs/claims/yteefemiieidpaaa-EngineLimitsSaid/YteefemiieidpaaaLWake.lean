/- The statement on prog.Wake. -/
import Derived.Test.YteefemiieidpaaaWakeR
import Derived.Test.YteefemiieidpaaaBase
namespace Go.Proofs.Yteefemiieidpaaa
open Go.ChangeShapes Go.WideShapes Go.ChangeAt Go.RowKit
set_option linter.unusedVariables false
set_option linter.unusedSimpArgs false
theorem wake_walk (k v src : Int) (x : Val) (p : Int) (fresh : Bool) (l : List Int) (w : World) (A : Option Addr) (c : Nat) (hr : Rd w w.heap.size A 1 l.length (l.flatMap i64c)) (hl : l.length * 8 ≤ 140737488355328) :
    Calls Try.prog 21 #[.int .i64 k, .int .i64 v, .int .i64 src, .agg #[.int .i64 x.a, .int .i64 x.label], .int .i64 p, .bool fresh, .slice A l.length c] w (RetVBE w (wakeV k v src x p fresh l)) := by
  by_cases h1 : k = 1
  · subst h1; exact wake1_walk v src x p fresh l w A c hr hl
  by_cases h2 : k = 2
  · subst h2; exact wake2_walk v src x p fresh l w A c hr hl
  by_cases h3 : k = 3
  · subst h3; exact wake3_walk v src x p fresh l w A c hr hl
  exact wake0_walk k h1 h2 h3 v src x p fresh l w A c
end Go.Proofs.Yteefemiieidpaaa
