/- merge.Least, the document's MailLeast. -/
import Derived.Test.YtifpngjipkmdcaaMComp
import Derived.Test.YtifpngjipkmdcaaMSrtR
import Derived.Test.YtifpngjipkmdcaaBase
namespace Go.Proofs.Ytifpngjipkmdcaa
open Go.ChangeShapes Go.WideShapes Go.ChangeAt Go.RowKit
set_option linter.unusedVariables false
set_option linter.unusedSimpArgs false
noncomputable def leastV (l : List Mail) : List Mail × Int := if 5000 < l.length then ([], 1) else if ordB l = false then ([], 3) else (compT l l.length, 0)
theorem leastV_big {l : List Mail} (h : 5000 < l.length) : leastV l = ([], 1) := by unfold leastV; rw [if_pos h]
theorem leastV_no {l : List Mail} (h : ¬ 5000 < l.length) (ho : ordB l = false) : leastV l = ([], 3) := by unfold leastV; rw [if_neg h, if_pos ho]
theorem leastV_ok {l : List Mail} (h : ¬ 5000 < l.length) (ho : ordB l = true) : leastV l = (compT l l.length, 0) := by unfold leastV; rw [if_neg h, if_neg (by rw [ho]; simp)]
theorem leastV_len (l : List Mail) : (leastV l).1.length ≤ 5000 := by
  unfold leastV; split
  · simp
  · split
    · simp
    · have := compT_len l l.length
      show (compT l l.length).length ≤ 5000
      omega
theorem retL_none (E sz : Nat) (w w' : World) (err : Int) (b : Below w.heap.size w w') : RetL E sz w 0 [] err (.returned (.tuple #[.slice none 0 0, .int .i64 err])) w' := ⟨none, 0, rfl, World.ownsRow_nil _ _ _ _, b⟩
abbrev RetM (w : World) (l : List Mail) (err : Int) : Ending → World → Prop := RetL 62 2 w l.length (l.flatMap Mail.cells) err
theorem two_oneM (x : Mail) : ∀ u ∈ (#[Value.int .i64 x.to, .int .i64 x.val] : Array Value).toList, u.oneCell' = true := by
  intro u hu; simp at hu; rcases hu with rfl | rfl <;> rfl
def MlRel (l : List Mail) (w : World) (o i : Value) (wr : World) : Prop :=
  ∃ (k c m : Nat) (A : Option Addr), k ≤ l.length ∧ i = .int .i64 k ∧ o = .slice A m c ∧ Hid (m = (compT l k).length) ∧ m ≤ k ∧ wr.ownsRow w.heap.size 62 2 (.slice A m c) m ((compT l k).flatMap Mail.cells) ∧ Below w.heap.size w wr
end Go.Proofs.Ytifpngjipkmdcaa
