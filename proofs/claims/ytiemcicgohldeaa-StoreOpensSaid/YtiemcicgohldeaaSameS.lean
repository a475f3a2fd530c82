/- The comparison of two states. -/
import Derived.Test.YtiemcicgohldeaaStateD
import Derived.Test.YtiemcicgohldeaaMem
namespace Go.Proofs.Ytiemcicgohldeaa
open Go.ChangeShapes Go.WideShapes Go.ChangeAt Go.RowKit
set_option linter.unusedVariables false
set_option linter.unusedSimpArgs false
def stCells (s : State) (A : Option Addr) (c : Nat) (B : Option Addr) (k : Nat) : Array Value := #[.int .i64 s.step, .int .i64 s.phase, .bool s.fresh, .bool s.done, .slice A s.vals.length c, .slice B s.mail.length k]
def lists {α : Type} (m : List (ML α)) : List (List α) := m.map (·.l)
theorem lists_get {α : Type} {m m' : List (ML α)} (h : lists m' = lists m) {k : Nat} {x : ML α} (hx : m[k]? = some x) : ∃ x', m'[k]? = some x' ∧ x'.l = x.l := by
  have h1 : (lists m)[k]? = some x.l := by unfold lists; rw [List.getElem?_map, hx]; rfl
  rw [← h] at h1
  unfold lists at h1
  rw [List.getElem?_map] at h1
  cases h2 : m'[k]? with
  | none => rw [h2] at h1; cases h1
  | some x' => rw [h2] at h1; exact ⟨x', rfl, by simpa using h1⟩
theorem lists_len {α : Type} {m m' : List (ML α)} (h : lists m' = lists m) : m'.length = m.length := by
  have := congrArg List.length h; simpa [lists] using this
end Go.Proofs.Ytiemcicgohldeaa
