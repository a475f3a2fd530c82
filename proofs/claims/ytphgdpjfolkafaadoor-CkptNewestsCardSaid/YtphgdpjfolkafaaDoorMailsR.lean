/- The document's Mails: one by one put where it belongs. -/
import Derived.Test.YtphgdpjfolkafaaDoorMComp
import Derived.Test.YtphgdpjfolkafaaDoorMSrtR
namespace Go.Proofs.YtphgdpjfolkafaaDoor
open Go.ChangeShapes Go.WideShapes Go.ChangeAt Go.RowKit
set_option linter.unusedVariables false
set_option linter.unusedSimpArgs false
theorem two_oneN (x : Mail) : ∀ u ∈ (#[Value.int .i64 x.to, .int .i64 x.val] : Array Value).toList, u.oneCell' = true := by
  intro u hu; simp at hu; rcases hu with rfl | rfl <;> rfl
theorem swap_at {α : Type} (p q : List α) (x y : α) : ((p ++ [y] ++ x :: q).set (p.length + 1) y).set p.length x = p ++ x :: y :: q := by
  have e1 : p ++ [y] ++ x :: q = p ++ y :: x :: q := by simp
  rw [e1, List.set_append_right _ _ (by omega), List.set_append_right _ _ (by omega), Nat.sub_self, show p.length + 1 - p.length = 1 by omega]
  rfl
def OutM (l : List Mail) (w : World) (o i : Value) (wr : World) : Prop :=
  ∃ (k c : Nat) (A : Option Addr) (acc : List Mail), k ≤ l.length ∧ i = .int .i64 k ∧ o = .slice A k c ∧ Hid (acc.length = k) ∧ Hid (acc.Perm (l.take k)) ∧ Hid (Srt mlt acc) ∧ OwnM wr w.heap.size A c acc ∧ Below w.heap.size w wr
def InM (l : List Mail) (w : World) (n c g : Nat) (j : Value) (wr : World) : Prop :=
  ∃ (p q : List Mail) (x : Mail), j = .int .i64 p.length ∧ Hid (Sink mlt (l.take n) p x q) ∧ Hid (p.length + 1 + q.length = n) ∧ p.length < n ∧ OwnM wr w.heap.size (some ⟨g, 0, none⟩) c (p ++ x :: q) ∧ Below w.heap.size w wr
end Go.Proofs.YtphgdpjfolkafaaDoor
