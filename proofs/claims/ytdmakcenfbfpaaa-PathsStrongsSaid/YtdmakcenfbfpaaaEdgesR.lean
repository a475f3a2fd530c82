/- The document's InOrder: edges, one by one put where they belong. -/
import Derived.Test.YtdmakcenfbfpaaaEOrd
import Derived.Test.YtdmakcenfbfpaaaGraph
import Derived.Test.YtdmakcenfbfpaaaBase
namespace Go.Proofs.Ytdmakcenfbfpaaa
open Go.ChangeShapes Go.WideShapes Go.ChangeAt Go.RowKit
set_option linter.unusedVariables false
set_option linter.unusedSimpArgs false
theorem three_oneE (x : Edge) : ∀ u ∈ (#[Value.int .i64 x.src, .int .i64 x.dst, .int .i64 x.wt] : Array Value).toList, u.oneCell' = true := by
  intro u hu; simp at hu; rcases hu with rfl | rfl | rfl <;> rfl
theorem swap_atE {α : Type} (p q : List α) (x y : α) : ((p ++ [y] ++ x :: q).set (p.length + 1) y).set p.length x = p ++ x :: y :: q := by
  have e1 : p ++ [y] ++ x :: q = p ++ y :: x :: q := by simp
  rw [e1, List.set_append_right _ _ (by omega), List.set_append_right _ _ (by omega), Nat.sub_self, show p.length + 1 - p.length = 1 by omega]
  rfl
def noPartsE : Edge → List Part := fun _ => []
abbrev OwnE (w : World) (B : Nat) (A : Option Addr) (c : Nat) (l : List Edge) : Prop := Heaped Edge.cells noPartsE w B 87 3 A c l
def OutE (l : List Edge) (w : World) (o i : Value) (wr : World) : Prop :=
  ∃ (k c : Nat) (A : Option Addr) (acc : List Edge), k ≤ l.length ∧ i = .int .i64 k ∧ o = .slice A k c ∧ Hid (acc.length = k) ∧ Hid (acc.Perm (l.take k)) ∧ Hid (Srt elt acc) ∧ OwnE wr w.heap.size A c acc ∧ Below w.heap.size w wr
def InE (l : List Edge) (w : World) (n c g : Nat) (j : Value) (wr : World) : Prop :=
  ∃ (p q : List Edge) (x : Edge), j = .int .i64 p.length ∧ Hid (Sink elt (l.take n) p x q) ∧ Hid (p.length + 1 + q.length = n) ∧ p.length < n ∧ OwnE wr w.heap.size (some ⟨g, 0, none⟩) c (p ++ x :: q) ∧ Below w.heap.size w wr
end Go.Proofs.Ytdmakcenfbfpaaa
