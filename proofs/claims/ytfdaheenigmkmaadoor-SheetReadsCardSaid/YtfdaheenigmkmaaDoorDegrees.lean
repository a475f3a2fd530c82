/- graph.Degrees; the document's DegreesOf. -/
import Derived.Test.YtfdaheenigmkmaaDoorGraphRef
import Derived.Test.YtfdaheenigmkmaaDoorMem
namespace Go.Proofs.YtfdaheenigmkmaaDoor
open Go.ChangeShapes Go.WideShapes Go.ChangeAt Go.RowKit
set_option linter.unusedVariables false
set_option linter.unusedSimpArgs false
def outs (l : List Edge) (v : Nat) : Nat := l.countP fun e => e.src == (v : Int)
def degs (n : Nat) (l : List Edge) : List Int := (List.range n).map fun v => (outs l v : Int)
noncomputable def degV (g : Graph) : List Int × Int := if graphV g = 0 then (degs g.n.toNat g.edges, 0) else ([], graphV g)
theorem degs_len (n : Nat) (l : List Edge) : (degs n l).length = n := by simp [degs]
theorem degs_get {n s : Nat} (l : List Edge) (h : s < n) : (degs n l)[s]? = some (outs l s : Int) := by simp [degs, h]
theorem outs_snoc (l : List Edge) (e : Edge) (v : Nat) : outs (l ++ [e]) v = outs l v + if e.src = (v : Int) then 1 else 0 := by
  unfold outs
  rw [List.countP_append]
  by_cases h : e.src = (v : Int) <;> simp [h]
theorem outs_le (l : List Edge) (v : Nat) : outs l v ≤ l.length := List.countP_le_length
theorem degs_next {n s : Nat} (l : List Edge) (e : Edge) (hs : e.src = (s : Int)) (h : s < n) : degs n (l ++ [e]) = (degs n l).set s ((outs l s : Int) + 1) := by
  apply List.ext_getElem?
  intro j
  rw [List.getElem?_set]
  by_cases hj : j < n
  · rw [degs_get _ hj, outs_snoc, hs, degs_len]
    by_cases e2 : s = j
    · subst e2; simp [h]
    · rw [if_neg e2, degs_get _ hj]
      have : ¬ ((s : Int) = (j : Int)) := by omega
      simp [this]
  · rw [List.getElem?_eq_none (by rw [degs_len]; omega)]
    by_cases e2 : s = j
    · omega
    · rw [if_neg e2, List.getElem?_eq_none (by rw [degs_len]; omega)]
theorem degs_zero (n : Nat) : degs n [] = List.replicate n 0 := by
  apply List.ext_getElem?
  intro j
  by_cases hj : j < n
  · rw [degs_get _ hj]; simp [hj, outs]
  · rw [List.getElem?_eq_none (by rw [degs_len]; omega), List.getElem?_eq_none (by simp; omega)]
theorem take_next {α : Type} {l : List α} {k : Nat} {e : α} (h : l[k]? = some e) : l.take (k + 1) = l.take k ++ [e] := by
  rw [List.take_add_one, h]; rfl
def DegRel (l : List Edge) (n g : Nat) (w : World) (i : Value) (wr : World) : Prop :=
  ∃ k : Nat, k ≤ l.length ∧ i = .int .i64 k ∧ wr.ownsRow w.heap.size 3 1 (.slice (some ⟨g, 0, none⟩) n n) n ((degs n (l.take k)).flatMap i64c) ∧ Below w.heap.size w wr
/-! ### the document's -/
def DegOfRel (l : List Edge) (n : Nat) (w : World) (s i : Value) (wr : World) : Prop :=
  ∃ (k c : Nat) (A : Option Addr), k ≤ n ∧ i = .int .i64 k ∧ s = .slice A k c ∧ wr.ownsRow w.heap.size 3 1 (.slice A k c) k (((degs n l).take k).flatMap i64c) ∧ Below w.heap.size w wr
def DegInRel (l : List Edge) (v : Nat) (x i : Value) : Prop :=
  ∃ k : Nat, k ≤ l.length ∧ i = .int .i64 k ∧ x = .int .i64 (outs (l.take k) v)
end Go.Proofs.YtfdaheenigmkmaaDoor
