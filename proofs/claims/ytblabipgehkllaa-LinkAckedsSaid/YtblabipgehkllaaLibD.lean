/- Words for memory, fourth part: a part of a list, read. -/
import Derived.Test.YtblabipgehkllaaLibC
namespace Go.Proofs.Ytblabipgehkllaa
open Go.RowKit Go.ChangeShapes Go.WideShapes Go.ChangeAt
theorem drop_flat {α : Type} {cells : α → List Value} {sz : Nat} (h : ∀ x, (cells x).length = sz) : ∀ (l : List α) (k : Nat), (l.flatMap cells).drop (k * sz) = (l.drop k).flatMap cells
  | _, 0 => by simp
  | [], k + 1 => by simp
  | a :: l, k + 1 => by
    rw [List.flatMap_cons, List.drop_succ_cons, ← drop_flat h l k, Nat.add_mul, Nat.one_mul, Nat.add_comm, ← List.drop_drop]
    congr 1
    rw [← h a, List.drop_left]
theorem take_flat {α : Type} {cells : α → List Value} {sz : Nat} (h : ∀ x, (cells x).length = sz) : ∀ (l : List α) (k : Nat), (l.flatMap cells).take (k * sz) = (l.take k).flatMap cells
  | _, 0 => by simp
  | [], k + 1 => by simp
  | a :: l, k + 1 => by
    rw [List.flatMap_cons, List.take_succ_cons, List.flatMap_cons, ← take_flat h l k, Nat.add_mul, Nat.one_mul, Nat.add_comm, List.take_append, h a]
    rw [List.take_of_length_le (by rw [h a]; omega)]
    congr 2
    omega
end Go.Proofs.Ytblabipgehkllaa
