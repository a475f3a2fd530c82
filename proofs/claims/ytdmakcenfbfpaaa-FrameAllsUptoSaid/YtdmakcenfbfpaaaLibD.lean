/- Words for memory, fourth part: a part of a list, read. -/
import Derived.Test.YtdmakcenfbfpaaaLibC
namespace Go.Proofs.Ytdmakcenfbfpaaa
open Go.RowKit Go.ChangeShapes Go.WideShapes Go.ChangeAt
/-- A quiet callee, its contract spelt 'w = w''. -/
theorem qsame {P : Program} {f : FuncId} {args : Array Value} {w : World} {n : Nat} {v : Value}
    (h : Calls P f args (w.drewN n) fun e w' => e = .returned v ∧ w.drewN n = w') : Calls P f args (w.drewN n) fun e w'' => e = .returned v ∧ ∃ m, w'' = w.drewN m :=
  h.mono fun _ _ ⟨he, hm⟩ => ⟨he, n, hm.symm⟩
/-- A new block, read, at an address that is spelt otherwise. -/
theorem rd_newAt (w : World) (cs : Array Value) (e : TypeId) (sz n g : Nat) (hg : w.heap.size = g) (h : cs.size = n * sz) : Rd (w.alloc (.cells cs e)) (g + 1) (some ⟨g, 0, none⟩) sz n cs.toList := by
  subst hg; exact rd_new w cs e sz n h
theorem own_cap {w : World} {base sz n c : Nat} {e : TypeId} {A : Option Addr} {xs : List Value} (h : w.ownsRow base e sz (.slice A n c) n xs) : n ≤ c := by
  rcases h.2 with ⟨h1, h2⟩ | ⟨g, cap, cur, h1, _, _, h2, _⟩
  · omega
  · injection h1 with _ _ h3
    omega
theorem drop_flat {α : Type} {cells : α → List Value} {sz : Nat} (h : ∀ x, (cells x).length = sz) : ∀ (l : List α) (k : Nat), (l.flatMap cells).drop (k * sz) = (l.drop k).flatMap cells
  | _, 0 => by simp
  | [], k + 1 => by simp
  | a :: l, k + 1 => by
    rw [List.flatMap_cons, List.drop_succ_cons, ← drop_flat h l k, Nat.add_mul, Nat.one_mul, Nat.add_comm, ← List.drop_drop]
    congr 1
    rw [← h a, List.drop_left]
theorem take_flat {α : Type} {cells : α → List Value} {sz : Nat} (h : ∀ x, (cells x).length = sz) : ∀ (l : List α) (k : Nat), (l.flatMap cells).take (k * sz) = (l.take k).flatMap cells
  | _, 0 => by simp
  | [], k + 1 => by simp
  | a :: l, k + 1 => by
    rw [List.flatMap_cons, List.take_succ_cons, List.flatMap_cons, ← take_flat h l k, Nat.add_mul, Nat.one_mul, Nat.add_comm, List.take_append, h a]
    rw [List.take_of_length_le (by rw [h a]; omega)]
    congr 2
    omega
end Go.Proofs.Ytdmakcenfbfpaaa
