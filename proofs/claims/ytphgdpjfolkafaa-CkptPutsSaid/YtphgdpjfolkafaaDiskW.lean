/- The document's Renamed. -/
import Derived.Test.YtphgdpjfolkafaaDiskS
namespace Go.Proofs.Ytphgdpjfolkafaa
open Go.ChangeShapes Go.WideShapes Go.ChangeAt Go.RowKit
set_option linter.unusedVariables false
set_option linter.unusedSimpArgs false
def staysM (a b : ByteArray) (x : MFile) : Bool := staysF a b x.f
def nameM (a b : ByteArray) (x : MFile) : MFile := if sameN x.f.name a = true then ⟨x.A, x.c, { x.f with name := b }⟩ else x
theorem nameM_f (a b : ByteArray) (x : MFile) : (nameM a b x).f = nameF a b x.f := by
  unfold nameM nameF; split <;> rfl
theorem files_named (l : List MFile) (a b : ByteArray) : files ((l.filter (staysM a b)).map (nameM a b)) = ((files l).filter (staysF a b)).map (nameF a b) := by
  unfold files
  rw [List.filter_map, List.map_map, List.map_map]
  refine List.map_congr_left fun x _ => ?_
  exact nameM_f a b x
theorem sub_named {l : List MFile} {a b : ByteArray} {k : Nat} : ∀ y ∈ ((l.take k).filter (staysM a b)).map (nameM a b), ∃ x ∈ l, y.A = x.A ∧ y.f.data = x.f.data := fun y hy => by
  obtain ⟨x, hx, rfl⟩ := List.mem_map.1 hy
  refine ⟨x, List.mem_of_mem_take (List.mem_filter.1 hx).1, ?_⟩
  unfold nameM; split <;> exact ⟨rfl, rfl⟩
theorem named_put {l : List MFile} {a b : ByteArray} {k : Nat} {x y : MFile} (hx : l[k]? = some x) (h : staysM a b x = true) (hy : nameM a b x = y) : ((l.take (k + 1)).filter (staysM a b)).map (nameM a b) = ((l.take k).filter (staysM a b)).map (nameM a b) ++ [y] := by
  rw [filter_put hx h, List.map_append]; simp [hy]
def RnmRel (l : List MFile) (a b : ByteArray) (P : Nat) (v : Value) (w : World) (i : Value) (wr : World) : Prop :=
  ∃ (k m c : Nat) (A : Option Addr) (acc : List MFile), k ≤ l.length ∧ i = .int .i64 k ∧ Hid (acc.length = m) ∧ Hid (acc = ((l.take k).filter (staysM a b)).map (nameM a b)) ∧ Hid (m ≤ k) ∧ Heaped MFile.cells noParts wr (P + 2) 131 3 A c acc ∧ Below (P + 1) w wr ∧ P + 2 ≤ wr.heap.size ∧
    wr.cell? ⟨P, 0, none⟩ = some v ∧ wr.cell? ⟨P + 1, 0, none⟩ = some (.slice A m c) ∧ wr.frozen? ⟨P + 1, 0, none⟩ = false
end Go.Proofs.Ytphgdpjfolkafaa
