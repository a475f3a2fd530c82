/- disk.Sync, the document's SyncedTo; the statement. -/
import Derived.Test.YtphgdpjfolkafaaDiskR
import Derived.Test.YtphgdpjfolkafaaMem
namespace Go.Proofs.Ytphgdpjfolkafaa
open Go.ChangeShapes Go.WideShapes Go.ChangeAt Go.RowKit
set_option linter.unusedVariables false
set_option linter.unusedSimpArgs false
/-- A disk and an error number come back. -/
def RetD (w : World) (fs : List File) (err : Int) (e : Ending) (w' : World) : Prop :=
  ∃ A c l', e = .returned (.tuple #[.agg #[.slice A fs.length c], .int .i64 err]) ∧ files l' = fs ∧ Files w' w'.heap.size A l' ∧ Below w.heap.size w w'
def syncd (f : File) : File := { f with synced := f.data.length }
noncomputable def syncF (fs : List File) (n : ByteArray) : List File × Int :=
  if okF fs = false then ([], 9) else match fileAt fs n with | none => ([], 7) | some i => (match fs[i]? with | some f => (fs.set i (syncd f), 0) | none => ([], 7))
theorem syncF_bad {l : List MFile} {n : ByteArray} (h : okB l = false) : syncF (files l) n = ([], 9) := by unfold syncF; rw [if_pos (by rw [← okB_f]; exact h)]
theorem syncF_none {l : List MFile} {n : ByteArray} (h : okB l = true) (hk : l.findIdx? (named n) = none) : syncF (files l) n = ([], 7) := by
  unfold syncF; rw [if_neg (by rw [← okB_f, h]; simp), fileAt_m, hk]
theorem syncF_some {l : List MFile} {n : ByteArray} {k : Nat} {x : MFile} (h : okB l = true) (hk : l.findIdx? (named n) = some k) (hx : l[k]? = some x) : syncF (files l) n = ((files l).set k (syncd x.f), 0) := by
  unfold syncF; rw [if_neg (by rw [← okB_f, h]; simp), fileAt_m, hk]
  have : (files l)[k]? = some x.f := by unfold files; rw [List.getElem?_map, hx]; rfl
  simp only [this]
theorem retD_bad (w w' : World) (err : Int) (b : Below w.heap.size w w') : RetD w [] err (.returned (.tuple #[.agg #[.slice none 0 0], .int .i64 err])) w' := ⟨none, 0, [], rfl, rfl, Led.nil, b⟩
theorem files_set (l : List MFile) (k : Nat) (y : MFile) : files (l.set k y) = (files l).set k y.f := by unfold files; rw [List.map_set]
theorem files_length (l : List MFile) : (files l).length = l.length := by simp [files]
theorem syncF_len (fs : List File) (n : ByteArray) : (syncF fs n).1.length ≤ fs.length := by
  unfold syncF
  split
  · simp
  · split
    · simp
    · split
      · simp
      · simp
end Go.Proofs.Ytphgdpjfolkafaa
