/- Disks: what their calls answer. Plain; no program in sight. -/
namespace Go.Proofs.YtphgdpjfolkafaaDoor
set_option linter.unusedVariables false
set_option linter.unusedSimpArgs false
structure File where
  name : ByteArray
  data : List Int
  synced : Int
def nameOk (n : ByteArray) : Prop := 1 ≤ n.size ∧ n.size ≤ 20
def fileOk (f : File) : Prop := nameOk f.name ∧ f.data.length ≤ 100000 ∧ 0 ≤ f.synced ∧ f.synced ≤ f.data.length
/-- The place of the first file of a name. -/
def fileAt (fs : List File) (n : ByteArray) : Option Nat := fs.findIdx? fun f => f.name.toList == n.toList
def Apart (fs : List File) : Prop := fs.Pairwise fun f g => f.name ≠ g.name
def diskOk (fs : List File) : Prop := fs.length ≤ 40 ∧ (∀ f ∈ fs, fileOk f) ∧ Apart fs
instance (n : ByteArray) : Decidable (nameOk n) := inferInstanceAs (Decidable (_ ∧ _))
instance (f : File) : Decidable (fileOk f) := inferInstanceAs (Decidable (_ ∧ _))
open Classical in
noncomputable def appV (fs : List File) (n : ByteArray) (b : List Int) : List File × Int :=
  if ¬ diskOk fs then ([], 9) else if ¬ nameOk n then ([], 1) else
  match fileAt fs n with
  | none => if fs.length = 40 then ([], 10) else if 100000 < b.length then ([], 10) else (fs ++ [⟨n, b, 0⟩], 0)
  | some i => if 100000 < ((fs[i]?.map (·.data)).getD []).length + b.length then ([], 10) else (fs.modify i fun f => { f with data := f.data ++ b }, 0)
open Classical in
noncomputable def readV (fs : List File) (n : ByteArray) : List Int × Int :=
  if ¬ diskOk fs then ([], 9) else match fileAt fs n with
  | none => ([], 7)
  | some i => ((fs[i]?.map (·.data)).getD [], 0)
open Classical in
noncomputable def syncV (fs : List File) (n : ByteArray) : List File × Int :=
  if ¬ diskOk fs then ([], 9) else match fileAt fs n with
  | none => ([], 7)
  | some i => (fs.modify i fun f => { f with synced := f.data.length }, 0)
open Classical in
noncomputable def renV (fs : List File) (a b : ByteArray) : List File × Int :=
  if ¬ diskOk fs then ([], 9) else if ¬ nameOk b then ([], 1) else match fileAt fs a with
  | none => ([], 7)
  | some _ => if a = b then (fs, 0) else (((fs.filter fun f => f.name ≠ b).map fun f => if f.name = a then { f with name := b } else f), 0)
open Classical in
noncomputable def remV (fs : List File) (n : ByteArray) : List File × Int :=
  if ¬ diskOk fs then ([], 9) else match fileAt fs n with
  | none => ([], 7)
  | some i => (fs.eraseIdx i, 0)
def crashF (k : Int) (f : File) : File := { f with data := f.data.take (f.synced + min k (f.data.length - f.synced)).toNat, synced := f.synced + min k (f.data.length - f.synced) }
open Classical in
noncomputable def crashV (fs : List File) (k : Int) : List File × Int :=
  if ¬ diskOk fs then ([], 9) else if k < 0 then ([], 2) else (fs.map (crashF k), 0)
theorem apart_filter {fs : List File} (h : Apart fs) (n : ByteArray) : Apart (fs.filter fun f => f.name ≠ n) := List.Pairwise.filter _ h
end Go.Proofs.YtphgdpjfolkafaaDoor
