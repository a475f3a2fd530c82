/- disk.Remove, the document's Removed. -/
import Derived.Test.YtdmakcenfbfpaaaDiskU
namespace Go.Proofs.Ytdmakcenfbfpaaa
open Go.ChangeShapes Go.WideShapes Go.ChangeAt Go.RowKit
set_option linter.unusedVariables false
set_option linter.unusedSimpArgs false
def keepsF (n : ByteArray) (f : File) : Bool := !(f.name.toList == n.toList)
theorem files_keeps (l : List MFile) (n : ByteArray) : files (l.filter (keeps n)) = (files l).filter (keepsF n) := by
  unfold files
  rw [List.filter_map]
  rfl
noncomputable def removeF (fs : List File) (n : ByteArray) : List File × Int :=
  if okF fs = false then ([], 9) else match fileAt fs n with | none => ([], 7) | some _ => (fs.filter (keepsF n), 0)
theorem removeF_bad {l : List MFile} {n : ByteArray} (h : okB l = false) : removeF (files l) n = ([], 9) := by unfold removeF; rw [if_pos (by rw [← okB_f]; exact h)]
theorem removeF_none {l : List MFile} {n : ByteArray} (h : okB l = true) (hk : l.findIdx? (named n) = none) : removeF (files l) n = ([], 7) := by
  unfold removeF; rw [if_neg (by rw [← okB_f, h]; simp), fileAt_m, hk]
theorem removeF_some {l : List MFile} {n : ByteArray} {k : Nat} (h : okB l = true) (hk : l.findIdx? (named n) = some k) : removeF (files l) n = ((files l).filter (keepsF n), 0) := by
  unfold removeF; rw [if_neg (by rw [← okB_f, h]; simp), fileAt_m, hk]
theorem removeF_len (fs : List File) (n : ByteArray) : (removeF fs n).1.length ≤ fs.length := by
  unfold removeF; split
  · simp
  · split
    · simp
    · exact List.length_filter_le _ _
/-- One name: only the first place has it. -/
theorem okB_only {l : List MFile} (h : okB l = true) {n : ByteArray} {k j : Nat} {x : MFile} (hk : l.findIdx? (named n) = some k) (hx : l[j]? = some x) : named n x = decide (j = k) := by
  have h2 : diskOk (files l) := by unfold okB at h; exact @of_decide_eq_true _ (_) h
  have h3 := ((diskOk_m l).1 h2).2
  obtain ⟨y, hy, hn, hb⟩ := find_some hk
  have hjl := (List.getElem?_eq_some_iff.1 hx).1
  by_cases e : j = k
  · subst e; rw [hx] at hy; cases hy; simp [hn]
  · rw [decide_eq_false e]
    cases hnx : named n x with
    | false => rfl
    | true =>
      exfalso
      have e1 := named_iff.1 hnx
      have e2 := named_iff.1 hn
      rcases Nat.lt_or_gt_of_ne e with hlt | hlt
      · exact absurd (hb j x hlt hx) (by rw [hnx]; simp)
      · exact (h3 j x hjl hx).2 k y hlt hy (by show y.f.name = x.f.name; rw [e1, e2])
theorem at_none_of {l l' : List MFile} (h : files l' = files l) {n : ByteArray} {r : Option Nat} (hk : l.findIdx? (named n) = r) : l'.findIdx? (named n) = r := by rw [at_of h]; exact hk

theorem filter_skip {l : List MFile} {p : MFile → Bool} {k : Nat} {x : MFile} (hx : l[k]? = some x) (h : p x = false) : (l.take (k + 1)).filter p = (l.take k).filter p := by
  rw [take_next hx, List.filter_append]; simp [h]
theorem filter_put {l : List MFile} {p : MFile → Bool} {k : Nat} {x : MFile} (hx : l[k]? = some x) (h : p x = true) : (l.take (k + 1)).filter p = (l.take k).filter p ++ [x] := by
  rw [take_next hx, List.filter_append]; simp [h]
def noParts : MFile → List Part := fun _ => []
/-- Files that were chosen lie in a row of their own; the rest of what they lead to is older. -/
theorem chosen {w w' : World} {A1 : Option Addr} {base c : Nat} {e : TypeId} {A : Option Addr} {l acc : List MFile} (h : Files w w.heap.size A1 l) (hb : Below w.heap.size w w') (hsub : ∀ y ∈ acc, ∃ x ∈ l, y.A = x.A ∧ y.f.data = x.f.data) (ho : Heaped MFile.cells noParts w' base e 3 A c acc) : Files w' w'.heap.size A acc :=
  ⟨ho.led.1, fun y hy p hp => by
    obtain rfl := List.mem_singleton.1 hp
    obtain ⟨x, hx, e1, e2⟩ := hsub y hy
    have := Rd.any (sz := 1) (Rd.below (Files.data h hx) hb) (by decide)
    show Rd w' w'.heap.size y.A 1 y.f.data.length (y.f.data.flatMap u8c)
    rw [e1, e2]
    exact this⟩
theorem sub_filter {l : List MFile} {p : MFile → Bool} {k : Nat} : ∀ y ∈ (l.take k).filter p, ∃ x ∈ l, y.A = x.A ∧ y.f.data = x.f.data := fun y hy => ⟨y, List.mem_of_mem_take (List.mem_filter.1 hy).1, rfl, rfl⟩
def RmvRel (l : List MFile) (n : ByteArray) (P : Nat) (v : Value) (w : World) (i : Value) (wr : World) : Prop :=
  ∃ (k m c : Nat) (A : Option Addr) (acc : List MFile), k ≤ l.length ∧ i = .int .i64 k ∧ Hid (acc.length = m) ∧ Hid (acc = (l.take k).filter (keeps n)) ∧ Hid (m ≤ k) ∧ Heaped MFile.cells noParts wr (P + 2) 67 3 A c acc ∧ Below (P + 1) w wr ∧ P + 2 ≤ wr.heap.size ∧
    wr.cell? ⟨P, 0, none⟩ = some v ∧ wr.cell? ⟨P + 1, 0, none⟩ = some (.slice A m c) ∧ wr.frozen? ⟨P + 1, 0, none⟩ = false
end Go.Proofs.Ytdmakcenfbfpaaa
