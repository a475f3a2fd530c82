/- disk.Rename, the document's Renamed. -/
import Derived.Test.YtphgdpjfolkafaaDiskT
namespace Go.Proofs.Ytphgdpjfolkafaa
open Go.ChangeShapes Go.WideShapes Go.ChangeAt Go.RowKit
set_option linter.unusedVariables false
set_option linter.unusedSimpArgs false
def sameN (a b : ByteArray) : Bool := a.toList == b.toList
theorem sameN_iff {a b : ByteArray} : sameN a b = true ↔ a = b := by
  unfold sameN
  rw [beq_iff_eq]
  constructor
  · intro h; rw [ByteArray.toList_eq, ByteArray.toList_eq] at h; exact bytes_inj h
  · intro h; rw [h]
theorem sameN_no {a b : ByteArray} : sameN a b = false ↔ a ≠ b := by
  rw [← Bool.not_eq_true, sameN_iff]
/-- Does a file stay when 'from' gets the name 'to'? -/
def staysF (a b : ByteArray) (f : File) : Bool := !(sameN f.name b && !(sameN a b))
def nameF (a b : ByteArray) (f : File) : File := if sameN f.name a = true then { f with name := b } else f
noncomputable def renameF (fs : List File) (a b : ByteArray) : List File × Int :=
  if okF fs = false then ([], 9) else if ¬ (1 ≤ b.size ∧ b.size ≤ 20) then ([], 1) else match fileAt fs a with | none => ([], 7) | some _ => ((fs.filter (staysF a b)).map (nameF a b), 0)
theorem renameF_bad {l : List MFile} {a b : ByteArray} (h : okB l = false) : renameF (files l) a b = ([], 9) := by unfold renameF; rw [if_pos (by rw [← okB_f]; exact h)]
theorem renameF_size {l : List MFile} {a b : ByteArray} (h : okB l = true) (hb : ¬ (1 ≤ b.size ∧ b.size ≤ 20)) : renameF (files l) a b = ([], 1) := by
  unfold renameF; rw [if_neg (by rw [← okB_f, h]; simp), if_pos hb]
theorem renameF_none {l : List MFile} {a b : ByteArray} (h : okB l = true) (hb : 1 ≤ b.size ∧ b.size ≤ 20) (hk : l.findIdx? (named a) = none) : renameF (files l) a b = ([], 7) := by
  unfold renameF; rw [if_neg (by rw [← okB_f, h]; simp), if_neg (fun h => h hb), fileAt_m, hk]
theorem renameF_some {l : List MFile} {a b : ByteArray} {k : Nat} (h : okB l = true) (hb : 1 ≤ b.size ∧ b.size ≤ 20) (hk : l.findIdx? (named a) = some k) : renameF (files l) a b = (((files l).filter (staysF a b)).map (nameF a b), 0) := by
  unfold renameF; rw [if_neg (by rw [← okB_f, h]; simp), if_neg (fun h => h hb), fileAt_m, hk]
theorem renameF_len (fs : List File) (a b : ByteArray) : (renameF fs a b).1.length ≤ fs.length := by
  unfold renameF; split
  · simp
  · split
    · simp
    · split
      · simp
      · rw [List.length_map]; exact List.length_filter_le _ _
/-- The same name: nothing happens. -/
theorem rename_same (fs : List File) (a b : ByteArray) (h : sameN a b = true) : (fs.filter (staysF a b)).map (nameF a b) = fs := by
  have e1 : fs.filter (staysF a b) = fs := by rw [List.filter_eq_self]; intro f _; simp [staysF, h]
  rw [e1]
  conv => rhs; rw [← List.map_id fs]
  refine List.map_congr_left fun f _ => ?_
  unfold nameF
  split
  · next hf => rw [sameN_iff] at hf h; rw [← h, ← hf]; rfl
  · rfl
/-- Another name: the file that has it goes, and one file gets it. -/
theorem rename_other {l : List MFile} {a b : ByteArray} (h : sameN a b = false) (hok : okB l = true) {j : Nat} {x : MFile} (hj : (l.filter (keeps b)).findIdx? (named a) = some j) (hx : (l.filter (keeps b))[j]? = some x) :
    files ((l.filter (keeps b)).set j ⟨x.A, x.c, { x.f with name := b }⟩) = ((files l).filter (staysF a b)).map (nameF a b) := by
  have e1 : (files l).filter (staysF a b) = files (l.filter (keeps b)) := by
    rw [files_keeps]
    congr 1
    funext f
    show (!(sameN f.name b && !(sameN a b))) = (!(f.name.toList == b.toList))
    rw [h]
    simp [sameN]
  rw [e1, files_set]
  have h2 : diskOk (files l) := by unfold okB at hok; exact @of_decide_eq_true _ (_) hok
  have h3 : (l.filter (keeps b)).Pairwise fun x y => x.f.name ≠ y.f.name := (okTo_all.1 ((diskOk_m l).1 h2).2).2.sublist List.filter_sublist
  obtain ⟨y, hy, hn, hb⟩ := find_some hj
  rw [hx] at hy
  cases hy
  have hjl := (List.getElem?_eq_some_iff.1 hx).1
  apply List.ext_getElem?
  intro i
  by_cases e : i = j
  · subst e
    rw [List.getElem?_set_self (by rw [files_length]; exact hjl), List.getElem?_map]
    have : (files (l.filter (keeps b)))[i]? = some x.f := by unfold files; rw [List.getElem?_map, hx]; rfl
    rw [this]
    have hx2 : sameN x.f.name a = true := hn
    simp [nameF, hx2]
  · rw [List.getElem?_set_ne (fun h => e h.symm), List.getElem?_map]
    cases hz : (files (l.filter (keeps b)))[i]? with
    | none => rfl
    | some f =>
      simp only [Option.map_some]
      congr 1
      unfold nameF
      rw [if_neg]
      intro hf
      unfold files at hz
      rw [List.getElem?_map] at hz
      cases hw : (l.filter (keeps b))[i]? with
      | none => rw [hw] at hz; cases hz
      | some z =>
        rw [hw] at hz
        have hzf : z.f = f := by simpa using hz
        have en : z.f.name = x.f.name := by rw [hzf, sameN_iff.1 hf, (named_iff.1 hn)]
        obtain ⟨hil, hi⟩ := List.getElem?_eq_some_iff.1 hw
        obtain ⟨hjl2, hj2⟩ := List.getElem?_eq_some_iff.1 hx
        have hp := List.pairwise_iff_getElem.1 h3
        rcases Nat.lt_or_gt_of_ne e with hlt | hlt
        · exact hp i j hil hjl2 hlt (by rw [hi, hj2]; exact en)
        · exact hp j i hjl2 hil hlt (by rw [hi, hj2]; exact en.symm)
/-- The file is still there. -/
theorem rename_found {l : List MFile} {a b : ByteArray} (h : sameN a b = false) {k : Nat} (hk : l.findIdx? (named a) = some k) : ∃ j x, (l.filter (keeps b)).findIdx? (named a) = some j ∧ (l.filter (keeps b))[j]? = some x := by
  obtain ⟨x, hx, hn, _⟩ := find_some hk
  have hm : x ∈ l.filter (keeps b) := by
    rw [List.mem_filter]
    refine ⟨List.mem_of_getElem? hx, ?_⟩
    unfold keeps
    cases hb : named b x with
    | false => rfl
    | true => exfalso; exact (sameN_no.1 h) (by rw [← named_iff.1 hn, named_iff.1 hb])
  cases hj : (l.filter (keeps b)).findIdx? (named a) with
  | none => rw [List.findIdx?_eq_none_iff] at hj; exact absurd (hj x hm) (by rw [hn]; simp)
  | some j => obtain ⟨y, hy, _⟩ := find_some hj; exact ⟨j, y, rfl, hy⟩
end Go.Proofs.Ytphgdpjfolkafaa
