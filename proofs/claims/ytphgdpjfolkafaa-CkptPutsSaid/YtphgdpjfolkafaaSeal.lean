/- ckpt.Seal, the document's Sealed. -/
import Derived.Test.YtphgdpjfolkafaaSlot
namespace Go.Proofs.Ytphgdpjfolkafaa
open Go.ChangeShapes Go.WideShapes Go.ChangeAt Go.RowKit
set_option linter.unusedVariables false
set_option linter.unusedSimpArgs false
noncomputable def sealF (fs : List File) (n : Int) : List File × Int :=
  if n < 0 ∨ 1 < n then ([], 2) else if (syncF fs nextB).2 ≠ 0 then ([], (syncF fs nextB).2) else renameF (syncF fs nextB).1 nextB (slotB n)
theorem sealF_out (fs : List File) {n : Int} (h : n < 0 ∨ 1 < n) : sealF fs n = ([], 2) := by unfold sealF; rw [if_pos h]
theorem sealF_bad (fs : List File) {n : Int} (h : ¬ (n < 0 ∨ 1 < n)) (he : (syncF fs nextB).2 ≠ 0) : sealF fs n = ([], (syncF fs nextB).2) := by unfold sealF; rw [if_neg h, if_pos he]
theorem sealF_ok (fs : List File) {n : Int} (h : ¬ (n < 0 ∨ 1 < n)) (he : ¬ (syncF fs nextB).2 ≠ 0) : sealF fs n = renameF (syncF fs nextB).1 nextB (slotB n) := by unfold sealF; rw [if_neg h, if_neg he]
theorem syncF_leng (fs : List File) (n : ByteArray) : (syncF fs n).1.length ≤ fs.length := by
  unfold syncF; split
  · simp
  · split
    · simp
    · split <;> simp
theorem sealF_len (fs : List File) (n : Int) : (sealF fs n).1.length ≤ fs.length := by
  unfold sealF; split
  · simp
  · split
    · simp
    · exact Nat.le_trans (renameF_len _ _ _) (syncF_leng _ _)
/-- Sizes stay. -/
def FitF (fs : List File) : Prop := ∀ f ∈ fs, f.data.length ≤ 140737488355328 ∧ f.name.size ≤ 140737488351232
theorem fitF_of {l : List MFile} (h : Okm l) : FitF (files l) := fun f hf => by
  obtain ⟨x, hx, rfl⟩ := List.mem_map.1 hf
  exact ⟨h.1 x hx, h.2 x hx⟩
theorem okm_fit {l : List MFile} (h : FitF (files l)) : Okm l := ⟨fun x hx => (h x.f (List.mem_map.2 ⟨x, hx, rfl⟩)).1, fun x hx => (h x.f (List.mem_map.2 ⟨x, hx, rfl⟩)).2⟩
theorem syncF_fit {fs : List File} (h : FitF fs) (n : ByteArray) : FitF (syncF fs n).1 := by
  have h0 : FitF [] := fun f hf => by cases hf
  unfold syncF
  split
  · exact h0
  · split
    · exact h0
    · split
      · next f hf =>
        intro g hg
        rcases List.mem_or_eq_of_mem_set hg with hg | rfl
        · exact h g hg
        · exact h f (List.mem_of_getElem? hf)
      · exact h0
/-- A row stays as it is where a block's first cell is stored that is none of its own. -/
theorem Rd.setFirst {w : World} {B b sz n : Nat} {A : Option Addr} {xs : List Value} {v0 : Value} (h : Rd w B A sz n xs) (hp : w.cell? ⟨b, 0, none⟩ = some v0) (hne : ∀ u, xs[0]? = some u → u ≠ v0) (v : Value) : Rd (w.setCell ⟨b, 0, none⟩ v) B A sz n xs :=
  ⟨h.1, fun hn => by
    obtain ⟨b', off, e, hb, hc⟩ := h.2 hn
    refine ⟨b', off, e, hb, fun j u hu => ?_⟩
    by_cases he : b' = b ∧ off + j = 0
    · obtain ⟨rfl, h0⟩ := he
      obtain ⟨rfl, rfl⟩ : off = 0 ∧ j = 0 := by omega
      have := hc 0 u hu
      rw [Nat.add_zero] at this
      rw [this] at hp
      injection hp with hp
      exact absurd hp (hne u hu)
    · exact (World.cell?_setCell_other (w := w) (a := ⟨b, 0, none⟩) (b := ⟨b', off + j, none⟩) (v := v) (by intro e2; injection e2 with e3 e4; exact he ⟨e3.symm, e4.symm⟩)).trans (hc j u hu)⟩
theorem Files.setFirst {w : World} {b : Nat} {A A0 : Option Addr} {n0 c0 : Nat} {l : List MFile} (h : Files w w.heap.size A l) (hp : w.cell? ⟨b, 0, none⟩ = some (.slice A0 n0 c0)) (v : Value) : Files (w.setCell ⟨b, 0, none⟩ v) (w.setCell ⟨b, 0, none⟩ v).heap.size A l := by
  have hs : (w.setCell ⟨b, 0, none⟩ v).heap.size = w.heap.size := by simp
  rw [hs]
  refine ⟨h.1.setFirst hp (fun u hu e => ?_) v, fun x hx p hp2 => ?_⟩
  · subst e
    cases l with
    | nil => simp at hu
    | cons a l => simp [MFile.cells] at hu
  · have h2 := h.2 x hx p hp2
    obtain rfl := List.mem_singleton.1 hp2
    refine Rd.setFirst h2 hp (fun u hu e => ?_) v
    subst e
    simp only at hu
    cases hd : x.f.data with
    | nil => rw [hd] at hu; simp at hu
    | cons a l => rw [hd] at hu; simp [u8c] at hu
theorem undrew {B : Nat} {w w' : World} (h : Below B w.drew w') : Below B w w' := ⟨h.os, h.tape, h.output, h.size, h.block⟩
end Go.Proofs.Ytphgdpjfolkafaa
