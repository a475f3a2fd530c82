/- slices.Sort over numbers, of a row of the call's own. -/
import Derived.Test.YteefemiieidpaaaShelfI
import Derived.Test.YteefemiieidpaaaTag
import Derived.Sort.OwnSortedInts
namespace Go.Proofs.Yteefemiieidpaaa
open Go.ChangeShapes Go.WideShapes Go.ChangeAt Go.RowKit
set_option linter.unusedVariables false
set_option linter.unusedSimpArgs false
def srtI (l : List Int) : List Int := l.mergeSort fun x y => decide (x ≤ y)
theorem srtI_len (l : List Int) : (srtI l).length = l.length := List.length_mergeSort ..
theorem srtI_perm (l : List Int) : (srtI l).Perm l := List.mergeSort_perm _ _
theorem srtI_sorted (l : List Int) : (srtI l).Pairwise (· ≤ ·) := by
  have h := List.pairwise_mergeSort (le := fun x y : Int => decide (x ≤ y)) (fun a b c h1 h2 => by simp at *; omega) (fun a b => by simp; omega) l
  exact h.imp (fun h => by simpa using h)
theorem sortI_walk {w : World} {base n c : Nat} {A : Option Addr} {l : List Int} (h : w.ownsRow base 3 1 (.slice A n c) n (l.flatMap i64c)) (hl : l.length = n) (hn : n ≤ 140737488355328) :
    Calls Try.prog 23 #[.slice A n c] w fun e w' => e = .returned (.tuple #[]) ∧ w'.ownsRow base 3 1 (.slice A n c) n ((srtI l).flatMap i64c) ∧ w.grownBy w' (Value.slice A n c).ownBlock := by
  rcases h.2 with ⟨hv, h0⟩ | ⟨g, cap, cur, hv, hb, hg, hnc, hcm, hcs, htk⟩
  · subst h0
    injection hv with hA _ hc
    subst hA hc
    obtain rfl := List.length_eq_zero_iff.1 hl
    refine (Any.slices_Sort_int_none Try.sortInt none 0 w).mono ?_
    rintro e w' ⟨rfl, rfl⟩
    have e0 : srtI [] = [] := by unfold srtI; simp
    rw [e0]
    exact ⟨rfl, World.ownsRow_nil _ _ _ _, ⟨rfl, rfl, rfl, Nat.le_refl _, fun _ _ _ => rfl⟩⟩
  · injection hv with hA _ hc
    subst hA hc hl
    have ht : cur.toList.take l.length = l.map (Value.int .i64) := by rw [← flat_i64]; simpa using htk
    refine (Any.slices_Sort_int Try.sortInt g 0 c l w (holds_of_blockI hg ht) (Array.getElem?_eq_some_iff.1 hg).1 (by omega)).mono ?_
    rintro e w' ⟨rfl, m, os, rfl⟩
    refine ⟨rfl, ?_, grownBy_sortedI _⟩
    have h2 := ownsRow_sortedI (base := base) (n := m) (os := os) (ts := srtI l) (srtI_len l) hb hg hnc hcm hcs
    rw [flat_i64]; exact h2
end Go.Proofs.Yteefemiieidpaaa
