/- The hops of a vertex. Plain. -/
import Derived.Test.YtifpngjipkmdcaaReachP
import Derived.Test.YtifpngjipkmdcaaWeakW
namespace Go.Proofs.Ytifpngjipkmdcaa
set_option linter.unusedVariables false
set_option linter.unusedSimpArgs false
def hopsL (l : List Edge) (v : Nat) : List Hop := (l.filter fun e => e.src == (v : Int)).map fun e => ⟨e.dst, e.wt⟩
theorem hopsL_same {l : List Edge} {e : Edge} {v : Nat} (h : e.src = (v : Int)) : hopsL (l ++ [e]) v = hopsL l v ++ [⟨e.dst, e.wt⟩] := by
  unfold hopsL; rw [List.filter_append, List.map_append]; simp [h]
theorem hopsL_other {l : List Edge} {e : Edge} {v : Nat} (h : e.src ≠ (v : Int)) : hopsL (l ++ [e]) v = hopsL l v := by
  unfold hopsL; rw [List.filter_append, List.map_append]; simp [h]
theorem hopsL_len (l : List Edge) (v : Nat) : (hopsL l v).length ≤ l.length := by
  unfold hopsL; rw [List.length_map]; exact List.length_filter_le _ _
def NatEdges (n : Nat) (l : List Edge) : Prop := ∀ (k : Nat) (e : Edge), l[k]? = some e → ∃ a b : Nat, e.src = (a : Int) ∧ e.dst = (b : Int) ∧ a < n ∧ b < n
theorem hopsL_mem {n : Nat} {l : List Edge} (hE : NatEdges n l) (u b : Nat) : b ∈ (hopsL l u).map (fun h => h.to.toNat) ↔ (u, b) ∈ prs l := by
  unfold hopsL prs
  simp only [List.mem_map, List.mem_filter, beq_iff_eq, Prod.mk.injEq]
  constructor
  · rintro ⟨h, ⟨e, ⟨he, h1⟩, rfl⟩, rfl⟩
    exact ⟨e, he, by rw [h1]; simp, rfl⟩
  · rintro ⟨e, he, h1, h2⟩
    obtain ⟨k, hk⟩ := List.mem_iff_getElem?.1 he
    obtain ⟨x, y, hx, hy, _, _⟩ := hE k e hk
    refine ⟨⟨e.dst, e.wt⟩, ⟨e, ⟨he, ?_⟩, rfl⟩, h2⟩
    rw [hx] at h1 ⊢
    simp at h1
    rw [h1]
theorem hopsL_to {n : Nat} {l : List Edge} (hE : NatEdges n l) {u : Nat} {h : Hop} (hh : h ∈ hopsL l u) : ∃ b : Nat, h.to = (b : Int) ∧ b < n := by
  unfold hopsL at hh
  obtain ⟨e, he, rfl⟩ := List.mem_map.1 hh
  obtain ⟨k, hk⟩ := List.mem_iff_getElem?.1 (List.mem_filter.1 he).1
  obtain ⟨x, y, hx, hy, _, hb⟩ := hE k e hk
  exact ⟨y, hy, hb⟩
/-- The lists of hops of the first edges. -/
def HopsOf (l : List Edge) (n : Nat) (m : List (List Hop)) : Prop := m.length = n ∧ ∀ (v : Nat) (x : List Hop), m[v]? = some x → x = hopsL l v
theorem hopsOf_zero (n : Nat) : HopsOf [] n (List.replicate n []) := by
  refine ⟨by simp, fun v x h => ?_⟩
  have := List.mem_of_getElem? h
  rw [(List.mem_replicate.1 this).2]; rfl
theorem hopsOf_next {l : List Edge} {n a : Nat} {m : List (List Hop)} {x : List Hop} {e : Edge} (h : HopsOf l n m) (hx : m[a]? = some x) (ha : e.src = (a : Int)) : HopsOf (l ++ [e]) n (m.set a (x ++ [⟨e.dst, e.wt⟩])) := by
  refine ⟨by rw [List.length_set]; exact h.1, fun v y hy => ?_⟩
  have hi := (List.getElem?_eq_some_iff.1 hx).1
  rw [List.getElem?_set] at hy
  by_cases e2 : a = v
  · subst e2
    rw [if_pos rfl, if_pos hi] at hy
    injection hy with hy
    rw [← hy, hopsL_same ha, h.2 a x hx]
  · rw [if_neg e2] at hy
    rw [hopsL_other (by rw [ha]; intro h2; exact e2 (by omega))]
    exact h.2 v y hy
end Go.Proofs.Ytifpngjipkmdcaa
