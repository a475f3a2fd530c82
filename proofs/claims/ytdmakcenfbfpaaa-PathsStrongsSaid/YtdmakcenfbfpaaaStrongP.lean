/- The least vertex that each one reaches and that reaches it. Plain. -/
import Derived.Test.YtdmakcenfbfpaaaReachP
import Derived.Test.YtdmakcenfbfpaaaHopP
import Derived.Test.YtdmakcenfbfpaaaERev
namespace Go.Proofs.Ytdmakcenfbfpaaa
set_option linter.unusedVariables false
set_option linter.unusedSimpArgs false
theorem rch_trans {l : List (Nat × Nat)} {a b c : Nat} (h1 : Rch l a b) (h2 : Rch l b c) : Rch l a c := by
  induction h2 with
  | refl => exact h1
  | step _ he ih => exact .step ih he
theorem rch_swap {l l' : List (Nat × Nat)} (h : ∀ a b, (a, b) ∈ l → (b, a) ∈ l') {v u : Nat} (hr : Rch l v u) : Rch l' u v := by
  induction hr with
  | refl => exact .refl
  | step _ he ih => exact rch_trans (.step .refl (h _ _ he)) ih
/-- Each reaches the other. -/
noncomputable def com (l : List (Nat × Nat)) (v u : Nat) : Bool := rchB l v u && rchB l u v
theorem com_iff {l : List (Nat × Nat)} {v u : Nat} : com l v u = true ↔ Rch l v u ∧ Rch l u v := by unfold com; rw [Bool.and_eq_true, rchB_iff, rchB_iff]
theorem com_refl (l : List (Nat × Nat)) (v : Nat) : com l v v = true := com_iff.2 ⟨.refl, .refl⟩
theorem com_symm {l : List (Nat × Nat)} {v u : Nat} (h : com l v u = true) : com l u v = true := com_iff.2 ((com_iff.1 h).symm)
theorem com_trans {l : List (Nat × Nat)} {a b c : Nat} (h1 : com l a b = true) (h2 : com l b c = true) : com l a c = true :=
  com_iff.2 ⟨rch_trans (com_iff.1 h1).1 (com_iff.1 h2).1, rch_trans (com_iff.1 h2).2 (com_iff.1 h1).2⟩
/-- The label that u has when the first k vertices are done. -/
noncomputable def lb (l : List (Nat × Nat)) (k u : Nat) : Int := match (List.range k).find? (com l u) with | some w => w | none => -1
theorem lb_none {l : List (Nat × Nat)} {k u : Nat} (h : ∀ w, w < k → com l u w = false) : lb l k u = -1 := by
  have : (List.range k).find? (com l u) = none := by
    rw [List.find?_eq_none]
    intro w hw
    rw [h w (List.mem_range.1 hw)]
    simp
  unfold lb; rw [this]
theorem lb_some {l : List (Nat × Nat)} {k u w : Nat} (hw : w < k) (h : com l u w = true) (hm : ∀ x, x < w → com l u x = false) : lb l k u = w := by
  have : (List.range k).find? (com l u) = some w := by
    rw [List.find?_eq_some_iff_append]
    refine ⟨h, List.range w, (List.range' (w + 1) (k - w - 1)), ?_, fun a ha => by simpa using hm a (List.mem_range.1 ha)⟩
    rw [List.range_eq_range', List.range_eq_range']
    have e : List.range' 0 k = List.range' 0 (w + (k - w)) := by congr 1; omega
    rw [e, ← List.range'_append_1, Nat.zero_add]
    congr 1
    have e2 : k - w = (k - w - 1) + 1 := by omega
    rw [e2, List.range'_succ]
    simp
  unfold lb; rw [this]
theorem first_of {p : Nat → Bool} {k : Nat} (h : ∃ w, w < k ∧ p w = true) : ∃ w, w < k ∧ p w = true ∧ ∀ x, x < w → p x = false := by
  induction k with
  | zero => obtain ⟨w, hw, _⟩ := h; omega
  | succ k ih =>
    by_cases h2 : ∃ w, w < k ∧ p w = true
    · obtain ⟨w, hw, hp, hm⟩ := ih h2
      exact ⟨w, by omega, hp, hm⟩
    · obtain ⟨w, hw, hp⟩ := h
      have hwk : w = k := by
        rcases Nat.lt_or_ge w k with h3 | h3
        · exact absurd ⟨w, h3, hp⟩ h2
        · omega
      refine ⟨w, hw, hp, fun x hx => ?_⟩
      cases hpx : p x with
      | false => rfl
      | true => exact absurd ⟨x, by omega, hpx⟩ h2
theorem lb_cases (l : List (Nat × Nat)) (k u : Nat) : (lb l k u = -1 ∧ ∀ w, w < k → com l u w = false) ∨ ∃ w, w < k ∧ com l u w = true ∧ (∀ x, x < w → com l u x = false) ∧ lb l k u = w := by
  by_cases h : ∃ w, w < k ∧ com l u w = true
  · obtain ⟨w, hw, hp, hm⟩ := first_of h
    exact .inr ⟨w, hw, hp, hm, lb_some hw hp hm⟩
  · refine .inl ?_
    have h2 : ∀ w, w < k → com l u w = false := fun w hw => by
      cases hc : com l u w with
      | false => rfl
      | true => exact absurd ⟨w, hw, hc⟩ h
    exact ⟨lb_none h2, h2⟩
theorem lb_zero (l : List (Nat × Nat)) (u : Nat) : lb l 0 u = -1 := lb_none fun w hw => by omega
/-- The vertex k is labelled: nothing changes. -/
theorem lb_done {l : List (Nat × Nat)} {k : Nat} (h : lb l k k ≠ -1) (u : Nat) : lb l (k + 1) u = lb l k u := by
  obtain ⟨w, hw, hc, hm, _⟩ := (lb_cases l k k).resolve_left (fun h2 => h h2.1)
  rcases lb_cases l k u with ⟨h1, h2⟩ | ⟨x, hx, hcx, hmx, h1⟩
  · rw [h1]
    refine lb_none fun y hy => ?_
    rcases Nat.lt_or_ge y k with h3 | h3
    · exact h2 y h3
    · obtain rfl : y = k := by omega
      cases hcu : com l u y with
      | false => rfl
      | true => have := h2 w hw; rw [com_trans hcu hc] at this; cases this
  · rw [h1]; exact lb_some (by omega) hcx hmx
/-- It is not: it labels those with which it shares the way there and back. -/
theorem lb_yes {l : List (Nat × Nat)} {k u : Nat} (h : lb l k k = -1) (hc : com l k u = true) : lb l (k + 1) u = k := by
  have h2 : ∀ w, w < k → com l k w = false := by
    rcases lb_cases l k k with ⟨_, h2⟩ | ⟨w, hw, _, _, h1⟩
    · exact h2
    · rw [h1] at h; omega
  refine lb_some (Nat.lt_succ_self k) (com_symm hc) fun x hx => ?_
  cases hcx : com l u x with
  | false => rfl
  | true => have := h2 x hx; rw [com_trans hc hcx] at this; cases this
theorem lb_no {l : List (Nat × Nat)} {k u : Nat} (hc : com l k u = false) : lb l (k + 1) u = lb l k u := by
  rcases lb_cases l k u with ⟨h1, h2⟩ | ⟨x, hx, hcx, hmx, h1⟩
  · rw [h1]
    refine lb_none fun y hy => ?_
    rcases Nat.lt_or_ge y k with h3 | h3
    · exact h2 y h3
    · obtain rfl : y = k := by omega
      cases hcu : com l u y with
      | false => rfl
      | true => rw [com_symm hcu] at hc; cases hc
  · rw [h1]; exact lb_some (by omega) hcx hmx
/-- The least that shares the way there and back: what the document's loop finds. -/
theorem lb_at {l : List (Nat × Nat)} {n v u : Nat} (hu : u < n) (hm : ∀ x, x < u → com l v x = false) (hc : com l v u = true) : lb l n v = u := lb_some hu hc hm
noncomputable def strongV (g : Graph) : List Int × Int := if graphV g = 0 then (fl g.n.toNat (lb (prs g.edges) g.n.toNat), 0) else ([], graphV g)
theorem strongV_bad {g : Graph} (h : graphV g ≠ 0) : strongV g = ([], graphV g) := by unfold strongV; rw [if_neg h]
theorem strongV_ok {g : Graph} (h : graphV g = 0) {n : Nat} (hn : g.n = (n : Int)) : strongV g = (fl n (lb (prs g.edges) n), 0) := by unfold strongV; rw [if_pos h, hn]; rfl
theorem strongV_len (g : Graph) : (strongV g).1.length ≤ 200 := by
  unfold strongV
  split
  · rename_i h
    have := (graphV_ok.1 h).1.2.1
    rw [fl_len]; omega
  · simp
theorem prs_mem {n : Nat} {l : List Edge} (hE : NatEdges n l) {a b : Nat} : (a, b) ∈ prs l ↔ ∃ e ∈ l, e.src = (a : Int) ∧ e.dst = (b : Int) := by
  unfold prs
  rw [List.mem_map]
  constructor
  · rintro ⟨e, he, h⟩
    obtain ⟨i, hi⟩ := List.mem_iff_getElem?.1 he
    obtain ⟨x, y, h1, h2, _, _⟩ := hE i e hi
    injection h with h3 h4
    exact ⟨e, he, by omega, by omega⟩
  · rintro ⟨e, he, h1, h2⟩
    exact ⟨e, he, by rw [h1, h2]; rfl⟩
/-- Along the edges that are turned round. -/
theorem rch_back {n : Nat} {l l' : List Edge} (hE : NatEdges n l) (hE' : NatEdges n l') (hp : ∀ e, e ∈ l' ↔ ∃ x ∈ l, e = revE x) (v u : Nat) : rchB (prs l') v u = rchB (prs l) u v := by
  rw [Bool.eq_iff_iff, rchB_iff, rchB_iff]
  constructor
  · refine fun h => rch_swap (fun a b hab => ?_) h
    obtain ⟨e, he, h1, h2⟩ := (prs_mem hE').1 hab
    obtain ⟨x, hx, rfl⟩ := (hp e).1 he
    exact (prs_mem hE).2 ⟨x, hx, h2, h1⟩
  · refine fun h => rch_swap (fun a b hab => ?_) h
    obtain ⟨e, he, h1, h2⟩ := (prs_mem hE).1 hab
    exact (prs_mem hE').2 ⟨revE e, (hp _).2 ⟨e, he, rfl⟩, h2, h1⟩
end Go.Proofs.Ytdmakcenfbfpaaa
