/- What a round does: plain. -/
import Derived.Test.YteefemiieidpaaaRndQ
import Derived.Test.YteefemiieidpaaaWakeP
import Derived.Test.YteefemiieidpaaaSortI
import Derived.Test.YteefemiieidpaaaBegin
namespace Go.Proofs.Yteefemiieidpaaa
open Go.RowKit Go.ChangeShapes Go.WideShapes Go.ChangeAt
set_option linter.unusedVariables false
set_option linter.unusedSimpArgs false
/-- A vertex's next value, and whether it says so. -/
noncomputable def wakeAt (j : Job) (s : State) (v : Nat) : Val × Bool := match s.vals[v]?, s.mail[v]? with
  | some x, some r => if s.fresh = true ∨ 0 < r.l.length then ((wakeV j.kind v j.source x s.phase s.fresh r.l).1, (wakeV j.kind v j.source x s.phase s.fresh r.l).2.1) else (x, false)
  | _, _ => (none2, false)
noncomputable def newVals (j : Job) (s : State) (n : Nat) : List Val := (List.range n).map fun v => (wakeAt j s v).1
noncomputable def sayOf (j : Job) (s : State) (v : Nat) : List (Int × Int × Int) :=
  if (wakeAt j s v).2 = true then j.graph.edges.flatMap (edgeSays (waysV j.kind s.phase).1 (waysV j.kind s.phase).2.1 j.kind s.phase v (wakeAt j s v).1) else []
noncomputable def fullSays (j : Job) (s : State) (n : Nat) : List (Int × Int × Int) := (List.range n).flatMap (sayOf j s)
/-- What the program's Next makes of a state that is not done. -/
noncomputable def madeP (j : Job) (s : State) (n : Nat) : State × Int :=
  if (pushAll (0, List.replicate n []) (fullSays j s n)).1 ≠ 0 then (zeroS, (pushAll (0, List.replicate n []) (fullSays j s n)).1) else
  let q := if (pushAll (0, List.replicate n []) (fullSays j s n)).2.all (fun l => l.length == 0) = true then quietV j.kind s.phase (newVals j s n) else (s.phase, false, false)
  (⟨s.step + 1, q.1, q.2.1, q.2.2, newVals j s n, (pushAll (0, List.replicate n []) (fullSays j s n)).2.map fun l => ⟨none, 0, srtI l⟩⟩, 0)
noncomputable def nextP (j : Job) (s : State) : State × Int :=
  if jobV j ≠ 0 then (zeroS, jobV j) else if stB j s = false then (zeroS, 9) else if s.done = true then (s, 0) else if s.step = 100000 then (zeroS, 10) else madeP j s s.vals.length
theorem topS_topV (k : Int) : topS k = topV k := rfl
theorem vB_okR {k : Int} {x : Val} (h : valOk k x) : vB k x = true := by obtain ⟨⟨h1, h2⟩, h3, h4⟩ := h; exact vB_yes h1 h2 h3 h4
theorem lowF_ok (t : Int) : ∀ (l : List Int), (∀ y ∈ l, 0 ≤ y ∧ y ≤ t) → ∀ s : Int × Bool, (-1 ≤ s.1 ∧ s.1 ≤ t) → (s.2 = true → 0 ≤ s.1) → (-1 ≤ (l.foldl lowS s).1 ∧ (l.foldl lowS s).1 ≤ t) ∧ ((l.foldl lowS s).2 = true → 0 ≤ (l.foldl lowS s).1)
  | [], _, s, h1, h2 => ⟨h1, h2⟩
  | y :: l, hl, s, h1, h2 => by
    have hy := hl y (List.mem_cons_self ..)
    refine lowF_ok t l (fun z hz => hl z (List.mem_cons_of_mem _ hz)) (lowS s y) ?_ ?_
    · unfold lowS; split
      · exact ⟨by show -1 ≤ y; omega, hy.2⟩
      · exact h1
    · unfold lowS; split
      · intro _; exact hy.1
      · exact h2
theorem lowV_ok {k : Int} {x : Val} {l : List Int} (hx : valOk k x) (hl : ∀ y ∈ l, 0 ≤ y ∧ y ≤ topV k) : valOk k (lowV x l).1 ∧ ((lowV x l).2 = true → 0 ≤ (lowV x l).1.a) := by
  have h := lowF_ok (topV k) l hl (x.a, false) hx.1 (by simp)
  exact ⟨⟨h.1, hx.2⟩, h.2⟩
theorem kindWV_ok {k v src p : Int} {x : Val} {fresh : Bool} {l : List Int} (hk : 1 ≤ k ∧ k ≤ 3) (hv : 0 ≤ v ∧ v ≤ 199) (hx : valOk k x) (hl : ∀ y ∈ l, 0 ≤ y ∧ y ≤ topV k) : valOk k (kindWV k v src x p fresh l).1 ∧ ((kindWV k v src x p fresh l).2 = true → 0 ≤ (kindWV k v src x p fresh l).1.a) := by
  have hlow := lowV_ok hx hl
  have ht : topV k = if k = 1 then 4398046511104 else 199 := rfl
  have h199 : 199 ≤ topV k := by rw [ht]; split <;> omega
  have hweak : valOk k (weakWV v x fresh l).1 ∧ ((weakWV v x fresh l).2 = true → 0 ≤ (weakWV v x fresh l).1.a) := by
    unfold weakWV
    split
    · exact ⟨⟨⟨by show -1 ≤ v; omega, by show v ≤ _; omega⟩, by show (-1 : Int) ≤ -1; decide, by show (-1 : Int) ≤ 199; decide⟩, fun _ => hv.1⟩
    · exact hlow
  unfold kindWV
  split
  · unfold distWV
    split
    · split
      · exact ⟨⟨⟨by decide, by show (0 : Int) ≤ _; omega⟩, by decide, by show (-1 : Int) ≤ 199; decide⟩, fun _ => by decide⟩
      · exact ⟨⟨⟨by decide, by show (-1 : Int) ≤ _; omega⟩, by decide, by show (-1 : Int) ≤ 199; decide⟩, fun h => by cases h⟩
    · exact hlow
  · rename_i h1
    split
    · exact hweak
    · have h3 : topV k = 199 := by rw [ht, if_neg h1]
      unfold strongWV
      split
      · exact ⟨hx, fun h => by cases h⟩
      · split
        · exact hweak
        · split
          · split
            · rename_i he
              have ha := hx.1
              exact ⟨⟨ha, by show -1 ≤ x.a; omega, by show x.a ≤ 199; omega⟩, fun _ => by show 0 ≤ x.a; omega⟩
            · exact ⟨hx, fun h => by cases h⟩
          · split
            · rename_i hm
              have hm2 := hl _ hm
              exact ⟨⟨hx.1, by show -1 ≤ x.a; omega, by show x.a ≤ 199; omega⟩, fun _ => hm2.1⟩
            · exact ⟨hx, fun h => by cases h⟩
theorem kindB_okR {j : Job} {s : State} (hj : jobV j = 0) (h : stOk j s) : kindB j.kind s.phase = true := by
  have hk := jobV_kind hj
  have hp := h.2.1
  unfold kindB
  rw [inB_yes hk]
  rcases hp with hp | ⟨hp, h3⟩
  · simp [hp]
  · simp [hp, h3]
theorem rowOk_mem {k : Int} {l : List Int} (h : rowOk k l) : ∀ y ∈ l, 0 ≤ y ∧ y ≤ topV k := fun y hy => by
  obtain ⟨i, hi⟩ := List.mem_iff_getElem?.1 hy
  exact h.2 i y hi
theorem wakeV_fine {j : Job} {s : State} (hj : jobV j = 0) (h : stOk j s) {v : Nat} {x : Val} {r : ML Int} (hx : s.vals[v]? = some x) (hr : s.mail[v]? = some r) : wakeV j.kind v j.source x s.phase s.fresh r.l = ((kindWV j.kind v j.source x s.phase s.fresh r.l).1, (kindWV j.kind v j.source x s.phase s.fresh r.l).2, 0) := by
  have hn := jobV_n hj
  have hv := (List.getElem?_eq_some_iff.1 hx).1
  have hlen := h.2.2.1
  have hro := h.2.2.2.2.2.1 v r hr
  refine wakeV_ok (kindB_okR hj h) ?_
  rintro (h1 | h1 | h1 | h1)
  · omega
  · omega
  · rw [vB_okR (h.2.2.2.2.1 v x hx)] at h1; cases h1
  · obtain ⟨m, hm, h2⟩ := h1
    have h3 := rowOk_mem hro m hm
    have h4 : topS j.kind = topV j.kind := rfl
    omega
theorem wakeAt_ok {j : Job} {s : State} (hj : jobV j = 0) (h : stOk j s) (v : Nat) : valOk j.kind (wakeAt j s v).1 ∧ ((wakeAt j s v).2 = true → 0 ≤ (wakeAt j s v).1.a) := by
  have hk := jobV_kind hj
  have hn := jobV_n hj
  have ht : topV j.kind = if j.kind = 1 then 4398046511104 else 199 := rfl
  have h199 : 199 ≤ topV j.kind := by rw [ht]; split <;> omega
  have hz : valOk j.kind none2 ∧ ((false : Bool) = true → 0 ≤ none2.a) := ⟨⟨⟨by decide, by show (-1 : Int) ≤ _; omega⟩, by decide, by show (-1 : Int) ≤ 199; decide⟩, fun h => by cases h⟩
  unfold wakeAt
  split
  · rename_i x r hx hr
    have hv := (List.getElem?_eq_some_iff.1 hx).1
    have hlen := h.2.2.1
    split
    · rw [wakeV_fine hj h hx hr]
      exact kindWV_ok hk (by omega) (h.2.2.2.2.1 v x hx) (rowOk_mem (h.2.2.2.2.2.1 v r hr))
    · exact ⟨h.2.2.2.2.1 v x hx, fun h => by cases h⟩
  · exact hz
theorem valOk_wf {k : Int} {x : Val} (h : valOk k x) : x.wf := by
  obtain ⟨⟨h1, h2⟩, h3, h4⟩ := h
  have ht : topV k = if k = 1 then 4398046511104 else 199 := rfl
  have : topV k ≤ 4398046511104 := by rw [ht]; split <;> omega
  exact ⟨⟨by omega, by omega⟩, ⟨by omega, by omega⟩⟩
end Go.Proofs.Yteefemiieidpaaa
