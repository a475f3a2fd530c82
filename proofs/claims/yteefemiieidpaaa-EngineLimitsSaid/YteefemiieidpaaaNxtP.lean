/- A round's answer hangs on what the mail holds alone; its size. -/
import Derived.Test.YteefemiieidpaaaFolP
import Derived.Test.YteefemiieidpaaaLAns
namespace Go.Proofs.Yteefemiieidpaaa
open Go.RowKit Go.ChangeShapes Go.WideShapes Go.ChangeAt
set_option linter.unusedVariables false
set_option linter.unusedSimpArgs false
theorem wakeAt_lists {j : Job} {s : State} {m : List (ML Int)} (h : lists m = lists s.mail) (v : Nat) : wakeAt j { s with mail := m } v = wakeAt j s v := by
  have h1 : (m[v]?).map (·.l) = (s.mail[v]?).map (·.l) := by
    have h2 := congrArg (fun l => l[v]?) h
    unfold lists at h2
    simpa [List.getElem?_map] using h2
  unfold wakeAt
  dsimp only
  cases hm : m[v]? with
  | none =>
    rw [hm] at h1
    cases hs : s.mail[v]? with
    | none => rfl
    | some x => rw [hs] at h1; cases h1
  | some x =>
    rw [hm] at h1
    cases hs : s.mail[v]? with
    | none => rw [hs] at h1; cases h1
    | some y =>
      rw [hs] at h1
      have h3 : x.l = y.l := by simpa using h1
      cases s.vals[v]? with
      | none => rfl
      | some z => dsimp only; rw [h3]
theorem madeP_lists {j : Job} {s : State} {m : List (ML Int)} (h : lists m = lists s.mail) (n : Nat) : madeP j { s with mail := m } n = madeP j s n := by
  have e1 : newVals j { s with mail := m } n = newVals j s n := by unfold newVals; congr 1; funext v; rw [wakeAt_lists h]
  have e2 : fullSays j { s with mail := m } n = fullSays j s n := by
    unfold fullSays
    congr 1
    funext v
    unfold sayOf
    rw [wakeAt_lists h]
  unfold madeP
  rw [e1, e2]
theorem nextP_lists {j : Job} {s : State} {m : List (ML Int)} (h : lists m = lists s.mail) : (nextP j { s with mail := m }).2 = (nextP j s).2 ∧ ∃ m', (nextP j { s with mail := m }).1 = { (nextP j s).1 with mail := m' } ∧ lists m' = lists (nextP j s).1.mail := by
  have e0 := stB_lists (j := j) h
  unfold nextP
  rw [e0]
  dsimp only
  by_cases h1 : jobV j ≠ 0
  · rw [if_pos h1, if_pos h1]; exact ⟨rfl, zeroS.mail, rfl, rfl⟩
  · rw [if_neg h1, if_neg h1]
    by_cases h2 : stB j s = false
    · rw [if_pos h2, if_pos h2]; exact ⟨rfl, zeroS.mail, rfl, rfl⟩
    · rw [if_neg h2, if_neg h2]
      by_cases h3 : s.done = true
      · rw [if_pos h3, if_pos h3]; exact ⟨rfl, m, rfl, h⟩
      · rw [if_neg h3, if_neg h3]
        by_cases h4 : s.step = 100000
        · rw [if_pos h4, if_pos h4]; exact ⟨rfl, zeroS.mail, rfl, rfl⟩
        · rw [if_neg h4, if_neg h4, madeP_lists h]; exact ⟨rfl, (madeP j s s.vals.length).1.mail, rfl, rfl⟩
theorem newVals_lenP (j : Job) (s : State) (n : Nat) : (newVals j s n).length = n := by unfold newVals; simp
/-- What a round that is not done makes. -/
theorem made_size {j : Job} {s : State} (hj : jobV j = 0) (h : stOk j s) : (madeP j s s.vals.length).1.vals.length ≤ 200 ∧ (madeP j s s.vals.length).1.mail.length ≤ 200 ∧ (∀ x ∈ (madeP j s s.vals.length).1.mail, x.l.length ≤ 1200) ∧ ((madeP j s s.vals.length).2 = 0 → (madeP j s s.vals.length).1.step = s.step + 1) := by
  have hgr : graphFits j.graph ∧ ∀ e ∈ j.graph.edges, edgeOk j.graph.n e := by
    unfold jobV at hj
    by_cases hg : graphV j.graph = 0
    · exact graphV_ok.1 hg
    · rw [if_pos hg] at hj; exact absurd hj hg
  have hn := jobV_n hj
  have hvl : (s.vals.length : Int) = j.graph.n := h.2.2.1
  have hel : j.graph.edges.length ≤ 600 := hgr.1.2.2
  by_cases hbad : ∃ e ∈ j.graph.edges, (waysV j.kind s.phase).1 = true ∧ (wakeAt j s e.src.toNat).2 = true ∧ (sayV j.kind (wakeAt j s e.src.toNat).1 s.phase e.wt).2 ≠ 0
  · obtain ⟨e, he, h1, h2, h3⟩ := hbad
    rw [madeP_err hj h hgr.2 he h1 h2 h3]
    exact ⟨by simp [zeroS], by simp [zeroS], fun x hx => by simp [zeroS] at hx, fun h4 => absurd h4 h3⟩
  · rw [madeP_doc hj h hgr.2 (fun e he h1 h2 => by
      by_cases h3 : (sayV j.kind (wakeAt j s e.src.toNat).1 s.phase e.wt).2 = 0
      · exact h3
      · exact absurd ⟨e, he, h1, h2, h3⟩ hbad)]
    refine ⟨by show (newVals j s s.vals.length).length ≤ 200; rw [newVals_lenP]; omega, by show ((docRows j s).map _).length ≤ 200; unfold docRows; simp; omega, fun x hx => ?_, fun _ => rfl⟩
    have hx2 : x ∈ (docRows j s).map fun l => (⟨none, 0, l⟩ : ML Int) := hx
    obtain ⟨l, hl, rfl⟩ := List.mem_map.1 hx2
    unfold docRows at hl
    obtain ⟨u, _, rfl⟩ := List.mem_map.1 hl
    have := docRow_len j s u j.graph.edges
    show (docRow j s u j.graph.edges).length ≤ 1200
    omega
theorem nextP_size {j : Job} {s : State} {B : Nat} (hB : 1200 ≤ B) (h1 : s.vals.length ≤ B) (h2 : s.mail.length ≤ B) (h3 : ∀ x ∈ s.mail, x.l.length ≤ B) : (nextP j s).1.vals.length ≤ B ∧ (nextP j s).1.mail.length ≤ B ∧ ∀ x ∈ (nextP j s).1.mail, x.l.length ≤ B := by
  have hz : zeroS.vals.length ≤ B ∧ zeroS.mail.length ≤ B ∧ ∀ x ∈ zeroS.mail, x.l.length ≤ B := ⟨by simp [zeroS], by simp [zeroS], fun x hx => by simp [zeroS] at hx⟩
  unfold nextP
  by_cases e1 : jobV j ≠ 0
  · rw [if_pos e1]; exact hz
  · rw [if_neg e1]
    by_cases e2 : stB j s = false
    · rw [if_pos e2]; exact hz
    · rw [if_neg e2]
      by_cases e3 : s.done = true
      · rw [if_pos e3]; exact ⟨h1, h2, h3⟩
      · rw [if_neg e3]
        by_cases e4 : s.step = 100000
        · rw [if_pos e4]; exact hz
        · rw [if_neg e4]
          obtain ⟨m1, m2, m3, _⟩ := made_size (j := j) (s := s) (by simpa using e1) (stB_ok (by simpa using e2))
          exact ⟨by omega, by omega, fun x hx => by have := m3 x hx; omega⟩
end Go.Proofs.Yteefemiieidpaaa
