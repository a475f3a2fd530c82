/- What store.Build answers. Plain. -/
import Derived.Test.YtifpngjipkmdcaaStoH
import Derived.Test.YtifpngjipkmdcaaEHop
import Derived.Test.YtifpngjipkmdcaaMine
namespace Go.Proofs.Ytifpngjipkmdcaa
set_option linter.unusedVariables false
set_option linter.unusedSimpArgs false
theorem gapsV_byte (l : List Int) : ∀ x ∈ (gapsV l).1, 0 ≤ x ∧ x ≤ 255 := by
  unfold gapsV
  split
  · simp
  · rename_i h2
    split
    · rename_i hp
      split
      · rename_i hs
        dsimp only
        intro x hx
        unfold gapB at hx
        rcases List.mem_append.1 hx with hx | hx
        · exact pack_byte _ (by omega) (by omega) x hx
        · obtain ⟨i, hi, hx⟩ := List.mem_flatMap.1 hx
          have hil := List.mem_range.1 hi
          have h0 := hs i hil
          have h1 := hp i (l.getD i 0) (by rw [List.getD_eq_getElem?_getD, List.getElem?_eq_getElem hil]; rfl)
          have h3 : 0 ≤ lastv l i := by
            unfold lastv
            rcases i with _ | j
            · simp
            · have h4 := hp j (l.getD j 0) (by rw [List.getD_eq_getElem?_getD, List.getElem?_eq_getElem (by omega)]; rfl)
              simpa using h4.1
          refine pack_byte _ h0 ?_ x hx
          unfold gapAt; omega
      · simp
    · simp
theorem hopB_byte {hs : List Hop} (h : ∀ x ∈ hs, 0 ≤ x.wt ∧ x.wt ≤ 9223372036854775807) : ∀ x ∈ hopB hs, 0 ≤ x ∧ x ≤ 255 := fun x hx => by
  rcases List.mem_append.1 hx with hx | hx
  · exact gapsV_byte _ x hx
  · refine packs_byte (fun n hn => ?_) x hx
    obtain ⟨y, hy, rfl⟩ := List.mem_map.1 hn
    exact h y hy
theorem hopsS_wt {l : List Edge} (h : ∀ e ∈ l, 0 ≤ e.wt ∧ e.wt ≤ 1099511627776) (v : Int) : ∀ x ∈ hopsS l v, 0 ≤ x.wt ∧ x.wt ≤ 9223372036854775807 := fun x hx => by
  unfold hopsS hopsT at hx
  obtain ⟨e, he, rfl⟩ := List.mem_map.1 hx
  have := h e ((srtOf_perm l).mem_iff.1 (List.mem_of_mem_take (List.mem_filter.1 he).1))
  show 0 ≤ e.wt ∧ e.wt ≤ _
  omega
theorem graph_wt {g : Graph} (h : graphV g = 0) : ∀ e ∈ g.edges, 0 ≤ e.wt ∧ e.wt ≤ 1099511627776 := fun e he => by
  obtain ⟨_, hE⟩ := graphV_ok.1 h
  obtain ⟨_, _, h5, h6⟩ := hE e he
  exact ⟨h5, by simpa using h6⟩
/-- The reversed graph. -/
noncomputable def revG (g : Graph) : Graph := ⟨g.n, srtOf elt (g.edges.map revE)⟩
theorem graphV_revG {g : Graph} (h : graphV g = 0) : graphV (revG g) = 0 := by
  obtain ⟨h1, h2⟩ := graphV_ok.1 (graphV_rev h)
  refine graphV_ok.2 ⟨⟨h1.1, h1.2.1, ?_⟩, fun e he => h2 e ((srtOf_perm _).mem_iff.1 he)⟩
  have := h1.2.2
  show (srtOf elt (g.edges.map revE)).length ≤ 600
  rw [srtOf_len]; exact this
noncomputable def hopsB2 (g : Graph) (v : Int) : List Int := hopB (hopsS g.edges v) ++ hopB (hopsS (revG g).edges v)
noncomputable def inkV (g : Graph) (a k : Int) (vs : List Int) : List Int := packs [a, k, g.n] ++ vs.flatMap (hopsB2 g)
noncomputable def builtV (g : Graph) (a k : Int) : List Int × Int := if graphV g ≠ 0 then ([], graphV g) else if (mineV a g.n k).2 ≠ 0 then ([], (mineV a g.n k).2) else wrapV (inkV g a k (mineV a g.n k).1)
theorem builtV_bad {g : Graph} {a k : Int} (h : graphV g ≠ 0) : builtV g a k = ([], graphV g) := by unfold builtV; rw [if_pos h]
theorem builtV_not {g : Graph} {a k : Int} (h : graphV g = 0) (h2 : (mineV a g.n k).2 ≠ 0) : builtV g a k = ([], (mineV a g.n k).2) := by unfold builtV; rw [if_neg (by simpa using h), if_pos h2]
theorem builtV_ok {g : Graph} {a k : Int} (h : graphV g = 0) (h2 : (mineV a g.n k).2 = 0) : builtV g a k = wrapV (inkV g a k (mineV a g.n k).1) := by unfold builtV; rw [if_neg (by simpa using h), if_neg (by simpa using h2)]
theorem hopsB2_len {g : Graph} (h : graphV g = 0) (v : Int) : (hopsB2 g v).length ≤ 60000 := by
  have h1 := hopB_len (hopsS g.edges v)
  have h2 := hopB_len (hopsS (revG g).edges v)
  have h3 := hopsS_len g.edges v
  have h4 := hopsS_len (revG g).edges v
  have h5 := (graphV_ok.1 h).1.2.2
  have h6 := (graphV_ok.1 (graphV_revG h)).1.2.2
  unfold hopsB2; rw [List.length_append]; omega
theorem flatMap_le {α β : Type} (f : α → List β) (n : Nat) (h : ∀ x, (f x).length ≤ n) (l : List α) : (l.flatMap f).length ≤ l.length * n := by
  induction l with
  | nil => simp
  | cons a l ih => rw [List.flatMap_cons, List.length_append, List.length_cons, Nat.add_mul, Nat.one_mul]; have := h a; omega
theorem inkV_len {g : Graph} (h : graphV g = 0) (a k : Int) (vs : List Int) : (inkV g a k vs).length ≤ 30 + vs.length * 60000 := by
  have h1 := packs_len [a, k, g.n]
  have h2 := flatMap_le (hopsB2 g) 60000 (hopsB2_len h) vs
  unfold inkV; rw [List.length_append]; simp only [List.length_cons, List.length_nil] at h1; omega
theorem inkV_snoc (g : Graph) (a k : Int) (vs : List Int) (v : Int) : inkV g a k (vs ++ [v]) = inkV g a k vs ++ hopsB2 g v := by
  unfold inkV; rw [List.flatMap_append, List.append_assoc]; simp
theorem inkV_byte {g : Graph} {a k : Int} (h : graphV g = 0) (ha : 0 ≤ a ∧ a ≤ 1000) (hk : 0 ≤ k ∧ k ≤ 1000) (vs : List Int) : ∀ x ∈ inkV g a k vs, 0 ≤ x ∧ x ≤ 255 := fun x hx => by
  have hn := (graphV_ok.1 h).1
  rcases List.mem_append.1 hx with hx | hx
  · refine packs_byte (fun n hn' => ?_) x hx
    simp only [List.mem_cons, List.not_mem_nil, or_false] at hn'
    rcases hn' with rfl | rfl | rfl
    · omega
    · omega
    · have := hn.1; have := hn.2.1; omega
  · obtain ⟨v, _, hx⟩ := List.mem_flatMap.1 hx
    rcases List.mem_append.1 hx with hx | hx
    · exact hopB_byte (hopsS_wt (graph_wt h) v) x hx
    · exact hopB_byte (hopsS_wt (graph_wt (graphV_revG h)) v) x hx
theorem mineV_in {a n k : Int} (h : (mineV a n k).2 = 0) : (0 ≤ a ∧ a < k ∧ k ≤ 8 ∧ 0 ≤ n ∧ n ≤ 200) ∧ ∀ v ∈ (mineV a n k).1, 0 ≤ v ∧ v < n := by
  unfold mineV at h ⊢
  split at h
  · rename_i h1
    rw [if_pos h1]
    split at h
    · rename_i h2
      rw [if_pos h2]
      refine ⟨by omega, fun v hv => ?_⟩
      unfold mineP at hv
      obtain ⟨u, hu, rfl⟩ := List.mem_map.1 hv
      have := List.mem_range.1 (List.mem_filter.1 hu).1
      show 0 ≤ (u : Int) ∧ (u : Int) < n
      omega
    · simp at h
  · simp at h
end Go.Proofs.Ytifpngjipkmdcaa
