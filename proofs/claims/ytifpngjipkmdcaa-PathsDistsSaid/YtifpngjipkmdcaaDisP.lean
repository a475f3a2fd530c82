/- Distances: edges with their weights, what is settled. Plain. -/
import Derived.Test.YtifpngjipkmdcaaDistP
import Derived.Test.YtifpngjipkmdcaaHopP
import Derived.Test.YtifpngjipkmdcaaReachW
namespace Go.Proofs.Ytifpngjipkmdcaa
set_option linter.unusedVariables false
set_option linter.unusedSimpArgs false
def triE (l : List Edge) : List (Nat × Nat × Nat) := l.map fun e => (e.src.toNat, e.dst.toNat, e.wt.toNat)
def hsp (d : Nat) (h : Hop) : Nat × Nat := (h.to.toNat, d + h.wt.toNat)
/-- Edges below n, of weights that may be. -/
def WtEdges (n : Nat) (l : List Edge) : Prop := ∀ e ∈ l, ∃ a b w : Nat, e = ⟨(a : Int), (b : Int), (w : Int)⟩ ∧ a < n ∧ b < n ∧ w ≤ 1099511627776
theorem wt_edges {g : Graph} {n : Nat} (h : graphV g = 0) (hn : g.n = (n : Int)) : WtEdges n g.edges := fun e he => by
  obtain ⟨_, hE⟩ := graphV_ok.1 h
  obtain ⟨⟨h1, h2⟩, ⟨h3, h4⟩, h5, h6⟩ := hE e he
  rw [hn] at h2 h4
  obtain ⟨s, d, w⟩ := e
  simp only at h1 h2 h3 h4 h5 h6
  obtain ⟨a, rfl⟩ := Int.eq_ofNat_of_zero_le h1
  obtain ⟨b, rfl⟩ := Int.eq_ofNat_of_zero_le h3
  obtain ⟨c, rfl⟩ := Int.eq_ofNat_of_zero_le h5
  exact ⟨a, b, c, rfl, by omega, by omega, by omega⟩
theorem triE_lt {n : Nat} {l : List Edge} (h : WtEdges n l) : ∀ e ∈ triE l, e.1 < n ∧ e.2.1 < n := fun e he => by
  obtain ⟨x, hx, rfl⟩ := List.mem_map.1 he
  obtain ⟨a, b, w, rfl, h1, h2, _⟩ := h x hx
  exact ⟨by simpa using h1, by simpa using h2⟩
theorem hop_in {n : Nat} {l : List Edge} (h : WtEdges n l) {v : Nat} {x : Hop} (hx : x ∈ hopsL l v) : ∃ b w : Nat, x = ⟨(b : Int), (w : Int)⟩ ∧ b < n ∧ w ≤ 1099511627776 := by
  unfold hopsL at hx
  obtain ⟨e, he, rfl⟩ := List.mem_map.1 hx
  obtain ⟨a, b, w, rfl, _, h2, h3⟩ := h e (List.mem_filter.1 he).1
  exact ⟨b, w, rfl, h2, h3⟩
theorem hops_triE {n : Nat} {l : List Edge} (h : WtEdges n l) (v d : Nat) (x : Nat × Nat) : x ∈ (hopsL l v).map (hsp d) ↔ ∃ b w, (v, b, w) ∈ triE l ∧ x = (b, d + w) := by
  constructor
  · intro hx
    obtain ⟨y, hy, rfl⟩ := List.mem_map.1 hx
    unfold hopsL at hy
    obtain ⟨e, he, rfl⟩ := List.mem_map.1 hy
    obtain ⟨he1, he2⟩ := List.mem_filter.1 he
    refine ⟨e.dst.toNat, e.wt.toNat, List.mem_map.2 ⟨e, he1, ?_⟩, rfl⟩
    have : e.src = (v : Int) := by simpa using he2
    rw [this]; rfl
  · rintro ⟨b, w, h1, rfl⟩
    obtain ⟨e, he, h2⟩ := List.mem_map.1 h1
    obtain ⟨a, b', w', rfl, _, _, _⟩ := h e he
    simp only [Int.toNat_natCast, Prod.mk.injEq] at h2
    obtain ⟨rfl, rfl, rfl⟩ := h2
    exact List.mem_map.2 ⟨⟨(b' : Int), (w' : Int)⟩, List.mem_map.2 ⟨_, List.mem_filter.2 ⟨he, by simp⟩, rfl⟩, by simp [hsp]⟩
/-- How many are settled. -/
def settled (n : Nat) (f : Nat → Int) : Nat := ((List.range n).filter fun v => decide (f v ≠ -1)).length
theorem settled_le (n : Nat) (f : Nat → Int) : settled n f ≤ n := by
  unfold settled; exact Nat.le_trans (List.length_filter_le _ _) (by simp)
theorem settled_zero (n : Nat) : settled n (fun _ => -1) = 0 := by unfold settled; simp
theorem settled_upd {n v : Nat} {f : Nat → Int} {d : Int} (hv : v < n) (hf : f v = -1) (hd : d ≠ -1) : settled n (upd f v d) = settled n f + 1 := by
  unfold settled
  induction n with
  | zero => omega
  | succ n ih =>
    rw [List.range_succ, List.filter_append, List.filter_append, List.length_append, List.length_append]
    by_cases e : v = n
    · subst e
      have h1 : (List.range v).filter (fun u => decide (upd f v d u ≠ -1)) = (List.range v).filter (fun u => decide (f u ≠ -1)) := by
        apply List.filter_congr
        intro u hu
        have : u ≠ v := by have := List.mem_range.1 hu; omega
        simp [upd, this]
      rw [h1]
      simp [upd, hf, hd]
    · have := ih (by omega)
      have h2 : upd f v d n = f n := by unfold upd; rw [if_neg (fun h => e h.symm)]
      simp only [List.filter_cons, List.filter_nil, h2]
      omega
noncomputable def distV (g : Graph) (s : Int) : List Int × Int := if graphV g ≠ 0 then ([], graphV g) else if 0 ≤ s ∧ s < g.n then (fl g.n.toNat (distI (triE g.edges) s.toNat), 0) else ([], 2)
theorem distV_bad {g : Graph} {s : Int} (h : graphV g ≠ 0) : distV g s = ([], graphV g) := by unfold distV; rw [if_pos h]
theorem distV_out {g : Graph} {s : Int} (h : graphV g = 0) (hv : ¬ (0 ≤ s ∧ s < g.n)) : distV g s = ([], 2) := by unfold distV; rw [if_neg (by simpa using h), if_neg hv]
theorem distV_ok {g : Graph} {s n : Nat} (h : graphV g = 0) (hn : g.n = (n : Int)) (hv : s < n) : distV g (s : Int) = (fl n (distI (triE g.edges) s), 0) := by
  unfold distV; rw [if_neg (by simpa using h), if_pos (by rw [hn]; omega), hn]; simp
theorem distV_len (g : Graph) (s : Int) : (distV g s).1.length ≤ 200 := by
  unfold distV
  split
  · simp
  · rename_i h
    split
    · have := (graphV_ok.1 (by simpa using h)).1.2.1
      rw [fl_len]; omega
    · simp
end Go.Proofs.Ytifpngjipkmdcaa
