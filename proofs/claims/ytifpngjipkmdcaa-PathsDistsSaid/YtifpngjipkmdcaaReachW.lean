/- paths.Reach, the document's ReachOf; the law. -/
import Derived.Test.YtifpngjipkmdcaaSeekW
import Derived.Test.YtifpngjipkmdcaaSameB
import Derived.Test.YtifpngjipkmdcaaGraphRef
namespace Go.Proofs.Ytifpngjipkmdcaa
open Go.ChangeShapes Go.WideShapes Go.ChangeAt Go.RowKit
set_option linter.unusedVariables false
set_option linter.unusedSimpArgs false
noncomputable def reachV (g : Graph) (v : Int) : List Bool × Int := if graphV g ≠ 0 then ([], graphV g) else if 0 ≤ v ∧ v < g.n then (fb g.n.toNat (rchB (prs g.edges) v.toNat), 0) else ([], 2)
theorem reachV_bad {g : Graph} {v : Int} (h : graphV g ≠ 0) : reachV g v = ([], graphV g) := by unfold reachV; rw [if_pos h]
theorem reachV_out {g : Graph} {v : Int} (h : graphV g = 0) (hv : ¬ (0 ≤ v ∧ v < g.n)) : reachV g v = ([], 2) := by unfold reachV; rw [if_neg (by simpa using h), if_neg hv]
theorem reachV_ok {g : Graph} {v : Int} (h : graphV g = 0) (hv : 0 ≤ v ∧ v < g.n) : reachV g v = (fb g.n.toNat (rchB (prs g.edges) v.toNat), 0) := by unfold reachV; rw [if_neg (by simpa using h), if_pos hv]
theorem reachV_len (g : Graph) (v : Int) : (reachV g v).1.length ≤ 200 := by
  unfold reachV
  split
  · simp
  · rename_i h
    split
    · have := (graphV_ok.1 (by simpa using h)).1.2.1
      rw [fb_len]; omega
    · simp
abbrev RetB (w : World) (l : List Bool) (err : Int) : Ending → World → Prop := RetL 4 1 w l.length (l.map Value.bool) err
theorem retB_none (w w' : World) (err : Int) (b : Below w.heap.size w w') : RetB w [] err (.returned (.tuple #[.slice none 0 0, .int .i64 err])) w' := ⟨none, 0, rfl, World.ownsRow_nil _ _ _ _, b⟩
theorem graph_edges {g : Graph} {n : Nat} (h : graphV g = 0) (hn : g.n = (n : Int)) : NatEdges n g.edges ∧ g.edges.length ≤ 600 ∧ n ≤ 200 := by
  obtain ⟨⟨h1, h2, h3⟩, hE⟩ := graphV_ok.1 h
  rw [hn] at hE h2
  exact ⟨fun k e he => edge_nat hE he, h3, by omega⟩
end Go.Proofs.Ytifpngjipkmdcaa
