/- The document's GraphSorted; graph.Reverse, GraphReversed. -/
import Derived.Test.YtifpngjipkmdcaaESort
import Derived.Deep.RegionHeldLaw
namespace Go.Proofs.Ytifpngjipkmdcaa
open Go.ChangeShapes Go.WideShapes Go.ChangeAt Go.RowKit
set_option linter.unusedVariables false
set_option linter.unusedSimpArgs false
/-- Edges the other way. -/
def revE (e : Edge) : Edge := ⟨e.dst, e.src, e.wt⟩
theorem graphV_rev {g : Graph} (h : graphV g = 0) : graphV ⟨g.n, g.edges.map revE⟩ = 0 := by
  obtain ⟨⟨h1, h2, h3⟩, hE⟩ := graphV_ok.1 h
  refine graphV_ok.2 ⟨⟨h1, h2, by simpa using h3⟩, fun e he => ?_⟩
  obtain ⟨x, hx, rfl⟩ := List.mem_map.1 he
  have := hE x hx
  exact ⟨this.2.1, this.1, this.2.2⟩
noncomputable def reversedV (g : Graph) : Graph × Int := if graphV g ≠ 0 then (zeroG, graphV g) else (⟨g.n, srtOf elt (g.edges.map revE)⟩, 0)
theorem reversedV_bad {g : Graph} (h : graphV g ≠ 0) : reversedV g = (zeroG, graphV g) := by unfold reversedV; rw [if_pos h]
theorem reversedV_ok {g : Graph} (h : graphV g = 0) : reversedV g = (⟨g.n, srtOf elt (g.edges.map revE)⟩, 0) := by unfold reversedV; rw [if_neg (by simpa using h)]
theorem three_oneR (a b c : Int) : ∀ u ∈ (#[Value.int .i64 a, Value.int .i64 b, Value.int .i64 c] : Array Value).toList, u.oneCell' = true := by
  intro u hu; simp at hu; rcases hu with rfl | rfl | rfl <;> rfl
theorem take_nextE {α : Type} {l : List α} {k : Nat} {e : α} (h : l[k]? = some e) : l.take (k + 1) = l.take k ++ [e] := by
  rw [List.take_add_one, h]; rfl
def RvRel (l : List Edge) (V : World) (o i : Value) (wr : World) : Prop :=
  ∃ (k c : Nat) (A : Option Addr), k ≤ l.length ∧ i = .int .i64 k ∧ o = .slice A k c ∧ wr.ownsRow V.heap.size 82 3 (.slice A k c) k (((l.take k).map revE).flatMap Edge.cells) ∧ Below V.heap.size V wr
set_option maxRecDepth 100000 in
set_option maxHeartbeats 4000000 in
theorem reverse_walk (g : Graph) (w : World) (A : Option Addr) (c : Nat) (hr : Rd w w.heap.size A 3 g.edges.length (g.edges.flatMap Edge.cells)) (hl : g.edges.length * 24 ≤ 140737488355328) :
    Calls Try.prog 60 #[.agg #[.int .i64 g.n, .slice A g.edges.length c]] w (RetG w (reversedV g).1 (reversedV g).2) := by
  have b0 := bA (bA (Below.refl w.heap.size w) (.cells #[.int .i64 g.n, .slice A g.edges.length c] 24)) (.cells #[.int .i64 0, .slice none 0 0] 24)
  have hc := hid (check_walk g _ A c (rdb hr (by decide) b0) (by omega))
  by_cases h0 : graphV g = 0
  · rw [h0] at hc
    have HRV := hid (reversedV_ok h0)
    have hgr := graphV_rev h0
    have HSV := hid (sortedV_ok hgr)
    have HSL := hid (srtOf_len (lt := elt) (g.edges.map revE))
    have HSO := hid (sorted_walk ⟨g.n, g.edges.map revE⟩)
    simp only [List.length_map] at HSL
    clear h0 hgr
    go_enter Try.func60, Try.ntmps60
    go_wp2_with fail
    refine hc.out.mono ?_
    rintro e w1 ⟨rfl, b1⟩
    have b01 := bT b0 b1
    have hz1 : w.heap.size + 2 ≤ w1.heap.size := by have := b1.size; simpa using this
    have q0 : w1.cell? ⟨w.heap.size, 0, none⟩ = some (.int .i64 g.n) := keepb b1 (by go_simp)
    have q1 : w1.cell? ⟨w.heap.size, 1, none⟩ = some (.slice A g.edges.length c) := keepb b1 (by go_simp)
    have z0 : w1.cell? ⟨w.heap.size + 1, 0, none⟩ = some (.int .i64 0) := keepb b1 (by go_simp)
    have z1 : w1.cell? ⟨w.heap.size + 1, 1, none⟩ = some (.slice none 0 0) := keepb b1 (by go_simp)
    have zf : ∀ o, w1.frozen? ⟨w.heap.size + 1, o, none⟩ = false := fun o => keepf b1 (by go_simp) (by simp)
    go_wp2_with fail
    go_loopw [5, 7, 17] (fun o _ i wr => RvRel g.edges w1 o i wr) (fun _ _ i _ => g.edges.length - (intOf i).toNat)
    case atStart => exact ⟨0, 0, none, by omega, rfl, rfl, World.ownsRow_nil _ _ _ _, Below.refl _ _⟩
    case round =>
      obtain ⟨k, c', A', hk, rfl, rfl, hown, hbel⟩ := hrel
      have hsz := hbel.size
      by_cases hlt : k < g.edges.length
      · obtain ⟨e, he⟩ : ∃ e, g.edges[k]? = some e := ⟨_, List.getElem?_eq_getElem hlt⟩
        obtain ⟨b, off, rfl, hb, c0, c1, c2⟩ := edge_cells (hr.below (bT b01 hbel)) rfl he
        have HT := hid (take_nextE he)
        have hkz : (k : Int) < (g.edges.length : Int) := by omega
        have hn1 : (k + 1) * 24 ≤ 140737488355328 := by omega
        have hbr : b < wr.heap.size := by omega
        clear he
        go_wp2_with (at_builtin; refine wp_app1 _ rfl rfl el_edges rfl ((hown.alloc _).alloc _) rfl (rd_newAt _ _ _ 3 1 _ (by simp) rfl) (three_oneR _ _ _) hn1 (Nat.le_trans hsz (by simp <;> omega)) ?_; intro A2 c2 w4 hown4 hb4 hg4)
        go_roundw
        case rel => exact ⟨k + 1, c2, A2, by omega, by go_num, rfl, by rw [HT.out, List.map_append, List.flatMap_append]; exact hown4, ((hbel.alloc hsz _).alloc (Nat.le_trans hsz (by simp)) _).trans hb4⟩
        case measure => simp [intOf]; omega
      · obtain rfl : k = g.edges.length := by omega
        rw [List.take_length] at hown
        have q0 := keepb hbel q0
        have z0 := keepb hbel z0
        have z1 := keepb hbel z1
        have zf : ∀ o, wr.frozen? ⟨w.heap.size + 1, o, none⟩ = false := fun o => keepf hbel (zf o) (by show w.heap.size + 1 < _; omega)
        have HC := hid (HSO.out wr A' c' (by have := rd_own hown; simpa using this) (by simpa using hl))
        have b0r := bT b01 hbel
        have hws : w.heap.size + 1 < wr.heap.size := by omega
        simp only [List.length_map] at HC
        clear hown
        go_wp2_with fail
        refine HC.out.mono ?_
        rintro e w3 ⟨A3, c3, rfl, o3, b3⟩
        rw [HSV.out] at o3
        have HO := hid o3
        have z0 := keepb b3 z0
        have z1 := keepb b3 z1
        have zf : ∀ o, w3.frozen? ⟨w.heap.size + 1, o, none⟩ = false := fun o => keepf b3 (zf o) hws
        have hz3 := b3.size
        clear o3
        rw [HSV.out]
        first | rw [HSL.out] | skip
        go_wp2_with fail
        refine bodyPost_ret (v := .tuple #[.agg #[.int .i64 g.n, .slice A3 g.edges.length c3], .int .i64 0]) (by simp [results, Try.results60, go_sem, *]) rfl ?_
        rw [HRV.out]
        have HO2 : World.ownsRow _ _ _ _ (.slice A3 (srtOf elt (g.edges.map revE)).length c3) (srtOf elt (g.edges.map revE)).length ((srtOf elt (g.edges.map revE)).flatMap Edge.cells) := HO.out
        rw [HSL.out] at HO2
        refine ⟨A3, c3, by show _ = Ending.returned (.tuple #[.agg #[_, .slice A3 (srtOf elt (g.edges.map revE)).length c3], _]); rw [HSL.out], ?_, ?_⟩
        · show World.ownsRow _ _ _ _ (.slice A3 (srtOf elt (g.edges.map revE)).length c3) (srtOf elt (g.edges.map revE)).length _
          rw [HSL.out]
          refine own_more (base := wr.heap.size) ?_ b0r.size
          repeat (with_reducible refine ownsRow_setCell_below ?_ (by simp; try omega) _)
          exact HO2
        · repeat (with_reducible refine bS ?_ (by simp; try omega) _)
          exact bT b0r b3
  · have HRV := hid (reversedV_bad h0)
    have hb : (graphV g != 0) = true := by simpa using h0
    generalize graphV g = r at *
    clear h0
    go_enter Try.func60, Try.ntmps60
    go_wp2_with fail
    refine hc.out.mono ?_
    rintro e w1 ⟨rfl, b1⟩
    have z0 : w1.cell? ⟨w.heap.size + 1, 0, none⟩ = some (.int .i64 0) := keepb b1 (by go_simp)
    have z1 : w1.cell? ⟨w.heap.size + 1, 1, none⟩ = some (.slice none 0 0) := keepb b1 (by go_simp)
    have zf : ∀ o, w1.frozen? ⟨w.heap.size + 1, o, none⟩ = false := fun o => keepf b1 (by go_simp) (by simp)
    go_wp2_with fail
    refine bodyPost_ret (v := .tuple #[.agg #[.int .i64 0, .slice none 0 0], .int .i64 r]) (by simp [results, Try.results60, go_sem, *]) rfl ?_
    rw [HRV.out]
    refine retG_bad _ _ _ ?_
    repeat (with_reducible refine bS ?_ (by simp; try omega) _)
    exact bT b0 b1
end Go.Proofs.Ytifpngjipkmdcaa
