/- paths.Reach, the document's ReachOf; the law. -/
import Derived.Test.YtafnbackjjaelaaSeekW
import Derived.Test.YtafnbackjjaelaaSameB
import Derived.Test.YtafnbackjjaelaaGraphRef
namespace Go.Proofs.Ytafnbackjjaelaa
open Go.ChangeShapes Go.WideShapes Go.ChangeAt Go.RowKit
set_option linter.unusedVariables false
noncomputable def reachV (g : Graph) (v : Int) : List Bool × Int := if graphV g ≠ 0 then ([], graphV g) else if 0 ≤ v ∧ v < g.n then (fb g.n.toNat (rchB (prs g.edges) v.toNat), 0) else ([], 2)
theorem reachV_bad {g : Graph} {v : Int} (h : graphV g ≠ 0) : reachV g v = ([], graphV g) := by unfold reachV; rw [if_pos h]
theorem reachV_out {g : Graph} {v : Int} (h : graphV g = 0) (hv : ¬ (0 ≤ v ∧ v < g.n)) : reachV g v = ([], 2) := by unfold reachV; rw [if_neg (by simpa using h), if_neg hv]
theorem reachV_ok {g : Graph} {v : Int} (h : graphV g = 0) (hv : 0 ≤ v ∧ v < g.n) : reachV g v = (fb g.n.toNat (rchB (prs g.edges) v.toNat), 0) := by unfold reachV; rw [if_neg (by simpa using h), if_pos hv]
theorem reachV_len (g : Graph) (v : Int) : (reachV g v).1.length ≤ 200 := by
  unfold reachV
  split
  · simp
  · rename_i h
    split
    · have := (graphV_ok.1 (by simpa using h)).1.2.1
      rw [fb_len]; omega
    · simp
abbrev RetB (w : World) (l : List Bool) (err : Int) : Ending → World → Prop := RetL 4 1 w l.length (l.map Value.bool) err
theorem retB_none (w w' : World) (err : Int) (b : Below w.heap.size w w') : RetB w [] err (.returned (.tuple #[.slice none 0 0, .int .i64 err])) w' := ⟨none, 0, rfl, World.ownsRow_nil _ _ _ _, b⟩
theorem graph_edges {g : Graph} {n : Nat} (h : graphV g = 0) (hn : g.n = (n : Int)) : NatEdges n g.edges ∧ g.edges.length ≤ 600 ∧ n ≤ 200 := by
  obtain ⟨⟨h1, h2, h3⟩, hE⟩ := graphV_ok.1 h
  rw [hn] at hE h2
  exact ⟨fun k e he => edge_nat hE he, h3, by omega⟩
set_option maxRecDepth 100000 in
set_option maxHeartbeats 4000000 in
theorem reach_walk (g : Graph) (v : Int) (w : World) (A : Option Addr) (c : Nat) (hr : Rd w w.heap.size A 3 g.edges.length (g.edges.flatMap Edge.cells)) (hl : g.edges.length ≤ 9223372036854775807) :
    Calls Try.prog 41 #[.agg #[.int .i64 g.n, .slice A g.edges.length c], .int .i64 v] w (RetB w (reachV g v).1 (reachV g v).2) := by
  have b0 := bA (Below.refl w.heap.size w) (.cells #[.int .i64 g.n, .slice A g.edges.length c] 24)
  have hc := hid (check_walk g _ A c (rdb hr (by decide) b0) hl)
  by_cases h0 : graphV g = 0
  · rw [h0] at hc
    by_cases hv : 0 ≤ v ∧ v < g.n
    · have HRV := hid (reachV_ok h0 hv)
      obtain ⟨n, hn⟩ := Int.eq_ofNat_of_zero_le (show (0 : Int) ≤ g.n by omega)
      obtain ⟨v, rfl⟩ := Int.eq_ofNat_of_zero_le hv.1
      obtain ⟨hE, hl6, hn2⟩ := graph_edges h0 hn
      have HHP := hid (hops_walk g n hn hn2 hE hl6)
      have hvn : v < n := by omega
      have nv1 : ¬ ((v : Int) < 0) := by omega
      have nv2 : ¬ ((n : Int) ≤ (v : Int)) := by omega
      have nv3 : ¬ n ≤ v := by omega
      have HSR := hid (search_walk g.edges n hn2 hE v hvn)
      have HRE : Hid (reachV g v = (fb n (rchB (prs g.edges) v), 0)) := hid (by rw [HRV.out, hn]; simp)
      have HL6 := hid hl6
      rw [hn] at hc HHP ⊢
      clear h0 hv hE HRV hn
      go_enter Try.func41, Try.ntmps41
      go_wp2_with fail
      refine hc.out.mono ?_
      rintro e w1 ⟨rfl, b1⟩
      have b01 := bT (bA (Below.refl w.heap.size w) (.cells #[.int .i64 (n : Int), .slice A g.edges.length c] 24)) b1
      have hz1 : w.heap.size < w1.heap.size := by have := b1.size; simp at this; omega
      have q0 : w1.cell? ⟨w.heap.size, 0, none⟩ = some (.int .i64 (n : Int)) := keepb b1 (by go_simp)
      have q1 : w1.cell? ⟨w.heap.size, 1, none⟩ = some (.slice A g.edges.length c) := keepb b1 (by go_simp)
      go_wp2_with (refine wp_make1 rfl rfl Try.underlying55 inf_bool rfl n rfl rfl (by omega) (by omega) ?_; intro w2 o2 b2 hz2; have q0 := keepb b2 q0; have q1 := keepb b2 q1)
      have b02 := bT b01 b2
      rw [fb_zero] at o2
      refine (HHP.out w2 A c (rdb hr (by decide) b02)).mono ?_
      rintro e w3 ⟨A3, m, rfl, hm, hh, hg, b3⟩
      have o3 := own_below (base' := w1.heap.size) o2 b3 (Nat.le_refl _)
      have HS := hid (HSR.out w3 A3 m hm hh HL6.out hg w1.heap.size n w1.heap.size o3)
      have b03 := bT b02 b3
      clear o2 o3 hm hh hg
      go_wp2_with fail
      refine HS.out.mono ?_
      rintro e w4 ⟨rfl, o4, g4⟩
      have HO := hid o4
      have b04 : Below w.heap.size w w4 := b03.grown g4 b03.size (fun k hk => by injection hk with hk; have := b01.size; omega)
      clear o4
      go_wp2_with fail
      go_ret2
      rw [HRE.out]
      exact ⟨some ⟨w1.heap.size, 0, none⟩, n, by rw [fb_len]; rfl, by rw [fb_len]; exact own_more HO.out b01.size, b04⟩
    · have HRV := hid (reachV_out h0 hv)
      have hcase : v < 0 ∨ (¬ v < 0 ∧ g.n ≤ v) := by omega
      rcases hcase with h1 | ⟨h1, h2⟩
      all_goals
        go_enter Try.func41, Try.ntmps41
        go_wp2_with fail
        refine hc.out.mono ?_
        rintro e w1 ⟨rfl, b1⟩
        have q0 : w1.cell? ⟨w.heap.size, 0, none⟩ = some (.int .i64 g.n) := keepb b1 (by go_simp)
        go_wp2_with fail
        go_ret2
        rw [HRV.out]
        exact retB_none _ _ _ (bT b0 b1)
  · have HRV := hid (reachV_bad (v := v) h0)
    have hb : (graphV g != 0) = true := by simpa using h0
    generalize graphV g = r at *
    clear h0
    go_enter Try.func41, Try.ntmps41
    go_wp2_with fail
    refine hc.out.mono ?_
    rintro e w1 ⟨rfl, b1⟩
    go_wp2_with fail
    go_ret2
    rw [HRV.out]
    exact retB_none _ _ _ (bT b0 b1)
end Go.Proofs.Ytafnbackjjaelaa
