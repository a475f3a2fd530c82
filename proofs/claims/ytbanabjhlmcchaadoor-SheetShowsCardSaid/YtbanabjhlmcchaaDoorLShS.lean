/- The statement on sheet.Show; what its tied card lays. -/
import Derived.Test.YtbanabjhlmcchaaDoorShtG
import Derived.Test.YtbanabjhlmcchaaDoorSameB
import Derived.Test.YtbanabjhlmcchaaDoorLaiP
namespace Go.Proofs.YtbanabjhlmcchaaDoor
open Go.RowKit Go.ChangeShapes Go.WideShapes Go.ChangeAt
set_option linter.unusedVariables false
set_option linter.unusedSimpArgs false
abbrev laidSh : List (String × DataW Unit) := [("math/bits.deBruijn32tab", Rows.laid_math_bits_deBruijn32tab), ("math/bits.deBruijn64tab", Rows.laid_math_bits_deBruijn64tab), ("internal/strconv.uint64pow10", Rows.laid_internal_strconv_uint64pow10)]
theorem pow_ofS {w : World} (h : laidMetH Tryd.prog laidSh w) : PowAt w ∧ 1 < w.heap.size := by
  have h1 := (laidMetH_iff.1 h).1
  rw [show (laidSh.filter fun x => x.2.handleName?.isNone) = laidSh by kernel_rfl] at h1
  obtain ⟨ps, hv, _⟩ := h1
  obtain ⟨g1, t1, c1, f1, p1, q1, _, _, _, _, hv, _⟩ := hv
  obtain ⟨g2, t2, c2, f2, p2, q2, _, _, _, _, hv, _⟩ := hv
  obtain ⟨g3, t3, c3, f3, p3, q3, hg3, ht3, hv3, hd3, hv, _⟩ := hv
  have e3 : g3 = 1 := Option.some.inj (hg3.symm.trans (show Tryd.prog.globalNamed "internal/strconv.uint64pow10" = some 1 by kernel_rfl))
  subst e3
  have u3 : t3 = 76 := Option.some.inj (ht3.symm.trans (show (Tryd.prog.globals[1]?).map (·.type) = some 76 by kernel_rfl))
  subst u3
  have hp : PowAt w := pow_of hv3 hd3
  exact ⟨hp, World.block_lt_of_cell? _ _ (Lib.TabIs.cell hp hg3 0 (by decide))⟩
set_option maxRecDepth 100000 in
set_option maxHeartbeats 4000000 in
theorem law_SheetShows (w : World) (g : Graph) (A : Option Addr) (c : Nat) (hn : I64 g.n) (hf : Flat w w.heap.size 24 3 Edge.cells A c g.edges) (hw : ∀ x ∈ g.edges, x.wf) (hP : PowAt w) (h1 : 1 < w.heap.size) :
    Calls Tryd.prog 4 #[.agg #[.int .i64 g.n, .slice A g.edges.length c]] w fun e w' => e = .returned (.bool true) ∧ Below w.heap.size w w' := by
  obtain ⟨f1, f2, f3, f4⟩ := hf
  have h24 : g.edges.length * 24 ≤ 140737488355328 := by omega
  have hl : g.edges.length ≤ 9223372036854775807 := by omega
  obtain ⟨W, hW⟩ : ∃ W, W = w.alloc (.cells #[.int .i64 g.n, .slice A g.edges.length c] 31) := ⟨_, rfl⟩
  have hBW : Below w.heap.size w W := by rw [hW]; exact bA (Below.refl _ _) _
  have HC := hid (graphs_copy g W A c (rdb f4 (by decide) hBW) h24)
  have g0 : W.cell? ⟨w.heap.size, 0, none⟩ = some (.int .i64 g.n) := by rw [hW]; go_simp
  have g1 : W.cell? ⟨w.heap.size, 1, none⟩ = some (.slice A g.edges.length c) := by rw [hW]; go_simp
  have HR := hid f4
  have HP := hid hP
  clear hn hw f1 f2 f3 f4 hP
  go_enter Tryd.func4, Tryd.ntmps4
  go_wp2_with fail
  rw [← hW]
  clear hW
  refine HC.out.mono ?_
  rintro e w1 ⟨A1, c1, rfl, o1, b1⟩
  have HO1 := hid o1
  have hB1 := bT hBW b1
  have g0 := keepb b1 g0
  have g1 := keepb b1 g1
  obtain ⟨V, hV⟩ : ∃ V, V = w1.alloc (.cells #[.int .i64 g.n, .slice A1 g.edges.length c1] 31) := ⟨_, rfl⟩
  have bV : Below w1.heap.size w1 V := by rw [hV]; exact bA (Below.refl _ _) _
  have c0 : V.cell? ⟨w1.heap.size, 0, none⟩ = some (.int .i64 g.n) := by rw [hV]; go_simp
  have c1' : V.cell? ⟨w1.heap.size, 1, none⟩ = some (.slice A1 g.edges.length c1) := by rw [hV]; go_simp
  have g0 := keepb bV g0
  have g1 := keepb bV g1
  have HBV := hid (bT hB1 bV)
  have HOV := hid (own_below HO1.out bV (Nat.le_refl _))
  have hlv := HBV.out.size
  have HS := hid (sheetShow_walk g V A1 c1 (rd_own HOV.out) hl (HP.out.below HBV.out) (by omega))
  clear o1 b1 bV hB1 hBW HC
  go_upto_region 2 with fail
  rw [← hV]
  clear hV
  go_wp2_with fail
  refine HS.out.mono ?_
  rintro e w2 ⟨rfl, b2⟩
  have HB2 := hid (bT HBV.out b2)
  have HO2 := hid (own_below HOV.out b2 (Nat.le_refl _))
  have g0 := keepb b2 g0
  have g1 := keepb b2 g1
  have c0 := keepb b2 c0
  have c1' := keepb b2 c1'
  have HM := hid (graphShown_walk g w2 A c (rdb HR.out (by decide) HB2.out) hl)
  clear b2 HS
  generalize showG g = z at HM
  obtain ⟨s, er⟩ := z
  dsimp only at HM
  go_wp2_with fail
  refine HM.out.mono ?_
  rintro e w3 ⟨rfl, b3⟩
  have HB3 := hid (bT HB2.out b3)
  have HO3 := hid (own_below HO2.out b3 (Nat.le_refl _))
  have g0 := keepb b3 g0
  have g1 := keepb b3 g1
  have c0 := keepb b3 c0
  have c1' := keepb b3 c1'
  have HSM := hid (sameGraph_walk g w3 A1 A c1 c (rd_own HO3.out) (rdb HR.out (by decide) HB3.out) (by omega))
  clear b3
  go_wp2_with fail
  refine HSM.out.mono ?_
  rintro e w4 ⟨rfl, b4⟩
  go_wp2_with fail
  go_ret
  exact ⟨by simp, bT HB3.out b4⟩
end Go.Proofs.YtbanabjhlmcchaaDoor
