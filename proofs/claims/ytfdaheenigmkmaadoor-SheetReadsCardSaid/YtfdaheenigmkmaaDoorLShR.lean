/- The statement on sheet.Read. -/
import Derived.Test.YtfdaheenigmkmaaDoorSheR
import Derived.Test.YtfdaheenigmkmaaDoorDocG
import Derived.Test.YtfdaheenigmkmaaDoorSameB
namespace Go.Proofs.YtfdaheenigmkmaaDoor
open Go.RowKit Go.ChangeShapes Go.WideShapes Go.ChangeAt
set_option linter.unusedVariables false
set_option linter.unusedSimpArgs false
theorem readG_len (t : List UInt8) : (readG t).1.edges.length ≤ 20000 := by
  unfold readG
  split
  · simp
  · rename_i h
    split
    · have h1 := progG_len (linesL t)
      have h2 := (linesL_size t).1
      dsimp only; omega
    · simp
set_option maxRecDepth 100000 in
set_option maxHeartbeats 4000000 in
theorem law_SheetReads (w : World) (s : ByteArray) (hz : s.size ≤ 140737488351232) (hP : PowAt w ∧ 4 < w.heap.size) (he : ErrsAt w) :
    Calls Tryd.prog 4 #[.string s] w fun e w' => e = .returned (.bool true) ∧ Below w.heap.size w w' := by
  have HA := hid (sheetRead_walk s w hP.1 he hP.2)
  have HL := hid (readG_len s.data.toList)
  have HRA := hid (read_alike s.data.toList)
  obtain ⟨⟨g, er⟩, hG⟩ : ∃ z, z = readG s.data.toList := ⟨_, rfl⟩
  rw [← hG] at HA HL
  have HG := hid hG
  clear hG
  dsimp only at HA HL
  go_enter Tryd.func4, Tryd.ntmps4
  go_wp2_with fail
  refine HA.out.mono ?_
  rintro e w1 ⟨⟨A1, c1, rfl, r1⟩, b1⟩
  have HR1 := hid r1
  have HB1 := hid b1
  obtain ⟨V, hV⟩ : ∃ V, V = w1.alloc (.cells #[.int .i64 g.n, .slice A1 g.edges.length c1] 30) := ⟨_, rfl⟩
  have bV : Below w1.heap.size w1 V := by rw [hV]; exact bA (Below.refl _ _) _
  have hVb : V.heap[w1.heap.size]? = some (.cells #[.int .i64 g.n, .slice A1 g.edges.length c1] 30 (0, 0)) := by rw [hV]; exact heap_alloc_new _ _
  have HM := hid (show Calls Tryd.prog 9 #[.string s] V fun e w' => (∃ A c, e = .returned (.tuple #[.agg #[.int .i64 g.n, .slice A g.edges.length c], .int .i64 er]) ∧ Rd w' w'.heap.size A 3 g.edges.length (g.edges.flatMap Edge.cells)) ∧ Below V.heap.size V w' from by
    have h := graphRead_walk s V
    rw [← HRA.out, ← HG.out] at h; exact h)
  clear r1 b1 HA
  go_upto_region 2 with fail
  rw [← hV]
  clear hV
  go_wp2_with fail
  refine HM.out.mono ?_
  rintro e w2 ⟨⟨A2, c2, rfl, r2⟩, b2⟩
  obtain ⟨X, hX⟩ : ∃ X, X = w2.alloc (.cells #[.int .i64 g.n, .slice A2 g.edges.length c2] 30) := ⟨_, rfl⟩
  have bX : Below w2.heap.size w2 X := by rw [hX]; exact bA (Below.refl _ _) _
  have hXb : X.heap[w2.heap.size]? = some (.cells #[.int .i64 g.n, .slice A2 g.edges.length c2] 30 (0, 0)) := by rw [hX]; exact heap_alloc_new _ _
  have hVX : X.heap[w1.heap.size]? = some (.cells #[.int .i64 g.n, .slice A1 g.edges.length c1] 30 (0, 0)) := ((bT b2 bX).block _ (Array.getElem?_eq_some_iff.1 hVb).1).trans hVb
  have HB2 := hid (bT HB1.out (bT bV (bT b2 bX)))
  have HSM := hid (sameGraph_walk g X A1 A2 c1 c2 ((HR1.out.below (bT bV (bT b2 bX))).any (by decide)) ((r2.below bX).any (by decide)) (by have := HL.out; omega))
  have v0 := Go.Joins.cell_of_block hVX 0
  have v1 := Go.Joins.cell_of_block hVX 1
  have x0 := Go.Joins.cell_of_block hXb 0
  have x1 := Go.Joins.cell_of_block hXb 1
  clear r2 b2 HM bV bX hVb hXb hVX
  go_upto_region 3 with fail
  rw [← hX]
  clear hX
  go_wp2_with fail
  refine HSM.out.mono ?_
  rintro e w3 ⟨rfl, b3⟩
  go_wp2_with fail
  go_ret
  exact ⟨by simp, bT HB2.out b3⟩
end Go.Proofs.YtfdaheenigmkmaaDoor
