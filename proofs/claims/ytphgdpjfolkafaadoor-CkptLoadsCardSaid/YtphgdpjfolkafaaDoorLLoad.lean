/- The statement on ckpt.Load. -/
import Derived.Test.YtphgdpjfolkafaaDoorLoadA
namespace Go.Proofs.YtphgdpjfolkafaaDoor
open Go.ChangeShapes Go.WideShapes Go.ChangeAt Go.RowKit
set_option linter.unusedVariables false
set_option linter.unusedSimpArgs false
set_option maxRecDepth 100000 in
set_option maxHeartbeats 4000000 in
theorem law_CkptLoads (w : World) (l : List MFile) (A : Option Addr) (c : Nat) (hf : Flat w w.heap.size 48 3 MFile.cells A c l) (hw : ∀ x ∈ l, x.wf w) (n : Int) (wn : (Lit.int .i64 n).wf = true) :
    Calls Tryd.prog 3 #[.agg #[.slice A l.length c], .int .i64 n] w fun e w' => e = .returned (.bool true) ∧ Below w.heap.size w w' := by
  have hF := files_of hf hw
  have hm := okm_wf hw
  have hy := byF_of hw
  obtain ⟨f1, f2, f3, f4⟩ := hf
  have hn : l.length * 48 ≤ 140737488355328 := by omega
  have hlen := loadV_len (files l) n
  have b0 := bA (Below.refl w.heap.size w) (.cells #[.slice A l.length c] 24)
  have HC := hid (disks_walk l _ A c (Files.b hF b0) hn hm.1)
  clear hw f1 f2 f3 f4
  go_enter Tryd.func3, Tryd.ntmps3
  go_wp2_with fail
  refine HC.out.mono ?_
  rintro e w1 ⟨A1, k1, l1, rfl, hf1, hl1, hown, b1⟩
  have b01 := bT b0 b1
  have hF1 : Files w1 w1.heap.size A1 l1 := hown
  have j0 : w1.cell? ⟨w.heap.size, 0, none⟩ = some (.slice A l.length c) := keepb b1 (by go_simp)
  have hm1 := okm_of hf1 hm
  have HR := hid (fun w2 h => load_walk l1 n w2 A1 k1 h (by rw [hl1]; exact hn) hm1 (by rw [hf1]; exact hy))
  rw [hf1, hl1] at HR
  have HR2 := hid (fun w2 h => loadedSlot_walk l n w2 A c h hn hm hy)
  generalize loadV (files l) n = z at HR HR2 hlen
  obtain ⟨s, r⟩ := z
  simp only at HR HR2 hlen
  have HSM := hid (fun w A A' B B' c c' d d' h1 h2 h3 h4 => sameSaved_walk s w A A' B B' c c' d d' h1 h2 h3 h4 (by omega) (by omega))
  obtain ⟨st, ph, fr, vs, ms⟩ := s
  unfold RetSv svC at HR HR2
  unfold svC at HSM
  simp only at HR HR2 HSM
  have HF1 := hid hf1
  have HL1 := hid hl1
  clear hf1 hl1 hown hm1 hlen
  have bX := bA (Below.refl w1.heap.size w1) (.cells #[.slice A1 l.length k1] 24)
  have g0 : (w1.alloc (.cells #[.slice A1 l.length k1] 24)).cell? ⟨w1.heap.size, 0, none⟩ = some (.slice A1 l.length k1) := by go_simp
  have j0 := keepb bX j0
  have HC1 := hid (HR.out _ (Files.b hF1 bX))
  have BX := hid bX
  go_wp2_with fail
  refine HC1.out.mono ?_
  rintro e w2 ⟨A2, c2, B2, d2, rfl, r2, m2, b2⟩
  have B12 := hid (bT BX.out b2)
  have B02 := hid (bT b01 B12.out)
  have g0 := keepb b2 g0
  have j0 := keepb b2 j0
  have R2 := hid r2
  have M2 := hid m2
  clear r2 m2 b2 HC1 HR bX
  have bY := bA (Below.refl w2.heap.size w2) (.cells #[.int .i64 st, .int .i64 ph, .bool fr, .slice A2 vs.length c2, .slice B2 ms.length d2] 29)
  have h0 : (w2.alloc (.cells #[.int .i64 st, .int .i64 ph, .bool fr, .slice A2 vs.length c2, .slice B2 ms.length d2] 29)).cell? ⟨w2.heap.size, 0, none⟩ = some (.int .i64 st) := by go_simp
  have h1 : (w2.alloc (.cells #[.int .i64 st, .int .i64 ph, .bool fr, .slice A2 vs.length c2, .slice B2 ms.length d2] 29)).cell? ⟨w2.heap.size, 1, none⟩ = some (.int .i64 ph) := by go_simp
  have h2 : (w2.alloc (.cells #[.int .i64 st, .int .i64 ph, .bool fr, .slice A2 vs.length c2, .slice B2 ms.length d2] 29)).cell? ⟨w2.heap.size, 2, none⟩ = some (.bool fr) := by go_simp
  have h3 : (w2.alloc (.cells #[.int .i64 st, .int .i64 ph, .bool fr, .slice A2 vs.length c2, .slice B2 ms.length d2] 29)).cell? ⟨w2.heap.size, 3, none⟩ = some (.slice A2 vs.length c2) := by go_simp
  have h4 : (w2.alloc (.cells #[.int .i64 st, .int .i64 ph, .bool fr, .slice A2 vs.length c2, .slice B2 ms.length d2] 29)).cell? ⟨w2.heap.size, 4, none⟩ = some (.slice B2 ms.length d2) := by go_simp
  have g0 := keepb bY g0
  have j0 := keepb bY j0
  have BY := hid bY
  have HC2 := hid (HR2.out _ (Files.b hF (bT B02.out bY)))
  clear HR2 bY
  go_wp2_with fail
  refine HC2.out.mono ?_
  rintro e w3 ⟨A3, c3, B3, d3, rfl, r3, m3, b3⟩
  have hz3 : w2.heap.size < w3.heap.size := by have := b3.size; simp at this; omega
  have g0 := keepb b3 g0
  have j0 := keepb b3 j0
  have h0 := keepb b3 h0
  have h1 := keepb b3 h1
  have h2 := keepb b3 h2
  have h3 := keepb b3 h3
  have h4 := keepb b3 h4
  have B23 := hid (bT BY.out b3)
  have B13 := hid (bT B12.out B23.out)
  have B03 := hid (bT B02.out B23.out)
  have bZ := bA (Below.refl w3.heap.size w3) (.cells #[.int .i64 st, .int .i64 ph, .bool fr, .slice A3 vs.length c3, .slice B3 ms.length d3] 29)
  have HSS := hid (HSM.out _ A2 A3 B2 B3 c2 c3 d2 d3 (rdb (rd_own R2.out) (by decide) (bT B23.out bZ)) (rdb (rd_own r3) (by decide) bZ) (rdb (rd_own M2.out) (by decide) (bT B23.out bZ)) (rdb (rd_own m3) (by decide) bZ))
  have BZ := hid bZ
  have g0 := keepb bZ g0
  have j0 := keepb bZ j0
  clear r3 m3 b3 bZ HSM HC2 R2 M2
  go_wp2_with fail
  refine HSS.out.mono ?_
  rintro e w4 ⟨rfl, b4⟩
  have g0 := keepb b4 g0
  have j0 := keepb b4 j0
  have HSD := hid (sameDisk_walk l1 l _ A1 A l.length k1 c HF1.out.symm HL1.out (Files.b hF1 (bT (bT B13.out BZ.out) b4)) (Files.b hF (bT (bT B03.out BZ.out) b4)) (by omega))
  go_wp2_with fail
  refine HSD.out.mono ?_
  rintro e w5 ⟨rfl, b5⟩
  go_wp2_with fail
  go_ret
  exact ⟨by simp, bT (bT (bT B03.out BZ.out) b4) b5⟩
end Go.Proofs.YtphgdpjfolkafaaDoor
