/- The statement on ckpt.Seal. -/
import Derived.Test.YtafnbackjjaelaaDoorSeal
namespace Go.Proofs.YtafnbackjjaelaaDoor
open Go.ChangeShapes Go.WideShapes Go.ChangeAt Go.RowKit
set_option linter.unusedVariables false
set_option maxRecDepth 100000 in
set_option maxHeartbeats 2000000 in
theorem law_CkptSeals (w : World) (l : List MFile) (A : Option Addr) (c : Nat) (hf : Flat w w.heap.size 48 3 MFile.cells A c l) (hw : ∀ x ∈ l, x.wf w) (n : Int) (wn : (Lit.int .i64 n).wf = true) :
    Calls Tryd.prog 5 #[.agg #[.slice A l.length c], .int .i64 n] w fun e w' => e = .returned (.bool true) ∧ Below w.heap.size w w' := by
  have hF := files_of hf hw
  have hm := okm_wf hw
  obtain ⟨f1, f2, f3, f4⟩ := hf
  have hn : l.length * 48 ≤ 140737488355328 := by omega
  have hlen := sealF_len (files l) n
  have b0 := bA (Below.refl w.heap.size w) (.cells #[.slice A l.length c] 38)
  have HC := hid (disks_walk l _ A c (Files.b hF b0) hn hm.1)
  clear hw f1 f2 f3 f4
  go_enter Tryd.func5, Tryd.ntmps5
  go_wp2_with fail
  refine HC.out.mono ?_
  rintro e w1 ⟨A1, k1, l1, rfl, hf1, hl1, hown, b1⟩
  have b01 := bT b0 b1
  have hF1 : Files w1 w1.heap.size A1 l1 := hown
  have j0 : w1.cell? ⟨w.heap.size, 0, none⟩ = some (.slice A l.length c) := keepb b1 (by go_simp)
  have hm1 := okm_of hf1 hm
  have HR := hid (fun w2 h => seal_walk l1 n w2 A1 k1 h (by rw [hl1]; exact hn) hm1)
  rw [hf1, hl1] at HR
  have HR2 := hid (fun w2 h => sealed_walk l n w2 A c h hn hm)
  generalize sealF (files l) n = z at HR HR2 hlen
  obtain ⟨v, r⟩ := z
  simp only [files_length] at hlen
  have HF1 := hid hf1
  have HL1 := hid hl1
  clear hf1 hl1 hown hm1
  have bX := bA (Below.refl w1.heap.size w1) (.cells #[.slice A1 l.length k1] 38)
  have g0 : (w1.alloc (.cells #[.slice A1 l.length k1] 38)).cell? ⟨w1.heap.size, 0, none⟩ = some (.slice A1 l.length k1) := by go_simp
  have j0 := keepb bX j0
  go_wp2_with fail
  refine (HR.out _ (Files.b hF1 bX)).mono ?_
  rintro e w2 ⟨A2, k2, l2, rfl, hf2, r2, b2⟩
  have b12 := bT bX b2
  have b02 := bT b01 b12
  have g0 := keepb b2 g0
  have j0 := keepb b2 j0
  have HF2 := hid hf2
  clear hf2
  have bY := bA (Below.refl w2.heap.size w2) (.cells #[.slice A2 v.length k2] 38)
  have h0 : (w2.alloc (.cells #[.slice A2 v.length k2] 38)).cell? ⟨w2.heap.size, 0, none⟩ = some (.slice A2 v.length k2) := by go_simp
  have g0 := keepb bY g0
  have j0 := keepb bY j0
  go_wp2_with fail
  refine (HR2.out _ (Files.b hF (bT b02 bY))).mono ?_
  rintro e w3 ⟨A3, k3, l3, rfl, hf3, r3, b3⟩
  have b23 := bT bY b3
  have b13 := bT b12 b23
  have b03 := bT b02 b23
  have g0 := keepb b3 g0
  have j0 := keepb b3 j0
  have h0 := keepb b3 h0
  have HF3 := hid hf3
  clear hf3
  have bZ := bA (Below.refl w3.heap.size w3) (.cells #[.slice A3 v.length k3] 38)
  have g0 := keepb bZ g0
  have j0 := keepb bZ j0
  have h0 := keepb bZ h0
  go_wp2_with fail
  refine (sameDisk_walk l2 l3 _ A2 A3 v.length k2 k3 (HF3.out.trans HF2.out.symm) (by rw [← files_length, HF2.out]) (Files.b r2 (bT b23 bZ)) (Files.b r3 bZ) (by omega)).mono ?_
  rintro e w4 ⟨rfl, b4⟩
  have b14 := bT bZ b4
  have g0 := keepb b4 g0
  have j0 := keepb b4 j0
  go_wp2_with fail
  refine (sameDisk_walk l1 l _ A1 A l.length k1 c HF1.out.symm HL1.out (Files.b hF1 (bT b13 b14)) (Files.b hF (bT b03 b14)) (by omega)).mono ?_
  rintro e w5 ⟨rfl, b5⟩
  go_wp2_with fail
  go_ret
  exact ⟨by simp, bT (bT b03 b14) b5⟩
end Go.Proofs.YtafnbackjjaelaaDoor
