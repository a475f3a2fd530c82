/- The statement on ckpt.Decode. -/
import Derived.Test.YtphgdpjfolkafaaCkL
import Derived.Test.YtphgdpjfolkafaaCkQ
import Derived.Test.YtphgdpjfolkafaaDecL
namespace Go.Proofs.Ytphgdpjfolkafaa
open Go.ChangeShapes Go.WideShapes Go.ChangeAt Go.RowKit
set_option linter.unusedVariables false
set_option linter.unusedSimpArgs false
set_option maxHeartbeats 4000000 in
theorem law_CkptDecodes (w : World) (l : List Int) (A : Option Addr) (c : Nat) (hf : Flat w w.heap.size 1 1 u8c A c l) (hb : ∀ x ∈ l, 0 ≤ x ∧ x ≤ 255) :
    Calls Try.prog 6 #[.slice A l.length c] w fun e w' => e = .returned (.bool true) ∧ Below w.heap.size w w' := by
  obtain ⟨f1, f2, f3, f4⟩ := hf
  have HD := hid (fun W A L c h1 h2 h3 h4 => decode_walk l W A L c h1 h2 hb h3 h4)
  have HR := hid (fun W A L c h1 h2 h3 h4 => savedOf_walk l W A L c h1 h2 hb h3 h4)
  have hv := decV_len l
  generalize decV l = z at HD HR hv
  obtain ⟨s, r⟩ := z
  simp only at HD HR hv
  have hvl : s.vals.length ≤ 140737488355328 := by omega
  have hml : s.mail.length ≤ 140737488355328 := by omega
  have HSM := hid (fun w A A' B B' c c' d d' h1 h2 h3 h4 => sameSaved_walk s w A A' B B' c c' d d' h1 h2 h3 h4 hvl hml)
  obtain ⟨st, ph, fr, vs, ms⟩ := s
  unfold RetSv svC at HD HR
  unfold svC at HSM
  simp only at HD HR HSM hvl hml
  generalize hL : l.length = n at *
  have HL := hid hL
  clear hL hb hv
  go_enter Try.func6, Try.ntmps6
  go_wp2_with fail
  refine (octets_copy l w A n c _ f4 (by omega)).mono ?_
  rintro e w1 ⟨A1, k1, rfl, o1, b1⟩
  have R1 := hid (rd_own o1)
  have hc1 := own_cap o1
  have B1 := hid b1
  clear o1 b1
  go_wp2_with fail
  refine (HD.out w1 A1 n k1 R1.out rfl (by omega) hc1).mono ?_
  rintro e w2 ⟨A2, c2, B2, d2, rfl, r2, m2, b2⟩
  have R2 := hid r2
  have M2 := hid m2
  have BB2 := hid (bT B1.out b2)
  have B12 := hid b2
  clear r2 m2 b2
  have bX : Below w2.heap.size w2 (w2.alloc (.cells #[.int .i64 st, .int .i64 ph, .bool fr, .slice A2 vs.length c2, .slice B2 ms.length d2] 36)) := bA (Below.refl _ _) _
  have BX := hid bX
  have RX := hid (rdb f4 (by decide) (bT BB2.out bX))
  clear bX
  go_wp2_with fail
  refine (HR.out _ A n c RX.out rfl (by omega) f1).mono ?_
  rintro e w3 ⟨A3, c3, B3, d3, rfl, r3, m3, b3⟩
  have u0 : w3.cell? ⟨w2.heap.size, 0, none⟩ = some (.int .i64 st) := keepb b3 (by go_simp)
  have u1 : w3.cell? ⟨w2.heap.size, 1, none⟩ = some (.int .i64 ph) := keepb b3 (by go_simp)
  have u2 : w3.cell? ⟨w2.heap.size, 2, none⟩ = some (.bool fr) := keepb b3 (by go_simp)
  have u3 : w3.cell? ⟨w2.heap.size, 3, none⟩ = some (.slice A2 vs.length c2) := keepb b3 (by go_simp)
  have u4 : w3.cell? ⟨w2.heap.size, 4, none⟩ = some (.slice B2 ms.length d2) := keepb b3 (by go_simp)
  have hz3 : w2.heap.size < w3.heap.size := by have := b3.size; simp at this; omega
  have B23 := hid (bT BX.out b3)
  have B03 := hid (bT BB2.out B23.out)
  have bY : Below w3.heap.size w3 (w3.alloc (.cells #[.int .i64 st, .int .i64 ph, .bool fr, .slice A3 vs.length c3, .slice B3 ms.length d3] 36)) := bA (Below.refl _ _) _
  have HSS := hid (HSM.out _ A2 A3 B2 B3 c2 c3 d2 d3 (rdb (rd_own R2.out) (by decide) (bT B23.out bY)) (rdb (rd_own r3) (by decide) bY) (rdb (rd_own M2.out) (by decide) (bT B23.out bY)) (rdb (rd_own m3) (by decide) bY))
  have BY := hid bY
  clear r3 m3 b3 bY HD HR HSM BX RX
  go_wp2_with fail
  refine HSS.out.mono ?_
  rintro e w4 ⟨rfl, b4⟩
  have HSB := hid (sameBytes_walk l w4 A1 A n n k1 c (rdb R1.out (by decide) (bT (bT (bT B12.out B23.out) BY.out) b4)) (rdb f4 (by decide) (bT (bT B03.out BY.out) b4)))
  go_wp2_with fail
  refine HSB.out.mono ?_
  rintro e w5 ⟨rfl, rfl⟩
  go_wp2_with fail
  go_ret
  exact ⟨by simp, bT (bT B03.out BY.out) b4⟩
end Go.Proofs.Ytphgdpjfolkafaa
