/- The statement on ckpt.Encode. -/
import Derived.Test.YtphgdpjfolkafaaCkB
import Derived.Test.YtphgdpjfolkafaaCkS
import Derived.Test.YtphgdpjfolkafaaBytes
namespace Go.Proofs.Ytphgdpjfolkafaa
open Go.ChangeShapes Go.WideShapes Go.ChangeAt Go.RowKit
set_option linter.unusedVariables false
set_option linter.unusedSimpArgs false
set_option maxHeartbeats 4000000 in
theorem law_CkptEncodes (w : World) (s : Saved) (A : Option Addr) (c : Nat) (B : Option Addr) (d : Nat) (hs : I64 s.step) (hp : I64 s.phase) (hf : Flat w w.heap.size 16 2 Val.cells A c s.vals) (hw : ∀ x ∈ s.vals, x.wf) (hg : Flat w w.heap.size 16 2 Mail.cells B d s.mail) (hw2 : ∀ x ∈ s.mail, x.wf) :
    Calls Try.prog 4 #[.agg #[.int .i64 s.step, .int .i64 s.phase, .bool s.fresh, .slice A s.vals.length c, .slice B s.mail.length d]] w fun e w' => e = .returned (.bool true) ∧ Below w.heap.size w w' := by
  obtain ⟨f1, f2, f3, f4⟩ := hf
  obtain ⟨g1, g2, g3, g4⟩ := hg
  clear hw hw2 hs hp
  have hvn : s.vals.length * 16 ≤ 140737488355328 := by omega
  have hmn : s.mail.length * 16 ≤ 140737488355328 := by omega
  have hvl : s.vals.length ≤ 140737488355328 := by omega
  have hml : s.mail.length ≤ 140737488355328 := by omega
  have b0 : Below w.heap.size w (w.alloc (.cells (svC s A c B d) 36)) := bA (Below.refl _ _) _
  have HC := hid (saveds_copy s _ A B c d ((f4.below b0).any (by decide)) ((g4.below b0).any (by decide)) hvn hmn)
  have HE := hid (fun w A B c d h1 h2 => encode_walk s w A B c d h1 h2)
  have HR := hid (fun w A B c d h1 h2 => savedBytes_walk s w A B c d h1 h2)
  have HSM := hid (fun w A A' B B' c c' d d' h1 h2 h3 h4 => sameSaved_walk s w A A' B B' c c' d d' h1 h2 h3 h4 hvl hml)
  generalize encV s = z at HE HR
  obtain ⟨v, r⟩ := z
  obtain ⟨st, ph, fr, vs, ms⟩ := s
  unfold svC at *
  simp only at *
  go_enter Try.func4, Try.ntmps4
  go_wp2_with fail
  refine HC.out.mono ?_
  rintro e w1 ⟨A1, k1, B1, q1, rfl, r1, s1, b1⟩
  have b01 := bT b0 b1
  have p0 : w1.cell? ⟨w.heap.size, 0, none⟩ = some (.int .i64 st) := keepb b1 (by go_simp)
  have p1 : w1.cell? ⟨w.heap.size, 1, none⟩ = some (.int .i64 ph) := keepb b1 (by go_simp)
  have p2 : w1.cell? ⟨w.heap.size, 2, none⟩ = some (.bool fr) := keepb b1 (by go_simp)
  have p3 : w1.cell? ⟨w.heap.size, 3, none⟩ = some (.slice A vs.length c) := keepb b1 (by go_simp)
  have p4 : w1.cell? ⟨w.heap.size, 4, none⟩ = some (.slice B ms.length d) := keepb b1 (by go_simp)
  have hz1 : w.heap.size < w1.heap.size := by have := b1.size; simp at this; omega
  clear HC b1 b0
  have bX : Below w1.heap.size w1 (w1.alloc (.cells #[.int .i64 st, .int .i64 ph, .bool fr, .slice A1 vs.length k1, .slice B1 ms.length q1] 36)) := bA (Below.refl _ _) _
  have r1x := (r1.below bX).any (by decide)
  have s1x := (s1.below bX).any (by decide)
  go_wp2_with fail
  refine (HE.out _ _ _ _ _ r1x s1x).mono ?_
  rintro e w2 ⟨A2, k2, rfl, o2, b2⟩
  have u0 : w2.cell? ⟨w1.heap.size, 0, none⟩ = some (.int .i64 st) := keepb b2 (by go_simp)
  have u1 : w2.cell? ⟨w1.heap.size, 1, none⟩ = some (.int .i64 ph) := keepb b2 (by go_simp)
  have u2 : w2.cell? ⟨w1.heap.size, 2, none⟩ = some (.bool fr) := keepb b2 (by go_simp)
  have u3 : w2.cell? ⟨w1.heap.size, 3, none⟩ = some (.slice A1 vs.length k1) := keepb b2 (by go_simp)
  have u4 : w2.cell? ⟨w1.heap.size, 4, none⟩ = some (.slice B1 ms.length q1) := keepb b2 (by go_simp)
  have b12 := bT bX b2
  have p0 := keepb b12 p0
  have p1 := keepb b12 p1
  have p2 := keepb b12 p2
  have p3 := keepb b12 p3
  have p4 := keepb b12 p4
  have hz2 : w1.heap.size < w2.heap.size := by have := b2.size; simp at this; omega
  have b02 := bT b01 b12
  have O2 := hid o2
  clear o2 b2 bX r1x s1x
  go_wp2_with fail
  refine (HR.out _ A B c d ((f4.below b02).any (by decide)) ((g4.below b02).any (by decide))).mono ?_
  rintro e w3 ⟨A3, k3, rfl, o3, b3⟩
  have O3 := hid o3
  have p0 := keepb b3 p0
  have p1 := keepb b3 p1
  have p2 := keepb b3 p2
  have p3 := keepb b3 p3
  have p4 := keepb b3 p4
  have u0 := keepb b3 u0
  have u1 := keepb b3 u1
  have u2 := keepb b3 u2
  have u3 := keepb b3 u3
  have u4 := keepb b3 u4
  have hz3 := b3.size
  have b03 := bT b02 b3
  have b13 := bT b12 b3
  have HSB := hid (sameBytes_walk v w3 A2 A3 v.length v.length k2 k3 (((rd_own O2.out).below b3).any (by decide)) (rd_own O3.out))
  have HSS := hid (HSM.out w3 A1 A B1 B k1 c q1 d ((r1.below b13).any (by decide)) ((f4.below b03).any (by decide)) ((s1.below b13).any (by decide)) ((g4.below b03).any (by decide)))
  have B3 := hid b03
  clear o3 b3 b12 b13 b02 b01 b03 HE HR HSM f4 g4 r1 s1
  go_wp2_with fail
  refine HSB.out.mono ?_
  rintro e w4 ⟨rfl, rfl⟩
  go_wp2_with fail
  refine HSS.out.mono ?_
  rintro e w5 ⟨rfl, b5⟩
  go_wp2_with fail
  go_ret
  exact ⟨by simp, bT B3.out b5⟩
end Go.Proofs.Ytphgdpjfolkafaa
