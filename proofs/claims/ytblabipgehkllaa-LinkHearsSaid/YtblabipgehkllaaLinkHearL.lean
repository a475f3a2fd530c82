/- The statement on link.Hear. -/
import Derived.Test.YtblabipgehkllaaLinkHear
namespace Go.Proofs.Ytblabipgehkllaa
open Go.ChangeShapes Go.WideShapes Go.ChangeAt Go.RowKit
set_option linter.unusedVariables false
theorem hearV_len (r : Rcv) (p : Packet) : (hearV r p).2.1.length ≤ 1 := by
  unfold hearV
  split
  · split
    · split <;> simp
    · simp
  · simp
set_option maxHeartbeats 1000000 in
theorem law_LinkHears (w : World) (r : Rcv) (hr : r.wf) (p : Packet) (hp : p.wf) :
    Calls Try.prog 12 #[.agg #[.int .i64 r.epoch, .int .i64 r.want], .agg #[.int .i64 p.epoch, .int .i64 p.no, .int .i64 p.load.to, .int .i64 p.load.val]] w fun e w' => e = .returned (.bool true) ∧ Below w.heap.size w w' := by
  have c1 := hid (fun w => hear_walk r p w hr.2)
  have c2 := hid (fun w => heard_walk r p w hr.2)
  have hl := hearV_len r p
  generalize hearV r p = z at c1 c2 hl
  obtain ⟨t, l, a, x⟩ := z
  unfold rcvVal pktVal at c1 c2
  have b0 := bA (bA (Below.refl w.heap.size w) (.cells #[.int .i64 r.epoch, .int .i64 r.want] 43)) (.cells #[.int .i64 p.epoch, .int .i64 p.no, .int .i64 p.load.to, .int .i64 p.load.val] 67)
  go_enter Try.func12, Try.ntmps12
  go_wp2_with fail
  refine (c1.out _).mono ?_
  rintro e w1 ⟨A1, k1, rfl, r1, b1⟩
  simp only
  have b01 := bT b0 b1
  have x0 : w1.cell? ⟨w.heap.size, 0, none⟩ = some (.int .i64 r.epoch) := keepc' b1 (by go_simp)
  have x1 : w1.cell? ⟨w.heap.size, 1, none⟩ = some (.int .i64 r.want) := keepc' b1 (by go_simp)
  have y0 : w1.cell? ⟨w.heap.size + 1, 0, none⟩ = some (.int .i64 p.epoch) := keepc' b1 (by go_simp)
  have y1 : w1.cell? ⟨w.heap.size + 1, 1, none⟩ = some (.int .i64 p.no) := keepc' b1 (by go_simp)
  have y2 : w1.cell? ⟨w.heap.size + 1, 2, none⟩ = some (.int .i64 p.load.to) := keepc' b1 (by go_simp)
  have y3 : w1.cell? ⟨w.heap.size + 1, 3, none⟩ = some (.int .i64 p.load.val) := keepc' b1 (by go_simp)
  have hz1 : w.heap.size + 1 < w1.heap.size := by have := b1.size; simp at this; omega
  have hz0 : w.heap.size < w1.heap.size := by omega
  go_wp2_with fail
  refine (c2.out _).mono ?_
  rintro e w2 ⟨A2, k2, rfl, r2, b2⟩
  simp only
  have b12 := bT (bA (bA (Below.refl w1.heap.size w1) (.cells #[.int .i64 t.epoch, .int .i64 t.want] 43)) (.cells #[.int .i64 a.epoch, .int .i64 a.no] 69)) b2
  have s0 : w2.cell? ⟨w1.heap.size, 0, none⟩ = some (.int .i64 t.epoch) := keepc' b2 (by go_simp)
  have s1 : w2.cell? ⟨w1.heap.size, 1, none⟩ = some (.int .i64 t.want) := keepc' b2 (by go_simp)
  have s2 : w2.cell? ⟨w1.heap.size + 1, 0, none⟩ = some (.int .i64 a.epoch) := keepc' b2 (by go_simp)
  have s3 : w2.cell? ⟨w1.heap.size + 1, 1, none⟩ = some (.int .i64 a.no) := keepc' b2 (by go_simp)
  have hz2 : w1.heap.size + 1 < w2.heap.size := by have := b2.size; simp at this; omega
  have hz3 : w1.heap.size < w2.heap.size := by omega
  have b23 := bA (bA (Below.refl w2.heap.size w2) (.cells #[.int .i64 t.epoch, .int .i64 t.want] 43)) (.cells #[.int .i64 a.epoch, .int .i64 a.no] 69)
  have q1 := (((r1.below b12).any (by decide)).below b23).any (by decide)
  have q2 := (r2.below b23).any (by decide)
  have hl' : l.length ≤ 140737488355328 := by have : l.length ≤ 1 := hl; omega
  clear x0 x1 y0 y1 y2 y3
  go_wp2_with fail
  refine (sameMails_walk l _ A1 A2 k1 k2 q1 q2 hl').mono ?_
  rintro e w3 ⟨rfl, b3⟩
  go_wp2_with fail
  go_ret
  exact ⟨by simp, bT (bT (bT b01 b12) b23) b3⟩
end Go.Proofs.Ytblabipgehkllaa
