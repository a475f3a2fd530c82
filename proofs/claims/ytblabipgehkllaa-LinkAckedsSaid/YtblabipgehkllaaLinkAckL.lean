/- The statement on link.Acked. -/
import Derived.Test.YtblabipgehkllaaLinkAck
namespace Go.Proofs.Ytblabipgehkllaa
open Go.ChangeShapes Go.WideShapes Go.ChangeAt Go.RowKit
set_option linter.unusedVariables false
theorem ackV_len (s : Sender) (m : Ack) : (ackV s m).1.loads.length ≤ 5001 := by
  unfold ackV
  split
  · rename_i h
    have := senderB_of h
    split
    · split
      · simp; omega
      · simp [zeroSnd]
    · simp [zeroSnd]
  · simp [zeroSnd]
set_option maxHeartbeats 1000000 in
theorem law_LinkAckeds (w : World) (s : Sender) (A : Option Addr) (c : Nat) (he : I64 s.epoch) (hb : I64 s.base) (hf : Flat w w.heap.size 16 2 Mail.cells A c s.loads) (hw : ∀ x ∈ s.loads, x.wf) (m : Ack) (hm : m.wf) :
    Calls Try.prog 21 #[.agg #[.int .i64 s.epoch, .int .i64 s.base, .slice A s.loads.length c], .agg #[.int .i64 m.epoch, .int .i64 m.no]] w fun e w' => e = .returned (.bool true) ∧ Below w.heap.size w w' := by
  obtain ⟨f1, f2, f3, f4⟩ := hf
  clear hw he hb hm
  have h24 : s.loads.length * 16 ≤ 140737488355328 := by omega
  have hl : s.loads.length ≤ 140737488355328 := by omega
  have hlen := ackV_len s m
  have c1 := hid (acked_walk s m)
  have c2 := hid (linkAcked_walk s m)
  generalize ackV s m = z at c1 c2 hlen
  obtain ⟨t, r⟩ := z
  have b0 := bA (bA (Below.refl w.heap.size w) (.cells #[.int .i64 s.epoch, .int .i64 s.base, .slice A s.loads.length c] 41)) (.cells #[.int .i64 m.epoch, .int .i64 m.no] 69)
  go_enter Try.func21, Try.ntmps21
  go_wp2_with fail
  refine (senders_copy s _ A c ((f4.below b0).any (by decide)) h24).mono ?_
  rintro e w1 ⟨A1, k1, rfl, hle1, r1, b1⟩
  rw [sVal_eq]
  have b01 := bT b0 b1
  have hz0 : w.heap.size + 1 < w1.heap.size := by have := b1.size; simp at this; omega
  have x0 : w1.cell? ⟨w.heap.size, 0, none⟩ = some (.int .i64 s.epoch) := keepc b1 (by go_simp)
  have x1 : w1.cell? ⟨w.heap.size, 1, none⟩ = some (.int .i64 s.base) := keepc b1 (by go_simp)
  have x2 : w1.cell? ⟨w.heap.size, 2, none⟩ = some (.slice A s.loads.length c) := keepc b1 (by go_simp)
  have m0 : w1.cell? ⟨w.heap.size + 1, 0, none⟩ = some (.int .i64 m.epoch) := keepc b1 (by go_simp)
  have m1 : w1.cell? ⟨w.heap.size + 1, 1, none⟩ = some (.int .i64 m.no) := keepc b1 (by go_simp)
  have hz00 : w.heap.size < w1.heap.size := by omega
  go_wp2_with fail
  refine (c1.out _ A1 k1 ((r1.alloc (Nat.le_refl _) _).any (by decide)) hle1).mono ?_
  rintro e w2 ⟨A2, k2, rfl, r2, b2⟩
  rw [sVal_eq]
  have b12 := bT (bA (Below.refl w1.heap.size w1) (.cells #[.int .i64 s.epoch, .int .i64 s.base, .slice A1 s.loads.length k1] 41)) b2
  have x0' := keepc b12 x0
  have x1' := keepc b12 x1
  have x2' := keepc b12 x2
  have m0' := keepc b12 m0
  have m1' := keepc b12 m1
  have y0 : w2.cell? ⟨w1.heap.size, 0, none⟩ = some (.int .i64 s.epoch) := keepc b2 (by go_simp)
  have y1 : w2.cell? ⟨w1.heap.size, 1, none⟩ = some (.int .i64 s.base) := keepc b2 (by go_simp)
  have y2 : w2.cell? ⟨w1.heap.size, 2, none⟩ = some (.slice A1 s.loads.length k1) := keepc b2 (by go_simp)
  have b02 := bT b01 b12
  have hz2 : w1.heap.size < w2.heap.size := by have := b2.size; simp at this; omega
  have hz02 : w.heap.size < w2.heap.size := by omega
  have hz03 : w.heap.size + 1 < w2.heap.size := by omega
  go_wp2_with fail
  refine (c2.out _ A c (((f4.below b02).any (by decide)).alloc (Nat.le_refl _) _ |>.any (by decide)) f1).mono ?_
  rintro e w3 ⟨A3, k3, rfl, r3, b3⟩
  rw [sVal_eq]
  have b23 := bT (bA (Below.refl w2.heap.size w2) (.cells #[.int .i64 t.epoch, .int .i64 t.base, .slice A2 t.loads.length k2] 41)) b3
  have x0'' := keepc b23 x0'
  have x1'' := keepc b23 x1'
  have x2'' := keepc b23 x2'
  have y0' := keepc b23 y0
  have y1' := keepc b23 y1
  have y2' := keepc b23 y2
  have t0 : w3.cell? ⟨w2.heap.size, 0, none⟩ = some (.int .i64 t.epoch) := keepc b3 (by go_simp)
  have t1 : w3.cell? ⟨w2.heap.size, 1, none⟩ = some (.int .i64 t.base) := keepc b3 (by go_simp)
  have t2 : w3.cell? ⟨w2.heap.size, 2, none⟩ = some (.slice A2 t.loads.length k2) := keepc b3 (by go_simp)
  have b03 := bT b02 b23
  have b13 := bT b12 b23
  have hz3 : w2.heap.size < w3.heap.size := by have := b3.size; simp at this; omega
  have hz13 : w1.heap.size < w3.heap.size := by omega
  have hz04 : w.heap.size < w3.heap.size := by omega
  clear x0 x1 x2 x0' x1' x2' y0 y1 y2 m0 m1 m0' m1'
  have bq := bA (Below.refl w3.heap.size w3) (.cells #[.int .i64 t.epoch, .int .i64 t.base, .slice A3 t.loads.length k3] 41)
  go_wp2_with fail
  refine (sameSender_walk t _ A2 A3 k2 k3 (((r2.below b23).any (by decide)).below bq |>.any (by decide)) ((r3.below bq).any (by decide)) (by have : t.loads.length ≤ 5001 := hlen; omega)).mono ?_
  rintro e w4 ⟨rfl, b4⟩
  have b34 := bT bq b4
  have p0 := keepc b34 x0''
  have p1 := keepc b34 x1''
  have p2 := keepc b34 x2''
  have q0 := keepc b34 y0'
  have q1 := keepc b34 y1'
  have q2 := keepc b34 y2'
  have b04 := bT b03 b34
  have b14 := bT b13 b34
  clear x0'' x1'' x2'' y0' y1' y2' t0 t1 t2
  go_wp2_with fail
  refine (sameSender_walk s _ A1 A k1 c ((r1.below b14).any (by decide)) ((f4.below b04).any (by decide)) hl).mono ?_
  rintro e w5 ⟨rfl, b5⟩
  go_wp2_with fail
  go_ret
  exact ⟨rfl, bT b04 b5⟩
end Go.Proofs.Ytblabipgehkllaa
