/- link.Acked: an ack of a number that was not sent. -/
import Derived.Test.YtblabipgehkllaaLinkAckR
import Derived.Test.YtblabipgehkllaaLibC
import Derived.Deep.RegionHeld3
namespace Go.Proofs.Ytblabipgehkllaa
open Go.ChangeShapes Go.WideShapes Go.ChangeAt Go.RowKit
set_option linter.unusedVariables false
set_option maxHeartbeats 2000000 in
theorem acked_high (e b : Int) (an : Int) (l : List Mail) (w : World) (A : Option Addr) (c : Nat) (hr : Rd w w.heap.size A 2 l.length (l.flatMap Mail.cells)) (hlc : l.length ≤ c) (hS : senderB e b l.length = true) (hd1 : 0 ≤ an) (hd2 : b + ((min l.length 4 : Nat) : Int) < an) :
    Calls Try.prog 67 #[.agg #[.int .i64 e, .int .i64 b, .slice A l.length c], .agg #[.int .i64 e, .int .i64 an]] w (RetSnd w zeroSnd 2) := by
  have b0 := bA (bA (bA (Below.refl w.heap.size w) (.cells #[.int .i64 e, .int .i64 b, .slice A l.length c] 41)) (.cells #[.int .i64 e, .int .i64 an] 69)) (.cells #[.int .i64 0, .int .i64 0, .slice none 0 0] 41)
  have r0 := (hr.below b0).any (by decide)
  obtain ⟨h1, h2, h3, h4, h5⟩ := senderB_of hS
  have HS := hid hS
  clear hS
  have hK1 : min l.length 4 ≤ l.length := Nat.min_le_left _ _
  have hK4 : min l.length 4 ≤ 4 := Nat.min_le_right _ _
  have hfl := hid (fun w => flying_walk e b A l.length c w)
  generalize min l.length 4 = K at *
  have hwr : IntKind.i64.wrap (b + (K : Int)) = b + (K : Int) := IntWalk.i64_in _ (by omega)
  have hlt : decide (an < 0) = false := by simpa using hd1
  have hgt : decide (b + (K : Int) < an) = true := by simpa using hd2
  go_enter Try.func67, Try.ntmps67
  go_wp2_with fail
  refine (sender_walk e b A l.length c _).mono ?_
  rintro r w1 ⟨rfl, b1⟩
  rw [HS.out]
  have s0 : w1.cell? ⟨w.heap.size, 0, none⟩ = some (.int .i64 e) := keepc b1 (by go_simp)
  have s1 : w1.cell? ⟨w.heap.size, 1, none⟩ = some (.int .i64 b) := keepc b1 (by go_simp)
  have s2 : w1.cell? ⟨w.heap.size, 2, none⟩ = some (.slice A l.length c) := keepc b1 (by go_simp)
  have m0 : w1.cell? ⟨w.heap.size + 1, 0, none⟩ = some (.int .i64 e) := keepc b1 (by go_simp)
  have m1 : w1.cell? ⟨w.heap.size + 1, 1, none⟩ = some (.int .i64 an) := keepc b1 (by go_simp)
  have z0 : w1.cell? ⟨w.heap.size + 2, 0, none⟩ = some (.int .i64 0) := keepc b1 (by go_simp)
  have z1 : w1.cell? ⟨w.heap.size + 2, 1, none⟩ = some (.int .i64 0) := keepc b1 (by go_simp)
  have z2 : w1.cell? ⟨w.heap.size + 2, 2, none⟩ = some (.slice none 0 0) := keepc b1 (by go_simp)
  have hf : ∀ o, w1.frozen? ⟨w.heap.size + 2, o, none⟩ = false := fun o => by rw [(bcell b1).2 _ _ (by simp)]; go_simp
  have hz1 : w.heap.size + 2 < w1.heap.size := by have := b1.size; simp at this; omega
  have hz0 : w.heap.size + 1 < w1.heap.size := by omega
  have hz00 : w.heap.size < w1.heap.size := by omega
  go_wp2_with fail
  go_region_held3 (fun w' => w'.cell? ⟨w.heap.size, 0, none⟩ = some (.int .i64 e) ∧ w'.cell? ⟨w.heap.size, 1, none⟩ = some (.int .i64 b) ∧ w'.cell? ⟨w.heap.size, 2, none⟩ = some (.slice A l.length c) ∧ w'.cell? ⟨w.heap.size + 1, 1, none⟩ = some (.int .i64 an)) (first | exact ⟨s0', s1', s2', m1'⟩ | go_keep) ((go_at_call 79; refine (hfl.out _).mono ?_; rintro r w3 ⟨rfl, b3⟩; have bq : Below w1.heap.size w1 w3 := bT (bD (Below.refl w1.heap.size w1)) b3; have s0' := keepc bq s0; have s1' := keepc bq s1; have s2' := keepc bq s2; have m0' := keepc bq m0; have m1' := keepc bq m1; have z0' := keepc bq z0; have z1' := keepc bq z1; have z2' := keepc bq z2; have hf3 : ∀ o, w3.frozen? ⟨w.heap.size + 2, o, none⟩ = false := fun o => (bq.frozen (p := ⟨w.heap.size + 2, o, none⟩) hz1).trans (hf o)))
  all_goals
    go_wp2_with fail
    exact bodyPost_ret (v := .tuple #[.agg #[.int .i64 0, .int .i64 0, .slice none 0 0], .int .i64 2]) (by simp [results, Try.results67, go_sem, *]) rfl (retSnd_zero _ _ _ (bS (bS (bS (bT (bT b0 b1) bq) (by simp; try omega) _) (by simp; try omega) _) (by simp; try omega) _))
end Go.Proofs.Ytblabipgehkllaa
