/- link.Acked: an ack that takes packets off. -/
import Derived.Test.YtblabipgehkllaaLinkAckR
import Derived.Test.YtblabipgehkllaaLibD
import Derived.Deep.RegionHeld3
namespace Go.Proofs.Ytblabipgehkllaa
open Go.ChangeShapes Go.WideShapes Go.ChangeAt Go.RowKit
set_option linter.unusedVariables false
set_option maxHeartbeats 2000000 in
theorem acked_gone1 (e b : Int) (g : Nat) (l : List Mail) (w : World) (A : Option Addr) (c : Nat) (hr : Rd w w.heap.size A 2 l.length (l.flatMap Mail.cells)) (hlc : l.length ≤ c) (hS : senderB e b l.length = true) (hg : g ≤ min l.length 4) (hcg : ¬ c = g) :
    Calls Try.prog 67 #[.agg #[.int .i64 e, .int .i64 b, .slice A l.length c], .agg #[.int .i64 e,   .int .i64 (b + (g : Int))]] w (RetSnd w ⟨e, b + (g : Int), l.drop g⟩ 0) := by
  have b0 := bA (bA (bA (Below.refl w.heap.size w) (.cells #[.int .i64 e, .int .i64 b, .slice A l.length c] 41)) (.cells #[.int .i64 e,   .int .i64 (b + (g : Int))] 69)) (.cells #[.int .i64 0, .int .i64 0, .slice none 0 0] 41)
  have r0 := (hr.below b0).any (by decide)
  obtain ⟨h1, h2, h3, h4, h5⟩ := senderB_of hS
  have HS := hid hS
  clear hS
  have hK1 : min l.length 4 ≤ l.length := Nat.min_le_left _ _
  have hK4 : min l.length 4 ≤ 4 := Nat.min_le_right _ _
  have hfl := hid (fun w => flying_walk e b A l.length c w)
  generalize min l.length 4 = K at *
  have hwr : IntKind.i64.wrap (b + (K : Int)) = b + (K : Int) := IntWalk.i64_in _ (by omega)
  have hlt : decide (b + (g : Int) < 0) = false := by simp; omega
  have hgt : decide (b + (K : Int) < b + (g : Int)) = false := by simp; omega
  have hbg : b + (g : Int) - b = (g : Int) := by omega
  have HC : Hid (∀ w', Below w.heap.size w w' → c ≠ g → Rd w' w'.heap.size (Option.map (fun x => x.add (g * 2)) A) 2 (l.length - g) ((l.drop g).flatMap Mail.cells)) := hid (fun w' hb hcg => by
    have h := (hr.below hb).cut (k := g) (cap := c) (by omega) hlc
    rw [if_neg hcg, drop_flat (cells := Mail.cells) (sz := 2) (fun _ => rfl)] at h
    exact h.any (by decide))
  have HC0 : Hid (∀ w', Below w.heap.size w w' → c = g → Rd w' w'.heap.size A 2 (l.length - g) ((l.drop g).flatMap Mail.cells)) := hid (fun w' hb hcg => by
    have h := (hr.below hb).cut (k := g) (cap := c) (by omega) hlc
    rw [if_pos hcg, drop_flat (cells := Mail.cells) (sz := 2) (fun _ => rfl)] at h
    exact h.any (by decide))
  have h16 := hid (show (l.length - g) * 16 ≤ 140737488355328 by omega)
  go_enter Try.func67, Try.ntmps67
  go_wp2_with fail
  refine (sender_walk e b A l.length c _).mono ?_
  rintro r w1 ⟨rfl, b1⟩
  rw [HS.out]
  have s0 : w1.cell? ⟨w.heap.size, 0, none⟩ = some (.int .i64 e) := keepc b1 (by go_simp)
  have s1 : w1.cell? ⟨w.heap.size, 1, none⟩ = some (.int .i64 b) := keepc b1 (by go_simp)
  have s2 : w1.cell? ⟨w.heap.size, 2, none⟩ = some (.slice A l.length c) := keepc b1 (by go_simp)
  have m0 : w1.cell? ⟨w.heap.size + 1, 0, none⟩ = some (.int .i64 e) := keepc b1 (by go_simp)
  have m1 : w1.cell? ⟨w.heap.size + 1, 1, none⟩ = some (.int .i64 (b + (g : Int))) := keepc b1 (by go_simp)
  have z0 : w1.cell? ⟨w.heap.size + 2, 0, none⟩ = some (.int .i64 0) := keepc b1 (by go_simp)
  have z1 : w1.cell? ⟨w.heap.size + 2, 1, none⟩ = some (.int .i64 0) := keepc b1 (by go_simp)
  have z2 : w1.cell? ⟨w.heap.size + 2, 2, none⟩ = some (.slice none 0 0) := keepc b1 (by go_simp)
  have hf : ∀ o, w1.frozen? ⟨w.heap.size + 2, o, none⟩ = false := fun o => by rw [(bcell b1).2 _ _ (by simp)]; go_simp
  have hz1 : w.heap.size + 2 < w1.heap.size := by have := b1.size; simp at this; omega
  have hz0 : w.heap.size + 1 < w1.heap.size := by omega
  have hz00 : w.heap.size < w1.heap.size := by omega
  go_wp2_with fail
  go_region_held3 (fun w' => w'.cell? ⟨w.heap.size, 0, none⟩ = some (.int .i64 e) ∧ w'.cell? ⟨w.heap.size, 1, none⟩ = some (.int .i64 b) ∧ w'.cell? ⟨w.heap.size, 2, none⟩ = some (.slice A l.length c) ∧ w'.cell? ⟨w.heap.size + 1, 1, none⟩ = some (.int .i64 (b + (g : Int)))) (first | exact ⟨s0', s1', s2', m1'⟩ | go_keep) ((go_at_call 79; refine (hfl.out _).mono ?_; rintro r w3 ⟨rfl, b3⟩; have bq : Below w1.heap.size w1 w3 := bT (bD (Below.refl w1.heap.size w1)) b3; have s0' := keepc bq s0; have s1' := keepc bq s1; have s2' := keepc bq s2; have m0' := keepc bq m0; have m1' := keepc bq m1; have z0' := keepc bq z0; have z1' := keepc bq z1; have z2' := keepc bq z2; have hf3 : ∀ o, w3.frozen? ⟨w.heap.size + 2, o, none⟩ = false := fun o => (bq.frozen (p := ⟨w.heap.size + 2, o, none⟩) hz1).trans (hf o)))
  all_goals
    have b3w := bT (bT b0 b1) bq
    go_wp2_with fail
    refine (clone_walk (l.drop g) _ (l.length - g) _ _ _ (HC.out _ b3w hcg) h16.out).mono ?_
    rintro r w4 ⟨A2, q2, rfl, o2, b4⟩
    have s0'' := keepb b4 s0'
    have s1'' := keepb b4 s1'
    have s2'' := keepb b4 s2'
    have z0'' := keepb b4 z0'
    have z1'' := keepb b4 z1'
    have z2'' := keepb b4 z2'
    have hf4 : ∀ o, w4.frozen? ⟨w.heap.size + 2, o, none⟩ = false := fun o => (b4.frozen (p := ⟨w.heap.size + 2, o, none⟩) (by have := bq.size; simp; omega)).trans (hf3 o)
    have hf0 : ∀ o, w4.frozen? ⟨w.heap.size, o, none⟩ = false := fun o => (((bT (bT b1 bq) b4).frozen (p := ⟨w.heap.size, o, none⟩) (by simp; omega))).trans (by go_simp)
    go_wp2_with fail
    have hzb := bq.size
    refine bodyPost_ret (v := .tuple #[.agg #[.int .i64 e, .int .i64 (b + (g : Int)), .slice A2 (l.length - g) q2], .int .i64 0]) (by simp [results, Try.results67, go_sem, *]) rfl ⟨A2, q2, by simp [sVal], ?_, ?_⟩
    · rw [List.length_drop]
      refine rd_own (e := 65) (base := w3.heap.size) (c := q2) ?_
      repeat (with_reducible refine ownsRow_setCell_below ?_ (by simp; omega) _)
      exact o2
    · repeat (with_reducible refine bS ?_ (by simp; try omega) _)
      exact bT (bT (bT b0 b1) bq) b4
set_option maxHeartbeats 2000000 in
theorem acked_gone0 (e b : Int) (l : List Mail) (w : World) (A : Option Addr)  (hr : Rd w w.heap.size A 2 l.length (l.flatMap Mail.cells)) (g : Nat) (hlc : l.length ≤ g) (hS : senderB e b l.length = true) (hg : g ≤ min l.length 4) :
    Calls Try.prog 67 #[.agg #[.int .i64 e, .int .i64 b, .slice A l.length g], .agg #[.int .i64 e,   .int .i64 (b + (g : Int))]] w (RetSnd w ⟨e, b + (g : Int), l.drop g⟩ 0) := by
  rw [List.drop_eq_nil_of_le hlc]
  have b0 := bA (bA (bA (Below.refl w.heap.size w) (.cells #[.int .i64 e, .int .i64 b, .slice A l.length g] 41)) (.cells #[.int .i64 e,   .int .i64 (b + (g : Int))] 69)) (.cells #[.int .i64 0, .int .i64 0, .slice none 0 0] 41)
  have r0 := (hr.below b0).any (by decide)
  obtain ⟨h1, h2, h3, h4, h5⟩ := senderB_of hS
  have HS := hid hS
  clear hS
  have hK1 : min l.length 4 ≤ l.length := Nat.min_le_left _ _
  have hK4 : min l.length 4 ≤ 4 := Nat.min_le_right _ _
  have hfl := hid (fun w => flying_walk e b A l.length g w)
  generalize min l.length 4 = K at *
  have hwr : IntKind.i64.wrap (b + (K : Int)) = b + (K : Int) := IntWalk.i64_in _ (by omega)
  have hlt : decide (b + (g : Int) < 0) = false := by simp; omega
  have hgt : decide (b + (K : Int) < b + (g : Int)) = false := by simp; omega
  have hbg : b + (g : Int) - b = (g : Int) := by omega
  go_enter Try.func67, Try.ntmps67
  go_wp2_with fail
  refine (sender_walk e b A l.length g _).mono ?_
  rintro r w1 ⟨rfl, b1⟩
  rw [HS.out]
  have s0 : w1.cell? ⟨w.heap.size, 0, none⟩ = some (.int .i64 e) := keepc b1 (by go_simp)
  have s1 : w1.cell? ⟨w.heap.size, 1, none⟩ = some (.int .i64 b) := keepc b1 (by go_simp)
  have s2 : w1.cell? ⟨w.heap.size, 2, none⟩ = some (.slice A l.length g) := keepc b1 (by go_simp)
  have m0 : w1.cell? ⟨w.heap.size + 1, 0, none⟩ = some (.int .i64 e) := keepc b1 (by go_simp)
  have m1 : w1.cell? ⟨w.heap.size + 1, 1, none⟩ = some (.int .i64 (b + (g : Int))) := keepc b1 (by go_simp)
  have z0 : w1.cell? ⟨w.heap.size + 2, 0, none⟩ = some (.int .i64 0) := keepc b1 (by go_simp)
  have z1 : w1.cell? ⟨w.heap.size + 2, 1, none⟩ = some (.int .i64 0) := keepc b1 (by go_simp)
  have z2 : w1.cell? ⟨w.heap.size + 2, 2, none⟩ = some (.slice none 0 0) := keepc b1 (by go_simp)
  have hf : ∀ o, w1.frozen? ⟨w.heap.size + 2, o, none⟩ = false := fun o => by rw [(bcell b1).2 _ _ (by simp)]; go_simp
  have hz1 : w.heap.size + 2 < w1.heap.size := by have := b1.size; simp at this; omega
  have hz0 : w.heap.size + 1 < w1.heap.size := by omega
  have hz00 : w.heap.size < w1.heap.size := by omega
  go_wp2_with fail
  go_region_held3 (fun w' => w'.cell? ⟨w.heap.size, 0, none⟩ = some (.int .i64 e) ∧ w'.cell? ⟨w.heap.size, 1, none⟩ = some (.int .i64 b) ∧ w'.cell? ⟨w.heap.size, 2, none⟩ = some (.slice A l.length g) ∧ w'.cell? ⟨w.heap.size + 1, 1, none⟩ = some (.int .i64 (b + (g : Int)))) (first | exact ⟨s0', s1', s2', m1'⟩ | go_keep) ((go_at_call 79; refine (hfl.out _).mono ?_; rintro r w3 ⟨rfl, b3⟩; have bq : Below w1.heap.size w1 w3 := bT (bD (Below.refl w1.heap.size w1)) b3; have s0' := keepc bq s0; have s1' := keepc bq s1; have s2' := keepc bq s2; have m0' := keepc bq m0; have m1' := keepc bq m1; have z0' := keepc bq z0; have z1' := keepc bq z1; have z2' := keepc bq z2; have hf3 : ∀ o, w3.frozen? ⟨w.heap.size + 2, o, none⟩ = false := fun o => (bq.frozen (p := ⟨w.heap.size + 2, o, none⟩) hz1).trans (hf o)))
  all_goals
    have b3w := bT (bT b0 b1) bq
    go_wp2_with fail
    refine (clone_walk [] A 0 0 w3.heap.size _ Rd.nil_ (by decide)).mono ?_
    rintro r w4 ⟨A2, q2, rfl, o2, b4⟩
    have s0'' := keepb b4 s0'
    have s1'' := keepb b4 s1'
    have s2'' := keepb b4 s2'
    have z0'' := keepb b4 z0'
    have z1'' := keepb b4 z1'
    have z2'' := keepb b4 z2'
    have hf4 : ∀ o, w4.frozen? ⟨w.heap.size + 2, o, none⟩ = false := fun o => (b4.frozen (p := ⟨w.heap.size + 2, o, none⟩) (by have := bq.size; simp; omega)).trans (hf3 o)
    have hf0 : ∀ o, w4.frozen? ⟨w.heap.size, o, none⟩ = false := fun o => (((bT (bT b1 bq) b4).frozen (p := ⟨w.heap.size, o, none⟩) (by simp; omega))).trans (by go_simp)
    go_wp2_with fail
    have hzb := bq.size
    refine bodyPost_ret (v := .tuple #[.agg #[.int .i64 e, .int .i64 (b + (g : Int)), .slice A2 0 q2], .int .i64 0]) (by simp [results, Try.results67, go_sem, *]) rfl ⟨A2, q2, by simp [sVal], ?_, ?_⟩
    · refine rd_own (e := 65) (base := w3.heap.size) (c := q2) ?_
      repeat (with_reducible refine ownsRow_setCell_below ?_ (by simp; omega) _)
      exact o2
    · repeat (with_reducible refine bS ?_ (by simp; try omega) _)
      exact bT (bT (bT b0 b1) bq) b4
theorem acked_gone (e b : Int) (g : Nat) (l : List Mail) (w : World) (A : Option Addr) (c : Nat) (hr : Rd w w.heap.size A 2 l.length (l.flatMap Mail.cells)) (hlc : l.length ≤ c) (hS : senderB e b l.length = true) (hg : g ≤ min l.length 4) :
    Calls Try.prog 67 #[.agg #[.int .i64 e, .int .i64 b, .slice A l.length c], .agg #[.int .i64 e, .int .i64 (b + (g : Int))]] w (RetSnd w ⟨e, b + (g : Int), l.drop g⟩ 0) := by
  by_cases h : c = g
  · subst h; exact acked_gone0 e b l w A hr c hlc hS hg
  · exact acked_gone1 e b g l w A c hr hlc hS hg h
end Go.Proofs.Ytblabipgehkllaa
