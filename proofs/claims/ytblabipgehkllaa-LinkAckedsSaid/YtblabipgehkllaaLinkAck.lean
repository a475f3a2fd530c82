/- link.Acked. -/
import Derived.Test.YtblabipgehkllaaLinkAckA
import Derived.Test.YtblabipgehkllaaLinkAckB
import Derived.Test.YtblabipgehkllaaLinkAckC
import Derived.Test.YtblabipgehkllaaLinkAckD
namespace Go.Proofs.Ytblabipgehkllaa
open Go.ChangeShapes Go.WideShapes Go.ChangeAt Go.RowKit
set_option linter.unusedVariables false
set_option maxHeartbeats 4000000 in
theorem acked_walk (s : Sender) (a : Ack) (w : World) (A : Option Addr) (c : Nat) (hr : Rd w w.heap.size A 2 s.loads.length (s.loads.flatMap Mail.cells)) (hlc : s.loads.length ≤ c) :
    Calls Try.prog 67 #[sVal s A c, .agg #[.int .i64 a.epoch, .int .i64 a.no]] w (RetSnd w (ackV s a).1 (ackV s a).2) := by
  obtain ⟨e, b, l⟩ := s
  obtain ⟨ae, an⟩ := a
  unfold sVal ackV
  simp only at hr hlc ⊢
  have b0 := bA (bA (bA (Below.refl w.heap.size w) (.cells #[.int .i64 e, .int .i64 b, .slice A l.length c] 41)) (.cells #[.int .i64 ae, .int .i64 an] 69)) (.cells #[.int .i64 0, .int .i64 0, .slice none 0 0] 41)
  have r0 := (hr.below b0).any (by decide)
  cases hS : senderB e b l.length
  · rw [if_neg (by simp)]
    go_enter Try.func67, Try.ntmps67
    go_wp2_with fail
    refine (sender_walk e b A l.length c _).mono ?_
    rintro r w1 ⟨rfl, b1⟩
    rw [hS]
    have z0 : w1.cell? ⟨w.heap.size + 2, 0, none⟩ = some (.int .i64 0) := keepc b1 (by go_simp)
    have z1 : w1.cell? ⟨w.heap.size + 2, 1, none⟩ = some (.int .i64 0) := keepc b1 (by go_simp)
    have z2 : w1.cell? ⟨w.heap.size + 2, 2, none⟩ = some (.slice none 0 0) := keepc b1 (by go_simp)
    have hf : ∀ o, w1.frozen? ⟨w.heap.size + 2, o, none⟩ = false := fun o => by rw [(bcell b1).2 _ _ (by simp)]; go_simp
    go_wp2_with fail
    exact bodyPost_ret (v := .tuple #[.agg #[.int .i64 0, .int .i64 0, .slice none 0 0], .int .i64 9]) (by simp [results, Try.results67, go_sem, *]) rfl (retSnd_zero _ _ _ (bS (bS (bS (bT b0 b1) (by simp; try omega) _) (by simp; try omega) _) (by simp; try omega) _))
  · rw [if_pos rfl]
    obtain ⟨h1, h2, h3, h4, h5⟩ := senderB_of hS
    have HS := hid hS
    clear hS
    by_cases he : ae = e
    · subst he
      have hS := HS.out
      rw [if_pos rfl]
      have hd : an < 0 ∨ (0 ≤ an ∧ b + ((min l.length 4 : Nat) : Int) < an) ∨ (0 ≤ an ∧ an < b) ∨ (b ≤ an ∧ an ≤ b + ((min l.length 4 : Nat) : Int)) := by omega
      rcases hd with hd | ⟨hd1, hd2⟩ | ⟨hd1, hd2⟩ | ⟨hd1, hd2⟩
      · rw [if_neg (by simp [inB]; omega)]; exact acked_low ae b an l w A c hr hlc hS hd
      · rw [if_neg (by simp only [inB, decide_eq_true_eq]; omega)]; exact acked_high ae b an l w A c hr hlc hS hd1 hd2
      · rw [if_pos (by simp only [inB, decide_eq_true_eq]; omega)]
        have hg0 : (an - b).toNat = 0 := by omega
        rw [hg0]
        simp only [List.drop_zero, Int.natCast_zero, Int.add_zero]
        exact acked_stay ae b an l w A c hr hlc hS hd1 hd2
      · rw [if_pos (by simp only [inB, decide_eq_true_eq]; omega)]
        obtain ⟨g, rfl⟩ : ∃ g : Nat, an = b + (g : Int) := ⟨(an - b).toNat, by omega⟩
        have hgg : (b + (g : Int) - b).toNat = g := by omega
        rw [hgg]
        exact acked_gone ae b g l w A c hr hlc hS (by omega)
    · rw [if_neg he]
      go_enter Try.func67, Try.ntmps67
      go_wp2_with fail
      refine (sender_walk e b A l.length c _).mono ?_
      rintro r w1 ⟨rfl, b1⟩
      rw [HS.out]
      have s0 : w1.cell? ⟨w.heap.size, 0, none⟩ = some (.int .i64 e) := keepc b1 (by go_simp)
      have m0 : w1.cell? ⟨w.heap.size + 1, 0, none⟩ = some (.int .i64 ae) := keepc b1 (by go_simp)
      have z0 : w1.cell? ⟨w.heap.size + 2, 0, none⟩ = some (.int .i64 0) := keepc b1 (by go_simp)
      have z1 : w1.cell? ⟨w.heap.size + 2, 1, none⟩ = some (.int .i64 0) := keepc b1 (by go_simp)
      have z2 : w1.cell? ⟨w.heap.size + 2, 2, none⟩ = some (.slice none 0 0) := keepc b1 (by go_simp)
      have hf : ∀ o, w1.frozen? ⟨w.heap.size + 2, o, none⟩ = false := fun o => by rw [(bcell b1).2 _ _ (by simp)]; go_simp
      go_wp2_with fail
      exact bodyPost_ret (v := .tuple #[.agg #[.int .i64 0, .int .i64 0, .slice none 0 0], .int .i64 11]) (by simp [results, Try.results67, go_sem, *]) rfl (retSnd_zero _ _ _ (bS (bS (bS (bT b0 b1) (by simp; try omega) _) (by simp; try omega) _) (by simp; try omega) _))
end Go.Proofs.Ytblabipgehkllaa
