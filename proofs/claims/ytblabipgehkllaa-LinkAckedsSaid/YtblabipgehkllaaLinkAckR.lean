/- link.Acked's answer; the document's. -/
import Derived.Test.YtblabipgehkllaaLinkSend
import Derived.Deep.RegionHeld
namespace Go.Proofs.Ytblabipgehkllaa
open Go.ChangeShapes Go.WideShapes Go.ChangeAt Go.RowKit
set_option linter.unusedVariables false
def ackV (s : Sender) (a : Ack) : Sender × Int :=
  if senderB s.epoch s.base s.loads.length = true then
    (if a.epoch = s.epoch then
      (if inB a.no 0 (s.base + (min s.loads.length 4 : Nat)) = true then (⟨s.epoch, s.base + ((a.no - s.base).toNat : Int), s.loads.drop (a.no - s.base).toNat⟩, 0) else (zeroSnd, 2))
    else (zeroSnd, 11))
  else (zeroSnd, 9)
set_option maxHeartbeats 4000000 in
theorem linkAcked_walk (s : Sender) (a : Ack) (w : World) (A : Option Addr) (c : Nat) (hr : Rd w w.heap.size A 2 s.loads.length (s.loads.flatMap Mail.cells)) (hlc : s.loads.length ≤ c) :
    Calls Try.prog 68 #[sVal s A c, .agg #[.int .i64 a.epoch, .int .i64 a.no]] w (RetSnd w (ackV s a).1 (ackV s a).2) := by
  obtain ⟨e, b, l⟩ := s
  obtain ⟨ae, an⟩ := a
  have hdue := hid (linkDue_walk ⟨e, b, l⟩)
  unfold sVal at hdue
  unfold sVal ackV
  simp only at hr hlc hdue ⊢
  have b0 := bA (bA (bA (Below.refl w.heap.size w) (.cells #[.int .i64 e, .int .i64 b, .slice A l.length c] 41)) (.cells #[.int .i64 ae, .int .i64 an] 69)) (.cells #[.int .i64 0, .int .i64 0, .slice none 0 0] 41)
  have r0 := (hr.below b0).any (by decide)
  cases hS : senderB e b l.length
  · have HD : dueV ⟨e, b, l⟩ = ([], 9) := by simp [dueV, hS]
    rw [HD] at hdue
    rw [if_neg (by simp)]
    go_enter Try.func68, Try.ntmps68
    go_wp2_with fail
    refine (hdue.out _ A c r0 hlc).mono ?_
    rintro r w1 ⟨A1, k1, rfl, o1, b1⟩
    have z0 : w1.cell? ⟨w.heap.size + 2, 0, none⟩ = some (.int .i64 0) := keepc b1 (by go_simp)
    have z1 : w1.cell? ⟨w.heap.size + 2, 1, none⟩ = some (.int .i64 0) := keepc b1 (by go_simp)
    have z2 : w1.cell? ⟨w.heap.size + 2, 2, none⟩ = some (.slice none 0 0) := keepc b1 (by go_simp)
    have hf : ∀ o, w1.frozen? ⟨w.heap.size + 2, o, none⟩ = false := fun o => by rw [(bcell b1).2 _ _ (by simp)]; go_simp
    go_wp2_with fail
    exact bodyPost_ret (v := .tuple #[.agg #[.int .i64 0, .int .i64 0, .slice none 0 0], .int .i64 9]) (by simp [results, Try.results68, go_sem, *]) rfl (retSnd_zero _ _ _ (bS (bS (bS (bT b0 b1) (by simp; try omega) _) (by simp; try omega) _) (by simp; try omega) _))
  · rw [if_pos rfl]
    obtain ⟨h1, h2, h3, h4, h5⟩ := senderB_of hS
    have hK1 : min l.length 4 ≤ l.length := Nat.min_le_left _ _
    have hK4 : min l.length 4 ≤ 4 := Nat.min_le_right _ _
    have HD : dueV ⟨e, b, l⟩ = (pkL e b l (min l.length 4), 0) := by simp [dueV, hS]
    have HL : (pkL e b l (min l.length 4)).length = min l.length 4 := by simp [pkL]
    rw [HD] at hdue
    simp only [HL] at hdue
    clear HD HL hS
    generalize min l.length 4 = K at *
    generalize pkL e b l K = pl at *
    by_cases he : ae = e
    · subst he
      rw [if_pos rfl]
      have hwr : IntKind.i64.wrap (b + (K : Int)) = b + (K : Int) := IntWalk.i64_in _ (by omega)
      cases hI : inB an 0 (b + (K : Int))
      · rw [if_neg (by simp)]
        go_enter Try.func68, Try.ntmps68
        go_wp2_with fail
        refine (hdue.out _ A c r0 hlc).mono ?_
        rintro r w1 ⟨A1, k1, rfl, o1, b1⟩
        have s0 : w1.cell? ⟨w.heap.size, 0, none⟩ = some (.int .i64 ae) := keepc b1 (by go_simp)
        have s1 : w1.cell? ⟨w.heap.size, 1, none⟩ = some (.int .i64 b) := keepc b1 (by go_simp)
        have m0 : w1.cell? ⟨w.heap.size + 1, 0, none⟩ = some (.int .i64 ae) := keepc b1 (by go_simp)
        have m1 : w1.cell? ⟨w.heap.size + 1, 1, none⟩ = some (.int .i64 an) := keepc b1 (by go_simp)
        have z0 : w1.cell? ⟨w.heap.size + 2, 0, none⟩ = some (.int .i64 0) := keepc b1 (by go_simp)
        have z1 : w1.cell? ⟨w.heap.size + 2, 1, none⟩ = some (.int .i64 0) := keepc b1 (by go_simp)
        have z2 : w1.cell? ⟨w.heap.size + 2, 2, none⟩ = some (.slice none 0 0) := keepc b1 (by go_simp)
        have hf : ∀ o, w1.frozen? ⟨w.heap.size + 2, o, none⟩ = false := fun o => by rw [(bcell b1).2 _ _ (by simp)]; go_simp
        go_wp2_with fail
        refine (In_walk _ _ _ _).mono ?_
        rintro r w2 ⟨rfl, rfl⟩
        rw [hI]
        go_wp2_with fail
        exact bodyPost_ret (v := .tuple #[.agg #[.int .i64 0, .int .i64 0, .slice none 0 0], .int .i64 2]) (by simp [results, Try.results68, go_sem, *]) rfl (retSnd_zero _ _ _ (bS (bS (bS (bT b0 b1) (by simp; try omega) _) (by simp; try omega) _) (by simp; try omega) _))
      · rw [if_pos rfl]
        have HI : 0 ≤ an ∧ an ≤ b + (K : Int) := by simpa [inB] using hI
        obtain ⟨i1, i2⟩ := HI
        by_cases hg : an ≤ b
        · have hg0 : (an - b).toNat = 0 := by omega
          rw [hg0]
          simp only [List.drop_zero, Int.add_zero, Int.cast_ofNat_Int]
          go_enter Try.func68, Try.ntmps68
          go_wp2_with fail
          refine (hdue.out _ A c r0 hlc).mono ?_
          rintro r w1 ⟨A1, k1, rfl, o1, b1⟩
          have s0 : w1.cell? ⟨w.heap.size, 0, none⟩ = some (.int .i64 ae) := keepc b1 (by go_simp)
          have s1 : w1.cell? ⟨w.heap.size, 1, none⟩ = some (.int .i64 b) := keepc b1 (by go_simp)
          have s2 : w1.cell? ⟨w.heap.size, 2, none⟩ = some (.slice A l.length c) := keepc b1 (by go_simp)
          have m0 : w1.cell? ⟨w.heap.size + 1, 0, none⟩ = some (.int .i64 ae) := keepc b1 (by go_simp)
          have m1 : w1.cell? ⟨w.heap.size + 1, 1, none⟩ = some (.int .i64 an) := keepc b1 (by go_simp)
          have z0 : w1.cell? ⟨w.heap.size + 2, 0, none⟩ = some (.int .i64 0) := keepc b1 (by go_simp)
          have z1 : w1.cell? ⟨w.heap.size + 2, 1, none⟩ = some (.int .i64 0) := keepc b1 (by go_simp)
          have z2 : w1.cell? ⟨w.heap.size + 2, 2, none⟩ = some (.slice none 0 0) := keepc b1 (by go_simp)
          have hf : ∀ o, w1.frozen? ⟨w.heap.size + 2, o, none⟩ = false := fun o => by rw [(bcell b1).2 _ _ (by simp)]; go_simp
          have hz1 : w.heap.size + 2 < w1.heap.size := by have := b1.size; simp at this; omega
          have hz0 : w.heap.size < w1.heap.size := by omega
          have r1 := (r0.below b1).any (by decide)
          have hmf := hid (mailsFrom_walk l A l.length c 0 w1.drew (by exact r1.drew) (by omega) (by omega) rfl)
          go_wp2_with fail
          refine (In_walk _ _ _ _).mono ?_
          rintro r w2 ⟨rfl, rfl⟩
          rw [hI]
          go_wp2_with fail
          go_region_held (fun w' => w'.cell? ⟨w.heap.size, 0, none⟩ = some (.int .i64 ae) ∧ w'.cell? ⟨w.heap.size, 1, none⟩ = some (.int .i64 b) ∧ w'.cell? ⟨w.heap.size, 2, none⟩ = some (.slice A l.length c) ∧ w'.cell? ⟨w.heap.size + 1, 0, none⟩ = some (.int .i64 ae) ∧ w'.cell? ⟨w.heap.size + 1, 1, none⟩ = some (.int .i64 an)) (first | exact ⟨s0', s1', s2', m0', m1'⟩ | (refine ⟨?_, ?_, ?_, ?_, ?_⟩ <;> exact (World.cell?_setCell_far _ _ _ _ (by simp <;> omega)).trans ((World.cell?_setCell_far _ _ _ _ (by simp <;> omega)).trans ((World.cell?_setCell_far _ _ _ _ (by simp <;> omega)).trans (by assumption)))) | go_keep) ((go_at_call 82; refine hmf.out.mono ?_; rintro r w3 ⟨A3, q3, rfl, o3, b3⟩; have bq : Below w1.heap.size w1 w3 := bT (bD (Below.refl w1.heap.size w1)) b3; have s0' := keepc bq s0; have s1' := keepc bq s1; have s2' := keepc bq s2; have m0' := keepc bq m0; have m1' := keepc bq m1; have z0' := keepc bq z0; have z1' := keepc bq z1; have z2' := keepc bq z2; have hf3 : ∀ o, w3.frozen? ⟨w.heap.size + 2, o, none⟩ = false := fun o => (bq.frozen (p := ⟨w.heap.size + 2, o, none⟩) hz1).trans (hf o)))
          all_goals
            go_wp2
            refine bodyPost_ret (v := .tuple #[.agg #[.int .i64 ae, .int .i64 b, .slice A3 l.length q3], .int .i64 0]) (by simp [results, Try.results68, go_sem, *]) rfl ?_
            have o4 : w3.ownsRow w1.heap.size 65 2 (.slice A3 l.length q3) l.length (l.flatMap Mail.cells) := by first | (rw [List.drop_zero] at o3; exact o3) | exact o3
            exact ⟨A3, q3, rfl, rd_own (ownsRow_setCell_below (ownsRow_setCell_below (ownsRow_setCell_below o4 hz1 _) hz1 _) hz1 _), bS (bS (bS (bT (bT b0 b1) bq) (by simp; try omega) _) (by simp; try omega) _) (by simp; try omega) _⟩
        · obtain ⟨g, rfl⟩ : ∃ g : Nat, an = b + (g : Int) := ⟨(an - b).toNat, by omega⟩
          have hgg : (b + (g : Int) - b).toNat = g := by omega
          rw [hgg]
          have hw2 : IntKind.i64.wrap (b + (g : Int) - b) = (g : Int) := by rw [show b + (g : Int) - b = (g : Int) by omega]; exact IntWalk.i64_in _ (by omega)
          have hw3 : IntKind.i64.wrap (g : Int) = (g : Int) := IntWalk.i64_in _ (by omega)
          go_enter Try.func68, Try.ntmps68
          go_wp2_with fail
          refine (hdue.out _ A c r0 hlc).mono ?_
          rintro r w1 ⟨A1, k1, rfl, o1, b1⟩
          have s0 : w1.cell? ⟨w.heap.size, 0, none⟩ = some (.int .i64 ae) := keepc b1 (by go_simp)
          have s1 : w1.cell? ⟨w.heap.size, 1, none⟩ = some (.int .i64 b) := keepc b1 (by go_simp)
          have s2 : w1.cell? ⟨w.heap.size, 2, none⟩ = some (.slice A l.length c) := keepc b1 (by go_simp)
          have m0 : w1.cell? ⟨w.heap.size + 1, 0, none⟩ = some (.int .i64 ae) := keepc b1 (by go_simp)
          have m1 : w1.cell? ⟨w.heap.size + 1, 1, none⟩ = some (.int .i64 (b + (g : Int))) := keepc b1 (by go_simp)
          have z0 : w1.cell? ⟨w.heap.size + 2, 0, none⟩ = some (.int .i64 0) := keepc b1 (by go_simp)
          have z1 : w1.cell? ⟨w.heap.size + 2, 1, none⟩ = some (.int .i64 0) := keepc b1 (by go_simp)
          have z2 : w1.cell? ⟨w.heap.size + 2, 2, none⟩ = some (.slice none 0 0) := keepc b1 (by go_simp)
          have hf : ∀ o, w1.frozen? ⟨w.heap.size + 2, o, none⟩ = false := fun o => by rw [(bcell b1).2 _ _ (by simp)]; go_simp
          have hz1 : w.heap.size + 2 < w1.heap.size := by have := b1.size; simp at this; omega
          have hz0 : w.heap.size < w1.heap.size := by omega
          have r1 := (r0.below b1).any (by decide)
          have hmf := hid (mailsFrom_walk l A l.length c g w1.drew (by exact r1.drew) (by omega) (by omega) rfl)
          go_wp2_with fail
          refine (In_walk _ _ _ _).mono ?_
          rintro r w2 ⟨rfl, rfl⟩
          rw [hI]
          go_wp2_with fail
          go_region_held (fun w' => w'.cell? ⟨w.heap.size, 0, none⟩ = some (.int .i64 ae) ∧ w'.cell? ⟨w.heap.size, 1, none⟩ = some (.int .i64 b) ∧ w'.cell? ⟨w.heap.size, 2, none⟩ = some (.slice A l.length c) ∧ w'.cell? ⟨w.heap.size + 1, 0, none⟩ = some (.int .i64 ae) ∧ w'.cell? ⟨w.heap.size + 1, 1, none⟩ = some (.int .i64 (b + (g : Int)))) (first | exact ⟨s0', s1', s2', m0', m1'⟩ | (refine ⟨?_, ?_, ?_, ?_, ?_⟩ <;> exact (World.cell?_setCell_far _ _ _ _ (by simp <;> omega)).trans ((World.cell?_setCell_far _ _ _ _ (by simp <;> omega)).trans ((World.cell?_setCell_far _ _ _ _ (by simp <;> omega)).trans (by assumption)))) | go_keep) ((go_at_call 82; refine hmf.out.mono ?_; rintro r w3 ⟨A3, q3, rfl, o3, b3⟩; have bq : Below w1.heap.size w1 w3 := bT (bD (Below.refl w1.heap.size w1)) b3; have s0' := keepc bq s0; have s1' := keepc bq s1; have s2' := keepc bq s2; have m0' := keepc bq m0; have m1' := keepc bq m1; have z0' := keepc bq z0; have z1' := keepc bq z1; have z2' := keepc bq z2; have hf3 : ∀ o, w3.frozen? ⟨w.heap.size + 2, o, none⟩ = false := fun o => (bq.frozen (p := ⟨w.heap.size + 2, o, none⟩) hz1).trans (hf o)))
          all_goals
            go_wp2
            refine bodyPost_ret (v := .tuple #[.agg #[.int .i64 ae, .int .i64 (b + (g : Int)), .slice A3 (l.length - g) q3], .int .i64 0]) (by simp [results, Try.results68, go_sem, *]) rfl ?_
            have o4 : w3.ownsRow w1.heap.size 65 2 (.slice A3 (l.length - g) q3) (l.length - g) ((l.drop g).flatMap Mail.cells) := o3
            refine ⟨A3, q3, by simp [sVal], ?_, bS (bS (bS (bT (bT b0 b1) bq) (by simp; try omega) _) (by simp; try omega) _) (by simp; try omega) _⟩
            simp only [List.length_drop]
            exact rd_own (ownsRow_setCell_below (ownsRow_setCell_below (ownsRow_setCell_below o4 hz1 _) hz1 _) hz1 _)
    · rw [if_neg he]
      go_enter Try.func68, Try.ntmps68
      go_wp2_with fail
      refine (hdue.out _ A c r0 hlc).mono ?_
      rintro r w1 ⟨A1, k1, rfl, o1, b1⟩
      have s0 : w1.cell? ⟨w.heap.size, 0, none⟩ = some (.int .i64 e) := keepc b1 (by go_simp)
      have m0 : w1.cell? ⟨w.heap.size + 1, 0, none⟩ = some (.int .i64 ae) := keepc b1 (by go_simp)
      have z0 : w1.cell? ⟨w.heap.size + 2, 0, none⟩ = some (.int .i64 0) := keepc b1 (by go_simp)
      have z1 : w1.cell? ⟨w.heap.size + 2, 1, none⟩ = some (.int .i64 0) := keepc b1 (by go_simp)
      have z2 : w1.cell? ⟨w.heap.size + 2, 2, none⟩ = some (.slice none 0 0) := keepc b1 (by go_simp)
      have hf : ∀ o, w1.frozen? ⟨w.heap.size + 2, o, none⟩ = false := fun o => by rw [(bcell b1).2 _ _ (by simp)]; go_simp
      go_wp2_with fail
      exact bodyPost_ret (v := .tuple #[.agg #[.int .i64 0, .int .i64 0, .slice none 0 0], .int .i64 11]) (by simp [results, Try.results68, go_sem, *]) rfl (retSnd_zero _ _ _ (bS (bS (bS (bT b0 b1) (by simp; try omega) _) (by simp; try omega) _) (by simp; try omega) _))
end Go.Proofs.Ytblabipgehkllaa
