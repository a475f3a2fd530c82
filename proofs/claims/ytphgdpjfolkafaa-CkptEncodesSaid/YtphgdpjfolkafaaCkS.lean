/- The statements' copy of what is saved; alike. -/
import Derived.Test.YtphgdpjfolkafaaCkP
namespace Go.Proofs.Ytphgdpjfolkafaa
open Go.ChangeShapes Go.WideShapes Go.ChangeAt Go.RowKit
set_option linter.unusedVariables false
set_option linter.unusedSimpArgs false
set_option maxHeartbeats 4000000 in
theorem saveds_copy (s : Saved) (w : World) (A B : Option Addr) (c d : Nat) (hv : Rd w w.heap.size A 2 s.vals.length (s.vals.flatMap Val.cells)) (hm : Rd w w.heap.size B 2 s.mail.length (s.mail.flatMap Mail.cells)) (hvn : s.vals.length * 16 ≤ 140737488355328) (hmn : s.mail.length * 16 ≤ 140737488355328) :
    Calls Try.prog 16 #[.agg (svC s A c B d)] w fun e w' => ∃ A' c' B' d', e = .returned (.agg (svC s A' c' B' d')) ∧ Rd w' w'.heap.size A' 2 s.vals.length (s.vals.flatMap Val.cells) ∧ Rd w' w'.heap.size B' 2 s.mail.length (s.mail.flatMap Mail.cells) ∧ Below w.heap.size w w' := by
  obtain ⟨st, ph, fr, vs, ms⟩ := s
  unfold svC
  simp only at *
  have b0 : Below w.heap.size w ((w.alloc (.cells #[.int .i64 st, .int .i64 ph, .bool fr, .slice A vs.length c, .slice B ms.length d] 36)).alloc (.cells #[.int .i64 0, .int .i64 0, .bool false, .slice none 0 0, .slice none 0 0] 36)) := bA (bA (Below.refl _ _) _) _
  have r0 := (hv.below b0).any (by decide)
  go_enter Try.func16, Try.ntmps16
  go_wp2_with (at_builtin; refine wp_app0 _ rfl rfl el_vals rfl rfl r0 (one_Val vs) hvn (Nat.le_refl _) ?_; intro A1 k1 w1 o1 b1; have hf3 : w1.frozen? ⟨w.heap.size, 3, none⟩ = false := by { rw [(bcell b1).2 _ _ (by simp; try omega)]; go_simp }; have c3 : w1.cell? ⟨w.heap.size, 3, none⟩ = some (.slice A vs.length c) := by { rw [(bcell b1).1 _ _ (by simp; try omega)]; go_simp }; have hz1 : w.heap.size + 1 < w1.heap.size := by { have := b1.size; simp at this; omega }; have c4 : w1.cell? ⟨w.heap.size, 4, none⟩ = some (.slice B ms.length d) := by { rw [(bcell b1).1 _ _ (by simp; try omega)]; go_simp })
  obtain ⟨hc1, hf1⟩ := bcell b1
  have hz1 : w.heap.size + 1 < w1.heap.size := by have := b1.size; simp at this; omega
  have hf : ∀ o, w1.frozen? ⟨w.heap.size, o, none⟩ = false := fun o => by rw [hf1 _ _ (by simp; omega)]; go_simp
  have hg : ∀ o, w1.frozen? ⟨w.heap.size + 1, o, none⟩ = false := fun o => by rw [hf1 _ _ (by simp)]; go_simp
  have c0 : w1.cell? ⟨w.heap.size, 0, none⟩ = some (.int .i64 st) := by rw [hc1 _ _ (by simp; omega)]; go_simp
  have c1 : w1.cell? ⟨w.heap.size, 1, none⟩ = some (.int .i64 ph) := by rw [hc1 _ _ (by simp; omega)]; go_simp
  have c2 : w1.cell? ⟨w.heap.size, 2, none⟩ = some (.bool fr) := by rw [hc1 _ _ (by simp; omega)]; go_simp
  have c3 : w1.cell? ⟨w.heap.size, 3, none⟩ = some (.slice A vs.length c) := by rw [hc1 _ _ (by simp; omega)]; go_simp
  have c4 : w1.cell? ⟨w.heap.size, 4, none⟩ = some (.slice B ms.length d) := by rw [hc1 _ _ (by simp; omega)]; go_simp
  have e0 : w1.cell? ⟨w.heap.size + 1, 0, none⟩ = some (.int .i64 0) := by rw [hc1 _ _ (by simp)]; go_simp
  have e1 : w1.cell? ⟨w.heap.size + 1, 1, none⟩ = some (.int .i64 0) := by rw [hc1 _ _ (by simp)]; go_simp
  have e2 : w1.cell? ⟨w.heap.size + 1, 2, none⟩ = some (.bool false) := by rw [hc1 _ _ (by simp)]; go_simp
  have e3 : w1.cell? ⟨w.heap.size + 1, 3, none⟩ = some (.slice none 0 0) := by rw [hc1 _ _ (by simp)]; go_simp
  have e4 : w1.cell? ⟨w.heap.size + 1, 4, none⟩ = some (.slice none 0 0) := by rw [hc1 _ _ (by simp)]; go_simp
  obtain ⟨X, hX⟩ : ∃ X, X = w1.setCell ⟨w.heap.size, 3, none⟩ (.slice A1 vs.length k1) := ⟨_, rfl⟩
  have xf : ∀ o, X.frozen? ⟨w.heap.size, o, none⟩ = false := fun o => by rw [hX]; go_simp
  have xg : ∀ o, X.frozen? ⟨w.heap.size + 1, o, none⟩ = false := fun o => by rw [hX]; go_simp
  have x0 : X.cell? ⟨w.heap.size, 0, none⟩ = some (.int .i64 st) := by rw [hX]; go_simp
  have x1 : X.cell? ⟨w.heap.size, 1, none⟩ = some (.int .i64 ph) := by rw [hX]; go_simp
  have x2 : X.cell? ⟨w.heap.size, 2, none⟩ = some (.bool fr) := by rw [hX]; go_simp
  have x3 : X.cell? ⟨w.heap.size, 3, none⟩ = some (.slice A1 vs.length k1) := by rw [hX]; go_simp
  have x4 : X.cell? ⟨w.heap.size, 4, none⟩ = some (.slice B ms.length d) := by rw [hX]; go_simp
  have y0 : X.cell? ⟨w.heap.size + 1, 0, none⟩ = some (.int .i64 0) := by rw [hX]; go_simp
  have y1 : X.cell? ⟨w.heap.size + 1, 1, none⟩ = some (.int .i64 0) := by rw [hX]; go_simp
  have y2 : X.cell? ⟨w.heap.size + 1, 2, none⟩ = some (.bool false) := by rw [hX]; go_simp
  have y3 : X.cell? ⟨w.heap.size + 1, 3, none⟩ = some (.slice none 0 0) := by rw [hX]; go_simp
  have y4 : X.cell? ⟨w.heap.size + 1, 4, none⟩ = some (.slice none 0 0) := by rw [hX]; go_simp
  have hzX : w.heap.size + 1 < X.heap.size := by rw [hX]; simpa using hz1
  have bX : Below w.heap.size w X := by rw [hX]; exact bS (bT b0 b1) (by simp) _
  have oX : X.ownsRow (w.heap.size + 2) 99 2 (.slice A1 vs.length k1) vs.length (vs.flatMap Val.cells) := by rw [hX]; exact ownsRow_setCell_below (own_more o1 (by simp)) (by simp) _
  have xf4 := xf 4
  have HMC := hid (mails_copy ms X B ms.length d _ (hm.below bX) hmn)
  clear c0 c1 c2 c3 e0 e1 e2 e3 e4 o1 r0 hc1 hf1
  rw [← hX]
  clear hX hf hg hf3
  refine HMC.out.mono ?_
  rintro e' w2 ⟨A2, k2, rfl, o2, b2⟩
  have O2 := hid o2
  have OX := hid (own_below oX b2 (Nat.le_refl _))
  have B2 := hid (bT bX b2)
  have hz2 : w.heap.size + 1 < w2.heap.size := Nat.lt_of_lt_of_le hzX b2.size
  obtain ⟨hc2, hf2⟩ := bcell b2
  have zf : ∀ o, w2.frozen? ⟨w.heap.size, o, none⟩ = false := fun o => by rw [hf2 _ _ (by omega)]; exact xf o
  have zg : ∀ o, w2.frozen? ⟨w.heap.size + 1, o, none⟩ = false := fun o => by rw [hf2 _ _ (by omega)]; exact xg o
  have zf4 := zf 4
  have zg0 := zg 0
  have zg1 := zg 1
  have zg2 := zg 2
  have zg3 := zg 3
  have zg4 := zg 4
  have x0 := keepb b2 x0
  have x1 := keepb b2 x1
  have x2 := keepb b2 x2
  have x3 := keepb b2 x3
  have x4 := keepb b2 x4
  have y0 := keepb b2 y0
  have y1 := keepb b2 y1
  have y2 := keepb b2 y2
  have y3 := keepb b2 y3
  have y4 := keepb b2 y4
  clear HMC o2 oX hc2 hf2 b2 xf xg bX xf4
  go_wp2_with fail
  refine bodyPost_ret (v := .agg #[.int .i64 st, .int .i64 ph, .bool fr, .slice A1 vs.length k1, .slice A2 ms.length k2]) (by simp [results, Try.results16, go_sem, *]) rfl ⟨A1, k1, A2, k2, rfl, ?_, ?_, ?_⟩
  · refine rd_own (base := w.heap.size + 2) (e := 99) (c := k1) ?_
    repeat (with_reducible refine ownsRow_setCell_below ?_ (by simp; try omega) _)
    exact OX.out
  · refine rd_own (base := w.heap.size + 2) (e := 59) (c := k2) ?_
    repeat (with_reducible refine ownsRow_setCell_below ?_ (by simp; try omega) _)
    exact own_more O2.out (by omega)
  · repeat (with_reducible refine Below.setCell ?_ (by simp; try omega) _)
    exact B2.out
set_option maxHeartbeats 4000000 in
theorem sameSaved_walk (s : Saved) (w : World) (A A' B B' : Option Addr) (c c' d d' : Nat) (h1 : Rd w w.heap.size A 2 s.vals.length (s.vals.flatMap Val.cells)) (h2 : Rd w w.heap.size A' 2 s.vals.length (s.vals.flatMap Val.cells)) (g1 : Rd w w.heap.size B 2 s.mail.length (s.mail.flatMap Mail.cells)) (g2 : Rd w w.heap.size B' 2 s.mail.length (s.mail.flatMap Mail.cells)) (hvn : s.vals.length ≤ 140737488355328) (hmn : s.mail.length ≤ 140737488355328) :
    Calls Try.prog 19 #[.agg (svC s A c B d), .agg (svC s A' c' B' d')] w fun e w' => e = .returned (.bool true) ∧ Below w.heap.size w w' := by
  obtain ⟨st, ph, fr, vs, ms⟩ := s
  unfold svC
  simp only at *
  have b0 : Below w.heap.size w ((w.alloc (.cells #[.int .i64 st, .int .i64 ph, .bool fr, .slice A vs.length c, .slice B ms.length d] 36)).alloc (.cells #[.int .i64 st, .int .i64 ph, .bool fr, .slice A' vs.length c', .slice B' ms.length d'] 36)) := bA (bA (Below.refl _ _) _) _
  go_enter Try.func19, Try.ntmps19
  go_wp2_with fail
  refine (sameValues_walk vs _ A A' c c' ((h1.below b0).any (by decide)) ((h2.below b0).any (by decide)) hvn).mono ?_
  rintro e w1 ⟨rfl, b1⟩
  have c4 := keepb b1 (show World.cell? _ ⟨w.heap.size, 4, none⟩ = some (.slice B ms.length d) by go_simp)
  have d4 := keepb b1 (show World.cell? _ ⟨w.heap.size + 1, 4, none⟩ = some (.slice B' ms.length d') by go_simp)
  have B1 := hid (bT b0 b1)
  clear b1 b0
  go_wp2_with fail
  refine (sameMails_walk ms _ B B' d d' ((g1.below B1.out).any (by decide)) ((g2.below B1.out).any (by decide)) hmn).mono ?_
  rintro e w2 ⟨rfl, b2⟩
  go_wp2_with fail
  go_ret
  exact ⟨rfl, bT B1.out b2⟩
end Go.Proofs.Ytphgdpjfolkafaa
