/- The copy of a sender, the comparison of senders; the statement on link.Due. -/
import Derived.Test.YtblabipgehkllaaLinkDueR
namespace Go.Proofs.Ytblabipgehkllaa
open Go.ChangeShapes Go.WideShapes Go.ChangeAt Go.RowKit
set_option linter.unusedVariables false
/-- A cell that was there reads as it did. -/
theorem keepc {W W' : World} (b : Below W.heap.size W W') {p : Addr} {v : Value} (h : W.cell? p = some v) : W'.cell? p = some v :=
  (b.cell (World.block_lt_of_cell? W _ h)).trans h
theorem senders_copy (s : Sender) (w : World) (A : Option Addr) (c : Nat) (hr : Rd w w.heap.size A 2 s.loads.length (s.loads.flatMap Mail.cells)) (hn : s.loads.length * 16 ≤ 140737488355328) :
    Calls Try.prog 42 #[sVal s A c] w fun e w' => ∃ A' c', e = .returned (sVal s A' c') ∧ s.loads.length ≤ c' ∧ Rd w' w'.heap.size A' 2 s.loads.length (s.loads.flatMap Mail.cells) ∧ Below w.heap.size w w' := by
  obtain ⟨e, b, l⟩ := s
  unfold sVal
  simp only at hr hn ⊢
  have r0 := ((hr.alloc (Nat.le_refl _) (.cells #[.int .i64 e, .int .i64 b, .slice A l.length c] 41)).alloc (by simp) (.cells #[.int .i64 0, .int .i64 0, .slice none 0 0] 41)).any (by decide)
  go_enter Try.func42, Try.ntmps42
  go_wp2_with fail
  refine (mails_copy l _ A l.length c _ r0 hn).mono ?_
  rintro e' w1 ⟨A1, k1, rfl, o1, b1⟩
  obtain ⟨hc1, hf1⟩ := bcell b1
  have hz1 : w.heap.size + 1 < w1.heap.size := by have := b1.size; simp at this; omega
  have hle : l.length ≤ k1 := by
    rcases o1.2 with ⟨h, h2⟩ | ⟨g, cap, cur, hv, _, _, hle, _⟩
    · omega
    · injection hv with _ _ h; omega
  have c0 : w1.cell? ⟨w.heap.size, 0, none⟩ = some (.int .i64 e) := by rw [hc1 _ _ (by simp; omega)]; go_simp
  have c1 : w1.cell? ⟨w.heap.size, 1, none⟩ = some (.int .i64 b) := by rw [hc1 _ _ (by simp; omega)]; go_simp
  have c2 : w1.cell? ⟨w.heap.size, 2, none⟩ = some (.slice A l.length c) := by rw [hc1 _ _ (by simp; omega)]; go_simp
  have e0 : w1.cell? ⟨w.heap.size + 1, 0, none⟩ = some (.int .i64 0) := by rw [hc1 _ _ (by simp)]; go_simp
  have e1 : w1.cell? ⟨w.heap.size + 1, 1, none⟩ = some (.int .i64 0) := by rw [hc1 _ _ (by simp)]; go_simp
  have e2 : w1.cell? ⟨w.heap.size + 1, 2, none⟩ = some (.slice none 0 0) := by rw [hc1 _ _ (by simp)]; go_simp
  go_wp2_with fail
  refine bodyPost_ret (v := .agg #[.int .i64 e, .int .i64 b, .slice A1 l.length k1]) (by simp [results, Try.results42, go_sem, *]) rfl ⟨A1, k1, rfl, hle, ?_, ?_⟩
  · exact rd_own (ownsRow_setCell_below (ownsRow_setCell_below (ownsRow_setCell_below (ownsRow_setCell_below o1 (by simp; omega) _) (by simp) _) (by simp) _) (by simp) _)
  · exact bS (bS (bS (bS (bT (bA (bA (Below.refl _ _) _) _) b1) (by simp) _) (by simp) _) (by simp) _) (by simp) _
theorem sameSender_walk (s : Sender) (w : World) (A A' : Option Addr) (c c' : Nat) (h1 : Rd w w.heap.size A 2 s.loads.length (s.loads.flatMap Mail.cells)) (h2 : Rd w w.heap.size A' 2 s.loads.length (s.loads.flatMap Mail.cells)) (hn : s.loads.length ≤ 140737488355328) :
    Calls Try.prog 33 #[sVal s A c, sVal s A' c'] w fun e w' => e = .returned (.bool true) ∧ Below w.heap.size w w' := by
  obtain ⟨e, b, l⟩ := s
  unfold sVal
  simp only at h1 h2 hn ⊢
  have r1 := ((h1.alloc (Nat.le_refl _) (.cells #[.int .i64 e, .int .i64 b, .slice A l.length c] 41)).alloc (by simp) (.cells #[.int .i64 e, .int .i64 b, .slice A' l.length c'] 41)).any (by decide)
  have r2 := ((h2.alloc (Nat.le_refl _) (.cells #[.int .i64 e, .int .i64 b, .slice A l.length c] 41)).alloc (by simp) (.cells #[.int .i64 e, .int .i64 b, .slice A' l.length c'] 41)).any (by decide)
  go_enter Try.func33, Try.ntmps33
  go_wp2_with fail
  refine (sameMails_walk l _ A A' c c' r1 r2 hn).mono ?_
  rintro r w1 ⟨rfl, b1⟩
  go_wp2_with fail
  go_ret
  exact ⟨rfl, bT (bA (bA (Below.refl _ _) _) _) b1⟩
theorem sVal_eq (s : Sender) (A : Option Addr) (c : Nat) : sVal s A c = .agg #[.int .i64 s.epoch, .int .i64 s.base, .slice A s.loads.length c] := rfl
set_option maxHeartbeats 1000000 in
theorem law_LinkDues (w : World) (s : Sender) (A : Option Addr) (c : Nat) (he : I64 s.epoch) (hb : I64 s.base) (hf : Flat w w.heap.size 16 2 Mail.cells A c s.loads) (hw : ∀ x ∈ s.loads, x.wf) :
    Calls Try.prog 11 #[.agg #[.int .i64 s.epoch, .int .i64 s.base, .slice A s.loads.length c]] w fun e w' => e = .returned (.bool true) ∧ Below w.heap.size w w' := by
  obtain ⟨f1, f2, f3, f4⟩ := hf
  clear hw he hb
  have h24 : s.loads.length * 16 ≤ 140737488355328 := by omega
  have hl : s.loads.length ≤ 140737488355328 := by omega
  have hd4 : (dueV s).1.length ≤ 140737488355328 := by
    unfold dueV; split
    · simp [pkL]; omega
    · simp
  have hdue := hid (due_walk s)
  have hdueR := hid (linkDue_walk s)
  generalize dueV s = z at hdue hdueR hd4
  obtain ⟨pl, pe⟩ := z
  have b0 := bA (Below.refl w.heap.size w) (.cells #[.int .i64 s.epoch, .int .i64 s.base, .slice A s.loads.length c] 41)
  go_enter Try.func11, Try.ntmps11
  go_wp2_with fail
  refine (senders_copy s _ A c ((f4.below b0).any (by decide)) h24).mono ?_
  rintro e w1 ⟨A1, k1, rfl, hle1, r1, b1⟩
  rw [sVal_eq]
  have b01 := bT b0 b1
  obtain ⟨hc1, hf1⟩ := bcell b1
  have hz1 : w.heap.size < w1.heap.size := by have := b1.size; simp at this; omega
  have c0 : w1.cell? ⟨w.heap.size, 0, none⟩ = some (.int .i64 s.epoch) := by rw [hc1 _ _ (by simp)]; go_simp
  have c1 : w1.cell? ⟨w.heap.size, 1, none⟩ = some (.int .i64 s.base) := by rw [hc1 _ _ (by simp)]; go_simp
  have c2 : w1.cell? ⟨w.heap.size, 2, none⟩ = some (.slice A s.loads.length c) := by rw [hc1 _ _ (by simp)]; go_simp
  clear hc1 hf1
  go_wp2_with fail
  refine (hdue.out _ A1 k1 ((r1.alloc (Nat.le_refl _) _).any (by decide)) hle1).mono ?_
  rintro e w2 ⟨A2, k2, rfl, o2, b2⟩
  have b12 := bT (bA (Below.refl w1.heap.size w1) (.cells #[.int .i64 s.epoch, .int .i64 s.base, .slice A1 s.loads.length k1] 41)) b2
  have hz2 : w1.heap.size < w2.heap.size := by have := b2.size; simp at this; omega
  have d0 := keepc b12 c0
  have d1 := keepc b12 c1
  have d2 := keepc b12 c2
  have x0 : w2.cell? ⟨w1.heap.size, 0, none⟩ = some (.int .i64 s.epoch) := keepc b2 (by go_simp)
  have x1 : w2.cell? ⟨w1.heap.size, 1, none⟩ = some (.int .i64 s.base) := keepc b2 (by go_simp)
  have x2 : w2.cell? ⟨w1.heap.size, 2, none⟩ = some (.slice A1 s.loads.length k1) := keepc b2 (by go_simp)
  have b02 := bT b01 b12
  go_wp2_with fail
  refine (hdueR.out _ A c ((f4.below b02).any (by decide)) f1).mono ?_
  rintro e w3 ⟨A3, k3, rfl, o3, b3⟩
  have g0 := keepc b3 d0
  have g1 := keepc b3 d1
  have g2 := keepc b3 d2
  have y0 := keepc b3 x0
  have y1 := keepc b3 x1
  have y2 := keepc b3 x2
  have b03 := bT b02 b3
  have b13 := bT b12 b3
  go_wp2_with fail
  refine (samePackets_walk pl _ A2 A3 k2 k3 (((rd_own o2).below b3).any (by decide)) (rd_own o3) hd4).mono ?_
  rintro e w4 ⟨rfl, b4⟩
  have g0' := keepc b4 g0
  have g1' := keepc b4 g1
  have g2' := keepc b4 g2
  have y0' := keepc b4 y0
  have y1' := keepc b4 y1
  have y2' := keepc b4 y2
  have b04 := bT b03 b4
  have b14 := bT b13 b4
  clear g0 g1 g2 y0 y1 y2 d0 d1 d2 x0 x1 x2 c0 c1 c2
  go_wp2_with fail
  refine (sameSender_walk s _ A1 A k1 c ((r1.below b14).any (by decide)) ((f4.below b04).any (by decide)) hl).mono ?_
  rintro e w5 ⟨rfl, b5⟩
  go_wp2_with fail
  go_ret
  exact ⟨rfl, bT b04 b5⟩
end Go.Proofs.Ytblabipgehkllaa
