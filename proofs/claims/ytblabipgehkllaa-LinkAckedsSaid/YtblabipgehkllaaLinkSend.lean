/- link.Send and the document's answer; the statement. -/
import Derived.Test.YtblabipgehkllaaLinkLaws
namespace Go.Proofs.Ytblabipgehkllaa
open Go.ChangeShapes Go.WideShapes Go.ChangeAt Go.RowKit
set_option linter.unusedVariables false
theorem two_one (a b : Int) : ∀ u ∈ (#[Value.int .i64 a, .int .i64 b] : Array Value).toList, u.oneCell' = true := by
  intro u hu; simp at hu; rcases hu with rfl | rfl <;> rfl
/-- A sender and an error number come back. -/
def RetSnd (w : World) (s : Sender) (r : Int) (e : Ending) (w' : World) : Prop :=
  ∃ A c, e = .returned (.tuple #[sVal s A c, .int .i64 r]) ∧ Rd w' w'.heap.size A 2 s.loads.length (s.loads.flatMap Mail.cells) ∧ Below w.heap.size w w'
def zeroSnd : Sender := ⟨0, 0, []⟩
theorem retSnd_zero (w w' : World) (r : Int) (b : Below w.heap.size w w') : RetSnd w zeroSnd r (.returned (.tuple #[.agg #[.int .i64 0, .int .i64 0, .slice none 0 0], .int .i64 r])) w' :=
  ⟨none, 0, rfl, Rd.nil_, b⟩
def sendV (s : Sender) (m : Mail) : Sender × Int :=
  if senderB s.epoch s.base s.loads.length = true then (if s.loads.length = 5000 then (zeroSnd, 10) else (⟨s.epoch, s.base, s.loads ++ [m]⟩, 0)) else (zeroSnd, 9)
set_option maxHeartbeats 2000000 in
theorem send_walk (s : Sender) (m : Mail) (w : World) (A : Option Addr) (c : Nat) (hr : Rd w w.heap.size A 2 s.loads.length (s.loads.flatMap Mail.cells)) :
    Calls Try.prog 56 #[sVal s A c, .agg #[.int .i64 m.to, .int .i64 m.val]] w (RetSnd w (sendV s m).1 (sendV s m).2) := by
  obtain ⟨e, b, l⟩ := s
  unfold sVal sendV
  simp only at hr ⊢
  have b0 := bA (bA (bA (Below.refl w.heap.size w) (.cells #[.int .i64 e, .int .i64 b, .slice A l.length c] 41)) (.cells #[.int .i64 m.to, .int .i64 m.val] 65)) (.cells #[.int .i64 0, .int .i64 0, .slice none 0 0] 41)
  cases hS : senderB e b l.length
  · rw [if_neg (by simp)]
    go_enter Try.func56, Try.ntmps56
    go_wp2_with fail
    refine (sender_walk e b A l.length c _).mono ?_
    rintro r w1 ⟨rfl, b1⟩
    rw [hS]
    have z0 : w1.cell? ⟨w.heap.size + 2, 0, none⟩ = some (.int .i64 0) := keepc b1 (by go_simp)
    have z1 : w1.cell? ⟨w.heap.size + 2, 1, none⟩ = some (.int .i64 0) := keepc b1 (by go_simp)
    have z2 : w1.cell? ⟨w.heap.size + 2, 2, none⟩ = some (.slice none 0 0) := keepc b1 (by go_simp)
    have hf : ∀ o, w1.frozen? ⟨w.heap.size + 2, o, none⟩ = false := fun o => by rw [(bcell b1).2 _ _ (by simp)]; go_simp
    go_wp2_with fail
    exact bodyPost_ret (v := .tuple #[.agg #[.int .i64 0, .int .i64 0, .slice none 0 0], .int .i64 9]) (by simp [results, Try.results56, go_sem, *]) rfl (retSnd_zero _ _ _ (bS (bS (bS (bT b0 b1) (by simp; try omega) _) (by simp; try omega) _) (by simp; try omega) _))
  · rw [if_pos rfl]
    obtain ⟨h1, h2, h3, h4, h5⟩ := senderB_of hS
    have HS := hid hS
    clear hS
    by_cases h50 : l.length = 5000
    · rw [if_pos h50]
      have hlb : ((l.length : Int) == 5000) = true := by simp [h50]
      have H50 := hid h50
      clear h50
      go_enter Try.func56, Try.ntmps56
      go_wp2_with fail
      refine (sender_walk e b A l.length c _).mono ?_
      rintro r w1 ⟨rfl, b1⟩
      rw [HS.out]
      have k2 : w1.cell? ⟨w.heap.size, 2, none⟩ = some (.slice A l.length c) := keepc b1 (by go_simp)
      have z0 : w1.cell? ⟨w.heap.size + 2, 0, none⟩ = some (.int .i64 0) := keepc b1 (by go_simp)
      have z1 : w1.cell? ⟨w.heap.size + 2, 1, none⟩ = some (.int .i64 0) := keepc b1 (by go_simp)
      have z2 : w1.cell? ⟨w.heap.size + 2, 2, none⟩ = some (.slice none 0 0) := keepc b1 (by go_simp)
      have hf : ∀ o, w1.frozen? ⟨w.heap.size + 2, o, none⟩ = false := fun o => by rw [(bcell b1).2 _ _ (by simp)]; go_simp
      go_wp2_with fail
      exact bodyPost_ret (v := .tuple #[.agg #[.int .i64 0, .int .i64 0, .slice none 0 0], .int .i64 10]) (by simp [results, Try.results56, go_sem, *]) rfl (retSnd_zero _ _ _ (bS (bS (bS (bT b0 b1) (by simp; try omega) _) (by simp; try omega) _) (by simp; try omega) _))
    · rw [if_neg h50]
      have hlb : ((l.length : Int) == 5000) = false := by simp; omega
      go_enter Try.func56, Try.ntmps56
      go_wp2_with fail
      refine (sender_walk e b A l.length c _).mono ?_
      rintro r w1 ⟨rfl, b1⟩
      rw [HS.out]
      have k0 : w1.cell? ⟨w.heap.size, 0, none⟩ = some (.int .i64 e) := keepc b1 (by go_simp)
      have k1 : w1.cell? ⟨w.heap.size, 1, none⟩ = some (.int .i64 b) := keepc b1 (by go_simp)
      have k2 : w1.cell? ⟨w.heap.size, 2, none⟩ = some (.slice A l.length c) := keepc b1 (by go_simp)
      have m0 : w1.cell? ⟨w.heap.size + 1, 0, none⟩ = some (.int .i64 m.to) := keepc b1 (by go_simp)
      have m1 : w1.cell? ⟨w.heap.size + 1, 1, none⟩ = some (.int .i64 m.val) := keepc b1 (by go_simp)
      have z0 : w1.cell? ⟨w.heap.size + 2, 0, none⟩ = some (.int .i64 0) := keepc b1 (by go_simp)
      have z1 : w1.cell? ⟨w.heap.size + 2, 1, none⟩ = some (.int .i64 0) := keepc b1 (by go_simp)
      have z2 : w1.cell? ⟨w.heap.size + 2, 2, none⟩ = some (.slice none 0 0) := keepc b1 (by go_simp)
      have hf2 : ∀ o, w1.frozen? ⟨w.heap.size + 2, o, none⟩ = false := fun o => by rw [(bcell b1).2 _ _ (by simp)]; go_simp
      have hf0 : ∀ o, w1.frozen? ⟨w.heap.size, o, none⟩ = false := fun o => by rw [(bcell b1).2 _ _ (by simp; omega)]; go_simp
      have hz1 : w.heap.size + 2 < w1.heap.size := by have := b1.size; simp at this; omega
      have r1 := (((hr.below b0).any (by decide)).below b1).any (by decide)
      have hz00 : w.heap.size < w1.heap.size := by omega
      have hz01 : w.heap.size + 1 < w1.heap.size := by omega
      have h16 : (l.length + 1) * 16 ≤ 140737488355328 := by omega
      have hcl2 := hid (fun o : Obj => clone_walk l A l.length c _ (w1.alloc o).drew (r1.alloc (Nat.le_refl _) o) (by omega))
      have hcl := hid (fun W (h : Rd W w1.heap.size A 2 l.length (l.flatMap Mail.cells)) => clone_walk l A l.length c _ W h (by omega))
      go_wp2_with fail
      go_region_law (first | ((refine step_app1 rfl rfl el_mails rfl (own_below (base' := w1.heap.size) (World.ownsRow.alloc o2 _) (Below.refl _ _) (Nat.le_refl _)) rfl (rd_new _ _ _ 2 1 rfl) (two_one _ _) h16 (Nat.le_trans b2.size (by simp)) ?_); intro A3 c3 w3 o3 b3 g3; have bz : Below w1.heap.size w1 w3 := (bq.alloc bq.size _).trans b3; have k0j := keepc bz k0; have k1j := keepc bz k1; have k2j := keepc bz k2; have z0j := keepc bz z0; have z1j := keepc bz z1; have z2j := keepc bz z2; have fj0 : ∀ o, w3.frozen? ⟨w.heap.size, o, none⟩ = false := fun o => (bz.frozen (p := ⟨w.heap.size, o, none⟩) (Nat.lt_of_le_of_lt (Nat.le_add_right _ 2) hz1)).trans (hf0 o); have fj2 : ∀ o, w3.frozen? ⟨w.heap.size + 2, o, none⟩ = false := fun o => (bz.frozen (p := ⟨w.heap.size + 2, o, none⟩) hz1).trans (hf2 o)) | ((refine step_app1 rfl rfl el_mails rfl o2 rfl (((rd_new w1 _ _ 2 1 rfl).any (by decide)).drew.below b2) (two_one _ _) h16 b2.size ?_); intro A3 c3 w3 o3' b3 g3; have o3 := own_more (base' := w1.heap.size) o3' (by simp); have bz : Below w1.heap.size w1 w3 := bq.trans (b3.mono (by simp)); have k0j := keepc bz k0; have k1j := keepc bz k1; have k2j := keepc bz k2; have z0j := keepc bz z0; have z1j := keepc bz z1; have z2j := keepc bz z2; have fj0 : ∀ o, w3.frozen? ⟨w.heap.size, o, none⟩ = false := fun o => (bz.frozen (p := ⟨w.heap.size, o, none⟩) (Nat.lt_of_le_of_lt (Nat.le_add_right _ 2) hz1)).trans (hf0 o); have fj2 : ∀ o, w3.frozen? ⟨w.heap.size + 2, o, none⟩ = false := fun o => (bz.frozen (p := ⟨w.heap.size + 2, o, none⟩) hz1).trans (hf2 o)) | (go_simp; go_at_call 81; refine (hcl.out _ (by exact r1)).mono ?_; rintro r w2 ⟨A2, q2, rfl, o2, b2⟩; have bq : Below w1.heap.size w1 w2 := bT (bD (Below.refl w1.heap.size w1)) b2; have k0' := keepc bq k0; have k1' := keepc bq k1; have k2' := keepc bq k2; have z0' := keepc bq z0; have z1' := keepc bq z1; have z2' := keepc bq z2; have m0' := keepc bq m0; have m1' := keepc bq m1; have hg0 : ∀ o, w2.frozen? ⟨w.heap.size, o, none⟩ = false := fun o => (bq.frozen (p := ⟨w.heap.size, o, none⟩) (Nat.lt_of_le_of_lt (Nat.le_add_right _ 2) hz1)).trans (hf0 o); have hg2 : ∀ o, w2.frozen? ⟨w.heap.size + 2, o, none⟩ = false := fun o => (bq.frozen (p := ⟨w.heap.size + 2, o, none⟩) hz1).trans (hf2 o)) | (go_simp; go_at_call 81; refine (hcl2.out _).mono ?_; rintro r w2 ⟨A2, q2, rfl, o2, b2⟩; have bq : Below w1.heap.size w1 w2 := bT (bD (bA (Below.refl w1.heap.size w1) _)) b2; have k0' := keepc bq k0; have k1' := keepc bq k1; have k2' := keepc bq k2; have z0' := keepc bq z0; have z1' := keepc bq z1; have z2' := keepc bq z2; have m0' := keepc bq m0; have m1' := keepc bq m1; have hg0 : ∀ o, w2.frozen? ⟨w.heap.size, o, none⟩ = false := fun o => (bq.frozen (p := ⟨w.heap.size, o, none⟩) (Nat.lt_of_le_of_lt (Nat.le_add_right _ 2) hz1)).trans (hf0 o); have hg2 : ∀ o, w2.frozen? ⟨w.heap.size + 2, o, none⟩ = false := fun o => (bq.frozen (p := ⟨w.heap.size + 2, o, none⟩) hz1).trans (hf2 o)))
      all_goals
        go_wp2
        refine bodyPost_ret (v := .tuple #[.agg #[.int .i64 e, .int .i64 b, .slice A3 (l.length + 1) c3], .int .i64 0]) (by simp [results, Try.results56, go_sem, *]) rfl ?_
        have o4 : w3.ownsRow w1.heap.size 65 2 (.slice A3 (l.length + 1) c3) (l.length + 1) ((l ++ [m]).flatMap Mail.cells) := by rw [List.flatMap_append]; exact o3
        refine ⟨A3, c3, by simp [sVal], ?_, ?_⟩
        · simp only [List.length_append, List.length_cons, List.length_nil, Nat.zero_add]
          exact rd_own (ownsRow_setCell_below (ownsRow_setCell_below (ownsRow_setCell_below (ownsRow_setCell_below o4 hz00 _) hz1 _) hz1 _) hz1 _)
        · exact bS (bS (bS (bS (bT (bT b0 b1) bz) (by simp) _) (by simp; try omega) _) (by simp; try omega) _) (by simp; try omega) _
set_option maxHeartbeats 4000000 in
/-- The document's answer. -/
theorem linkSent_walk (s : Sender) (m : Mail) (w : World) (A : Option Addr) (c : Nat) (hr : Rd w w.heap.size A 2 s.loads.length (s.loads.flatMap Mail.cells)) :
    Calls Try.prog 57 #[sVal s A c, .agg #[.int .i64 m.to, .int .i64 m.val]] w (RetSnd w (sendV s m).1 (sendV s m).2) := by
  obtain ⟨e, b, l⟩ := s
  unfold sVal sendV
  simp only at hr ⊢
  have b0 := bA (bA (bA (Below.refl w.heap.size w) (.cells #[.int .i64 e, .int .i64 b, .slice A l.length c] 41)) (.cells #[.int .i64 m.to, .int .i64 m.val] 65)) (.cells #[.int .i64 0, .int .i64 0, .slice none 0 0] 41)
  cases hS : senderB e b l.length
  · rw [if_neg (by simp)]
    go_enter Try.func57, Try.ntmps57
    go_wp2_with fail
    refine (senderMay_walk e b A l.length c _).mono ?_
    rintro r w1 ⟨rfl, b1⟩
    rw [hS]
    have z0 : w1.cell? ⟨w.heap.size + 2, 0, none⟩ = some (.int .i64 0) := keepc b1 (by go_simp)
    have z1 : w1.cell? ⟨w.heap.size + 2, 1, none⟩ = some (.int .i64 0) := keepc b1 (by go_simp)
    have z2 : w1.cell? ⟨w.heap.size + 2, 2, none⟩ = some (.slice none 0 0) := keepc b1 (by go_simp)
    have hf : ∀ o, w1.frozen? ⟨w.heap.size + 2, o, none⟩ = false := fun o => by rw [(bcell b1).2 _ _ (by simp)]; go_simp
    go_wp2_with fail
    exact bodyPost_ret (v := .tuple #[.agg #[.int .i64 0, .int .i64 0, .slice none 0 0], .int .i64 9]) (by simp [results, Try.results57, go_sem, *]) rfl (retSnd_zero _ _ _ (bS (bS (bS (bT b0 b1) (by simp; try omega) _) (by simp; try omega) _) (by simp; try omega) _))
  · rw [if_pos rfl]
    obtain ⟨h1, h2, h3, h4, h5⟩ := senderB_of hS
    have HS := hid hS
    clear hS
    by_cases h50 : l.length = 5000
    · rw [if_pos h50]
      have hlb : (5000 : Int) ≤ (l.length : Int) := by omega
      have hle : (l.length : Int) ≤ 5000 := by omega
      have H5 := hid h5
      clear h5
      have H50 := hid h50
      clear h50
      go_enter Try.func57, Try.ntmps57
      go_wp2_with fail
      refine (senderMay_walk e b A l.length c _).mono ?_
      rintro r w1 ⟨rfl, b1⟩
      rw [HS.out]
      have k2 : w1.cell? ⟨w.heap.size, 2, none⟩ = some (.slice A l.length c) := keepc b1 (by go_simp)
      have z0 : w1.cell? ⟨w.heap.size + 2, 0, none⟩ = some (.int .i64 0) := keepc b1 (by go_simp)
      have z1 : w1.cell? ⟨w.heap.size + 2, 1, none⟩ = some (.int .i64 0) := keepc b1 (by go_simp)
      have z2 : w1.cell? ⟨w.heap.size + 2, 2, none⟩ = some (.slice none 0 0) := keepc b1 (by go_simp)
      have hf : ∀ o, w1.frozen? ⟨w.heap.size + 2, o, none⟩ = false := fun o => by rw [(bcell b1).2 _ _ (by simp)]; go_simp
      go_wp2_with fail
      exact bodyPost_ret (v := .tuple #[.agg #[.int .i64 0, .int .i64 0, .slice none 0 0], .int .i64 10]) (by simp [results, Try.results57, go_sem, *]) rfl (retSnd_zero _ _ _ (bS (bS (bS (bT b0 b1) (by simp; try omega) _) (by simp; try omega) _) (by simp; try omega) _))
    · rw [if_neg h50]
      have hlb : decide ((5000 : Int) ≤ (l.length : Int)) = false := by simp; omega
      have HL5 := hid (show l.length < 5000 by omega)
      have H50 := hid h50
      have H5 := hid h5
      clear h50 h5
      go_enter Try.func57, Try.ntmps57
      go_wp2_with fail
      refine (senderMay_walk e b A l.length c _).mono ?_
      rintro r w1 ⟨rfl, b1⟩
      rw [HS.out]
      have k2 : w1.cell? ⟨w.heap.size, 2, none⟩ = some (.slice A l.length c) := keepc b1 (by go_simp)
      have r1 := (((hr.below b0).any (by decide)).below b1).any (by decide)
      go_wp2_with fail
      refine (mailsFrom_walk l A l.length c 0 _ r1 (by have := HL5.out; omega) (by omega) rfl).mono ?_
      rintro r w2 ⟨A2, q2, rfl, o2, b2⟩
      rw [List.drop_zero, Nat.sub_zero] at o2
      simp only [Nat.sub_zero]
      have bq := bT b1 b2
      have k0' : w2.cell? ⟨w.heap.size, 0, none⟩ = some (.int .i64 e) := keepc bq (by go_simp)
      have k1' : w2.cell? ⟨w.heap.size, 1, none⟩ = some (.int .i64 b) := keepc bq (by go_simp)
      have m0' : w2.cell? ⟨w.heap.size + 1, 0, none⟩ = some (.int .i64 m.to) := keepc bq (by go_simp)
      have m1' : w2.cell? ⟨w.heap.size + 1, 1, none⟩ = some (.int .i64 m.val) := keepc bq (by go_simp)
      have z0' : w2.cell? ⟨w.heap.size + 2, 0, none⟩ = some (.int .i64 0) := keepc bq (by go_simp)
      have z1' : w2.cell? ⟨w.heap.size + 2, 1, none⟩ = some (.int .i64 0) := keepc bq (by go_simp)
      have z2' : w2.cell? ⟨w.heap.size + 2, 2, none⟩ = some (.slice none 0 0) := keepc bq (by go_simp)
      have hf2 : ∀ o, w2.frozen? ⟨w.heap.size + 2, o, none⟩ = false := fun o => by rw [(bcell bq).2 _ _ (by simp)]; go_simp
      have hz1 : w.heap.size + 2 < w1.heap.size := by have := b1.size; simp at this; omega
      have hy0 : w.heap.size < w1.heap.size := by omega
      have hz2 : w.heap.size + 2 < w2.heap.size := by have := b2.size; omega
      have hz00 : w.heap.size < w2.heap.size := by omega
      have hz01 : w.heap.size + 1 < w2.heap.size := by omega
      have h16 : (l.length + 1) * 16 ≤ 140737488355328 := by have := HL5.out; omega
      go_wp2_with fail
      go_region_law (((refine step_app1 rfl rfl el_mails rfl (World.ownsRow.drew (World.ownsRow.alloc o2 _)) rfl (rd_new _ _ _ 2 1 rfl).drew (two_one _ _) h16 (Nat.le_trans b2.size (by simp)) ?_); intro A3 c3 w3 o3 b3 g3; have bz : Below w1.heap.size w2 w3 := ((bD (bA (Below.refl w2.heap.size w2) _)).mono b2.size).trans b3; have k0j := (bz.cell (p := ⟨w.heap.size, 0, none⟩) hy0).trans k0'; have k1j := (bz.cell (p := ⟨w.heap.size, 1, none⟩) hy0).trans k1'; have z0j := (bz.cell (p := ⟨w.heap.size + 2, 0, none⟩) hz1).trans z0'; have z1j := (bz.cell (p := ⟨w.heap.size + 2, 1, none⟩) hz1).trans z1'; have z2j := (bz.cell (p := ⟨w.heap.size + 2, 2, none⟩) hz1).trans z2'; have fj2 : ∀ o, w3.frozen? ⟨w.heap.size + 2, o, none⟩ = false := fun o => (bz.frozen (p := ⟨w.heap.size + 2, o, none⟩) hz1).trans (hf2 o)))
      all_goals
        go_wp2
        refine bodyPost_ret (v := .tuple #[.agg #[.int .i64 e, .int .i64 b, .slice A3 (l.length + 1) c3], .int .i64 0]) (by simp [results, Try.results57, go_sem, *]) rfl ?_
        have o4 : w3.ownsRow w1.heap.size 65 2 (.slice A3 (l.length + 1) c3) (l.length + 1) ((l ++ [m]).flatMap Mail.cells) := by rw [List.flatMap_append]; exact o3
        refine ⟨A3, c3, by simp [sVal], ?_, ?_⟩
        · simp only [List.length_append, List.length_cons, List.length_nil, Nat.zero_add]
          exact rd_own (ownsRow_setCell_below (ownsRow_setCell_below (ownsRow_setCell_below o4 hz1 _) hz1 _) hz1 _)
        · exact bS (bS (bS ((bT (bT b0 b1) b2).trans (bz.mono (by omega))) (by simp; try omega) _) (by simp; try omega) _) (by simp; try omega) _
end Go.Proofs.Ytblabipgehkllaa
