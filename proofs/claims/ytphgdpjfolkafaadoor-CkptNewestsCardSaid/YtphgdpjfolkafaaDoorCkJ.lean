/- What is saved, out of its bytes: what it answers. -/
import Derived.Test.YtphgdpjfolkafaaDoorCkI
namespace Go.Proofs.YtphgdpjfolkafaaDoor
open Go.ChangeShapes Go.WideShapes Go.ChangeAt Go.RowKit
set_option linter.unusedVariables false
set_option linter.unusedSimpArgs false
def svZero : Saved := ⟨0, 0, false, [], []⟩
section
open Classical
noncomputable def decV (b : List Int) : Saved × Int :=
  if (unwV b).2.2 ≠ 0 then (svZero, (unwV b).2.2) else if h : ∃ s, svOk s ∧ encV s = (b, 0) then (Classical.choose h, 0) else (svZero, 3)
end
theorem decV_err {b ink : List Int} {k e : Int} (h : unwV b = (ink, k, e)) (he : e ≠ 0) : decV b = (svZero, e) := by
  have h2 : (unwV b).2.2 = e := by rw [h]
  unfold decV; rw [if_pos (by rw [h2]; exact he), h2]
theorem decV_yes {b : List Int} (hb : ∀ x ∈ b, 0 ≤ x ∧ x ≤ 255) {s : Saved} (hs : svOk s) (h : encV s = (b, 0)) : decV b = (s, 0) := by
  have h1 := (enc_iff hb hs).1 h
  have h2 : (unwV b).2.2 = 0 := by rw [h1]
  have h3 : ∃ s, svOk s ∧ encV s = (b, 0) := ⟨s, hs, h⟩
  unfold decV; rw [if_neg (by simp [h2]), dif_pos h3]
  have h4 := Classical.choose_spec h3
  have h5 := (enc_iff hb h4.1).1 h4.2
  rw [h1] at h5
  injection h5 with h5 _
  rw [encV_inj h4.1 hs h5.symm]
theorem decV_no {b ink : List Int} {k : Int} (h : unwV b = (ink, k, 0)) (hn : ∀ s, svOk s → encV s ≠ (b, 0)) : decV b = (svZero, 3) := by
  have h2 : (unwV b).2.2 = 0 := by rw [h]
  unfold decV; rw [if_neg (by simp [h2]), dif_neg (fun ⟨s, h3, h4⟩ => hn s h3 h4)]
/-- The values, the mail that are told: till all is spoilt. -/
def decVals : Nat → List Int → Bool → List Val × List Int × Bool
  | 0, l, bad => ([], l, bad)
  | _ + 1, l, true => ([], l, true)
  | n + 1, l, false =>
    let a := takeV l false 4398046511105
    let b := takeV a.2.1 a.2.2 200
    let r := decVals n b.2.1 b.2.2
    (⟨a.1 - 1, b.1 - 1⟩ :: r.1, r.2)
def decMails : Nat → List Int → Bool → List Mail × List Int × Bool
  | 0, l, bad => ([], l, bad)
  | _ + 1, l, true => ([], l, true)
  | n + 1, l, false =>
    let a := takeV l false 199
    let b := takeV a.2.1 a.2.2 4398046511104
    let r := decMails n b.2.1 b.2.2
    (⟨a.1, b.1⟩ :: r.1, r.2)
theorem decVals_bad (n : Nat) (l : List Int) : decVals n l true = ([], l, true) := by cases n <;> rfl
theorem decMails_bad (n : Nat) (l : List Int) : decMails n l true = ([], l, true) := by cases n <;> rfl
theorem takeV_true (l : List Int) (m : Int) : takeV l true m = (0, l, true) := takeV_bad (by simp [takeBad])
theorem decVals_len : ∀ (n : Nat) (l : List Int) (bad : Bool), (decVals n l bad).1.length ≤ n
  | 0, l, bad => Nat.le_refl _
  | n + 1, l, true => by simp [decVals]
  | n + 1, l, false => by have := decVals_len n (takeV (takeV l false 4398046511105).2.1 (takeV l false 4398046511105).2.2 200).2.1 (takeV (takeV l false 4398046511105).2.1 (takeV l false 4398046511105).2.2 200).2.2; simp only [decVals, List.length_cons]; omega
theorem decMails_len : ∀ (n : Nat) (l : List Int) (bad : Bool), (decMails n l bad).1.length ≤ n
  | 0, l, bad => Nat.le_refl _
  | n + 1, l, true => by simp [decMails]
  | n + 1, l, false => by have := decMails_len n (takeV (takeV l false 199).2.1 (takeV l false 199).2.2 4398046511104).2.1 (takeV (takeV l false 199).2.1 (takeV l false 199).2.2 4398046511104).2.2; simp only [decMails, List.length_cons]; omega
theorem decVals_packs : ∀ (n : Nat) (l : List Int) (vs : List Val) (l' : List Int) (bad : Bool), (∀ x ∈ l, 0 ≤ x ∧ x ≤ 255) → decVals n l bad = (vs, l', false) → bad = false ∧ l = packs (numsV vs) ++ l' ∧ vs.length = n
  | 0, l, vs, l', bad, hl, h => by
    simp only [decVals, Prod.mk.injEq] at h
    obtain ⟨rfl, rfl, rfl⟩ := h
    exact ⟨rfl, rfl, rfl⟩
  | n + 1, l, vs, l', true, hl, h => by simp [decVals] at h
  | n + 1, l, vs, l', false, hl, h => by
    obtain ⟨r, t, b1, ht⟩ : ∃ r t b1, takeV l false 4398046511105 = (r, t, b1) := ⟨_, _, _, rfl⟩
    obtain ⟨r2, t2, b2, ht2⟩ : ∃ r t' b', takeV t b1 200 = (r, t', b') := ⟨_, _, _, rfl⟩
    simp only [decVals, ht, ht2, Prod.mk.injEq] at h
    obtain ⟨h1, h2⟩ := h
    cases b2 with
    | true => rw [decVals_bad] at h2; simp at h2
    | false =>
      cases b1 with
      | true => rw [takeV_true] at ht2; simp at ht2
      | false =>
        obtain ⟨_, e2, e3, e4⟩ := takeV_pack hl ht
        have hl2 : ∀ x ∈ t, 0 ≤ x ∧ x ≤ 255 := fun x hx => hl x (by rw [e2]; exact List.mem_append.2 (.inr hx))
        obtain ⟨_, f2, f3, f4⟩ := takeV_pack hl2 ht2
        have hl3 : ∀ x ∈ t2, 0 ≤ x ∧ x ≤ 255 := fun x hx => hl2 x (by rw [f2]; exact List.mem_append.2 (.inr hx))
        obtain ⟨_, g2, g3⟩ := decVals_packs n t2 _ l' false hl3 (Prod.ext rfl h2)
        refine ⟨rfl, ?_, by rw [← h1, List.length_cons, g3]⟩
        rw [← h1, show numsV (⟨r - 1, r2 - 1⟩ :: (decVals n t2 false).1) = (r - 1 + 1) :: (r2 - 1 + 1) :: numsV (decVals n t2 false).1 from rfl, packs_cons, packs_cons, e2, f2, List.append_assoc, List.append_assoc, ← g2, Int.sub_add_cancel, Int.sub_add_cancel]
theorem decMails_packs : ∀ (n : Nat) (l : List Int) (ms : List Mail) (l' : List Int) (bad : Bool), (∀ x ∈ l, 0 ≤ x ∧ x ≤ 255) → decMails n l bad = (ms, l', false) → bad = false ∧ l = packs (numsM ms) ++ l' ∧ ms.length = n
  | 0, l, vs, l', bad, hl, h => by
    simp only [decMails, Prod.mk.injEq] at h
    obtain ⟨rfl, rfl, rfl⟩ := h
    exact ⟨rfl, rfl, rfl⟩
  | n + 1, l, vs, l', true, hl, h => by simp [decMails] at h
  | n + 1, l, vs, l', false, hl, h => by
    obtain ⟨r, t, b1, ht⟩ : ∃ r t b1, takeV l false 199 = (r, t, b1) := ⟨_, _, _, rfl⟩
    obtain ⟨r2, t2, b2, ht2⟩ : ∃ r t' b', takeV t b1 4398046511104 = (r, t', b') := ⟨_, _, _, rfl⟩
    simp only [decMails, ht, ht2, Prod.mk.injEq] at h
    obtain ⟨h1, h2⟩ := h
    cases b2 with
    | true => rw [decMails_bad] at h2; simp at h2
    | false =>
      cases b1 with
      | true => rw [takeV_true] at ht2; simp at ht2
      | false =>
        obtain ⟨_, e2, e3, e4⟩ := takeV_pack hl ht
        have hl2 : ∀ x ∈ t, 0 ≤ x ∧ x ≤ 255 := fun x hx => hl x (by rw [e2]; exact List.mem_append.2 (.inr hx))
        obtain ⟨_, f2, f3, f4⟩ := takeV_pack hl2 ht2
        have hl3 : ∀ x ∈ t2, 0 ≤ x ∧ x ≤ 255 := fun x hx => hl2 x (by rw [f2]; exact List.mem_append.2 (.inr hx))
        obtain ⟨_, g2, g3⟩ := decMails_packs n t2 _ l' false hl3 (Prod.ext rfl h2)
        refine ⟨rfl, ?_, by rw [← h1, List.length_cons, g3]⟩
        rw [← h1, show numsM (⟨r, r2⟩ :: (decMails n t2 false).1) = r :: r2 :: numsM (decMails n t2 false).1 from rfl, packs_cons, packs_cons, e2, f2, List.append_assoc, List.append_assoc, ← g2]
theorem decVals_of : ∀ (vs : List Val) (l' : List Int), (∀ x ∈ vs, svVal x) → decVals vs.length (packs (numsV vs) ++ l') false = (vs, l', false)
  | [], l', _ => rfl
  | ⟨a, c⟩ :: vs, l', h => by
    obtain ⟨⟨h1, h2⟩, h3, h4⟩ := h _ (List.mem_cons_self ..)
    simp only at h1 h2 h3 h4
    have ih := decVals_of vs l' (fun x hx => h x (List.mem_cons_of_mem _ hx))
    have t1 := takeV_of_pack (n := a + 1) (most := 4398046511105) (by omega) (by omega) (by decide) (pack (c + 1) ++ (packs (numsV vs) ++ l'))
    have t2 := takeV_of_pack (n := c + 1) (most := 200) (by omega) (by omega) (by decide) (packs (numsV vs) ++ l')
    rw [show numsV (⟨a, c⟩ :: vs) = (a + 1) :: (c + 1) :: numsV vs from rfl, packs_cons, packs_cons, List.append_assoc, List.append_assoc, List.length_cons]
    simp only [decVals, t1, t2, ih, Int.add_sub_cancel]
theorem decMails_of : ∀ (ms : List Mail) (l' : List Int), (∀ x ∈ ms, mlOk x) → decMails ms.length (packs (numsM ms) ++ l') false = (ms, l', false)
  | [], l', _ => rfl
  | ⟨a, c⟩ :: vs, l', h => by
    obtain ⟨⟨h1, h2⟩, h3, h4⟩ := h _ (List.mem_cons_self ..)
    simp only at h1 h2 h3 h4
    have ih := decMails_of vs l' (fun x hx => h x (List.mem_cons_of_mem _ hx))
    have t1 := takeV_of_pack (n := a) (most := 199) (by omega) (by omega) (by decide) (pack c ++ (packs (numsM vs) ++ l'))
    have t2 := takeV_of_pack (n := c) (most := 4398046511104) (by omega) (by omega) (by decide) (packs (numsM vs) ++ l')
    rw [show numsM (⟨a, c⟩ :: vs) = a :: c :: numsM vs from rfl, packs_cons, packs_cons, List.append_assoc, List.append_assoc, List.length_cons]
    simp only [decMails, t1, t2, ih]
theorem takeV_lo {l : List Int} (hl : ∀ x ∈ l, 0 ≤ x ∧ x ≤ 255) (bad : Bool) {most : Int} (h0 : 0 ≤ most) : (0 ≤ (takeV l bad most).1 ∧ (takeV l bad most).1 ≤ most) ∧ ∀ x ∈ (takeV l bad most).2.1, 0 ≤ x ∧ x ≤ 255 := by
  obtain ⟨r, t, b1, ht⟩ : ∃ r t b1, takeV l bad most = (r, t, b1) := ⟨_, _, _, rfl⟩
  rw [ht]
  cases b1 with
  | false =>
    obtain ⟨_, e2, e3, e4⟩ := takeV_pack hl ht
    exact ⟨⟨e3, e4⟩, fun x hx => hl x (by rw [e2]; exact List.mem_append.2 (.inr hx))⟩
  | true =>
    cases hb : takeBad l bad most with
    | true => rw [takeV_bad hb] at ht; injection ht with h1 h2; injection h2 with h2 _; subst h1; subst h2; exact ⟨⟨Int.le_refl _, h0⟩, hl⟩
    | false => rw [takeV_ok hb] at ht; simp at ht
theorem decVals_byte : ∀ (n : Nat) (l : List Int) (bad : Bool), (∀ x ∈ l, 0 ≤ x ∧ x ≤ 255) → ∀ x ∈ (decVals n l bad).2.1, 0 ≤ x ∧ x ≤ 255
  | 0, l, bad, h => h
  | n + 1, l, true, h => h
  | n + 1, l, false, h => decVals_byte n _ _ (takeV_lo (takeV_lo h _ (by decide)).2 _ (by decide)).2
/-- What the program takes out of the ink. -/
def dec0 (l : List Int) : Saved × List Int × Bool :=
  let a := takeV l false 100000
  let p := takeV a.2.1 a.2.2 1
  let f := takeV p.2.1 p.2.2 1
  let n := takeV f.2.1 f.2.2 200
  let v := decVals n.1.toNat n.2.1 n.2.2
  let m := takeV v.2.1 v.2.2 5000
  let q := decMails m.1.toNat m.2.1 m.2.2
  (⟨a.1, p.1, f.1 == 1, v.1, q.1⟩, q.2)
theorem dec0_nums {l : List Int} (hl : ∀ x ∈ l, 0 ≤ x ∧ x ≤ 255) {s : Saved} {l' : List Int} (h : dec0 l = (s, l', false)) : l = packs (nums s) ++ l' := by
  obtain ⟨a, l1, b1, h1⟩ : ∃ r t b1, takeV l false 100000 = (r, t, b1) := ⟨_, _, _, rfl⟩
  obtain ⟨p, l2, b2, h2⟩ : ∃ r t b', takeV l1 b1 1 = (r, t, b') := ⟨_, _, _, rfl⟩
  obtain ⟨f, l3, b3, h3⟩ : ∃ r t b', takeV l2 b2 1 = (r, t, b') := ⟨_, _, _, rfl⟩
  obtain ⟨n, l4, b4, h4⟩ : ∃ r t b', takeV l3 b3 200 = (r, t, b') := ⟨_, _, _, rfl⟩
  obtain ⟨vs, l5, b5, h5⟩ : ∃ r t b', decVals n.toNat l4 b4 = (r, t, b') := ⟨_, _, _, rfl⟩
  obtain ⟨m, l6, b6, h6⟩ : ∃ r t b', takeV l5 b5 5000 = (r, t, b') := ⟨_, _, _, rfl⟩
  obtain ⟨ms, l7, b7, h7⟩ : ∃ r t b', decMails m.toNat l6 b6 = (r, t, b') := ⟨_, _, _, rfl⟩
  simp only [dec0, h1, h2, h3, h4, h5, h6, h7, Prod.mk.injEq] at h
  obtain ⟨rfl, rfl, rfl⟩ := h
  have k1 := takeV_lo hl false (most := 100000) (by decide)
  rw [h1] at k1
  have k2 := takeV_lo k1.2 b1 (most := 1) (by decide)
  rw [h2] at k2
  have k3 := takeV_lo k2.2 b2 (most := 1) (by decide)
  rw [h3] at k3
  have k4 := takeV_lo k3.2 b3 (most := 200) (by decide)
  rw [h4] at k4
  have k5 := decVals_byte n.toNat l4 b4 k4.2
  rw [h5] at k5
  have k6 := takeV_lo k5 b5 (most := 5000) (by decide)
  rw [h6] at k6
  obtain ⟨rfl, e7, m7⟩ := decMails_packs _ _ _ _ _ k6.2 h7
  obtain ⟨rfl, e6, _⟩ := takeV_pack k5 h6
  obtain ⟨rfl, e5, m5⟩ := decVals_packs _ _ _ _ _ k4.2 h5
  obtain ⟨rfl, e4, _⟩ := takeV_pack k3.2 h4
  obtain ⟨rfl, e3, _⟩ := takeV_pack k2.2 h3
  obtain ⟨rfl, e2, _⟩ := takeV_pack k1.2 h2
  obtain ⟨_, e1, _⟩ := takeV_pack hl h1
  have hf : b01 (f == 1) = f := by
    have := k3.1
    unfold b01
    by_cases h : f = 1
    · subst h; rfl
    · have : f = 0 := by omega
      subst this; rfl
  have hn : (vs.length : Int) = n := by have := k4.1; omega
  have hm : (ms.length : Int) = m := by have := k6.1; omega
  replace e2 : l1 = pack p ++ l2 := e2
  replace e3 : l2 = pack f ++ l3 := e3
  replace e4 : l3 = pack n ++ l4 := e4
  replace e5 : l4 = packs (numsV vs) ++ l5 := e5
  replace e6 : l5 = pack m ++ l6 := e6
  replace e7 : l6 = packs (numsM ms) ++ l7 := e7
  unfold nums
  simp only [hf, hn, hm]
  rw [packs_append, packs_append, packs_append, packs_cons, packs_cons, packs_cons, packs_one, packs_one, e1, e2, e3, e4, e5, e6, e7]
  simp only [List.append_assoc]
theorem dec0_of {s : Saved} (hs : svOk s) : dec0 (packs (nums s)) = (s, [], false) := by
  obtain ⟨⟨o1, o2, o3, o4⟩, o5, o6, _⟩ := hs
  obtain ⟨st, ph, fr, vs, ms⟩ := s
  simp only at o1 o2 o3 o4 o5 o6
  have hb : 0 ≤ b01 fr ∧ b01 fr ≤ 1 := by cases fr <;> decide
  have hf : (b01 fr == 1) = fr := by cases fr <;> rfl
  have h7 := decMails_of ms [] o6
  rw [List.append_nil] at h7
  have h6 := takeV_of_pack (n := (ms.length : Int)) (most := 5000) (by omega) (by omega) (by decide) (packs (numsM ms))
  have h5 := decVals_of vs (pack (ms.length : Int) ++ packs (numsM ms)) o5
  have h4 := takeV_of_pack (n := (vs.length : Int)) (most := 200) (by omega) (by omega) (by decide) (packs (numsV vs) ++ (pack (ms.length : Int) ++ packs (numsM ms)))
  have h3 := takeV_of_pack (n := b01 fr) (most := 1) (by omega) (by omega) (by decide) (pack (vs.length : Int) ++ (packs (numsV vs) ++ (pack (ms.length : Int) ++ packs (numsM ms))))
  have h2 := takeV_of_pack (n := ph) (most := 1) (by omega) (by omega) (by decide) (pack (b01 fr) ++ (pack (vs.length : Int) ++ (packs (numsV vs) ++ (pack (ms.length : Int) ++ packs (numsM ms)))))
  have h1 := takeV_of_pack (n := st) (most := 100000) (by omega) (by omega) (by decide) (pack ph ++ (pack (b01 fr) ++ (pack (vs.length : Int) ++ (packs (numsV vs) ++ (pack (ms.length : Int) ++ packs (numsM ms))))))
  unfold nums
  simp only
  rw [packs_append, packs_append, packs_append, packs_cons, packs_cons, packs_cons, packs_one, packs_one]
  simp only [List.append_assoc]
  simp only [dec0, h1, h2, h3, h4, h5, h6, h7, Int.toNat_natCast, hf]
/-- The program's answer. -/
theorem dec0_yes {b ink : List Int} {s : Saved} {k : Int} (hb : ∀ x ∈ b, 0 ≤ x ∧ x ≤ 255) (hi : ∀ x ∈ ink, 0 ≤ x ∧ x ≤ 255) (h : unwV b = (ink, k, 0)) (hd : dec0 ink = (s, [], false)) (hk : k = b.length) (hs : svB s = true) : decV b = (s, 0) := by
  have h1 := dec0_nums hi hd
  rw [List.append_nil] at h1
  have ho := svB_ok hs
  refine decV_yes hb ho ((enc_iff hb ho).2 ?_)
  rw [h, h1, hk]
theorem dec0_no {b ink l : List Int} {s : Saved} {k : Int} {bad : Bool} (hb : ∀ x ∈ b, 0 ≤ x ∧ x ≤ 255) (h : unwV b = (ink, k, 0)) (hd : dec0 ink = (s, l, bad)) (hn : ¬ (bad = false ∧ l = [] ∧ k = b.length ∧ svB s = true)) : decV b = (svZero, 3) := by
  refine decV_no h fun s' hs' he => hn ?_
  have h1 := (enc_iff hb hs').1 he
  rw [h] at h1
  injection h1 with e1 e2
  injection e2 with e2 _
  have h2 := dec0_of hs'
  rw [← e1, hd] at h2
  injection h2 with e3 e4
  injection e4 with e4 e5
  exact ⟨e5, e4, e2, by rw [e3]; exact svB_yes hs'⟩
end Go.Proofs.YtphgdpjfolkafaaDoor
