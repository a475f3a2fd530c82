/- What is saved hangs on its bytes alone. -/
import Derived.Test.YtphgdpjfolkafaaDoorCka
import Derived.Test.YtphgdpjfolkafaaDoorCkG
namespace Go.Proofs.YtphgdpjfolkafaaDoor
open Go.ChangeShapes Go.WideShapes Go.ChangeAt Go.RowKit
set_option linter.unusedVariables false
set_option linter.unusedSimpArgs false
theorem packs_cons (n : Int) (l : List Int) : packs (n :: l) = pack n ++ packs l := by unfold packs; rw [List.flatMap_cons]
theorem packs_inj : ∀ (l l' : List Int), u64s l → u64s l' → packs l = packs l' → l = l'
  | [], [], _, _, _ => rfl
  | [], b :: l', _, _, h => by
    have h1 := congrArg List.length h
    have h2 := (pack_len b).2
    rw [packs_cons, List.length_append] at h1
    simp [packs] at h1
    omega
  | a :: l, [], _, _, h => by
    have h1 := congrArg List.length h
    have h2 := (pack_len a).2
    rw [packs_cons, List.length_append, show (packs ([] : List Int)).length = 0 from rfl] at h1
    omega
  | a :: l, b :: l', hl, hl', h => by
    rw [packs_cons, packs_cons] at h
    have ha := hl a (List.mem_cons_self ..)
    have hb := hl' b (List.mem_cons_self ..)
    have h1 := takeV_of_pack ha.1 ha.2 (by decide) (packs l)
    have h2 := takeV_of_pack hb.1 hb.2 (by decide) (packs l')
    rw [h, h2] at h1
    injection h1 with e1 e2
    injection e2 with e2 _
    subst e1
    rw [packs_inj l l' (fun n hn => hl n (List.mem_cons_of_mem _ hn)) (fun n hn => hl' n (List.mem_cons_of_mem _ hn)) e2.symm]
theorem numsV_inj : ∀ (l l' : List Val), numsV l = numsV l' → l = l'
  | [], [], _ => rfl
  | [], b :: l', h => by simp [numsV] at h
  | a :: l, [], h => by simp [numsV] at h
  | ⟨a1, a2⟩ :: l, ⟨b1, b2⟩ :: l', h => by
    simp only [numsV, List.flatMap_cons, List.cons_append, List.nil_append] at h
    injection h with h1 h
    injection h with h2 h
    rw [numsV_inj l l' h, show a1 = b1 by omega, show a2 = b2 by omega]
theorem numsM_inj : ∀ (l l' : List Mail), numsM l = numsM l' → l = l'
  | [], [], _ => rfl
  | [], b :: l', h => by simp [numsM] at h
  | a :: l, [], h => by simp [numsM] at h
  | ⟨a1, a2⟩ :: l, ⟨b1, b2⟩ :: l', h => by
    simp only [numsM, List.flatMap_cons, List.cons_append, List.nil_append] at h
    injection h with h1 h
    injection h with h2 h
    rw [numsM_inj l l' h, h1, h2]
theorem nums_inj {s s' : Saved} (h : nums s = nums s') : s = s' := by
  obtain ⟨st, ph, fr, vs, ms⟩ := s
  obtain ⟨st', ph', fr', vs', ms'⟩ := s'
  unfold nums at h
  simp only [List.append_assoc, List.cons_append, List.nil_append] at h
  injection h with h1 h
  injection h with h2 h
  injection h with h3 h
  injection h with h4 h
  have hv : (numsV vs).length = (numsV vs').length := by rw [numsV_len, numsV_len]; omega
  obtain ⟨h5, h6⟩ := List.append_inj h hv
  injection h6 with h7 h8
  have hf : fr = fr' := by cases fr <;> cases fr' <;> simp [b01] at h3 ⊢
  rw [h1, h2, hf, numsV_inj _ _ h5, numsM_inj _ _ h8]
/-- One thing saved at most has these bytes. -/
theorem encV_inj {s s' : Saved} (h : svOk s) (h' : svOk s') (e : packs (nums s) = packs (nums s')) : s = s' := nums_inj (packs_inj _ _ (nums_ok h) (nums_ok h') e)
/-- What the whole of some bytes unwraps to is wrapped in them. -/
theorem unw_wrap {b ink : List Int} (hb : ∀ x ∈ b, 0 ≤ x ∧ x ≤ 255) (h : unwV b = (ink, (b.length : Int), 0)) : wrapV ink = (b, 0) := by
  rcases unwV_cases b hb with ⟨e, h1, h2, h3⟩ | ⟨n, k, h1, h2, h4, h5, ⟨h6, h7⟩ | ⟨h6, h7, h8⟩ | ⟨h6, h7⟩⟩
  · rw [h3] at h; simp only [Prod.mk.injEq] at h; omega
  · rw [h7] at h; simp only [Prod.mk.injEq] at h; omega
  · rw [h8] at h; simp only [Prod.mk.injEq] at h; omega
  · obtain ⟨w1, w2, w3⟩ := wrap_same hb h1 h7
    unfold unwV at h
    rw [h1] at h
    simp only at h
    rw [if_neg (by omega), if_neg (by omega), if_neg (by omega)] at h
    have en : ((k : Int) + (n : Int)).toNat = k + n := by omega
    rw [en] at h
    split at h
    · rename_i hs
      simp only [Prod.mk.injEq] at h
      obtain ⟨i1, i2, _⟩ := h
      rw [show ((k : Int)).toNat = k from rfl, show ((n : Int)).toNat = n from rfl] at i1
      have hw := w3.2 hs
      rw [i1] at hw
      have hl : k + n + 4 = b.length := by omega
      rw [hl, List.take_length] at hw
      have hi : ink.length ≤ n := by rw [← i1, List.length_take]; omega
      rw [wrapV_ok (by omega), hw]
    · simp only [Prod.mk.injEq] at h; omega
/-- What is wrapped is unwrapped. -/
theorem wrap_unw {l : List Int} (hl : ∀ x ∈ l, 0 ≤ x ∧ x ≤ 255) (hn : l.length ≤ 20000) : unwV (wrapB l) = (l, ((wrapB l).length : Int), 0) := by
  have hg := getv_of_pack (n := (l.length : Int)) (by omega) (by omega) (l ++ quad (sumV (pack l.length ++ l)))
  have hw : wrapB l = pack l.length ++ (l ++ quad (sumV (pack l.length ++ l))) := by unfold wrapB; rw [List.append_assoc]
  have hq : (quad (sumV (pack l.length ++ l))).length = 4 := rfl
  have hpl : ∀ x ∈ pack l.length ++ l, 0 ≤ x ∧ x ≤ 255 := fun x hx => by
    rcases List.mem_append.1 hx with hx | hx
    · exact pack_byte _ (by omega) (by omega) x hx
    · exact hl x hx
  have hs := sumV_lt _ hpl
  have hL : (wrapB l).length = (pack l.length).length + l.length + 4 := by rw [hw, List.length_append, List.length_append, hq]; omega
  have e1 : (wrapB l).take ((pack l.length).length + l.length) = pack l.length ++ l := by
    unfold wrapB
    rw [List.take_append_of_le_length (by rw [List.length_append]; omega), List.take_of_length_le (by rw [List.length_append]; omega)]
  have e2 : (wrapB l).drop ((pack l.length).length + l.length) = quad (sumV (pack l.length ++ l)) := by
    unfold wrapB
    rw [List.drop_append_of_le_length (by rw [List.length_append]; omega), List.drop_of_length_le (by rw [List.length_append]; omega), List.nil_append]
  have e3 : ((wrapB l).drop (pack l.length).length).take l.length = l := by
    rw [hw, List.drop_left, List.take_left]
  rw [← hw] at hg
  unfold unwV
  rw [hg]
  simp only
  have en : (((pack l.length).length : Int) + (l.length : Int)).toNat = (pack l.length).length + l.length := by omega
  rw [if_neg (by omega), if_neg (by omega), if_neg (by omega), en, e1, e2]
  have hu : sumV (pack l.length ++ l) = unquad ((quad (sumV (pack l.length ++ l))).take 4) := by
    rw [List.take_of_length_le (by rw [hq]; exact Nat.le_refl _)]
    exact (quad_iff (l := quad (sumV (pack l.length ++ l))) rfl (quad_byte _ hs.1 hs.2) hs.1 hs.2).1 rfl
  rw [if_pos hu, Int.toNat_natCast, Int.toNat_natCast, e3]
  simp only [Prod.mk.injEq, and_true, true_and]
  omega
/-- The bytes of what is saved, told from either end. -/
theorem enc_iff {b : List Int} (hb : ∀ x ∈ b, 0 ≤ x ∧ x ≤ 255) {s : Saved} (hs : svOk s) : encV s = (b, 0) ↔ unwV b = (packs (nums s), (b.length : Int), 0) := by
  rw [encV_ok (svB_yes hs)]
  constructor
  · intro h
    by_cases hn : 20000 < (packs (nums s)).length
    · rw [wrapV_big hn] at h; simp only [Prod.mk.injEq] at h; omega
    · rw [wrapV_ok hn] at h
      simp only [Prod.mk.injEq, and_true] at h
      rw [← h]
      exact wrap_unw (packs_byte (nums_ok hs)) (by omega)
  · exact unw_wrap hb
/-- Many numbers, each with its bound. -/
def takeL : List Int → List Int → Bool → List Int × List Int × Bool
  | [], l, bad => ([], l, bad)
  | m :: ms, l, bad => ((takeV l bad m).1 :: (takeL ms (takeV l bad m).2.1 (takeV l bad m).2.2).1, (takeL ms (takeV l bad m).2.1 (takeV l bad m).2.2).2)
theorem takeL_bad : ∀ (ms l : List Int), (takeL ms l true).2 = (l, true)
  | [], l => rfl
  | m :: ms, l => by
    have h : takeV l true m = (0, l, true) := takeV_bad (by simp [takeBad])
    rw [takeL, h]
    exact takeL_bad ms l
theorem takeL_packs : ∀ (ms l ns l' : List Int) (bad : Bool), (∀ x ∈ l, 0 ≤ x ∧ x ≤ 255) → takeL ms l bad = (ns, l', false) → bad = false ∧ l = packs ns ++ l' ∧ ns.length = ms.length
  | [], l, ns, l', bad, hl, h => by
    simp only [takeL, Prod.mk.injEq] at h
    obtain ⟨rfl, rfl, rfl⟩ := h
    exact ⟨rfl, rfl, rfl⟩
  | m :: ms, l, ns, l', bad, hl, h => by
    obtain ⟨r, t, b2, ht⟩ : ∃ r t b2, takeV l bad m = (r, t, b2) := ⟨_, _, _, rfl⟩
    rw [takeL, ht] at h
    simp only [Prod.mk.injEq] at h
    obtain ⟨h1, h2⟩ := h
    cases b2 with
    | true => rw [takeL_bad] at h2; simp at h2
    | false =>
      obtain ⟨e1, e2, _, _⟩ := takeV_pack hl ht
      have hl2 : ∀ x ∈ t, 0 ≤ x ∧ x ≤ 255 := fun x hx => hl x (by rw [e2]; exact List.mem_append.2 (.inr hx))
      obtain ⟨_, e3, e4⟩ := takeL_packs ms t _ l' false hl2 (Prod.ext rfl h2)
      refine ⟨e1, ?_, ?_⟩
      · rw [← h1, packs_cons, e2, List.append_assoc, ← e3]
      · rw [← h1, List.length_cons, List.length_cons, e4]
theorem takeL_of : ∀ (ms ns l' : List Int), ns.length = ms.length → (∀ (i : Nat) m n, ms[i]? = some m → ns[i]? = some n → 0 ≤ n ∧ n ≤ m ∧ m < 9223372036854775808) → takeL ms (packs ns ++ l') false = (ns, l', false)
  | [], [], l', _, _ => by simp [takeL, packs]
  | [], b :: ns, l', h, _ => by simp at h
  | a :: ms, [], l', h, _ => by simp at h
  | m :: ms, n :: ns, l', h, hb => by
    obtain ⟨h0, h1, h2⟩ := hb 0 m n rfl rfl
    have ht := takeV_of_pack h0 h1 h2 (packs ns ++ l')
    have ih := takeL_of ms ns l' (by simpa using h) (fun i a b ha hb' => hb (i + 1) a b (by simpa using ha) (by simpa using hb'))
    rw [packs_cons, List.append_assoc, takeL, ht]
    simp only
    rw [ih]
end Go.Proofs.YtphgdpjfolkafaaDoor
