/- The document's SavedOf: what it answers. -/
import Derived.Test.YtphgdpjfolkafaaDoorCkJ
namespace Go.Proofs.YtphgdpjfolkafaaDoor
open Go.ChangeShapes Go.WideShapes Go.ChangeAt Go.RowKit
set_option linter.unusedVariables false
set_option linter.unusedSimpArgs false
def e60 (l : List Int) : Prop := ∀ n ∈ l, 0 ≤ n ∧ n ≤ 1152921504606846976
theorem nums_e60 {s : Saved} (h : svOk s) : e60 (nums s) := by
  obtain ⟨⟨h1, h2, h3, h4⟩, h5, h6, _⟩ := h
  intro n hn
  unfold nums at hn
  simp only [List.mem_append, List.mem_cons, List.not_mem_nil, or_false] at hn
  rcases hn with ((((rfl | rfl | rfl | rfl) | hn) | rfl) | hn)
  · omega
  · omega
  · unfold b01; split <;> omega
  · omega
  · obtain ⟨x, hx, hn⟩ := List.mem_flatMap.1 hn
    have := h5 x hx
    unfold svVal at this
    simp only [List.mem_cons, List.not_mem_nil, or_false] at hn
    rcases hn with rfl | rfl <;> omega
  · omega
  · obtain ⟨x, hx, hn⟩ := List.mem_flatMap.1 hn
    have := h6 x hx
    unfold mlOk at this
    simp only [List.mem_cons, List.not_mem_nil, or_false] at hn
    rcases hn with rfl | rfl <;> omega
theorem e60_u64 {l : List Int} (h : e60 l) : u64s l := fun n hn => by have := h n hn; omega
/-- What begins with the bytes of numbers tells these numbers first. -/
theorem packs_pre : ∀ (l ns rest : List Int), e60 l → e60 ns → packs l ++ rest = packs ns → ∃ ns', ns = l ++ ns' ∧ rest = packs ns'
  | [], ns, rest, _, _, h => ⟨ns, rfl, h⟩
  | a :: l, [], rest, _, _, h => by
    have h1 := congrArg List.length h
    have h2 := (pack_len a).2
    rw [packs_cons, List.append_assoc, List.length_append, show (packs ([] : List Int)).length = 0 from rfl] at h1
    omega
  | a :: l, b :: ns, rest, hl, hn, h => by
    rw [packs_cons, packs_cons, List.append_assoc] at h
    have ha := hl a (List.mem_cons_self ..)
    have hb := hn b (List.mem_cons_self ..)
    have h1 := takeV_of_pack ha.1 ha.2 (by decide) (packs l ++ rest)
    have h2 := takeV_of_pack hb.1 hb.2 (by decide) (packs ns)
    rw [h, h2] at h1
    injection h1 with e1 e2
    injection e2 with e2 _
    subst e1
    obtain ⟨ns', e3, e4⟩ := packs_pre l ns rest (fun n hn => hl n (List.mem_cons_of_mem _ hn)) (fun x hx => hn x (List.mem_cons_of_mem _ hx)) e2.symm
    exact ⟨ns', by rw [e3]; rfl, e4⟩
/-- Where a number is spoilt these are no numbers' bytes. -/
theorem scan_bad {l rest ns : List Int} (hl : e60 l) (hn : e60 ns) (hr : rest ≠ []) (hb : takeBad rest false 1152921504606846976 = true) : packs l ++ rest ≠ packs ns := fun h => by
  obtain ⟨ns', e1, e⟩ := packs_pre l ns rest hl hn h
  cases ns' with
  | nil => exact hr (by rw [e]; rfl)
  | cons n ns' =>
    have hb2 := hn n (by rw [e1]; simp)
    have h2 := takeV_of_pack hb2.1 hb2.2 (by decide) (packs ns')
    rw [← packs_cons, ← e, takeV_bad hb] at h2
    simp at h2
theorem numsV_get : ∀ (vs : List Val) (i : Nat) (x : Val), vs[i]? = some x → (numsV vs)[2 * i]? = some (x.a + 1) ∧ (numsV vs)[2 * i + 1]? = some (x.label + 1)
  | [], i, x, h => by simp at h
  | a :: vs, 0, x, h => by
    simp only [List.getElem?_cons_zero, Option.some.injEq] at h
    subst h
    exact ⟨rfl, rfl⟩
  | a :: vs, i + 1, x, h => by
    rw [List.getElem?_cons_succ] at h
    have := numsV_get vs i x h
    exact this
theorem numsM_get : ∀ (ms : List Mail) (i : Nat) (x : Mail), ms[i]? = some x → (numsM ms)[2 * i]? = some x.to ∧ (numsM ms)[2 * i + 1]? = some x.val
  | [], i, x, h => by simp at h
  | a :: vs, 0, x, h => by
    simp only [List.getElem?_cons_zero, Option.some.injEq] at h
    subst h
    exact ⟨rfl, rfl⟩
  | a :: vs, i + 1, x, h => by
    rw [List.getElem?_cons_succ] at h
    have := numsM_get vs i x h
    exact this
def at0 (ns : List Int) (k : Nat) : Int := (ns[k]?).getD 0
def docVals (ns : List Int) (n : Nat) : List Val := (List.range n).map fun i => ⟨at0 ns (4 + 2 * i) - 1, at0 ns (5 + 2 * i) - 1⟩
def docMails (ns : List Int) (o n : Nat) : List Mail := (List.range n).map fun i => ⟨at0 ns (o + 2 * i), at0 ns (o + 2 * i + 1)⟩
theorem docVals_succ (ns : List Int) (n : Nat) : docVals ns (n + 1) = docVals ns n ++ [⟨at0 ns (4 + 2 * n) - 1, at0 ns (5 + 2 * n) - 1⟩] := by unfold docVals; rw [List.range_succ, List.map_append]; rfl
theorem docMails_succ (ns : List Int) (o n : Nat) : docMails ns o (n + 1) = docMails ns o n ++ [⟨at0 ns (o + 2 * n), at0 ns (o + 2 * n + 1)⟩] := by unfold docMails; rw [List.range_succ, List.map_append]; rfl
theorem docVals_len (ns : List Int) (n : Nat) : (docVals ns n).length = n := by simp [docVals]
theorem docMails_len (ns : List Int) (o n : Nat) : (docMails ns o n).length = n := by simp [docMails]
/-- What numbers say. -/
def docS (ns : List Int) : Saved := ⟨at0 ns 0, at0 ns 1, at0 ns 2 == 1, docVals ns (at0 ns 3).toNat, docMails ns (5 + 2 * (at0 ns 3).toNat) ((ns.length - (5 + 2 * (at0 ns 3).toNat)) / 2)⟩
theorem ext_map {α : Type} {l : List α} {n : Nat} {f : Nat → α} (hl : l.length = n) (h : ∀ (i : Nat) x, l[i]? = some x → f i = x) : (List.range n).map f = l := by
  refine List.ext_getElem? fun i => ?_
  by_cases hi : i < n
  · have e : l[i]? = some l[i] := List.getElem?_eq_getElem (by omega)
    rw [e, List.getElem?_map, List.getElem?_range hi, Option.map_some, h i _ e]
  · rw [List.getElem?_eq_none (by simp; omega), List.getElem?_eq_none (by omega)]
theorem docS_nums (s : Saved) : docS (nums s) = s := by
  obtain ⟨st, ph, fr, vs, ms⟩ := s
  have hl := nums_len ⟨st, ph, fr, vs, ms⟩
  simp only at hl
  have hnv := numsV_len vs
  have e0 : nums ⟨st, ph, fr, vs, ms⟩ = st :: ph :: b01 fr :: (vs.length : Int) :: (numsV vs ++ ((ms.length : Int) :: numsM ms)) := by unfold nums; simp
  have e3 : at0 (nums ⟨st, ph, fr, vs, ms⟩) 3 = (vs.length : Int) := by rw [e0]; rfl
  have e2 : at0 (nums ⟨st, ph, fr, vs, ms⟩) 2 = b01 fr := by rw [e0]; rfl
  have e1 : at0 (nums ⟨st, ph, fr, vs, ms⟩) 1 = ph := by rw [e0]; rfl
  have ez : at0 (nums ⟨st, ph, fr, vs, ms⟩) 0 = st := by rw [e0]; rfl
  have hf : (b01 fr == 1) = fr := by cases fr <;> rfl
  have hv : ∀ (i : Nat) (x : Int), (numsV vs)[i]? = some x → (nums ⟨st, ph, fr, vs, ms⟩)[4 + i]? = some x := fun i x h => by
    rw [e0, show 4 + i = i + 1 + 1 + 1 + 1 by omega]
    simp only [List.getElem?_cons_succ]
    rw [List.getElem?_append_left (List.getElem?_eq_some_iff.1 h).1]
    exact h
  have hm : ∀ (i : Nat) (x : Int), (numsM ms)[i]? = some x → (nums ⟨st, ph, fr, vs, ms⟩)[5 + 2 * vs.length + i]? = some x := fun i x h => by
    rw [e0, show 5 + 2 * vs.length + i = (2 * vs.length + i + 1) + 1 + 1 + 1 + 1 by omega]
    simp only [List.getElem?_cons_succ]
    rw [List.getElem?_append_right (by omega), show 2 * vs.length + i + 1 - (numsV vs).length = i + 1 by omega, List.getElem?_cons_succ]
    exact h
  unfold docS
  rw [e3, e2, e1, ez, hf, hl, Int.toNat_natCast]
  congr 1
  · refine ext_map rfl fun i x h => ?_
    obtain ⟨h1, h2⟩ := numsV_get vs i x h
    have h1 := hv _ _ h1
    have h2 := hv _ _ h2
    rw [show 4 + (2 * i + 1) = 5 + 2 * i by omega] at h2
    unfold at0
    rw [h1, h2]
    simp
  · refine ext_map (by omega) fun i x h => ?_
    obtain ⟨h1, h2⟩ := numsM_get ms i x h
    have h1 := hm _ _ h1
    have h2 := hm _ _ h2
    rw [← Nat.add_assoc] at h2
    unfold at0
    rw [h1, h2]
    rfl
/-- The document's answer. -/
theorem doc_yes {b : List Int} (hb : ∀ x ∈ b, 0 ≤ x ∧ x ≤ 255) {s : Saved} (h : encV s = (b, 0)) : decV b = (s, 0) := by
  cases hs : svB s with
  | true => exact decV_yes hb (svB_ok hs) h
  | false => rw [encV_bad hs] at h; simp at h
theorem doc_bad {b ink l rest : List Int} {k : Int} (hb : ∀ x ∈ b, 0 ≤ x ∧ x ≤ 255) (h : unwV b = (ink, k, 0)) (hi : ink = packs l ++ rest) (hl : e60 l) (hr : rest ≠ []) (ht : takeBad rest false 1152921504606846976 = true) : decV b = (svZero, 3) := by
  refine decV_no h fun s hs he => ?_
  have h1 := (enc_iff hb hs).1 he
  rw [h] at h1
  injection h1 with e1 _
  exact scan_bad hl (nums_e60 hs) hr ht (by rw [← hi, e1])
theorem doc_of {b ink l : List Int} {k : Int} (hb : ∀ x ∈ b, 0 ≤ x ∧ x ≤ 255) (h : unwV b = (ink, k, 0)) (hi : ink = packs l) (hl : e60 l) {s : Saved} (hs : svOk s) (he : encV s = (b, 0)) : l = nums s := by
  have h1 := (enc_iff hb hs).1 he
  rw [h] at h1
  injection h1 with e1 _
  exact packs_inj _ _ (e60_u64 hl) (nums_ok hs) (by rw [← hi, e1])
theorem doc_short {b ink l : List Int} {k : Int} (hb : ∀ x ∈ b, 0 ≤ x ∧ x ≤ 255) (h : unwV b = (ink, k, 0)) (hi : ink = packs l) (hl : e60 l) (hn : l.length < 5 ∨ 200 < at0 l 3 ∨ (l.length : Int) < 5 + 2 * at0 l 3) : decV b = (svZero, 3) := by
  refine decV_no h fun s hs he => ?_
  have e := doc_of hb h hi hl hs he
  have hle := nums_len s
  have h3 : at0 (nums s) 3 = (s.vals.length : Int) := by unfold nums; simp [at0]
  rw [e] at hn
  have h4 := hs.1.2.2.1
  rw [h3, hle] at hn
  omega
theorem doc_no {b ink l : List Int} {k : Int} (hb : ∀ x ∈ b, 0 ≤ x ∧ x ≤ 255) (h : unwV b = (ink, k, 0)) (hi : ink = packs l) (hl : e60 l) (hn : encV (docS l) ≠ (b, 0)) : decV b = (svZero, 3) := by
  refine decV_no h fun s hs he => hn ?_
  rw [doc_of hb h hi hl hs he, docS_nums]
  exact he
end Go.Proofs.YtphgdpjfolkafaaDoor
