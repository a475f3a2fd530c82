/- Plain: the move of a line; the moves of a text. -/
import Derived.Test.YtfdaheenigmkmaaDoorRdP
namespace Go.Proofs.YtfdaheenigmkmaaDoor
set_option linter.unusedVariables false
set_option linter.unusedSimpArgs false
/-- The word of a kind, as bytes. -/
def wordL (k : Int) : List UInt8 := (wordB k).data.toList
def kindW (w : List UInt8) : Int := if w = wordL 1 then 1 else if w = wordL 2 then 2 else if w = wordL 3 then 3 else if w = wordL 4 then 4 else if w = wordL 5 then 5 else if w = wordL 6 then 6 else if w = wordL 7 then 7 else if w = wordL 8 then 8 else 0
theorem kindW_range (w : List UInt8) : 0 ≤ kindW w ∧ kindW w ≤ 8 := by unfold kindW; repeat (first | split | decide)
theorem kindW_word {k : Int} (h1 : 1 ≤ k) (h8 : k ≤ 8) : kindW (wordL k) = k := by
  rcases (show k = 1 ∨ k = 2 ∨ k = 3 ∨ k = 4 ∨ k = 5 ∨ k = 6 ∨ k = 7 ∨ k = 8 by omega) with rfl | rfl | rfl | rfl | rfl | rfl | rfl | rfl <;> decide
theorem kindW_inv {w : List UInt8} (h : kindW w ≠ 0) : w = wordL (kindW w) := by
  unfold kindW at h ⊢
  repeat (first | (split at h <;> rename_i hh; · (repeat (first | rw [if_pos hh] | rw [if_neg (by assumption)])); exact hh) | exact absurd rfl h)
theorem word_no32 (k : Int) : (32 : UInt8) ∉ wordL k := by unfold wordL wordB; repeat (first | split | decide)
/-- What the program reads out of a line's words. -/
def moveW (ws : List (List UInt8)) : Move := ⟨kindW (ws.headD []), if 1 < ws.length then atoiV (ws.getD 1 []) else 0, if 2 < ws.length then atoiV (ws.getD (ws.length - 1) []) else 0⟩
def manyV (k : Int) : Nat := 1 + (if atB k then 1 else 0) + (if keepB k then 1 else 0)
/-- What the document reads out of a line's words. -/
def docK (k : Int) (ws : List (List UInt8)) : Move :=
  if k = 0 ∨ ws.length ≠ manyV k then ⟨0, 0, 0⟩
  else if (if atB k then bigV (ws.getD 1 []) else 0) < 0 ∨ (if keepB k then bigV (ws.getD 2 []) else 0) < 0 then ⟨0, 0, 0⟩
  else ⟨k, if atB k then bigV (ws.getD 1 []) else 0, if keepB k then bigV (ws.getD 2 []) else 0⟩
def docW (ws : List (List UInt8)) : Move := docK (kindW (ws.headD [])) ws
/-- The words of a move's line. -/
def wordsM (m : Move) : List (List UInt8) := wordL m.kind :: ((if atB m.kind then [dd m.at_.toNat] else []) ++ (if keepB m.kind then [dd m.keep.toNat] else []))
def fits (m : Move) : Prop := 1 ≤ m.kind ∧ m.kind ≤ 8 ∧ numOk (atB m.kind) m.at_ ∧ numOk (keepB m.kind) m.keep
theorem keep_at {k : Int} (h : keepB k = true) : atB k = true := by
  have : k = 6 := by unfold keepB at h; simpa using h
  subst this; decide
theorem lineV_fits {m : Move} (h : fits m) : lineV m = (⟨(joinL (wordsM m) ++ [10]).toArray⟩, 0) := by
  obtain ⟨h1, h2, h3, h4⟩ := h
  unfold lineV
  rw [if_neg (by omega), if_neg (fun hh => hh ⟨h3, h4⟩)]
  congr 1
  apply ByteArray.ext
  apply Array.toList_inj.1
  unfold addN wordsM nlB spB
  cases ha : atB m.kind with
  | false =>
    cases hk : keepB m.kind with
    | true => rw [keep_at hk] at ha; cases ha
    | false => simp [joinL, wordL]
  | true =>
    cases hk : keepB m.kind with
    | true => simp [joinL, wordL, decB]
    | false => simp [joinL, wordL, decB]
theorem lineV_bad {m : Move} (h : ¬ fits m) : (lineV m).2 ≠ 0 := by
  unfold lineV
  split
  · decide
  · split
    · decide
    · rename_i h1 h2
      have h4 := Classical.not_not.1 h2
      exact absurd (show fits m from ⟨by omega, by omega, h4.1, h4.2⟩) h
theorem split_words (m : Move) : splitL (joinL (wordsM m)) = wordsM m := by
  unfold wordsM
  cases atB m.kind with
  | false =>
    cases keepB m.kind with
    | false => exact splitL_none (word_no32 _)
    | true => show splitL (wordL m.kind ++ 32 :: dd m.keep.toNat) = _; rw [splitL_cut (word_no32 _), splitL_none (dd_no32 _)]; rfl
  | true =>
    cases keepB m.kind with
    | false => show splitL (wordL m.kind ++ 32 :: dd m.at_.toNat) = _; rw [splitL_cut (word_no32 _), splitL_none (dd_no32 _)]; rfl
    | true => show splitL (wordL m.kind ++ 32 :: (dd m.at_.toNat ++ 32 :: dd m.keep.toNat)) = _; rw [splitL_cut (word_no32 _), splitL_cut (dd_no32 _), splitL_none (dd_no32 _)]; rfl
theorem words_len (m : Move) : (wordsM m).length = manyV m.kind := by
  unfold wordsM manyV
  cases atB m.kind <;> cases keepB m.kind <;> rfl
theorem moveW_words {m : Move} (h : fits m) : moveW (wordsM m) = m := by
  obtain ⟨h1, h2, h3, h4⟩ := h
  obtain ⟨k, a, p⟩ := m
  dsimp only at h1 h2 h3 h4
  have hk : kindW ((wordsM ⟨k, a, p⟩).headD []) = k := kindW_word h1 h2
  unfold moveW
  rw [hk]
  have ha : atoiV (dd a.toNat) = a := by rw [atoiV_dd (by have := h3.2.1; omega)]; have := h3.1; omega
  have hp : atoiV (dd p.toNat) = p := by rw [atoiV_dd (by have := h4.2.1; omega)]; have := h4.1; omega
  unfold wordsM
  dsimp only
  cases hA : atB k with
  | false =>
    have a0 : a = 0 := h3.2.2 hA
    cases hK : keepB k with
    | true => rw [keep_at hK] at hA; cases hA
    | false => have p0 : p = 0 := h4.2.2 hK
               subst a0 p0; rfl
  | true =>
    cases hK : keepB k with
    | true => simp [ha, hp]
    | false => have p0 : p = 0 := h4.2.2 hK
               subst p0; simp [ha]
theorem docW_words {m : Move} (h : fits m) : docW (wordsM m) = m := by
  obtain ⟨h1, h2, h3, h4⟩ := h
  obtain ⟨k, a, p⟩ := m
  dsimp only at h1 h2 h3 h4
  have hk : kindW ((wordsM ⟨k, a, p⟩).headD []) = k := kindW_word h1 h2
  have hl := words_len ⟨k, a, p⟩
  unfold docW docK
  rw [hk, hl]
  dsimp only
  have ha : bigV (dd a.toNat) = a := by rw [bigV_dd (by have := h3.2.1; omega)]; have := h3.1; omega
  have hp : bigV (dd p.toNat) = p := by rw [bigV_dd (by have := h4.2.1; omega)]; have := h4.1; omega
  rw [if_neg (by rintro (h5 | h5); omega; exact h5 rfl)]
  have e1 : (if atB k = true then bigV ((wordsM ⟨k, a, p⟩).getD 1 []) else 0) = a := by
    cases hA : atB k with
    | false => exact (h3.2.2 hA).symm
    | true => unfold wordsM; simp [hA, ha]
  have e2 : (if keepB k = true then bigV ((wordsM ⟨k, a, p⟩).getD 2 []) else 0) = p := by
    cases hK : keepB k with
    | false => exact (h4.2.2 hK).symm
    | true => unfold wordsM; simp [hK, keep_at hK, hp]
  rw [e1, e2, if_neg (by have := h3.1; have := h4.1; omega)]
theorem docK_inv {k : Int} {ws : List (List UInt8)} (h : (docK k ws).kind ≠ 0) (r1 : 0 ≤ k) (r2 : k ≤ 8) (hw : k ≠ 0 → ws.headD [] = wordL k) : fits (docK k ws) ∧ ws = wordsM (docK k ws) := by
  unfold docK at h ⊢
  by_cases h1 : k = 0 ∨ ws.length ≠ manyV k
  · rw [if_pos h1] at h; exact absurd rfl h
  rw [if_neg h1] at h ⊢
  by_cases h2 : (if atB k then bigV (ws.getD 1 []) else 0) < 0 ∨ (if keepB k then bigV (ws.getD 2 []) else 0) < 0
  · rw [if_pos h2] at h; exact absurd rfl h
  rw [if_neg h2] at h ⊢
  dsimp only at h
  have hw := hw h
  have hlen : ws.length = manyV k := Classical.not_not.1 (fun hh => h1 (.inr hh))
  cases ws with
  | nil => unfold manyV at hlen; simp at hlen; omega
  | cons w0 rest =>
    rw [List.headD_cons] at hw
    subst hw
    have hin : ∀ {l : List UInt8}, 0 ≤ bigV l → (bigV l).toNat ≤ 1152921504606846976 ∧ l = dd (bigV l).toNat := fun {l} hl => bigV_inv (l := l) (n := (bigV l).toNat) (by omega)
    unfold manyV at hlen
    unfold fits numOk wordsM
    dsimp only
    cases hA : atB k with
    | false =>
      cases hK : keepB k with
      | true => rw [keep_at hK] at hA; cases hA
      | false =>
        rw [hA, hK] at hlen
        have : rest = [] := List.length_eq_zero_iff.1 (by simpa using hlen)
        subst this
        simp [hA, hK]
        omega
    | true =>
      cases hK : keepB k with
      | true =>
        rw [hA, hK] at hlen
        match rest, hlen with
        | [x, y], _ =>
          simp [hA, hK] at h2 ⊢
          obtain ⟨x1, x2⟩ := hin h2.1
          obtain ⟨y1, y2⟩ := hin h2.2
          exact ⟨⟨by omega, r2, ⟨h2.1, by omega⟩, ⟨h2.2, by omega⟩⟩, x2, y2⟩
      | false =>
        rw [hA, hK] at hlen
        match rest, hlen with
        | [x], _ =>
          simp [hA, hK] at h2 ⊢
          obtain ⟨x1, x2⟩ := hin h2
          exact ⟨⟨by omega, r2, h2, by omega⟩, x2⟩
theorem docW_inv {ws : List (List UInt8)} (h : (docW ws).kind ≠ 0) : fits (docW ws) ∧ ws = wordsM (docW ws) :=
  docK_inv h (kindW_range _).1 (kindW_range _).2 kindW_inv
/-- The program's test of a line. -/
def trimL (l : List UInt8) : List UInt8 := Lib.trimSuffix l [10]
def lineOk (l : List UInt8) : Prop := lineV (moveW (splitL (trimL l))) = (⟨l.toArray⟩, 0)
instance (l : List UInt8) : Decidable (lineOk l) := by unfold lineOk; infer_instance
theorem trim_nl (s : List UInt8) : trimL (s ++ [10]) = s := by
  unfold trimL Lib.trimSuffix Lib.hasSuffix
  rw [if_pos (by simp)]; simp
theorem lineOk_nl (s : List UInt8) : lineOk (s ++ [10]) ↔ (docW (splitL s)).kind ≠ 0 := by
  unfold lineOk
  rw [trim_nl]
  constructor
  · intro h
    by_cases hf : fits (moveW (splitL s))
    · rw [lineV_fits hf] at h
      have h2 : joinL (wordsM (moveW (splitL s))) ++ [10] = s ++ [10] := by
        have := congrArg (fun x : ByteArray × Int => x.1.data.toList) h
        simpa using this
      have h3 := List.append_cancel_right h2
      have h4 := split_words (moveW (splitL s))
      rw [h3] at h4
      have h5 := docW_words hf
      rw [← h4] at h5
      rw [h5]
      have := hf.1; omega
    · exact absurd (congrArg Prod.snd h) (lineV_bad hf)
  · intro h
    obtain ⟨h1, h2⟩ := docW_inv h
    have h3 : moveW (splitL s) = docW (splitL s) := by
      have h4 := moveW_words h1
      rwa [← h2] at h4
    rw [h3, lineV_fits h1, ← h2, joinL_split]
theorem lineOk_move {s : List UInt8} (h : (docW (splitL s)).kind ≠ 0) : moveW (splitL (trimL (s ++ [10]))) = docW (splitL s) := by
  obtain ⟨h1, h2⟩ := docW_inv h
  rw [trim_nl]
  have h4 := moveW_words h1
  rwa [← h2] at h4
theorem lineOk_end {l : List UInt8} (h : lineOk l) : ∃ s, l = s ++ [10] := by
  unfold lineOk at h
  by_cases hf : fits (moveW (splitL (trimL l)))
  · rw [lineV_fits hf] at h
    have := congrArg (fun x : ByteArray × Int => x.1.data.toList) h
    exact ⟨_, by simpa using this.symm⟩
  · exact absurd (congrArg Prod.snd h) (lineV_bad hf)
theorem lineOk_no10 {l : List UInt8} (h : (10 : UInt8) ∉ l) : ¬ lineOk l := fun h2 => by
  obtain ⟨s, rfl⟩ := lineOk_end h2
  exact h (by simp)
def moveOfL (l : List UInt8) : Move := moveW (splitL (trimL l))
/-- What play.Read answers. -/
def readV (t : List UInt8) : List Move × Int := if 5000000 < t.length then ([], 1) else if ∀ x ∈ linesL t, lineOk x then (if 100000 < (linesL t).length then ([], 1) else ((linesL t).map moveOfL, 0)) else ([], 3)
end Go.Proofs.YtfdaheenigmkmaaDoor
