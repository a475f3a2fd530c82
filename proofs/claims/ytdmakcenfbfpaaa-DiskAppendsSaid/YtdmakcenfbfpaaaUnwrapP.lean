/- What frame.Unwrap answers. Plain. -/
import Derived.Test.YtdmakcenfbfpaaaWrapR
import Derived.Test.YtdmakcenfbfpaaaUngapP
namespace Go.Proofs.Ytdmakcenfbfpaaa
set_option linter.unusedVariables false
set_option linter.unusedSimpArgs false
theorem getGo_pack : ∀ (l : List Int) (i : Nat) (m r k : Int), (∀ x ∈ l, 0 ≤ x ∧ x ≤ 255) → i ≤ 9 → getGo l i m = (r, k, 0) →
    ∃ v : Int, 0 ≤ v ∧ r = m + v * 2 ^ (7 * i) ∧ packF (9 - i) v = l.take (k - i).toNat ∧ (0 < i → 0 < v) ∧ (i : Int) < k
  | [], i, m, r, k, _, _, h => by simp [getGo] at h
  | c :: cs, i, m, r, k, hl, hi, h => by
    obtain ⟨hc0, hc1⟩ := hl c (List.mem_cons_self ..)
    rw [getGo] at h
    split at h
    · simp at h
    · rename_i h9
      split at h
      · rename_i hlt
        split at h
        · simp at h
        · rename_i hz
          simp only [Prod.mk.injEq] at h
          obtain ⟨h1, h2, _⟩ := h
          refine ⟨c, hc0, h1.symm, ?_, fun hi0 => ?_, by omega⟩
          · rw [packF_small _ _ hlt]
            have : (k - (i : Int)).toNat = 1 := by omega
            rw [this]; rfl
          · have : ¬ (c = 0) := fun e => hz ⟨e, hi0⟩
            omega
      · rename_i hge
        have hi8 : i ≤ 8 := by omega
        obtain ⟨v, hv0, hr, hp, hpos, hk⟩ := getGo_pack cs (i + 1) _ r k (fun x hx => hl x (List.mem_cons_of_mem _ hx)) (by omega) h
        have hv := hpos (by omega)
        have e7 : (2 : Int) ^ (7 * (i + 1)) = 128 * 2 ^ (7 * i) := by rw [Nat.mul_add, Int.pow_add, Int.mul_comm]; rfl
        refine ⟨(c - 128) + 128 * v, by omega, ?_, ?_, fun _ => by omega, by omega⟩
        · rw [hr, e7, Int.add_mul, Int.add_assoc]
          congr 2
          rw [← Int.mul_assoc, Int.mul_comm v 128]
        · have e9 : 9 - i = (9 - (i + 1)) + 1 := by omega
          have hk2 : (k - (i : Int)).toNat = (k - ((i + 1 : Nat) : Int)).toNat + 1 := by omega
          rw [e9, packF, if_neg (by omega), hk2, List.take_succ_cons, ← hp]
          have ea : ((c - 128) + 128 * v) % 128 + 128 = c := by omega
          have eb : ((c - 128) + 128 * v) / 128 = v := by omega
          rw [ea, eb]
/-- Get takes no other bytes than Put gives. -/
theorem getv_pack {l : List Int} (hl : ∀ x ∈ l, 0 ≤ x ∧ x ≤ 255) {r k : Int} (h : getv l = (r, k, 0)) : pack r = l.take k.toNat := by
  obtain ⟨v, _, hr, hp, _, _⟩ := getGo_pack l 0 0 r k hl (by omega) h
  have : r = v := by simpa using hr
  rw [this]
  unfold pack
  simpa using hp
def unquad (l : List Int) : Int := l.getD 0 0 + 256 * l.getD 1 0 + 65536 * l.getD 2 0 + 16777216 * l.getD 3 0
theorem quad_iff {l : List Int} (h4 : l.length = 4) (hl : ∀ x ∈ l, 0 ≤ x ∧ x ≤ 255) {s : Int} (h0 : 0 ≤ s) (h1 : s < 4294967296) : quad s = l ↔ s = unquad l := by
  match l, h4 with
  | [a, b, c, d], _ =>
    have ha := hl a (by simp)
    have hb := hl b (by simp)
    have hc := hl c (by simp)
    have hd := hl d (by simp)
    unfold quad unquad
    simp only [List.cons.injEq, and_true, List.getD_cons_zero, List.getD_cons_succ]
    omega
/-- The payload that bytes begin with, and how many bytes the frame has; or what is wrong. -/
def unwV (l : List Int) : List Int × Int × Int :=
  if (getv l).2.2 ≠ 0 then ([], 0, (getv l).2.2) else if 20000 < (getv l).1 then ([], 0, 1) else if (l.length : Int) < (getv l).2.1 + (getv l).1 + 4 then ([], 0, 4) else
  if sumV (l.take ((getv l).2.1 + (getv l).1).toNat) = unquad ((l.drop ((getv l).2.1 + (getv l).1).toNat).take 4) then ((l.drop (getv l).2.1.toNat).take (getv l).1.toNat, (getv l).2.1 + (getv l).1 + 4, 0) else ([], 0, 5)
/-- The frame anew, held against the bytes. -/
theorem wrap_same {l : List Int} (hl : ∀ x ∈ l, 0 ≤ x ∧ x ≤ 255) {n k : Nat} (h : getv l = ((n : Int), (k : Int), 0)) (hlen : k + n + 4 ≤ l.length) :
    wrapB ((l.drop k).take n) = l.take (k + n) ++ quad (sumV (l.take (k + n))) ∧ (wrapB ((l.drop k).take n)).length = k + n + 4 ∧
    (wrapB ((l.drop k).take n) = l.take (k + n + 4) ↔ sumV (l.take (k + n)) = unquad ((l.drop (k + n)).take 4)) := by
  have hp := getv_pack hl h
  have hpl : ((l.drop k).take n).length = n := by rw [List.length_take, List.length_drop]; omega
  have e1 : pack ((((l.drop k).take n).length : Nat) : Int) ++ (l.drop k).take n = l.take (k + n) := by
    rw [hpl, hp, Int.toNat_natCast, List.take_add]
  have hW : wrapB ((l.drop k).take n) = l.take (k + n) ++ quad (sumV (l.take (k + n))) := by unfold wrapB; rw [e1]
  have hT : l.take (k + n + 4) = l.take (k + n) ++ (l.drop (k + n)).take 4 := List.take_add
  refine ⟨hW, ?_, ?_⟩
  · rw [hW]; simp only [List.length_append, List.length_take, quad, List.length_cons, List.length_nil]; omega
  · rw [hW, hT, List.append_cancel_left_eq]
    obtain ⟨s0, s1⟩ := sumV_lt (l.take (k + n)) (fun x hx => hl x (List.mem_of_mem_take hx))
    exact quad_iff (by rw [List.length_take, List.length_drop]; omega) (fun x hx => hl x (List.mem_of_mem_drop (List.mem_of_mem_take hx))) s0 s1
theorem unwV_len (l : List Int) (h : ∀ x ∈ l, 0 ≤ x ∧ x ≤ 255) : (unwV l).1.length ≤ 20000 ∧ 0 ≤ (unwV l).2.1 ∧ (unwV l).2.1 ≤ l.length ∧ 0 ≤ (unwV l).2.2 ∧ (unwV l).2.2 ≤ 6 ∧ ((unwV l).2.2 = 0 → 5 ≤ (unwV l).2.1) := by
  have hg := getv_ok l h
  unfold unwV
  generalize getv l = r at *
  rcases hg with ⟨g0, g1, g2, g3, g4⟩ | ⟨g0, g1, g2, g3⟩
  · rw [if_neg (by simp [g0])]
    split
    · simp
    · split
      · simp
      · split
        · refine ⟨?_, ?_, ?_, ?_, ?_, fun _ => ?_⟩
          · rw [List.length_take]; show min r.1.toNat _ ≤ 20000; omega
          · show 0 ≤ r.2.1 + r.1 + 4; omega
          · show r.2.1 + r.1 + 4 ≤ _; omega
          · simp
          · simp
          · show 5 ≤ r.2.1 + r.1 + 4; omega
        · simp
  · rw [if_pos (by omega)]
    exact ⟨by simp, by simp, by simp, Int.le_of_lt g0, g1, fun h => by simp at h; omega⟩
end Go.Proofs.Ytdmakcenfbfpaaa
