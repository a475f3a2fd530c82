/- A list that rises, out of its bytes. Plain. -/
import Derived.Test.YtdmakcenfbfpaaaSpec
namespace Go.Proofs.Ytdmakcenfbfpaaa
set_option linter.unusedVariables false
set_option linter.unusedSimpArgs false
theorem pow7i (k : Nat) (hk : k ≤ 9) : (1 : Int) ≤ 2 ^ (7 * k) ∧ (2 : Int) ^ (7 * k) ≤ 9223372036854775808 ∧ (k ≤ 8 → (2 : Int) ^ (7 * k) ≤ 72057594037927936) := by
  have : ∀ j : Fin 10, (1 : Int) ≤ 2 ^ (7 * j.val) ∧ (2 : Int) ^ (7 * j.val) ≤ 9223372036854775808 ∧ (j.val ≤ 8 → (2 : Int) ^ (7 * j.val) ≤ 72057594037927936) := by decide +kernel
  exact this ⟨k, by omega⟩
/-- What varint.Get tells: a number below 2^64 and how many bytes it has; or what is wrong. -/
def GetOk (r : Int × Int × Int) (i len : Nat) : Prop := (r.2.2 = 0 ∧ 0 ≤ r.1 ∧ r.1 ≤ 18446744073709551615 ∧ (i : Int) + 1 ≤ r.2.1 ∧ r.2.1 ≤ i + len) ∨ (0 < r.2.2 ∧ r.2.2 ≤ 6 ∧ r.1 = 0 ∧ r.2.1 = 0)
theorem getGo_ok : ∀ (l : List Int) (i : Nat) (n : Int), (∀ x ∈ l, 0 ≤ x ∧ x ≤ 255) → i ≤ 9 → 0 ≤ n → n < 2 ^ (7 * i) → GetOk (getGo l i n) i l.length
  | [], i, n, _, _, _, _ => .inr (by simp [getGo])
  | c :: cs, i, n, hl, hi, h0, h1 => by
    obtain ⟨hc0, hc1⟩ := hl c (List.mem_cons_self ..)
    obtain ⟨p1, p2, p3⟩ := pow7i i hi
    rw [getGo]
    have e7 : (2 : Int) ^ (7 * (i + 1)) = 2 ^ (7 * i) * 128 := by rw [Nat.mul_add, Int.pow_add]; rfl
    generalize hP : (2 : Int) ^ (7 * i) = P at *
    split
    · exact .inr (by simp)
    · rename_i h9
      split
      · rename_i hlt
        split
        · exact .inr (by simp)
        · refine .inl ⟨rfl, ?_, ?_, ?_, ?_⟩
          · have : 0 ≤ c * P := Int.mul_nonneg hc0 (by omega)
            show 0 ≤ n + c * P
            omega
          · show n + c * P ≤ 18446744073709551615
            by_cases e : i = 9
            · have hc : c ≤ 1 := by omega
              have : c * P ≤ 1 * P := Int.mul_le_mul_of_nonneg_right hc (by omega)
              omega
            · have := p3 (by omega)
              have : c * P ≤ 127 * P := Int.mul_le_mul_of_nonneg_right (by omega) (by omega)
              omega
          · show (i : Int) + 1 ≤ ((i : Int) + 1)
            omega
          · show (i : Int) + 1 ≤ (i : Int) + ((c :: cs).length : Nat)
            simp only [List.length_cons]
            omega
      · rename_i hge
        have hi8 : i ≤ 8 := by omega
        have hb : (c - 128) * P ≤ 127 * P := Int.mul_le_mul_of_nonneg_right (by omega) (by omega)
        have hb0 : 0 ≤ (c - 128) * P := Int.mul_nonneg (by omega) (by omega)
        have h := getGo_ok cs (i + 1) (n + (c - 128) * P) (fun x hx => hl x (List.mem_cons_of_mem _ hx)) (by omega) (by omega) (by rw [e7]; omega)
        rcases h with ⟨g0, g1, g2, g3, g4⟩ | h
        · refine .inl ⟨g0, g1, g2, ?_, ?_⟩
          · omega
          · simp only [List.length_cons]; omega
        · exact .inr h
theorem getv_ok (l : List Int) (hl : ∀ x ∈ l, 0 ≤ x ∧ x ≤ 255) : GetOk (getv l) 0 l.length := getGo_ok l 0 0 hl (by omega) (by omega) (by decide)
/-- so many gaps more, from a place on. -/
def ungGo (l : List Int) : Nat → Nat → Int → List Int → List Int × Int × Int
  | 0, at_, _, acc => (acc, at_, 0)
  | n + 1, at_, last, acc =>
    if (getv (l.drop at_)).2.2 ≠ 0 then ([], 0, (getv (l.drop at_)).2.2)
    else if 1152921504606846976 < last + (getv (l.drop at_)).1 then ([], 0, 2)
    else ungGo l n (at_ + (getv (l.drop at_)).2.1.toNat) (last + (getv (l.drop at_)).1) (acc ++ [last + (getv (l.drop at_)).1])
/-- A list, and how many bytes it has; or what is wrong. -/
def ungV (l : List Int) : List Int × Int × Int :=
  if (getv l).2.2 ≠ 0 then ([], 0, (getv l).2.2) else if 2000 < (getv l).1 then ([], 0, 1) else ungGo l (getv l).1.toNat (getv l).2.1.toNat 0 []
/-- What a list says that was unpacked: rising numbers, MaxNumber at most. -/
theorem ungGo_ok (l : List Int) (hl : ∀ x ∈ l, 0 ≤ x ∧ x ≤ 255) : ∀ (n at_ : Nat) (last : Int) (acc : List Int), at_ ≤ l.length → 0 ≤ last → last ≤ 1152921504606846976 → (∀ x ∈ acc, 0 ≤ x ∧ x ≤ 1152921504606846976) →
    (∀ x ∈ (ungGo l n at_ last acc).1, 0 ≤ x ∧ x ≤ 1152921504606846976) ∧ (ungGo l n at_ last acc).1.length ≤ acc.length + n ∧ 0 ≤ (ungGo l n at_ last acc).2.1 ∧ (ungGo l n at_ last acc).2.1 ≤ l.length ∧ 0 ≤ (ungGo l n at_ last acc).2.2 ∧ (ungGo l n at_ last acc).2.2 ≤ 6 ∧ ((ungGo l n at_ last acc).2.2 = 0 → (ungGo l n at_ last acc).1.length = acc.length + n)
  | 0, at_, last, acc, ha, _, _, hacc => ⟨hacc, by simp [ungGo], by simp [ungGo], by simp [ungGo]; omega, by simp [ungGo], by simp [ungGo], by simp [ungGo]⟩
  | n + 1, at_, last, acc, ha, h0, h1, hacc => by
    have hg := getv_ok (l.drop at_) (fun x hx => hl x (List.mem_of_mem_drop hx))
    rw [ungGo]
    rw [List.length_drop] at hg
    generalize getv (l.drop at_) = r at *
    rcases hg with ⟨g0, g1, g2, g3, g4⟩ | ⟨g0, g1, g2, g3⟩
    · rw [if_neg (by simp [g0])]
      split
      · exact ⟨by simp, by simp, by simp, by simp, by simp, by simp, by simp⟩
      · have h := ungGo_ok l hl n (at_ + r.2.1.toNat) (last + r.1) (acc ++ [last + r.1]) (by omega) (by omega) (by omega) (fun x hx => by
          rcases List.mem_append.1 hx with hx | hx
          · exact hacc x hx
          · obtain rfl := List.mem_singleton.1 hx
            omega)
        simp only [List.length_append, List.length_cons, List.length_nil] at h
        obtain ⟨k1, k2, k3, k4, k5, k6, k7⟩ := h
        exact ⟨k1, by omega, k3, k4, k5, k6, fun h => by have := k7 h; omega⟩
    · rw [if_pos (by omega)]
      exact ⟨by simp, by simp, by simp, by simp, Int.le_of_lt g0, g1, fun h => by simp at h; omega⟩
theorem ungV_ok (l : List Int) (hl : ∀ x ∈ l, 0 ≤ x ∧ x ≤ 255) :
    (∀ x ∈ (ungV l).1, 0 ≤ x ∧ x ≤ 1152921504606846976) ∧ (ungV l).1.length ≤ 2000 ∧ 0 ≤ (ungV l).2.1 ∧ (ungV l).2.1 ≤ l.length ∧ 0 ≤ (ungV l).2.2 ∧ (ungV l).2.2 ≤ 6 := by
  have hg := getv_ok l hl
  unfold ungV
  generalize getv l = r at *
  rcases hg with ⟨g0, g1, g2, g3, g4⟩ | ⟨g0, g1, g2, g3⟩
  · rw [if_neg (by simp [g0])]
    split
    · exact ⟨by simp, by simp, by simp, by simp, by simp, by simp⟩
    · obtain ⟨k1, k2, k3, k4, k5, k6, _⟩ := ungGo_ok l hl r.1.toNat r.2.1.toNat 0 [] (by omega) (by omega) (by omega) (by simp)
      exact ⟨k1, by simp at k2; omega, k3, k4, k5, k6⟩
  · rw [if_pos (by omega)]
    exact ⟨by simp, by simp, by simp, by simp, Int.le_of_lt g0, g1⟩
end Go.Proofs.Ytdmakcenfbfpaaa
