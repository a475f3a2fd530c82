/- The document's Unpacked answers what varint.Get answers. -/
import Derived.Test.YtdmakcenfbfpaaaVarint
import Derived.Test.YtdmakcenfbfpaaaBytes
namespace Go.Proofs.Ytdmakcenfbfpaaa
open Go.ChangeShapes Go.WideShapes Go.ChangeAt Go.RowKit
set_option linter.unusedVariables false
set_option linter.unusedSimpArgs false
/-- The number that bytes hold, seven bits each. -/
def hv : List Int → Int
  | [] => 0
  | x :: l => x % 128 + 128 * hv l
theorem hv_append : ∀ (a b : List Int), hv (a ++ b) = hv a + 128 ^ a.length * hv b
  | [], b => by simp [hv]
  | x :: a, b => by
    simp only [List.cons_append, hv, hv_append a b, List.length_cons, Int.pow_succ]
    generalize (128 : Int) ^ a.length = P
    rw [Int.mul_add, ← Int.mul_assoc, Int.mul_comm P 128]
    omega
theorem hv_bound : ∀ (a : List Int), 0 ≤ hv a ∧ hv a < 128 ^ a.length
  | [] => by simp [hv]
  | x :: a => by
    have := hv_bound a
    simp only [hv, List.length_cons, Int.pow_succ]
    generalize (128 : Int) ^ a.length = P at *
    omega
theorem pow128 (k : Nat) : (2 : Int) ^ (7 * k) = 128 ^ k := by rw [Int.pow_mul]; rfl
theorem getGo_pre : ∀ (pre rest : List Int) (i : Nat) (n : Int), (∀ x ∈ pre, 128 ≤ x ∧ x ≤ 255) → i + pre.length ≤ 9 → getGo (pre ++ rest) i n = getGo rest (i + pre.length) (n + 128 ^ i * hv pre)
  | [], rest, i, n, _, _ => by simp [hv]
  | x :: pre, rest, i, n, h, hl => by
    have hx := h x (List.mem_cons_self ..)
    simp only [List.length_cons] at hl
    rw [List.cons_append, getGo, if_neg (by omega), if_neg (by omega), getGo_pre pre rest (i + 1) _ (fun y hy => h y (List.mem_cons_of_mem _ hy)) (by omega)]
    have e1 : x % 128 = x - 128 := by omega
    have e2 : i + 1 + pre.length = i + (x :: pre).length := by simp only [List.length_cons]; omega
    have e3 : n + (x - 128) * 2 ^ (7 * i) + 128 ^ (i + 1) * hv pre = n + 128 ^ i * hv (x :: pre) := by
      rw [pow128, hv, e1, Int.pow_succ, Int.mul_add, Int.mul_comm (x - 128)]
      rw [← Int.mul_assoc]
      omega
    rw [e2, e3]
/-- How many bytes go on, ten at most. -/
def more : Nat → List Int → Nat
  | 0, _ => 0
  | _, [] => 0
  | f + 1, x :: l => if 128 ≤ x then more f l + 1 else 0
theorem more_spec : ∀ (f : Nat) (l : List Int), more f l ≤ f ∧ more f l ≤ l.length ∧ (∀ (i : Nat) (x : Int), i < more f l → l[i]? = some x → 128 ≤ x) ∧ (more f l < f → ∀ x, l[more f l]? = some x → x < 128)
  | 0, l => by simp [more]
  | f + 1, [] => by simp [more]
  | f + 1, x :: l => by
    obtain ⟨h1, h2, h3, h4⟩ := more_spec f l
    rw [more]
    split
    · rename_i hx
      refine ⟨by omega, by simp; omega, fun i y hi hy => ?_, fun hf y hy => ?_⟩
      · cases i with
        | zero => simp at hy; omega
        | succ i => exact h3 i y (by omega) (by simpa using hy)
      · exact h4 (by omega) y (by simpa using hy)
    · rename_i hx
      refine ⟨by omega, by simp, fun i y hi => by omega, fun _ y hy => ?_⟩
      simp at hy
      omega
theorem take_mem {l : List Int} {k : Nat} {p : Int → Prop} (h : ∀ (i : Nat) (x : Int), i < k → l[i]? = some x → p x) : ∀ x ∈ l.take k, p x := by
  intro x hx
  obtain ⟨i, hi, he⟩ := List.getElem_of_mem hx
  have hi' : i < k := by rw [List.length_take] at hi; omega
  refine h i x hi' ?_
  rw [← he, List.getElem_take]
  exact List.getElem?_eq_getElem _
/-- What the bytes tell, by where the number ends. -/
theorem getv_over (l : List Int) (hl : ∀ x ∈ l, 0 ≤ x ∧ x ≤ 255) (h : more 10 l = 10) : getv l = (0, 0, 6) := by
  obtain ⟨_, h2, h3, _⟩ := more_spec 10 l
  rw [h] at h2 h3
  have e : l = l.take 9 ++ l.drop 9 := (List.take_append_drop 9 l).symm
  obtain ⟨x, hx⟩ : ∃ x, l[9]? = some x := ⟨_, List.getElem?_eq_getElem (by omega)⟩
  have hd : l.drop 9 = x :: l.drop 10 := by
    rw [List.drop_eq_getElem_cons (by omega)]
    congr 1
    rw [List.getElem?_eq_getElem (by omega)] at hx
    exact Option.some.inj hx
  have hx9 := h3 9 x (by omega) hx
  rw [getv, e, getGo_pre _ _ 0 0 (take_mem fun i y hi hy => ⟨h3 i y (by omega) hy, (hl y (List.mem_of_getElem? hy)).2⟩) (by rw [List.length_take]; omega), hd]
  have el : (l.take 9).length = 9 := by rw [List.length_take]; omega
  rw [el, getGo, if_pos ⟨rfl, by omega⟩]
theorem getv_short (l : List Int) (hl : ∀ x ∈ l, 0 ≤ x ∧ x ≤ 255) (h : more 10 l = l.length) (h9 : l.length ≤ 9) : getv l = (0, 0, 4) := by
  obtain ⟨_, _, h3, _⟩ := more_spec 10 l
  have := getGo_pre l [] 0 0 (fun x hx => by
    obtain ⟨i, hi, rfl⟩ := List.getElem_of_mem hx
    exact ⟨h3 i _ (by omega) (List.getElem?_eq_getElem hi), (hl _ hx).2⟩) (by omega)
  rw [List.append_nil] at this
  rw [getv, this, getGo]
theorem getv_at (l : List Int) (hl : ∀ x ∈ l, 0 ≤ x ∧ x ≤ 255) (k : Nat) (x : Int) (h : more 10 l = k) (hk : k ≤ 9) (hx : l[k]? = some x) (hx1 : x < 128) :
    getv l = if k = 9 ∧ 1 < x then (0, 0, 6) else if x = 0 ∧ 0 < k then (0, 0, 3) else (hv (l.take (k + 1)), (k : Int) + 1, 0) := by
  subst h
  obtain ⟨_, h2, h3, _⟩ := more_spec 10 l
  generalize more 10 l = k at *
  have hkl : k < l.length := (List.getElem?_eq_some_iff.1 hx).1
  have e : l = l.take k ++ l.drop k := (List.take_append_drop k l).symm
  have hd : l.drop k = x :: l.drop (k + 1) := by
    rw [List.drop_eq_getElem_cons hkl]
    congr 1
    rw [List.getElem?_eq_getElem hkl] at hx
    exact Option.some.inj hx
  have el : (l.take k).length = k := by rw [List.length_take]; omega
  have ht : l.take (k + 1) = l.take k ++ [x] := by
    rw [List.take_add_one, hx]; rfl
  have hx0 := (hl x (List.mem_of_getElem? hx)).1
  conv => lhs; rw [getv, e, getGo_pre _ _ 0 0 (take_mem fun i y hi hy => ⟨h3 i y (by omega) hy, (hl y (List.mem_of_getElem? hy)).2⟩) (by rw [el]; omega), hd, el, getGo]
  rw [Nat.zero_add, if_pos hx1, ht, hv_append, el, pow128]
  have e4 : (0 : Int) + 128 ^ 0 * hv (l.take k) + x * 128 ^ k = hv (l.take k) + 128 ^ k * hv [x] := by
    simp only [hv]
    rw [Int.emod_eq_of_lt hx0 hx1, Int.mul_comm x]
    simp
  rw [e4]
/-- The sum that the second loop has before the byte 'i'. -/
theorem hv_step (l : List Int) (i k : Nat) (x : Int) (hi : i ≤ k) (hx : l[i]? = some x) : hv ((l.take (k + 1)).drop i) = x % 128 + 128 * hv ((l.take (k + 1)).drop (i + 1)) := by
  have hil : i < (l.take (k + 1)).length := by
    have := (List.getElem?_eq_some_iff.1 hx).1
    rw [List.length_take]; omega
  rw [List.drop_eq_getElem_cons hil, hv]
  have : (l.take (k + 1))[i] = x := by
    rw [List.getElem_take]
    rw [List.getElem?_eq_getElem (by have := (List.getElem?_eq_some_iff.1 hx).1; omega)] at hx
    exact Option.some.inj hx
  rw [this]
theorem hv_small (l : List Int) (i k : Nat) (x : Int) (hk : k ≤ 9) (hx : l[k]? = some x) (hx1 : x < 128) (hx0 : 0 ≤ x) (h9 : k = 9 → x ≤ 1) (hi : i ≤ k) :
    0 ≤ hv ((l.take (k + 1)).drop (i + 1)) ∧ hv ((l.take (k + 1)).drop (i + 1)) ≤ 144115188075855871 := by
  have hkl := (List.getElem?_eq_some_iff.1 hx).1
  have hb := hv_bound ((l.take (k + 1)).drop (i + 1))
  have hlen : ((l.take (k + 1)).drop (i + 1)).length = k - i := by rw [List.length_drop, List.length_take]; omega
  refine ⟨hb.1, ?_⟩
  rw [hlen] at hb
  by_cases h8 : k - i ≤ 8
  · have : ∀ j : Fin 9, (128 : Int) ^ j.val ≤ 72057594037927936 := by decide +kernel
    have := this ⟨k - i, by omega⟩
    simp only at this
    omega
  · obtain rfl : k = 9 := by omega
    obtain rfl : i = 0 := by omega
    have ht : l.take (9 + 1) = l.take 9 ++ [x] := by rw [List.take_add_one, hx]; rfl
    rw [ht, List.drop_append_of_le_length (by rw [List.length_take]; omega), hv_append]
    have hb2 := hv_bound ((l.take 9).drop (0 + 1))
    have hl2 : ((l.take 9).drop (0 + 1)).length = 8 := by rw [List.length_drop, List.length_take]; omega
    rw [hl2] at hb2 ⊢
    have hx9 := h9 rfl
    have e : hv [x] = x := by simp [hv]; omega
    rw [e]
    simp at hb2 ⊢
    omega
end Go.Proofs.Ytdmakcenfbfpaaa
