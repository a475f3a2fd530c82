/- ckpt: a number taken from what is left. -/
import Derived.Test.YtiemcicgohldeaaUnw
namespace Go.Proofs.Ytiemcicgohldeaa
open Go.ChangeShapes Go.WideShapes Go.ChangeAt Go.RowKit
set_option linter.unusedVariables false
set_option linter.unusedSimpArgs false
/-- What taking answers: the number, what is left, whether all is spoilt. -/
def takeBad (l : List Int) (bad : Bool) (most : Int) : Bool := bad || (getv l).2.2 != 0 || decide (most < (getv l).1)
def takeV (l : List Int) (bad : Bool) (most : Int) : Int × List Int × Bool :=
  if takeBad l bad most then (0, l, true) else ((getv l).1, l.drop (getv l).2.1.toNat, false)
theorem takeV_bad {l : List Int} {bad : Bool} {most : Int} (h : takeBad l bad most = true) : takeV l bad most = (0, l, true) := by unfold takeV; rw [if_pos h]
theorem takeV_ok {l : List Int} {bad : Bool} {most : Int} (h : takeBad l bad most = false) : takeV l bad most = ((getv l).1, l.drop (getv l).2.1.toNat, false) := by unfold takeV; rw [if_neg (by rw [h]; decide)]
/-- A number that is taken: its bytes lay ahead. -/
theorem takeV_pack {l : List Int} (hl : ∀ x ∈ l, 0 ≤ x ∧ x ≤ 255) {bad : Bool} {most r : Int} {l' : List Int} (h : takeV l bad most = (r, l', false)) : bad = false ∧ l = pack r ++ l' ∧ 0 ≤ r ∧ r ≤ most := by
  cases hb : takeBad l bad most with
  | true => rw [takeV_bad hb] at h; injection h with _ h; injection h with _ h; cases h
  | false =>
    rw [takeV_ok hb] at h
    injection h with h1 h
    injection h with h2 _
    unfold takeBad at hb
    have hg := getv_ok l hl
    have hbf : bad = false := by cases bad with | true => simp at hb | false => rfl
    subst hbf
    have he : (getv l).2.2 = 0 := by
      refine Classical.byContradiction fun h => ?_
      have : ((getv l).2.2 != 0) = true := by simpa using h
      simp [this] at hb
    have hlt : ¬ most < (getv l).1 := by intro h; simp [h] at hb
    have hp := getv_pack (l := l) hl (r := (getv l).1) (k := (getv l).2.1) (by rw [← he])
    have hr : 0 ≤ (getv l).1 := by
      rcases hg with ⟨g0, g1, g2, g3, g4⟩ | ⟨g0, g1, g2, g3⟩ <;> omega
    refine ⟨rfl, ?_, by omega, by omega⟩
    rw [← h1, ← h2, hp, List.take_append_drop]
/-- What Put gives, Get takes. -/
theorem getGo_packF : ∀ (f i : Nat) (n m : Int) (l' : List Int), f + i = 9 → 0 ≤ n → n < 128 ^ f → (0 < i → 0 < n) → getGo (packF f n ++ l') i m = (m + n * 2 ^ (7 * i), ((i + (packF f n).length : Nat) : Int), 0)
  | 0, i, n, m, l', hf, h0, h1, h2 => by
    have : (128 : Int) ^ 0 = 1 := rfl
    have := h2 (by omega)
    omega
  | f + 1, i, n, m, l', hf, h0, h1, h2 => by
    by_cases h : n < 128
    · rw [packF, if_pos h, List.singleton_append, getGo, if_neg (by omega), if_pos h, if_neg (fun hc => by have := h2 hc.2; omega)]
      rfl
    · have hp : (128 : Int) ^ (f + 1) = 128 ^ f * 128 := Int.pow_succ ..
      have e7 : (2 : Int) ^ (7 * (i + 1)) = 128 * 2 ^ (7 * i) := by rw [Nat.mul_add, Int.pow_add, Int.mul_comm]; rfl
      have ih := getGo_packF f (i + 1) (n / 128) (m + (n % 128 + 128 - 128) * 2 ^ (7 * i)) l' (by omega) (by omega) (by rw [hp] at h1; generalize (128 : Int) ^ f = P at *; omega) (fun _ => by omega)
      rw [packF, if_neg h, List.cons_append, getGo, if_neg (by omega), if_neg (by omega), ih, e7]
      refine Prod.ext ?_ (Prod.ext ?_ rfl)
      · show m + (n % 128 + 128 - 128) * 2 ^ (7 * i) + n / 128 * (128 * 2 ^ (7 * i)) = m + n * 2 ^ (7 * i)
        have e : n = n % 128 + n / 128 * 128 := by omega
        have e2 : n * 2 ^ (7 * i) = (n % 128 + n / 128 * 128) * 2 ^ (7 * i) := by rw [← e]
        rw [e2, Int.add_mul, Int.add_sub_cancel, Int.mul_assoc, Int.add_assoc]
      · show ((i + 1 + (packF f (n / 128)).length : Nat) : Int) = ((i + ((packF f (n / 128)).length + 1) : Nat) : Int)
        omega
theorem getv_of_pack {n : Int} (h0 : 0 ≤ n) (h1 : n < 9223372036854775808) (l' : List Int) : getv (pack n ++ l') = (n, ((pack n).length : Int), 0) := by
  have h := getGo_packF 9 0 n 0 l' rfl h0 (by have : (128 : Int) ^ 9 = 9223372036854775808 := by decide
                                              omega) (fun h => by omega)
  simpa [getv, pack] using h
theorem takeV_of_pack {n most : Int} (h0 : 0 ≤ n) (h1 : n ≤ most) (h2 : most < 9223372036854775808) (l' : List Int) : takeV (pack n ++ l') false most = (n, l', false) := by
  have hg := getv_of_pack h0 (by omega) l'
  have hb : takeBad (pack n ++ l') false most = false := by unfold takeBad; rw [hg]; simp; omega
  rw [takeV_ok hb, hg]
  simp
/-- What is left, behind a pointer. -/
def Taken (p : Nat) (l : List Int) (bad : Bool) (w : World) : Prop :=
  ∃ A n c, l.length = n ∧ n ≤ c ∧ n ≤ 140737488355328 ∧ w.cell? ⟨p, 0, none⟩ = some (.slice A n c) ∧ w.cell? ⟨p, 1, none⟩ = some (.bool bad) ∧ w.frozen? ⟨p, 0, none⟩ = false ∧ w.frozen? ⟨p, 1, none⟩ = false ∧ Rd w p A 1 n (l.flatMap u8c)
/-- The two cells of one block may have been written. -/
def Wrote (p : Nat) (w w' : World) : Prop := ∃ u, w' = w.setCell ⟨p, 1, none⟩ u ∨ ∃ v, w' = (w.setCell ⟨p, 1, none⟩ u).setCell ⟨p, 0, none⟩ v
theorem Wrote.heap {p : Nat} {w w' : World} (h : Wrote p w w') {k : Nat} (hk : k ≠ p) : w'.heap[k]? = w.heap[k]? := by
  obtain ⟨u, rfl | ⟨v, rfl⟩⟩ := h
  · exact Below.heap_setCell _ _ _ _ hk
  · rw [Below.heap_setCell _ _ _ _ hk, Below.heap_setCell _ _ _ _ hk]
theorem Wrote.keep {p : Nat} {w w' : World} (h : Wrote p w w') {q : Addr} {v : Value} (hq : q.block ≠ p) (hc : w.cell? q = some v) : w'.cell? q = some v := (World.cell?_of_block (w := w) (h.heap hq)).trans hc
theorem Wrote.frz {p : Nat} {w w' : World} (h : Wrote p w w') {q : Addr} (hq : q.block ≠ p) (hc : w.frozen? q = false) : w'.frozen? q = false := (World.frozen?_of_block (w := w) (h.heap hq)).trans hc
theorem Wrote.size {p : Nat} {w w' : World} (h : Wrote p w w') : w'.heap.size = w.heap.size := by
  obtain ⟨u, rfl | ⟨v, rfl⟩⟩ := h <;> simp [World.setCell]
theorem Wrote.below {p : Nat} {w w' : World} (h : Wrote p w w') : Below p w w' := by
  obtain ⟨u, rfl | ⟨v, rfl⟩⟩ := h
  · exact (Below.refl p w).setCell (Nat.le_refl p) _
  · exact ((Below.refl p w).setCell (Nat.le_refl p) _).setCell (Nat.le_refl p) _
theorem Wrote.own {p : Nat} {w w' : World} (h : Wrote p w w') {base e sz n : Nat} {v : Value} {xs : List Value} (ho : w.ownsRow base e sz v n xs) (hb : p < base) : w'.ownsRow base e sz v n xs := by
  obtain ⟨u, rfl | ⟨v, rfl⟩⟩ := h
  · exact ownsRow_setCell_below ho hb _
  · exact ownsRow_setCell_below (ownsRow_setCell_below ho hb _) hb _
theorem Taken.below {p B : Nat} {l : List Int} {bad : Bool} {w w' : World} (h : Taken p l bad w) (hb : Below B w w') (hp : p < B) : Taken p l bad w' := by
  obtain ⟨A, n, c, h1, h2, h3, h4, h5, h6, h7, h8⟩ := h
  exact ⟨A, n, c, h1, h2, h3, (hb.cell hp).trans h4, (hb.cell hp).trans h5, (hb.frozen hp).trans h6, (hb.frozen hp).trans h7, h8.below (hb.mono (Nat.le_of_lt hp))⟩
end Go.Proofs.Ytiemcicgohldeaa
