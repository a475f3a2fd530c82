/- play.Show. -/
import Derived.Test.YtfdaheenigmkmaaDoorLinW
namespace Go.Proofs.YtfdaheenigmkmaaDoor
open Go.RowKit Go.ChangeShapes Go.WideShapes Go.ChangeAt
set_option linter.unusedVariables false
set_option linter.unusedSimpArgs false
theorem decB_len : ∀ (d n : Nat), n < 10 ^ (d + 1) → (decB n).size ≤ d + 1
  | 0, n, h => by rw [decB_small (by simpa using h)]; exact Nat.le_refl 1
  | d + 1, n, h => by
    by_cases h1 : n < 10
    · rw [decB_small h1]; show 1 ≤ _; omega
    · rw [decB_big h1, ByteArray.size_append, show (⟨#[UInt8.ofNat (48 + n % 10)]⟩ : ByteArray).size = 1 from rfl]
      have h2 : n / 10 < 10 ^ (d + 1) := by
        rw [Nat.div_lt_iff_lt_mul (by decide)]
        rw [Nat.pow_succ] at h
        exact h
      have := decB_len d (n / 10) h2
      omega
theorem dec19 {n : Nat} (h : n ≤ 1152921504606846976) : (decB n).size ≤ 19 := decB_len 18 n (Nat.lt_of_le_of_lt h (by decide))
theorem addN_size {s : ByteArray} {has : Bool} {n : Int} (h : numOk has n) : (addN s has n).size ≤ s.size + 20 := by
  unfold addN
  split
  · rw [ByteArray.size_append, ByteArray.size_append]
    have := dec19 (n := n.toNat) (by have := h.2.1; omega)
    have h1 : spB.size = 1 := rfl
    omega
  · omega
theorem lineV_size (m : Move) : (lineV m).1.size ≤ 60 := by
  unfold lineV
  split
  · decide
  · split
    · decide
    · rename_i h
      have h2 : numOk (atB m.kind) m.at_ ∧ numOk (keepB m.kind) m.keep := by simpa using h
      show (addN (addN (wordB m.kind) (atB m.kind) m.at_) (keepB m.kind) m.keep ++ nlB).size ≤ 60
      rw [ByteArray.size_append]
      have h3 := addN_size (s := addN (wordB m.kind) (atB m.kind) m.at_) h2.2
      have h4 := addN_size (s := wordB m.kind) h2.1
      have h5 := wordB_size m.kind
      have h6 : nlB.size = 1 := rfl
      omega
def bodyL (l : List Move) : List UInt8 := l.flatMap fun m => (lineV m).1.data.toList
theorem bodyL_len (l : List Move) : (bodyL l).length ≤ 60 * l.length := by
  unfold bodyL
  induction l with
  | nil => simp
  | cons m l ih =>
    rw [List.flatMap_cons, List.length_append, List.length_cons]
    have h := lineV_size m
    have h2 : (lineV m).1.data.toList.length = (lineV m).1.size := by rw [Array.length_toList]; rfl
    omega
theorem bodyL_step {l : List Move} {k : Nat} {m : Move} (h : l[k]? = some m) : bodyL (l.take (k + 1)) = bodyL (l.take k) ++ (lineV m).1.data.toList := by
  unfold bodyL; rw [take_nextV h, List.flatMap_append, List.flatMap_singleton]
def errL (l : List Move) : Int := match l.find? fun m => decide ((lineV m).2 ≠ 0) with | none => 0 | some m => (lineV m).2
def showV (l : List Move) : ByteArray × Int := if 100000 < l.length then (⟨#[]⟩, 1) else if errL l ≠ 0 then (⟨#[]⟩, errL l) else (⟨(bodyL l).toArray⟩, 0)
theorem errL_at {l : List Move} {k : Nat} {m : Move} (h : l[k]? = some m) (h0 : ∀ j < k, ∀ x : Move, l[j]? = some x → (lineV x).2 = 0) (hm : (lineV m).2 ≠ 0) : errL l = (lineV m).2 := by
  induction l generalizing k with
  | nil => simp at h
  | cons a l ih =>
    cases k with
    | zero =>
      have : a = m := by simpa using h
      subst this
      unfold errL
      rw [List.find?_cons_of_pos (by simpa using hm)]
    | succ k =>
      have ha := h0 0 (by omega) a rfl
      have h2 := ih (k := k) (by simpa using h) (fun j hj x hx => h0 (j + 1) (by omega) x (by simpa using hx))
      unfold errL at h2 ⊢
      rw [List.find?_cons_of_neg (by simp [ha])]
      exact h2
theorem errL_none {l : List Move} (h0 : ∀ (j : Nat) (x : Move), l[j]? = some x → (lineV x).2 = 0) : errL l = 0 := by
  unfold errL
  rw [List.find?_eq_none.2]
  intro x hx
  obtain ⟨j, hj⟩ := List.mem_iff_getElem?.1 hx
  simp [h0 j x hj]
theorem moveCells {w : World} {B n k : Nat} {A : Option Addr} {l : List Move} {x : Move} (h : Rd w B A 3 n (l.flatMap Move.cells)) (hl : l.length = n) (hk : l[k]? = some x) :
    ∃ b off, A = some ⟨b, off, none⟩ ∧ b < B ∧ w.cell? ⟨b, off + k * 3, none⟩ = some (.int .i64 x.kind) ∧ w.cell? ⟨b, off + k * 3 + 1, none⟩ = some (.int .i64 x.at_) ∧ w.cell? ⟨b, off + k * 3 + 2, none⟩ = some (.int .i64 x.keep) := by
  have hkl := (List.getElem?_eq_some_iff.1 hk).1
  obtain ⟨b, off, e, hb, hc⟩ := h.2 (by omega)
  have hf := (flatMap_get (l := l) (cells := Move.cells) (sz := 3) (fun _ _ => rfl)).2 k x
  exact ⟨b, off, e, hb, by have := hc _ _ (hf 0 _ hk rfl); simpa using this, by have := hc _ _ (hf 1 _ hk rfl); rw [← Nat.add_assoc] at this; exact this, by have := hc _ _ (hf 2 _ hk rfl); rw [← Nat.add_assoc] at this; exact this⟩
def ShR (w : World) (G : Nat) (l : List Move) (v14 : Value) (wr : World) : Prop :=
  ∃ k : Nat, k ≤ l.length ∧ v14 = .int .i64 (k : Nat) ∧ Hid (Bld wr G (bodyL (l.take k))) ∧ Hid (∀ j < k, ∀ x, l[j]? = some x → (lineV x).2 = 0) ∧ Hid (Below w.heap.size w wr)
end Go.Proofs.YtfdaheenigmkmaaDoor
