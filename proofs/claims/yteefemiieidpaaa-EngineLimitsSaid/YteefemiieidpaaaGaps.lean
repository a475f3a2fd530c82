/- varint.Gaps. -/
import Derived.Test.YteefemiieidpaaaPack
import Derived.Test.YteefemiieidpaaaBase
import Derived.Test.YteefemiieidpaaaBytes
namespace Go.Proofs.Yteefemiieidpaaa
open Go.ChangeShapes Go.WideShapes Go.ChangeAt Go.RowKit
set_option linter.unusedVariables false
set_option linter.unusedSimpArgs false
def lastv (l : List Int) (k : Nat) : Int := if k = 0 then 0 else l.getD (k - 1) 0
def gapAt (l : List Int) (k : Nat) : Int := l.getD k 0 - lastv l k
def gapB (l : List Int) (k : Nat) : List Int := pack l.length ++ (List.range k).flatMap fun i => pack (gapAt l i)
def Packable (l : List Int) : Prop := ∀ (j : Nat) (x : Int), l[j]? = some x → 0 ≤ x ∧ x ≤ 1152921504606846976
def Rises (l : List Int) : Prop := ∀ j : Nat, j < l.length → 0 ≤ gapAt l j
open Classical in
/-- The bytes of a list that rises, or what is wrong. -/
noncomputable def gapsV (l : List Int) : List Int × Int := if 2000 < l.length then ([], 1) else if Packable l then (if Rises l then (gapB l l.length, 0) else ([], 3)) else ([], 2)
theorem gapB_succ (l : List Int) (k : Nat) : gapB l (k + 1) = gapB l k ++ pack (gapAt l k) := by
  unfold gapB
  rw [List.range_succ, List.flatMap_append, List.append_assoc]
  simp
theorem gapB_len (l : List Int) : ∀ k, (gapB l k).length ≤ 10 * (k + 1)
  | 0 => by have := (pack_len l.length).1; simp [gapB]; omega
  | k + 1 => by
    have h1 := gapB_len l k
    have h2 := (pack_len (gapAt l k)).1
    rw [gapB_succ, List.length_append]
    omega
theorem int_cell {w : World} {B n k : Nat} {A : Option Addr} {l : List Int} {x : Int} (h : Rd w B A 1 n (l.flatMap i64c)) (hl : l.length = n) (hk : l[k]? = some x) :
    ∃ b off, A = some ⟨b, off, none⟩ ∧ b < B ∧ w.cell? ⟨b, off + k, none⟩ = some (.int .i64 x) := by
  have hkl := (List.getElem?_eq_some_iff.1 hk).1
  obtain ⟨b, off, rfl, hb, hc⟩ := h.at_ (show k < n by omega)
  have c0 := hc _ _ ((flatMap_get (l := l) (cells := i64c) (sz := 1) (fun _ _ => rfl)).2 k x 0 _ hk rfl)
  simp only [Nat.mul_one, Nat.add_zero] at c0
  exact ⟨b, off, rfl, hb, c0⟩
def RangeRel (l : List Int) (i : Value) : Prop := ∃ k : Nat, k ≤ l.length ∧ i = .int .i64 k ∧ Hid (∀ (j : Nat) (x : Int), j < k → l[j]? = some x → 0 ≤ x ∧ x ≤ 1152921504606846976)
def GapsRel (l : List Int) (w : World) (s t i : Value) (wr : World) : Prop :=
  ∃ (k m c : Nat) (A : Option Addr) (q : Int), k ≤ l.length ∧ Hid (m = (gapB l k).length) ∧ m ≤ 10 * (k + 1) ∧ i = .int .i64 k ∧ Hid (q = lastv l k) ∧ 0 ≤ q ∧ q ≤ 1152921504606846976 ∧ t = .int .i64 q ∧ s = .slice A m c ∧ wr.ownsRow w.heap.size 5 1 (.slice A m c) m ((gapB l k).flatMap u8c) ∧ Hid (∀ j : Nat, j < k → 0 ≤ gapAt l j) ∧ Below w.heap.size w wr
theorem rises_next {l : List Int} {k : Nat} (h : 0 ≤ gapAt l k) (H : ∀ j : Nat, j < k → 0 ≤ gapAt l j) : ∀ j : Nat, j < k + 1 → 0 ≤ gapAt l j := by
  intro j hj
  by_cases e : j < k
  · exact H j e
  · obtain rfl : j = k := by omega
    exact h
theorem range_next {l : List Int} {k : Nat} {y : Int} (hy : l[k]? = some y) (h : 0 ≤ y ∧ y ≤ 1152921504606846976) (H : ∀ (j : Nat) (x : Int), j < k → l[j]? = some x → 0 ≤ x ∧ x ≤ 1152921504606846976) : ∀ (j : Nat) (x : Int), j < k + 1 → l[j]? = some x → 0 ≤ x ∧ x ≤ 1152921504606846976 := by
  intro j x hj hx
  by_cases e : j < k
  · exact H j x e hx
  · obtain rfl : j = k := by omega
    rw [hy] at hx
    injection hx with hx
    subst hx
    exact h
end Go.Proofs.Yteefemiieidpaaa
