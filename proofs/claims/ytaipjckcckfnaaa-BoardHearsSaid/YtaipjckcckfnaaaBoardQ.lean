/- Boards: who has reported, sums. Plain. -/
import Derived.Test.YtaipjckcckfnaaaBoardA
namespace Go.Proofs.Ytaipjckcckfnaaa
set_option linter.unusedVariables false
section
open Classical
noncomputable def bdB (wk ep st : Int) (l : List Report) : Bool := decide (bdOk wk ep st l)
end
theorem bdB_yes {wk ep st : Int} {l : List Report} (h : bdOk wk ep st l) : bdB wk ep st l = true := by unfold bdB; exact @decide_eq_true _ (_) h
theorem bdB_no {wk ep st : Int} {l : List Report} (h : ¬ bdOk wk ep st l) : bdB wk ep st l = false := by unfold bdB; exact @decide_eq_false _ (_) h
theorem bdB_ok {wk ep st : Int} {l : List Report} (h : bdB wk ep st l = true) : bdOk wk ep st l := by unfold bdB at h; exact @of_decide_eq_true _ (_) h
theorem bdB_bad {wk ep st : Int} {l : List Report} (h : bdB wk ep st l = false) : ¬ bdOk wk ep st l := by unfold bdB at h; exact @of_decide_eq_false _ (_) h
theorem bdFits_iff {wk ep st : Int} : bdFits wk ep st ↔ BoardOk wk ep st := by unfold bdFits BoardOk; omega
/-- The first 'k' reports are as they should be. -/
def bdPre (wk ep st : Int) (l : List Report) (k : Nat) : Prop := (∀ (j : Nat) y, j < k → l[j]? = some y → repV wk ep st y = 0) ∧ ∀ (i j : Nat) y z, i < j → j < k → l[i]? = some y → l[j]? = some z → y.worker ≠ z.worker
theorem bdPre_zero {wk ep st : Int} {l : List Report} : bdPre wk ep st l 0 := ⟨fun j y h => by omega, fun i j y z h h2 => by omega⟩
theorem bdPre_next {wk ep st : Int} {l : List Report} {k : Nat} {x : Report} (h : bdPre wk ep st l k) (hx : l[k]? = some x) (hv : repV wk ep st x = 0) (hd : ∀ (j : Nat) y, j < k → l[j]? = some y → y.worker ≠ x.worker) : bdPre wk ep st l (k + 1) := by
  refine ⟨fun j y hj hy => ?_, fun i j y z hi hj hy hz => ?_⟩
  · rcases Nat.lt_or_ge j k with h2 | h2
    · exact h.1 j y h2 hy
    · obtain rfl : j = k := by omega
      rw [hx] at hy; injection hy with hy; rw [← hy]; exact hv
  · rcases Nat.lt_or_ge j k with h2 | h2
    · exact h.2 i j y z hi h2 hy hz
    · obtain rfl : j = k := by omega
      rw [hx] at hz; injection hz with hz; rw [← hz]; exact hd i y hi hy
theorem bdOk_of {wk ep st : Int} {l : List Report} (hf : bdFits wk ep st) (h : bdPre wk ep st l l.length) : bdOk wk ep st l := by
  refine ⟨hf, fun r hr => ?_, ?_⟩
  · obtain ⟨j, hj⟩ := List.mem_iff_getElem?.1 hr
    exact h.1 j r (List.getElem?_eq_some_iff.1 hj).1 hj
  · rw [List.pairwise_iff_getElem]
    intro i j hi hj hij
    exact h.2 i j _ _ hij hj (List.getElem?_eq_getElem hi) (List.getElem?_eq_getElem hj)
theorem bdPre_of {wk ep st : Int} {l : List Report} (h : bdOk wk ep st l) : bdPre wk ep st l l.length := by
  refine ⟨fun j y hj hy => h.2.1 y (List.mem_of_getElem? hy), fun i j y z hi hj hy hz => ?_⟩
  obtain ⟨h1, h2⟩ := List.getElem?_eq_some_iff.1 hy
  obtain ⟨h3, h4⟩ := List.getElem?_eq_some_iff.1 hz
  have := List.pairwise_iff_getElem.1 h.2.2 i j h1 h3 hi
  rw [h2, h4] at this
  exact this
theorem bdOk_at {wk ep st : Int} {l : List Report} {k : Nat} {x : Report} (hx : l[k]? = some x) (hv : repV wk ep st x ≠ 0) : ¬ bdOk wk ep st l := fun h => hv (h.2.1 x (List.mem_of_getElem? hx))
theorem bdOk_twice {wk ep st : Int} {l : List Report} {i k : Nat} {x y : Report} (hx : l[k]? = some x) (hy : l[i]? = some y) (hi : i < k) (he : y.worker = x.worker) : ¬ bdOk wk ep st l := fun h =>
  (bdPre_of h).2 i k y x hi (List.getElem?_eq_some_iff.1 hx).1 hy hx he
theorem repV_zero {wk ep st : Int} {r : Report} (h : repV wk ep st r = 0) : repFits wk r := by
  unfold repV at h
  by_cases c : repFits wk r
  · exact c
  · rw [if_pos c] at h; cases h
/-- A pointer to the report 'j'. -/
def ptrAt (A : Option Addr) (j : Nat) : Value := match A with | some a => .pointer (some ⟨a.block, a.off + j * 7, none⟩) | none => .pointer none
def byV (A : Option Addr) (l : List Report) (i : Nat) : Value := match l.findIdx? (fun r => r.worker == (i : Int)) with | some j => ptrAt A j | none => .pointer none
def byL (A : Option Addr) (l : List Report) (n : Nat) : List Value := (List.range n).map (byV A l)
theorem byL_len (A : Option Addr) (l : List Report) (n : Nat) : (byL A l n).length = n := by simp [byL]
theorem byL_get {A : Option Addr} {l : List Report} {n i : Nat} (h : i < n) : (byL A l n)[i]? = some (byV A l i) := by
  unfold byL; rw [List.getElem?_map, List.getElem?_range h]; rfl
theorem byL_zero (A : Option Addr) (n : Nat) : byL A [] n = List.replicate n (.pointer none) := by
  apply List.ext_getElem?
  intro i
  by_cases h : i < n
  · rw [byL_get h, List.getElem?_replicate, if_pos h]; rfl
  · rw [List.getElem?_eq_none (by rw [byL_len]; omega), List.getElem?_eq_none (by simp; omega)]
theorem byV_none {A : Option Addr} {l : List Report} {i : Nat} (h : ∀ (j : Nat) y, l[j]? = some y → y.worker ≠ (i : Int)) : byV A l i = .pointer none := by
  have : l.findIdx? (fun r => r.worker == (i : Int)) = none := by
    rw [List.findIdx?_eq_none_iff]
    intro x hx
    obtain ⟨j, hj⟩ := List.mem_iff_getElem?.1 hx
    have := h j x hj
    simpa using this
  unfold byV; rw [this]
theorem byV_some {A : Option Addr} {l : List Report} {i j : Nat} {x : Report} (hx : l[j]? = some x) (hw : x.worker = (i : Int)) (h : ∀ (k : Nat) y, k < j → l[k]? = some y → y.worker ≠ (i : Int)) : byV A l i = ptrAt A j := by
  have hk := (List.getElem?_eq_some_iff.1 hx).1
  have : l.findIdx? (fun r => r.worker == (i : Int)) = some j := by
    rw [List.findIdx?_eq_some_iff_getElem]
    refine ⟨hk, ?_, fun k hkj => ?_⟩
    · rw [(List.getElem?_eq_some_iff.1 hx).2]; simpa using hw
    · have := h k _ hkj (List.getElem?_eq_getElem (by omega)); simpa using this
  unfold byV; rw [this]
theorem byV_cases (A : Option Addr) (l : List Report) (i : Nat) : (byV A l i = .pointer none ∧ ∀ (j : Nat) y, l[j]? = some y → y.worker ≠ (i : Int)) ∨ ∃ j x, l[j]? = some x ∧ x.worker = (i : Int) ∧ byV A l i = ptrAt A j := by
  cases h : l.findIdx? (fun r => r.worker == (i : Int)) with
  | none =>
    refine .inl ⟨by unfold byV; rw [h], fun j y hy => ?_⟩
    have := List.findIdx?_eq_none_iff.1 h y (List.mem_of_getElem? hy)
    simpa using this
  | some j =>
    rw [List.findIdx?_eq_some_iff_getElem] at h
    obtain ⟨hj, hw, hb⟩ := h
    have hb' : ∀ (k : Nat) y, k < j → l[k]? = some y → y.worker ≠ (i : Int) := fun k y hk hy => by
      have := hb k hk
      rw [(List.getElem?_eq_some_iff.1 hy).2] at this
      simpa using this
    exact .inr ⟨j, _, List.getElem?_eq_getElem hj, by simpa using hw, byV_some (List.getElem?_eq_getElem hj) (by simpa using hw) hb'⟩
theorem take_nextB {α : Type} {l : List α} {k : Nat} {x : α} (h : l[k]? = some x) : l.take (k + 1) = l.take k ++ [x] := by
  rw [List.take_add_one, h]; rfl
theorem take_getB {α : Type} {l : List α} {k j : Nat} {x : α} (h : (l.take k)[j]? = some x) : j < k ∧ l[j]? = some x := by
  rw [List.getElem?_take] at h
  split at h
  · exact ⟨by assumption, h⟩
  · cases h
theorem byL_step {A : Option Addr} {l : List Report} {n k : Nat} {x : Report} (hx : l[k]? = some x) (h0 : 0 ≤ x.worker) (h1 : x.worker < n) (hd : ∀ (j : Nat) y, j < k → l[j]? = some y → y.worker ≠ x.worker) :
    byL A (l.take (k + 1)) n = (byL A (l.take k) n).set x.worker.toNat (ptrAt A k) := by
  have hkl := (List.getElem?_eq_some_iff.1 hx).1
  apply List.ext_getElem?
  intro i
  by_cases h : i < n
  · rw [byL_get h, List.getElem?_set]
    by_cases hi : x.worker.toNat = i
    · rw [if_pos hi, if_pos (by rw [byL_len]; omega)]
      congr 1
      refine byV_some (x := x) ?_ (by omega) fun j y hj hy => ?_
      · rw [List.getElem?_take, if_pos (by omega)]; exact hx
      · obtain ⟨_, hy⟩ := take_getB hy
        have := hd j y hj hy
        omega
    · rw [if_neg hi, byL_get h]
      congr 1
      rcases byV_cases A (l.take k) i with ⟨e, hn⟩ | ⟨j, y, hy, hw, e⟩
      · rw [e]
        refine byV_none fun j y hy => ?_
        obtain ⟨hj, hy'⟩ := take_getB hy
        clear hy
        rcases Nat.lt_or_ge j k with h2 | h2
        · exact hn j y (by rw [List.getElem?_take, if_pos h2]; exact hy')
        · obtain rfl : j = k := by omega
          rw [hx] at hy'; injection hy' with hy'; rw [← hy']; omega
      · unfold byV
        rw [take_nextB hx, List.findIdx?_append]
        unfold byV at e
        cases hf : (l.take k).findIdx? (fun r => r.worker == (i : Int)) with
        | some j2 => rw [hf] at e; simp only [Option.some_or]
        | none =>
          have := List.findIdx?_eq_none_iff.1 hf y (List.mem_of_getElem? hy)
          rw [hw] at this; simp at this
  · rw [List.getElem?_eq_none (by rw [byL_len]; omega), List.getElem?_eq_none (by rw [List.length_set, byL_len]; omega)]
/-- The sum over the workers ahead of 'n'. -/
def accW (f : Report → Int) (l : List Report) : Nat → Int
  | 0 => 0
  | i + 1 => accW f l i + (match l.find? (fun r => r.worker == (i : Int)) with | some r => f r | none => 0)
theorem accW_far {f : Report → Int} {l : List Report} {x : Report} : ∀ n : Nat, (x.worker < 0 ∨ (n : Int) ≤ x.worker) → accW f (l ++ [x]) n = accW f l n
  | 0, _ => rfl
  | n + 1, h => by
    unfold accW
    rw [accW_far n (by omega), List.find?_append]
    have : [x].find? (fun r => r.worker == (n : Int)) = none := by
      rw [List.find?_eq_none]; intro y hy; rw [List.mem_singleton] at hy; subst hy; simp; omega
    rw [this, Option.or_none]
theorem accW_snoc {f : Report → Int} {l : List Report} {x : Report} (hd : ∀ y ∈ l, y.worker ≠ x.worker) : ∀ n : Nat, 0 ≤ x.worker → x.worker < n → accW f (l ++ [x]) n = accW f l n + f x
  | 0, _, h => by omega
  | n + 1, h0, h1 => by
    by_cases hw : x.worker = n
    · unfold accW
      rw [accW_far n (by omega), List.find?_append]
      have e1 : l.find? (fun r => r.worker == (n : Int)) = none := by
        rw [List.find?_eq_none]; intro y hy; have := hd y hy; simp; omega
      have e2 : [x].find? (fun r => r.worker == (n : Int)) = some x := by simp [hw]
      rw [e1, e2]
      simp
    · unfold accW
      rw [accW_snoc hd n h0 (by omega), List.find?_append]
      have : [x].find? (fun r => r.worker == (n : Int)) = none := by
        rw [List.find?_eq_none]; intro y hy; rw [List.mem_singleton] at hy; subst hy; simpa using hw
      rw [this, Option.or_none]
      omega
theorem accW_nil (f : Report → Int) : ∀ n, accW f [] n = 0
  | 0 => rfl
  | n + 1 => by unfold accW; rw [accW_nil f n]; simp
theorem sumOf_snoc {f : Report → Int} {l : List Report} {k : Nat} {x : Report} (hx : l[k]? = some x) : sumOf f (l.take (k + 1)) = sumOf f (l.take k) + f x := by
  unfold sumOf; rw [take_nextB hx, List.map_append, List.sum_append]; simp
theorem accW_take {f : Report → Int} {wk ep st : Int} {l : List Report} (h : bdOk wk ep st l) {n : Nat} (hn : (n : Int) = wk) : ∀ k, k ≤ l.length → accW f (l.take k) n = sumOf f (l.take k)
  | 0, _ => by rw [List.take_zero, accW_nil]; rfl
  | k + 1, hk => by
    obtain ⟨x, hx⟩ : ∃ x, l[k]? = some x := ⟨_, List.getElem?_eq_getElem (by omega)⟩
    have hf := (repV_zero (h.2.1 x (List.mem_of_getElem? hx))).1
    rw [sumOf_snoc hx, take_nextB hx, accW_snoc (fun y hy => ?_) n hf.1 (by omega), accW_take h hn k (by omega)]
    obtain ⟨j, hj⟩ := List.mem_iff_getElem?.1 hy
    obtain ⟨hj, hy⟩ := take_getB hj
    exact (bdPre_of h).2 j k y x hj (by omega) hy hx
theorem accW_all {f : Report → Int} {wk ep st : Int} {l : List Report} (h : bdOk wk ep st l) {n : Nat} (hn : (n : Int) = wk) : accW f l n = sumOf f l := by
  have := accW_take (f := f) h hn l.length (Nat.le_refl _)
  rwa [List.take_length] at this
theorem accW_find {f : Report → Int} {wk ep st : Int} {l : List Report} (h : bdOk wk ep st l) {i j : Nat} {x : Report} (hx : l[j]? = some x) (hw : x.worker = (i : Int)) : accW f l (i + 1) = accW f l i + f x := by
  have hfind : l.find? (fun r => r.worker == (i : Int)) = some x := by
    cases hf : l.find? (fun r => r.worker == (i : Int)) with
    | none =>
      have := List.find?_eq_none.1 hf x (List.mem_of_getElem? hx)
      rw [hw] at this; simp at this
    | some y =>
      have hy := List.find?_some hf
      obtain ⟨k, hk⟩ := List.mem_iff_getElem?.1 (List.mem_of_find?_eq_some hf)
      have hyw : y.worker = (i : Int) := by simpa using hy
      have hkl := (List.getElem?_eq_some_iff.1 hk).1
      have hjl := (List.getElem?_eq_some_iff.1 hx).1
      rcases Nat.lt_trichotomy k j with h1 | h1 | h1
      · exact absurd (hyw.trans hw.symm) ((bdPre_of h).2 k j y x h1 hjl hk hx)
      · subst h1; rw [hx] at hk; rw [hk]
      · exact absurd (hw.trans hyw.symm) ((bdPre_of h).2 j k x y h1 hkl hx hk)
  show accW f l i + _ = _
  rw [hfind]
theorem accW_one {l : List Report} : ∀ n, accW (fun _ => 1) l n ≤ n
  | 0 => Int.le_refl _
  | n + 1 => by
    have := accW_one (l := l) n
    unfold accW
    split <;> omega
theorem accW_gap {l : List Report} {i : Nat} (hi : ∀ (j : Nat) y, l[j]? = some y → y.worker ≠ (i : Int)) : ∀ n, i < n → accW (fun _ => 1) l n < n
  | 0, h => by omega
  | n + 1, h => by
    unfold accW
    by_cases hin : i = n
    · subst hin
      have e : l.find? (fun r => r.worker == (i : Int)) = none := by
        rw [List.find?_eq_none]; intro y hy
        obtain ⟨j, hj⟩ := List.mem_iff_getElem?.1 hy
        have := hi j y hj
        simpa using this
      rw [e]
      have := accW_one (l := l) i
      simp only
      omega
    · have := accW_gap hi n (by omega)
      split <;> omega
theorem accW_full {l : List Report} : ∀ n : Nat, (∀ i : Nat, i < n → ∃ (j : Nat) (y : Report), l[j]? = some y ∧ y.worker = (i : Int)) → accW (fun _ => 1) l n = n
  | 0, _ => rfl
  | n + 1, h => by
    unfold accW
    rw [accW_full n fun i hi => h i (by omega)]
    obtain ⟨j, y, hy, hw⟩ := h n (by omega)
    cases hf : l.find? (fun r => r.worker == (n : Int)) with
    | none => have := List.find?_eq_none.1 hf y (List.mem_of_getElem? hy); rw [hw] at this; simp at this
    | some z => simp
theorem sumOf_one (l : List Report) : sumOf (fun _ => 1) l = l.length := by
  unfold sumOf
  induction l with
  | nil => rfl
  | cons x l ih => rw [List.map_cons, List.sum_cons, ih, List.length_cons]; omega
/-- A worker who has not reported: too few reports. -/
theorem short_of {wk ep st : Int} {l : List Report} (h : bdOk wk ep st l) {n i : Nat} (hn : (n : Int) = wk) (hi : i < n) (hg : ∀ (j : Nat) y, l[j]? = some y → y.worker ≠ (i : Int)) : (l.length : Int) < wk := by
  have h1 := accW_all (f := fun _ => 1) h hn
  rw [sumOf_one] at h1
  have := accW_gap hg n hi
  omega
theorem full_of {wk ep st : Int} {l : List Report} (h : bdOk wk ep st l) {n : Nat} (hn : (n : Int) = wk) (hf : ∀ i : Nat, i < n → ∃ (j : Nat) (y : Report), l[j]? = some y ∧ y.worker = (i : Int)) : (l.length : Int) = wk := by
  have h1 := accW_all (f := fun _ => 1) h hn
  rw [sumOf_one, accW_full n hf] at h1
  omega
theorem accW_bound {f : Report → Int} {l : List Report} (hf : ∀ r ∈ l, 0 ≤ f r ∧ f r ≤ 1099511627776) : ∀ n : Nat, 0 ≤ accW f l n ∧ accW f l n ≤ n * 1099511627776
  | 0 => by unfold accW; omega
  | n + 1 => by
    have := accW_bound hf n
    unfold accW
    cases hq : l.find? (fun r => r.worker == (n : Int)) with
    | none => simp only; omega
    | some r => have := hf r (List.mem_of_find?_eq_some hq); simp only; omega
theorem sumOf_bound {f : Report → Int} {l : List Report} (hf : ∀ r ∈ l, 0 ≤ f r ∧ f r ≤ 1099511627776) : 0 ≤ sumOf f l ∧ sumOf f l ≤ l.length * 1099511627776 := by
  induction l with
  | nil => unfold sumOf; simp
  | cons x l ih =>
    have h1 := ih fun r hr => hf r (List.mem_cons_of_mem _ hr)
    have h2 := hf x (List.mem_cons_self ..)
    unfold sumOf at h1 ⊢
    rw [List.map_cons, List.sum_cons, List.length_cons]
    omega
theorem readyV_bad {wk ep st : Int} {l : List Report} (h : ¬ bdOk wk ep st l) : readyV wk ep st l = (0, 0, 9) := by unfold readyV; rw [if_pos h]
theorem readyV_short {wk ep st : Int} {l : List Report} (h : bdOk wk ep st l) (h2 : (l.length : Int) < wk) : readyV wk ep st l = (0, 0, 12) := by unfold readyV; rw [if_neg (by simpa using h), if_pos h2]
theorem readyV_wait {wk ep st : Int} {l : List Report} (h : bdOk wk ep st l) (h3 : ¬ agree l) : readyV wk ep st l = (0, 0, 12) := by
  unfold readyV; rw [if_neg (by simpa using h)]
  split
  · rfl
  · first | rfl | rw [if_neg h3]
theorem readyV_go {wk ep st : Int} {l : List Report} (h : bdOk wk ep st l) (h2 : ¬ (l.length : Int) < wk) (h3 : agree l) : readyV wk ep st l = (sumOf (·.waking) l, sumOf (·.opn) l, 0) := by unfold readyV; rw [if_neg (by simpa using h), if_neg h2, if_pos h3]
end Go.Proofs.Ytaipjckcckfnaaa
