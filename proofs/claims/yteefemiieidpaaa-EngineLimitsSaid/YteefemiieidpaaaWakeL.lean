/- What a vertex answers, case by case. -/
import Derived.Test.YteefemiieidpaaaWakeP
namespace Go.Proofs.Yteefemiieidpaaa
open Go.ChangeShapes Go.WideShapes Go.ChangeAt Go.RowKit
set_option linter.unusedVariables false
set_option linter.unusedSimpArgs false
theorem kindB_ok {k p : Int} (h : kindB k p = true) : (1 ≤ k ∧ k ≤ 3) ∧ (p = 0 ∨ k = 3 ∧ p = 1) := by
  unfold kindB at h
  rw [Bool.and_eq_true] at h
  obtain ⟨h1, h2⟩ := h
  refine ⟨?_, by simpa using h2⟩
  by_cases hc : 1 ≤ k ∧ k ≤ 3
  · exact hc
  · rw [inB_no (by omega)] at h1; cases h1
theorem wv_strong {k v src p : Int} {x : Val} {fresh : Bool} {l : List Int} (hk : k = 3) (hl : 0 ≤ x.label) : kindWV k v src x p fresh l = (x, false) := by
  unfold kindWV; rw [if_neg (by omega), if_neg (by omega)]; unfold strongWV; rw [if_pos (by omega)]
theorem wv_fresh {k v src p : Int} {x : Val} {l : List Int} (hk : kindB k p = true) (hv : vB k x = true) (hn : ¬ (k = 3 ∧ 0 ≤ x.label)) (hp : p ≠ 1) : kindWV k v src x p true l = if k = 1 then (if v = src then (⟨0, -1⟩, true) else (⟨-1, -1⟩, false)) else (⟨v, -1⟩, true) := by
  have h1 := kindB_ok hk
  have h2 := vB_ok hv
  unfold kindWV
  split
  · unfold distWV; rw [if_pos rfl]
  · split
    · unfold weakWV; rw [if_pos rfl]
    · unfold strongWV; rw [if_neg (by omega), if_pos (by omega)]; unfold weakWV; rw [if_pos rfl]
theorem wv_low {k v src p : Int} {x : Val} {l : List Int} (hk : kindB k p = true) (hv : vB k x = true) (hn : ¬ (k = 3 ∧ 0 ≤ x.label)) (hp : p ≠ 1) (hm : ∀ m ∈ l, 0 ≤ m) : kindWV k v src x p false l = if 0 ≤ leastF l ∧ (x.a < 0 ∨ leastF l < x.a) then (⟨leastF l, x.label⟩, true) else (x, false) := by
  have h1 := kindB_ok hk
  have h2 := vB_ok hv
  have hlow : lowV x l = if 0 ≤ leastF l ∧ (x.a < 0 ∨ leastF l < x.a) then (⟨leastF l, x.label⟩, true) else (x, false) := by
    have h := (low_least h2.1.1 l hm).2
    unfold lowV
    rw [h]
    split <;> rfl
  unfold kindWV
  split
  · unfold distWV; rw [if_neg (by simp)]; exact hlow
  · split
    · unfold weakWV; rw [if_neg (by simp)]; exact hlow
    · unfold strongWV; rw [if_neg (by omega), if_pos (by omega)]; unfold weakWV; rw [if_neg (by simp)]; exact hlow
def hereF (fresh : Bool) (a v : Int) (l : List Int) : Bool := (fresh && a == v) || (!fresh && l.any (· == a))
theorem hereF_take {fresh : Bool} {a v m : Int} {l : List Int} {k : Nat} (h : l[k]? = some m) : hereF fresh a v (l.take (k + 1)) = (hereF fresh a v (l.take k) || (!fresh && m == a)) := by
  rw [take_nextW h]; unfold hereF; rw [List.any_append]; simp
  cases fresh <;> simp
theorem hereF_iff {fresh : Bool} {a v : Int} {l : List Int} : hereF fresh a v l = true ↔ (fresh = true ∧ a = v) ∨ (fresh = false ∧ a ∈ l) := by
  unfold hereF
  cases fresh <;> simp
open Classical in
theorem wv_back {k v src p : Int} {x : Val} {fresh : Bool} {l : List Int} (hk : kindB k p = true) (hv : vB k x = true) (hn : ¬ (k = 3 ∧ 0 ≤ x.label)) (hp : p = 1) : kindWV k v src x p fresh l = if hereF fresh x.a v l = true then (⟨x.a, x.a⟩, true) else (x, false) := by
  have h1 := kindB_ok hk
  have h2 := vB_ok hv
  have hl : x.label = -1 := by omega
  have hh := hereF_iff (fresh := fresh) (a := x.a) (v := v) (l := l)
  unfold kindWV; rw [if_neg (by omega), if_neg (by omega)]; unfold strongWV; rw [if_neg (by omega), if_neg (by omega)]
  by_cases c : hereF fresh x.a v l = true
  · rw [if_pos c]
    rcases hh.1 c with ⟨h1, h2⟩ | ⟨h1, h2⟩
    · rw [if_pos h1, if_pos h2]
    · rw [if_neg (by rw [h1]; simp), if_pos h2]
  · rw [if_neg c]
    cases fresh with
    | true => rw [if_pos rfl, if_neg (fun h => c (hh.2 (.inl ⟨rfl, h⟩)))]
    | false => rw [if_neg (by simp), if_neg (fun h => c (hh.2 (.inr ⟨rfl, h⟩)))]
set_option maxRecDepth 100000 in
set_option maxHeartbeats 2000000 in
theorem leastMail_walk (l : List Int) (w : World) (A : Option Addr) (c : Nat) (hr : Rd w w.heap.size A 1 l.length (l.flatMap i64c)) (hl : l.length * 8 ≤ 140737488355328) :
    Calls Try.prog 56 #[.slice A l.length c] w fun e w' => e = .returned (.int .i64 (leastF l)) ∧ w = w' := by
  obtain ⟨V, hV⟩ : ∃ V, V = w := ⟨_, rfl⟩
  subst hV
  go_enter Try.func56, Try.ntmps56
  go_wp2_with fail
  go_loopw [3, 4] (fun n i wr => ∃ k : Nat, k ≤ l.length ∧ i = .int .i64 k ∧ n = .int .i64 (leastF (l.take k)) ∧ V = wr) (fun _ i _ => l.length - (intOf i).toNat)
  case atStart => exact ⟨0, by omega, rfl, rfl, rfl⟩
  case round =>
    obtain ⟨k, hk, rfl, rfl, rfl⟩ := hrel
    by_cases hlt : k < l.length
    · obtain ⟨m, hm⟩ : ∃ m, l[k]? = some m := ⟨_, List.getElem?_eq_getElem hlt⟩
      obtain ⟨b, off, rfl, hb, c0⟩ := icellW hr rfl hm
      have HT := hid (leastF_take hm)
      have hkz : (k : Int) < (l.length : Int) := by omega
      clear hm
      generalize leastF (l.take k) = s at *
      by_cases c1 : s < 0
      · have HN : Hid (leastF (l.take (k + 1)) = m) := hid (by rw [HT.out]; unfold leastS; rw [if_pos (.inl c1)])
        go_wp2_with fail
        go_roundw
        case rel => exact ⟨k + 1, by omega, by go_num, by rw [HN.out], by first | rfl | trivial⟩
        case measure => simp [intOf]; omega
      · by_cases c2 : m < s
        · have HN : Hid (leastF (l.take (k + 1)) = m) := hid (by rw [HT.out]; unfold leastS; rw [if_pos (.inr c2)])
          go_wp2_with fail
          go_roundw
          case rel => exact ⟨k + 1, by omega, by go_num, by rw [HN.out], by first | rfl | trivial⟩
          case measure => simp [intOf]; omega
        · have HN : Hid (leastF (l.take (k + 1)) = s) := hid (by rw [HT.out]; unfold leastS; rw [if_neg (by rintro (h | h); exact c1 h; exact c2 h)])
          go_wp2_with fail
          go_roundw
          case rel => exact ⟨k + 1, by omega, by go_num, by rw [HN.out], by first | rfl | trivial⟩
          case measure => simp [intOf]; omega
    · obtain rfl : k = l.length := by omega
      have HE : Hid (leastF l = leastF (l.take l.length)) := hid (by rw [List.take_length])
      generalize leastF (l.take l.length) = s at *
      go_wp2_with fail
      go_ret
      exact ⟨by rw [HE.out]; rfl, rfl⟩
end Go.Proofs.Yteefemiieidpaaa
