/- What a vertex does with its mail: prog.lower and the three jobs' wake. -/
import Derived.Test.YteefemiieidpaaaSays
import Derived.Test.YteefemiieidpaaaBase
namespace Go.Proofs.Yteefemiieidpaaa
open Go.ChangeShapes Go.WideShapes Go.ChangeAt Go.RowKit
set_option linter.unusedVariables false
set_option linter.unusedSimpArgs false
def lowS (s : Int × Bool) (m : Int) : Int × Bool := if s.1 = -1 ∨ m < s.1 then (m, true) else s
def lowF (a : Int) (l : List Int) : Int × Bool := l.foldl lowS (a, false)
def leastS (n m : Int) : Int := if n < 0 ∨ m < n then m else n
def leastF (l : List Int) : Int := l.foldl leastS (-1)
theorem take_nextW {α : Type} {l : List α} {k : Nat} {e : α} (h : l[k]? = some e) : l.take (k + 1) = l.take k ++ [e] := by
  rw [List.take_add_one, h]; rfl
theorem lowF_take {a : Int} {l : List Int} {k : Nat} {x : Int} (h : l[k]? = some x) : lowF a (l.take (k + 1)) = lowS (lowF a (l.take k)) x := by
  rw [take_nextW h]; unfold lowF; rw [List.foldl_append]; rfl
theorem leastF_take {l : List Int} {k : Nat} {x : Int} (h : l[k]? = some x) : leastF (l.take (k + 1)) = leastS (leastF (l.take k)) x := by
  rw [take_nextW h]; unfold leastF; rw [List.foldl_append]; rfl
theorem low_least {a : Int} (ha : -1 ≤ a) : ∀ l : List Int, (∀ m ∈ l, 0 ≤ m) → -1 ≤ leastF l ∧ lowF a l = if 0 ≤ leastF l ∧ (a < 0 ∨ leastF l < a) then (leastF l, true) else (a, false) := by
  intro l
  have : ∀ l : List Int, (∀ m ∈ l.reverse, 0 ≤ m) → -1 ≤ leastF l.reverse ∧ lowF a l.reverse = if 0 ≤ leastF l.reverse ∧ (a < 0 ∨ leastF l.reverse < a) then (leastF l.reverse, true) else (a, false) := by
    intro l
    induction l with
    | nil => intro _; exact ⟨by simp [leastF], by simp [leastF, lowF]⟩
    | cons x l ih =>
      intro h
      rw [List.reverse_cons] at h ⊢
      obtain ⟨h1, h2⟩ := ih fun m hm => h m (List.mem_append_left _ hm)
      have hx := h x (List.mem_append_right _ (List.mem_singleton.2 rfl))
      have e1 : leastF (l.reverse ++ [x]) = leastS (leastF l.reverse) x := by unfold leastF; rw [List.foldl_append]; rfl
      have e2 : lowF a (l.reverse ++ [x]) = lowS (lowF a l.reverse) x := by unfold lowF; rw [List.foldl_append]; rfl
      rw [e1, e2, h2]
      generalize leastF l.reverse = n at *
      unfold leastS lowS
      refine ⟨by split <;> omega, ?_⟩
      by_cases c1 : 0 ≤ n ∧ (a < 0 ∨ n < a)
      · rw [if_pos c1]
        by_cases c2 : x < n
        · rw [if_pos (show n < 0 ∨ x < n from .inr c2), if_pos (show n = -1 ∨ x < n from .inr c2), if_pos ⟨hx, by omega⟩]
        · rw [if_neg (show ¬ (n < 0 ∨ x < n) by omega), if_neg (show ¬ (n = -1 ∨ x < n) by omega), if_pos c1]
      · rw [if_neg c1]
        by_cases c2 : n < 0 ∨ x < n
        · rw [if_pos c2]
          by_cases c3 : a = -1 ∨ x < a
          · rw [if_pos (show a = -1 ∨ x < a from c3), if_pos ⟨hx, by omega⟩]
          · rw [if_neg (show ¬ (a = -1 ∨ x < a) from c3), if_neg (by omega)]
        · rw [if_neg c2]
          rw [if_neg (show ¬ (a = -1 ∨ x < a) by omega), if_neg c1]
  have h := this l.reverse
  rw [List.reverse_reverse] at h
  exact h
def lowV (x : Val) (l : List Int) : Val × Bool := (⟨(lowF x.a l).1, x.label⟩, (lowF x.a l).2)
def distWV (v src : Int) (x : Val) (fresh : Bool) (l : List Int) : Val × Bool := if fresh = true then (if v = src then (⟨0, -1⟩, true) else (⟨-1, -1⟩, false)) else lowV x l
def weakWV (v : Int) (x : Val) (fresh : Bool) (l : List Int) : Val × Bool := if fresh = true then (⟨v, -1⟩, true) else lowV x l
open Classical in
noncomputable def strongWV (v : Int) (x : Val) (p : Int) (fresh : Bool) (l : List Int) : Val × Bool :=
  if x.label ≠ -1 then (x, false) else if p = 0 then weakWV v x fresh l else if fresh = true then (if x.a = v then (⟨x.a, x.a⟩, true) else (x, false)) else if x.a ∈ l then (⟨x.a, x.a⟩, true) else (x, false)
abbrev RetVB (w : World) (r : Val × Bool) (e : Ending) (w' : World) : Prop := e = .returned (.tuple #[.agg #[.int .i64 r.1.a, .int .i64 r.1.label], .bool r.2]) ∧ Below w.heap.size w w'
/-- The cell of the number 'k'. -/
theorem icellW {w : World} {B n k : Nat} {A : Option Addr} {l : List Int} {x : Int} (h : Rd w B A 1 n (l.flatMap i64c)) (hl : l.length = n) (hk : l[k]? = some x) : ∃ b off, A = some ⟨b, off, none⟩ ∧ b < B ∧ w.cell? ⟨b, off + k, none⟩ = some (.int .i64 x) := by
  have hkl := (List.getElem?_eq_some_iff.1 hk).1
  obtain ⟨b, off, rfl, hb, hc⟩ := h.2 (show 0 < n by omega)
  have hg := (flatMap_get (l := l) (cells := i64c) (sz := 1) (fun _ _ => rfl)).2 k x 0 _ hk rfl
  have := hc _ _ hg
  exact ⟨b, off, rfl, hb, by simpa using this⟩
def LwRel (x : Val) (l : List Int) (w : World) (sd i : Value) (wr : World) : Prop :=
  ∃ k : Nat, k ≤ l.length ∧ i = .int .i64 k ∧ sd = .bool (lowF x.a (l.take k)).2 ∧ wr.cell? ⟨w.heap.size, 0, none⟩ = some (.int .i64 (lowF x.a (l.take k)).1) ∧ wr.cell? ⟨w.heap.size, 1, none⟩ = some (.int .i64 x.label) ∧ wr.cell? ⟨w.heap.size + 1, 0, none⟩ = some (.int .i64 0) ∧ wr.cell? ⟨w.heap.size + 1, 1, none⟩ = some (.int .i64 0) ∧
    (∀ o, wr.frozen? ⟨w.heap.size, o, none⟩ = false) ∧ (∀ o, wr.frozen? ⟨w.heap.size + 1, o, none⟩ = false) ∧ w.heap.size + 2 ≤ wr.heap.size ∧ Below w.heap.size w wr
set_option maxRecDepth 100000 in
set_option maxHeartbeats 2000000 in
theorem lower_walk (x : Val) (l : List Int) (w : World) (A : Option Addr) (c : Nat) (hr : Rd w w.heap.size A 1 l.length (l.flatMap i64c)) (hl : l.length * 8 ≤ 140737488355328) :
    Calls Try.prog 96 #[.agg #[.int .i64 x.a, .int .i64 x.label], .slice A l.length c] w (RetVB w (lowV x l)) := by
  go_enter Try.func96, Try.ntmps96
  go_wp2_with fail
  go_loopw [6, 8, 11] (fun sd _ i wr => LwRel x l w sd i wr) (fun _ _ i _ => l.length - (intOf i).toNat)
  case atStart => exact ⟨0, by omega, rfl, rfl, by go_simp; rfl, by go_simp, by go_simp, by go_simp, fun o => by go_simp, fun o => by go_simp, by simp, bA (bA (Below.refl _ _) _) _⟩
  case round =>
    obtain ⟨k, hk, rfl, rfl, g0, g1, z0, z1, gf, zf, hsz, hbel⟩ := hrel
    by_cases hlt : k < l.length
    · obtain ⟨m, hm⟩ : ∃ m, l[k]? = some m := ⟨_, List.getElem?_eq_getElem hlt⟩
      obtain ⟨b, off, rfl, hb, c0⟩ := icellW (hr.below hbel) rfl hm
      have HT := hid (lowF_take (a := x.a) hm)
      have hkz : (k : Int) < (l.length : Int) := by omega
      have hbn : b ≠ w.heap.size := by omega
      have hbr : b < wr.heap.size := by omega
      clear hm
      generalize lowF x.a (l.take k) = s at *
      obtain ⟨a, sd⟩ := s
      simp only at g0 HT ⊢
      by_cases c1 : a = -1
      · have HN : Hid (lowF x.a (l.take (k + 1)) = (m, true)) := hid (by rw [HT.out]; unfold lowS; rw [if_pos (.inl c1)])
        have c1b : (a == -1) = true := by simpa using c1
        clear c1
        go_wp2_with fail
        go_roundw
        case rel => exact ⟨k + 1, by omega, by go_num, by rw [HN.out], by rw [HN.out]; exact World.cell?_setCell_same _ _ _ g0, by go_simp, by go_simp, by go_simp, fun o => by simpa using gf o, fun o => by simpa using zf o, by simpa using hsz, hbel.setCell (Nat.le_refl _) _⟩
        case measure => simp [intOf]; omega
      · have c1b : (a == -1) = false := by simpa using c1
        by_cases c2 : m < a
        · have HN : Hid (lowF x.a (l.take (k + 1)) = (m, true)) := hid (by rw [HT.out]; unfold lowS; rw [if_pos (.inr c2)])
          clear c1
          go_wp2_with fail
          go_roundw
          case rel => exact ⟨k + 1, by omega, by go_num, by rw [HN.out], by rw [HN.out]; exact World.cell?_setCell_same _ _ _ g0, by go_simp, by go_simp, by go_simp, fun o => by simpa using gf o, fun o => by simpa using zf o, by simpa using hsz, hbel.setCell (Nat.le_refl _) _⟩
          case measure => simp [intOf]; omega
        · have HN : Hid (lowF x.a (l.take (k + 1)) = (a, sd)) := hid (by rw [HT.out]; unfold lowS; rw [if_neg (by rintro (h | h); exact c1 h; exact c2 h)])
          clear c1
          go_wp2_with fail
          go_roundw
          case rel => exact ⟨k + 1, by omega, by go_num, by rw [HN.out], by rw [HN.out]; exact g0, g1, z0, z1, gf, zf, hsz, hbel⟩
          case measure => simp [intOf]; omega
    · obtain rfl : k = l.length := by omega
      have hws : w.heap.size + 1 < wr.heap.size := by omega
      have HE : Hid (lowV x l = (⟨(lowF x.a (l.take l.length)).1, x.label⟩, (lowF x.a (l.take l.length)).2)) := hid (by rw [List.take_length]; rfl)
      generalize lowF x.a (l.take l.length) = s at *
      go_wp2_with fail
      refine bodyPost_ret (v := .tuple #[.agg #[.int .i64 s.1, .int .i64 x.label], .bool s.2]) (by simp [results, Try.results96, go_sem, *]) rfl ?_
      rw [HE.out]
      refine ⟨rfl, ?_⟩
      repeat (with_reducible refine bS ?_ (by simp; try omega) _)
      exact hbel
end Go.Proofs.Yteefemiieidpaaa
