/- slices.DeleteFunc at files: those of a name go, the others move up. -/
import Derived.Test.YtphgdpjfolkafaaDiskY
import Derived.Test.YtphgdpjfolkafaaMem
namespace Go.Proofs.Ytphgdpjfolkafaa
open Go.ChangeShapes Go.WideShapes Go.ChangeAt Go.RowKit
set_option linter.unusedVariables false
set_option linter.unusedSimpArgs false
/-- What a test of the name answers. -/
def TestsName (Fn q : Nat) (n : ByteArray) : Prop := (∀ args w, (callFunc Fn args).run Try.prog w = .ok (.enter Fn args) w) ∧
  ∀ (x : MFile) (w : World), w.cell? ⟨q, 0, none⟩ = some (.string n) → Calls Try.prog Fn #[.agg #[.string x.f.name, .slice x.A x.f.data.length x.c, .int .i64 x.f.synced], .pointer (some ⟨q, 0, none⟩)] w fun e w' => e = .returned (.bool (named n x)) ∧ Below w.heap.size w w'
set_option maxRecDepth 100000 in
set_option maxHeartbeats 2000000 in
theorem idxName_walk (Fn : Nat) (l : List MFile) (n : ByteArray) (w : World) (A : Option Addr) (c q : Nat) (hC : TestsName Fn q n) (hq : w.cell? ⟨q, 0, none⟩ = some (.string n)) (hr : Rd w w.heap.size A 3 l.length (l.flatMap MFile.cells)) (hl : l.length ≤ 140737488355328) :
    Calls Try.prog 132 #[.slice A l.length c, .func (.func Fn) #[] #[.pointer (some ⟨q, 0, none⟩)]] w fun e w' => e = .returned (.int .i64 (atI (l.findIdx? (named n)))) ∧ Below w.heap.size w w' := by
  generalize hF : atI (l.findIdx? (named n)) = F
  have HF := hid hF
  clear hF
  have HCC := hid hC
  have hcf := hC.1
  clear hC
  go_enter Try.func132, Try.ntmps132
  go_wp2_with fail
  go_loopw [5, 8] (fun _ i wr => IdxRel l n w i wr) (fun _ i _ => l.length - (intOf i).toNat)
  case atStart => exact ⟨0, by omega, rfl, Below.refl _ _, hid .zero⟩
  case round =>
    obtain ⟨k, hk, rfl, hbel, HN⟩ := hrel
    by_cases hlt : k < l.length
    · obtain ⟨x, hx⟩ : ∃ x, l[k]? = some x := ⟨_, List.getElem?_eq_getElem hlt⟩
      obtain ⟨b, off, rfl, hb, c0, c1, c2⟩ := file_cells (hr.below hbel) rfl hx
      have hkz : (k : Int) < (l.length : Int) := by omega
      have HX := hid hx
      have HC := hid (HCC.out.2 x wr (keepb hbel hq))
      clear hx
      cases hn : named n x with
      | true =>
        rw [hn] at HC
        have HV : Hid (F = (k : Int)) := hid (by rw [← HF.out, find_at HN.out HX.out hn]; rfl)
        clear hn
        go_wp2_with (rw [hcf])
        refine HC.out.mono ?_
        rintro e w2 ⟨rfl, b2⟩
        go_wp2_with fail
        go_ret
        exact ⟨by rw [HV.out]; rfl, bT hbel b2⟩
      | false =>
        rw [hn] at HC
        have HN2 := hid hn
        clear hn
        go_wp2_with (rw [hcf])
        refine HC.out.mono ?_
        rintro e w2 ⟨rfl, b2⟩
        go_wp2_with fail
        go_roundw
        case rel => exact ⟨k + 1, by omega, by go_num, bT hbel b2, hid (HN.out.next HX.out HN2.out)⟩
        case measure => simp [intOf]; omega
    · obtain rfl : k = l.length := by omega
      have HV : Hid (F = -1) := hid (by rw [← HF.out, find_none HN.out]; rfl)
      go_wp2_with fail
      go_ret
      exact ⟨by rw [HV.out]; rfl, hbel⟩
def keeps (n : ByteArray) (x : MFile) : Bool := !named n x
/-- The row while the others move up: i are kept of the first j. -/
structure DelIn (l L : List MFile) (n : ByteArray) (i j : Nat) : Prop where
  len : L.length = l.length
  at_ : i = ((l.take j).filter (keeps n)).length
  head : L.take i = (l.take j).filter (keeps n)
  tail : L.drop j = l.drop j
  lt : i < j
  le : j ≤ l.length
theorem DelIn.get {l L : List MFile} {n : ByteArray} {i j : Nat} (h : DelIn l L n i j) (hj : j < l.length) : L[j]? = l[j]? := by
  have := congrArg (·[0]?) h.tail
  simpa [List.getElem?_drop] using this
theorem drop_succ {α : Type} {l L : List α} {j : Nat} (h : L.drop j = l.drop j) : L.drop (j + 1) = l.drop (j + 1) := by
  have := congrArg (List.drop 1) h
  rwa [List.drop_drop, List.drop_drop] at this
theorem DelIn.skip {l L : List MFile} {n : ByteArray} {i j : Nat} {x : MFile} (h : DelIn l L n i j) (hx : l[j]? = some x) (hn : named n x = true) : DelIn l L n i (j + 1) := by
  have hj := (List.getElem?_eq_some_iff.1 hx).1
  have he : (l.take (j + 1)).filter (keeps n) = (l.take j).filter (keeps n) := by rw [List.take_add_one, hx]; simp [List.filter_append, keeps, hn]
  exact ⟨h.len, by rw [he]; exact h.at_, by rw [he]; exact h.head, drop_succ h.tail, by have := h.lt; omega, by omega⟩
theorem DelIn.put {l L : List MFile} {n : ByteArray} {i j : Nat} {x : MFile} (h : DelIn l L n i j) (hx : l[j]? = some x) (hn : named n x = false) : DelIn l (L.set i x) n (i + 1) (j + 1) := by
  have hj := (List.getElem?_eq_some_iff.1 hx).1
  have hi := h.lt
  have hl := h.len
  have he : (l.take (j + 1)).filter (keeps n) = (l.take j).filter (keeps n) ++ [x] := by rw [List.take_add_one, hx]; simp [List.filter_append, keeps, hn]
  refine ⟨by rw [List.length_set]; exact h.len, by rw [he, List.length_append, ← h.at_]; rfl, ?_, ?_, by omega, by omega⟩
  · rw [he, List.take_add_one, List.take_set_of_le (Nat.le_refl _), h.head, List.getElem?_set_self (by omega)]
    rfl
  · rw [List.drop_set_of_lt (by omega)]
    exact drop_succ h.tail
theorem DelIn.start {l : List MFile} {n : ByteArray} {k : Nat} (h : l.findIdx? (named n) = some k) : DelIn l l n k (k + 1) := by
  obtain ⟨x, hx, hn, hb⟩ := find_some h
  have hk := (List.getElem?_eq_some_iff.1 hx).1
  have he : (l.take k).filter (keeps n) = l.take k := by
    rw [List.filter_eq_self]
    intro y hy
    obtain ⟨i, hi, rfl⟩ := List.mem_iff_getElem.1 hy
    rw [List.length_take] at hi
    rw [List.getElem_take]
    have := hb i l[i] (by omega) (List.getElem?_eq_getElem (by omega))
    simp [keeps, this]
  have he2 : (l.take (k + 1)).filter (keeps n) = l.take k := by rw [List.take_add_one, hx]; simp [List.filter_append, keeps, hn, he]
  exact ⟨rfl, by rw [he2, List.length_take]; omega, he2.symm, rfl, by omega, by omega⟩
theorem DelIn.done {l L : List MFile} {n : ByteArray} {i : Nat} (h : DelIn l L n i l.length) : L.take i = l.filter (keeps n) := by rw [h.head, List.take_length]
end Go.Proofs.Ytphgdpjfolkafaa
