/- The document's FileAt and DiskMay. -/
import Derived.Test.YtphgdpjfolkafaaDoorDiskE
import Derived.Test.YtphgdpjfolkafaaDoorFindP
import Derived.Test.YtphgdpjfolkafaaDoorBase
namespace Go.Proofs.YtphgdpjfolkafaaDoor
open Go.ChangeShapes Go.WideShapes Go.ChangeAt Go.RowKit
set_option linter.unusedVariables false
set_option linter.unusedSimpArgs false
/-- The first file of that name. -/
def named (n : ByteArray) (x : MFile) : Bool := x.f.name.toList == n.toList
theorem fileAt_m (l : List MFile) (n : ByteArray) : fileAt (files l) n = l.findIdx? (named n) := by
  unfold fileAt files; rw [List.findIdx?_map]; rfl
theorem named_iff {n : ByteArray} {x : MFile} : named n x = true ↔ x.f.name = n := by
  unfold named
  rw [beq_iff_eq]
  constructor
  · intro h
    rw [ByteArray.toList_eq, ByteArray.toList_eq] at h
    exact bytes_inj h
  · intro h; rw [h]
def good (x : MFile) : Prop := fileOk x.f
def keyF (x : MFile) : ByteArray := x.f.name
theorem diskOk_m (l : List MFile) : diskOk (files l) ↔ l.length ≤ 40 ∧ OkTo good keyF l l.length := by
  rw [okTo_all]
  unfold diskOk files Apart
  rw [List.length_map, List.pairwise_map]
  constructor
  · intro ⟨h1, h2, h3⟩
    exact ⟨h1, fun x hx => h2 _ (List.mem_map.2 ⟨x, hx, rfl⟩), h3⟩
  · intro ⟨h1, h2, h3⟩
    refine ⟨h1, fun f hf => ?_, h3⟩
    obtain ⟨x, hx, rfl⟩ := List.mem_map.1 hf
    exact h2 x hx
section
open Classical
noncomputable def okB (l : List MFile) : Bool := decide (diskOk (files l))
theorem okB_yes {l : List MFile} (h : l.length ≤ 40) (h2 : OkTo good keyF l l.length) : okB l = true := by unfold okB; rw [decide_eq_true_iff]; exact (diskOk_m l).2 ⟨h, h2⟩
theorem okB_len {l : List MFile} (h : ¬ l.length ≤ 40) : okB l = false := by unfold okB; rw [decide_eq_false_iff_not]; exact fun h2 => h ((diskOk_m l).1 h2).1
theorem okB_bad {l : List MFile} {k : Nat} {x : MFile} (hx : l[k]? = some x) (h : ¬ fileOk x.f) : okB l = false := by
  unfold okB; rw [decide_eq_false_iff_not]
  intro h2
  exact h ((((diskOk_m l).1 h2).2) k x (List.getElem?_eq_some_iff.1 hx).1 hx).1
theorem okB_twice {l : List MFile} {k j : Nat} {x y : MFile} (hx : l[k]? = some x) (hj : j < k) (hy : l[j]? = some y) (h : y.f.name = x.f.name) : okB l = false := by
  unfold okB; rw [decide_eq_false_iff_not]
  intro h2
  exact ((((diskOk_m l).1 h2).2) k x (List.getElem?_eq_some_iff.1 hx).1 hx).2 j y hj hy h
end
def FatRel (l : List MFile) (n : ByteArray) (w1 : World) (i : Value) (wr : World) : Prop := ∃ k : Nat, k ≤ l.length ∧ i = .int .i64 k ∧ wr = w1 ∧ Hid (NoneTo (named n) l k)
set_option maxHeartbeats 2000000 in
theorem FileAt_walk (l : List MFile) (n : ByteArray) (w : World) (A : Option Addr) (c : Nat) (hr : Rd w w.heap.size A 3 l.length (l.flatMap MFile.cells)) (hl : l.length ≤ 140737488355328) :
    Calls Tryd.prog 31 #[.agg #[.slice A l.length c], .string n] w fun e w' => e = .returned (.int .i64 (atI (l.findIdx? (named n)))) ∧ Below w.heap.size w w' := by
  generalize hF : atI (l.findIdx? (named n)) = F
  have HF := hid hF
  clear hF
  have b0 := bA (Below.refl w.heap.size w) (.cells #[.slice A l.length c] 24)
  go_enter Tryd.func31, Tryd.ntmps31
  go_wp2_with fail
  go_loopw [5] (FatRel l n (w.alloc (.cells #[.slice A l.length c] 24))) (fun i _ => l.length - (intOf i).toNat)
  case atStart => exact ⟨0, by omega, rfl, rfl, hid .zero⟩
  case round =>
    obtain ⟨k, hk, rfl, rfl, HN⟩ := hrel
    by_cases hlt : k < l.length
    · obtain ⟨x, hx⟩ : ∃ x, l[k]? = some x := ⟨_, List.getElem?_eq_getElem hlt⟩
      obtain ⟨b, off, rfl, hb, c0, c1, c2⟩ := file_cells (hr.below b0) rfl hx
      have hkz : (k : Int) < (l.length : Int) := by omega
      have HX := hid hx
      clear hx
      cases hn : named n x with
      | true =>
        have hn2 : (x.f.name.toList == n.toList) = true := hn
        have HV : Hid (F = (k : Int)) := hid (by rw [← HF.out, find_at HN.out HX.out hn]; rfl)
        have HN2 := hid hn
        clear hn
        go_wp2_with fail
        go_ret
        exact ⟨by rw [HV.out]; rfl, b0⟩
      | false =>
        have hn2 : (x.f.name.toList == n.toList) = false := hn
        have HN2 := hid hn
        clear hn
        go_wp2_with fail
        go_roundw
        case rel => exact ⟨k + 1, by omega, by go_num, rfl, hid (HN.out.next HX.out HN2.out)⟩
        case measure => simp [intOf]; omega
    · obtain rfl : k = l.length := by omega
      have HV : Hid (F = -1) := hid (by rw [← HF.out, find_none HN.out]; rfl)
      go_wp2_with fail
      go_ret
      exact ⟨by rw [HV.out]; rfl, b0⟩
def DmRel (l : List MFile) (d : Value) (G : Nat) (w : World) (i : Value) (wr : World) : Prop := ∃ k : Nat, k ≤ l.length ∧ i = .int .i64 k ∧ Below G w wr ∧ wr.cell? ⟨G, 0, none⟩ = some d ∧ G < wr.heap.size ∧ Hid (OkTo good keyF l k)
set_option maxHeartbeats 4000000 in
theorem DiskMay_walk (l : List MFile) (w : World) (A : Option Addr) (c : Nat) (hr : Rd w w.heap.size A 3 l.length (l.flatMap MFile.cells)) (hl : l.length ≤ 140737488355328) :
    Calls Tryd.prog 23 #[.agg #[.slice A l.length c]] w fun e w' => e = .returned (.bool (okB l)) ∧ Below w.heap.size w w' := by
  have b0 := bA (Below.refl w.heap.size w) (.cells #[.slice A l.length c] 24)
  generalize hF : okB l = F
  have HF := hid hF
  clear hF
  by_cases h40 : l.length ≤ 40
  · have h40z : ¬ ((40 : Int) < (l.length : Int)) := by omega
    go_enter Tryd.func23, Tryd.ntmps23
    go_wp2_with fail
    go_loopw [3] (DmRel l (.slice A l.length c) w.heap.size w) (fun i _ => l.length - (intOf i).toNat)
    case atStart => exact ⟨0, by omega, rfl, b0, by go_simp, by simp, hid .zero⟩
    case round =>
      obtain ⟨k, hk, rfl, hbel, g0, hgs, HO⟩ := hrel
      by_cases hlt : k < l.length
      · obtain ⟨x, hx⟩ : ∃ x, l[k]? = some x := ⟨_, List.getElem?_eq_getElem hlt⟩
        obtain ⟨b, off, rfl, hb, c0, c1, c2⟩ := file_cells (hr.below hbel) rfl hx
        have hbr : b < wr.heap.size := by have := hbel.size; omega
        have hkz : (k : Int) < (l.length : Int) := by omega
        have HX := hid hx
        have hbX := bA (Below.refl wr.heap.size wr) (.cells #[.string x.f.name, .slice x.A x.f.data.length x.c, .int .i64 x.f.synced] 45)
        clear hx
        by_cases n1 : 1 ≤ x.f.name.size ∧ x.f.name.size ≤ 20
        · have i1 : inB (x.f.name.size : Int) 1 20 = true := inB_yes (by omega)
          by_cases n2 : x.f.data.length ≤ 100000
          · have n2z : ¬ ((100000 : Int) < (x.f.data.length : Int)) := by omega
            by_cases n3 : 0 ≤ x.f.synced ∧ x.f.synced ≤ x.f.data.length
            · have i3 : inB x.f.synced 0 (x.f.data.length : Int) = true := inB_yes n3
              have HOK := hid (show fileOk x.f from ⟨n1, n2, n3⟩)
              have hfa := FileAt_walk l x.f.name (wr.alloc (.cells #[.string x.f.name, .slice x.A x.f.data.length x.c, .int .i64 x.f.synced] 45)) (some ⟨b, off, none⟩) c (rdb hr (by decide) ((hbel.trans (hbX.mono hbel.size)))) hl
              have HFA := hid hfa
              obtain ⟨j, hj⟩ : ∃ j, l.findIdx? (named x.f.name) = some j := by
                cases hq : l.findIdx? (named x.f.name) with
                | some j => exact ⟨j, rfl⟩
                | none =>
                  rw [List.findIdx?_eq_none_iff] at hq
                  exact absurd (hq x (List.mem_of_getElem? HX.out)) (by rw [named_iff.2 rfl]; simp)
              rw [hj] at HFA
              obtain ⟨y, hy1, hy2, hy3⟩ := find_some hj
              have hjk : j ≤ k := by
                apply Nat.le_of_not_lt
                intro h
                exact absurd (hy3 k x h HX.out) (by rw [named_iff.2 rfl]; simp)
              have hyn := named_iff.1 hy2
              have HY1 := hid hy1
              have HY2 := hid hyn
              have HY3 := hid hy3
              clear hfa hj hy1 hy2 hy3 hyn n1 n2 n3
              by_cases hjk2 : j = k
              · subst hjk2
                have hat : (atI (some j) : Int) = (j : Int) := rfl
                rw [hat] at HFA
                go_wp2_with fail
                refine (In_walk _ _ _ _).mono ?_
                rintro e w2 ⟨rfl, rfl⟩
                rw [i1]
                go_wp2_with fail
                refine (In_walk _ _ _ _).mono ?_
                rintro e w2 ⟨rfl, rfl⟩
                rw [i3]
                go_wp2_with fail
                refine HFA.out.mono ?_
                rintro e w2 ⟨rfl, b2⟩
                have b2x := bT hbX b2
                have g0' := keepb b2x g0
                go_wp2_with fail
                go_roundw
                case rel => exact ⟨j + 1, by omega, by go_num, hbel.trans (b2x.mono hbel.size), g0', Nat.lt_of_lt_of_le hgs b2x.size, hid (HO.out.next HX.out HOK.out (fun i z hi hz he => by
                  have := HY3.out i z hi hz
                  rw [show named x.f.name z = true from named_iff.2 he] at this
                  cases this))⟩
                case measure => simp [intOf]; omega
              · have hlt2 : j < k := by omega
                have HV : Hid (F = false) := hid (by rw [← HF.out]; exact okB_twice HX.out hlt2 HY1.out HY2.out)
                have hat : (atI (some j) : Int) = (j : Int) := rfl
                rw [hat] at HFA
                have hjz : ((j : Int) != (k : Int)) = true := by simp; omega
                go_wp2_with fail
                refine (In_walk _ _ _ _).mono ?_
                rintro e w2 ⟨rfl, rfl⟩
                rw [i1]
                go_wp2_with fail
                refine (In_walk _ _ _ _).mono ?_
                rintro e w2 ⟨rfl, rfl⟩
                rw [i3]
                go_wp2_with fail
                refine HFA.out.mono ?_
                rintro e w2 ⟨rfl, b2⟩
                have b2x := bT hbX b2
                go_wp2_with fail
                go_ret
                exact ⟨by rw [HV.out]; rfl, hbel.trans (b2x.mono hbel.size)⟩
            · have i3 : inB x.f.synced 0 (x.f.data.length : Int) = false := inB_no n3
              have HV : Hid (F = false) := hid (by rw [← HF.out]; exact okB_bad HX.out (fun h => n3 h.2.2))
              clear n1 n2 n3
              go_wp2_with fail
              refine (In_walk _ _ _ _).mono ?_
              rintro e w2 ⟨rfl, rfl⟩
              rw [i1]
              go_wp2_with fail
              refine (In_walk _ _ _ _).mono ?_
              rintro e w2 ⟨rfl, rfl⟩
              rw [i3]
              go_wp2_with fail
              go_ret
              exact ⟨by rw [HV.out]; rfl, hbel.trans (hbX.mono hbel.size)⟩
          · have n2z : (100000 : Int) < (x.f.data.length : Int) := by omega
            have HV : Hid (F = false) := hid (by rw [← HF.out]; exact okB_bad HX.out (fun h => n2 h.2.1))
            clear n1 n2
            go_wp2_with fail
            refine (In_walk _ _ _ _).mono ?_
            rintro e w2 ⟨rfl, rfl⟩
            rw [i1]
            go_wp2_with fail
            go_ret
            exact ⟨by rw [HV.out]; rfl, hbel.trans (hbX.mono hbel.size)⟩
        · have i1 : inB (x.f.name.size : Int) 1 20 = false := inB_no (by omega)
          have HV : Hid (F = false) := hid (by rw [← HF.out]; exact okB_bad HX.out (fun h => n1 h.1))
          clear n1
          go_wp2_with fail
          refine (In_walk _ _ _ _).mono ?_
          rintro e w2 ⟨rfl, rfl⟩
          rw [i1]
          go_wp2_with fail
          go_ret
          exact ⟨by rw [HV.out]; rfl, hbel.trans (hbX.mono hbel.size)⟩
      · obtain rfl : k = l.length := by omega
        have HV : Hid (F = true) := hid (by rw [← HF.out]; exact okB_yes h40 HO.out)
        go_wp2_with fail
        go_ret
        exact ⟨by rw [HV.out]; rfl, hbel⟩
  · have h40z : (40 : Int) < (l.length : Int) := by omega
    have HV : Hid (F = false) := hid (by rw [← HF.out]; exact okB_len h40)
    go_enter Tryd.func23, Tryd.ntmps23
    go_wp2_with fail
    go_ret
    exact ⟨by rw [HV.out]; rfl, b0⟩
end Go.Proofs.YtphgdpjfolkafaaDoor
