/- The file of a name: slices.IndexFunc with its closure, disk's find. -/
import Derived.Test.YtphgdpjfolkafaaDoorDiskF
namespace Go.Proofs.YtphgdpjfolkafaaDoor
open Go.ChangeShapes Go.WideShapes Go.ChangeAt Go.RowKit
set_option linter.unusedVariables false
set_option linter.unusedSimpArgs false
theorem findP_walk (x : MFile) (n : ByteArray) (w : World) (q : Nat) (hq : w.cell? ⟨q, 0, none⟩ = some (.string n)) :
    Calls Tryd.prog 39 #[.agg #[.string x.f.name, .slice x.A x.f.data.length x.c, .int .i64 x.f.synced], .pointer (some ⟨q, 0, none⟩)] w fun e w' => e = .returned (.bool (named n x)) ∧ Below w.heap.size w w' := by
  have hqs := World.block_lt_of_cell? w _ hq
  simp only at hqs
  have hne : q ≠ w.heap.size := by omega
  generalize hb : named n x = r
  have hb2 : (x.f.name.toList == n.toList) = r := hb
  clear hb
  go_enter Tryd.func39, Tryd.ntmps39
  go_wp2_with fail
  go_ret
  exact ⟨by rw [← hb2]; rfl, bA (Below.refl _ _) _⟩
def IdxRel (l : List MFile) (n : ByteArray) (w : World) (i : Value) (wr : World) : Prop := ∃ k : Nat, k ≤ l.length ∧ i = .int .i64 k ∧ Below w.heap.size w wr ∧ Hid (NoneTo (named n) l k)
set_option maxHeartbeats 2000000 in
theorem indexFunc_walk (l : List MFile) (n : ByteArray) (w : World) (A : Option Addr) (c q : Nat) (hq : w.cell? ⟨q, 0, none⟩ = some (.string n)) (hr : Rd w w.heap.size A 3 l.length (l.flatMap MFile.cells)) (hl : l.length ≤ 140737488355328) :
    Calls Tryd.prog 38 #[.slice A l.length c, .func (.func 39) #[] #[.pointer (some ⟨q, 0, none⟩)]] w fun e w' => e = .returned (.int .i64 (atI (l.findIdx? (named n)))) ∧ Below w.heap.size w w' := by
  generalize hF : atI (l.findIdx? (named n)) = F
  have HF := hid hF
  clear hF
  go_enter Tryd.func38, Tryd.ntmps38
  go_wp2_with fail
  go_loopw [5, 8] (fun _ i wr => IdxRel l n w i wr) (fun _ i _ => l.length - (intOf i).toNat)
  case atStart => exact ⟨0, by omega, rfl, Below.refl _ _, hid .zero⟩
  case round =>
    obtain ⟨k, hk, rfl, hbel, HN⟩ := hrel
    by_cases hlt : k < l.length
    · obtain ⟨x, hx⟩ : ∃ x, l[k]? = some x := ⟨_, List.getElem?_eq_getElem hlt⟩
      obtain ⟨b, off, rfl, hb, c0, c1, c2⟩ := file_cells (hr.below hbel) rfl hx
      have hkz : (k : Int) < (l.length : Int) := by omega
      have HX := hid hx
      have HC := hid (findP_walk x n wr q (keepb hbel hq))
      clear hx
      cases hn : named n x with
      | true =>
        rw [hn] at HC
        have HV : Hid (F = (k : Int)) := hid (by rw [← HF.out, find_at HN.out HX.out hn]; rfl)
        clear hn
        go_wp2_with fail
        refine HC.out.mono ?_
        rintro e w2 ⟨rfl, b2⟩
        go_wp2_with fail
        go_ret
        exact ⟨by rw [HV.out]; rfl, bT hbel b2⟩
      | false =>
        rw [hn] at HC
        have HN2 := hid hn
        clear hn
        go_wp2_with fail
        refine HC.out.mono ?_
        rintro e w2 ⟨rfl, b2⟩
        go_wp2_with fail
        go_roundw
        case rel => exact ⟨k + 1, by omega, by go_num, bT hbel b2, hid (HN.out.next HX.out HN2.out)⟩
        case measure => simp [intOf]; omega
    · obtain rfl : k = l.length := by omega
      have HV : Hid (F = -1) := hid (by rw [← HF.out, find_none HN.out]; rfl)
      go_wp2_with fail
      go_ret
      exact ⟨by rw [HV.out]; rfl, hbel⟩
set_option maxHeartbeats 2000000 in
/-- The file's place: its address, or nil. -/
theorem find_some_walk (l : List MFile) (n : ByteArray) (w : World) (A : Option Addr) (c p k : Nat) (hp : w.cell? ⟨p, 0, none⟩ = some (.slice A l.length c)) (hr : Rd w w.heap.size A 3 l.length (l.flatMap MFile.cells)) (hl : l.length ≤ 140737488355328) (hk : l.findIdx? (named n) = some k) :
    Calls Tryd.prog 26 #[.pointer (some ⟨p, 0, none⟩), .string n] w fun e w' => (∃ b off, A = some ⟨b, off, none⟩ ∧ e = .returned (.pointer (some ⟨b, off + k * 3, none⟩))) ∧ Below w.heap.size w w' := by
  obtain ⟨x, hx, _, _⟩ := find_some hk
  have hkl := (List.getElem?_eq_some_iff.1 hx).1
  obtain ⟨b, off, rfl, hb, c0, c1, c2⟩ := file_cells hr rfl hx
  have hps := World.block_lt_of_cell? w _ hp
  simp only at hps
  have b0 := bA (Below.refl w.heap.size w) (.cells #[.string n] 9)
  have HI := hid (indexFunc_walk l n _ (some ⟨b, off, none⟩) c w.heap.size (by go_simp) (rdb hr (by decide) b0) hl)
  rw [hk] at HI
  have hat : (atI (some k) : Int) = (k : Int) := rfl
  rw [hat] at HI
  have hkz : (k : Int) < (l.length : Int) := by omega
  clear hx hk hat
  go_enter Tryd.func26, Tryd.ntmps26
  go_wp2_with fail
  refine HI.out.mono ?_
  rintro e w2 ⟨rfl, b2⟩
  have hp2 := keepb (bT b0 b2) hp
  go_wp2_with fail
  go_ret
  exact ⟨⟨b, off, rfl, rfl⟩, bT b0 b2⟩
set_option maxHeartbeats 2000000 in
theorem find_none_walk (l : List MFile) (n : ByteArray) (w : World) (A : Option Addr) (c p : Nat) (hp : w.cell? ⟨p, 0, none⟩ = some (.slice A l.length c)) (hr : Rd w w.heap.size A 3 l.length (l.flatMap MFile.cells)) (hl : l.length ≤ 140737488355328) (hk : l.findIdx? (named n) = none) :
    Calls Tryd.prog 26 #[.pointer (some ⟨p, 0, none⟩), .string n] w fun e w' => e = .returned (.pointer none) ∧ Below w.heap.size w w' := by
  have hps := World.block_lt_of_cell? w _ hp
  simp only at hps
  have b0 := bA (Below.refl w.heap.size w) (.cells #[.string n] 9)
  have HI := hid (indexFunc_walk l n _ A c w.heap.size (by go_simp) (rdb hr (by decide) b0) hl)
  rw [hk] at HI
  have hat : (atI none : Int) = -1 := rfl
  rw [hat] at HI
  clear hk hat
  go_enter Tryd.func26, Tryd.ntmps26
  go_wp2_with fail
  refine HI.out.mono ?_
  rintro e w2 ⟨rfl, b2⟩
  go_wp2_with fail
  go_ret
  exact ⟨rfl, bT b0 b2⟩
end Go.Proofs.YtphgdpjfolkafaaDoor
