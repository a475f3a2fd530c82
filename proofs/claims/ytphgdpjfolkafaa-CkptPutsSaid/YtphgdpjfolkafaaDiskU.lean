/- slices.DeleteFunc at files, walked. -/
import Derived.Test.YtphgdpjfolkafaaDiskV
namespace Go.Proofs.Ytphgdpjfolkafaa
open Go.ChangeShapes Go.WideShapes Go.ChangeAt Go.RowKit
set_option linter.unusedVariables false
set_option linter.unusedSimpArgs false
theorem zero_File (w : World) : (zeroValue 131).run Try.prog w = .ok (.agg #[.string ByteArray.empty, .slice none 0 0, .int .i64 0]) w := by kernel_rfl
def DelRel (l : List MFile) (n : ByteArray) (base B c g : Nat) (w : World) (i j : Value) (wr : World) : Prop :=
  ∃ (a k : Nat) (L : List MFile), j = .int .i64 k ∧ i = .int .i64 a ∧ Hid (DelIn l L n a k) ∧ Heaped MFile.cells MFile.parts wr B 131 3 (some ⟨g, 0, none⟩) c L ∧ Below base w wr ∧ a < k ∧ k ≤ l.length
set_option maxRecDepth 100000 in
set_option maxHeartbeats 4000000 in
theorem delete_walk (Fn : Nat) (l : List MFile) (n : ByteArray) (w : World) (B : Nat) (A : Option Addr) (c q : Nat) (hC : TestsName Fn q n) (hq : w.cell? ⟨q, 0, none⟩ = some (.string n)) (hqB : q < B) (hB : B ≤ w.heap.size) (hown : Heaped MFile.cells MFile.parts w B 131 3 A c l) (hl : l.length * 3 ≤ 140737488355328) :
    Calls Try.prog 114 #[.slice A l.length c, .func (.func Fn) #[] #[.pointer (some ⟨q, 0, none⟩)]] w fun e w' => e = .returned (.slice A (l.filter (keeps n)).length c) ∧ Heaped MFile.cells MFile.parts w' B 131 3 A c (l.filter (keeps n)) ∧ Below B w w' := by
  have HI := hid (idxName_walk Fn l n w A c q hC hq hown.led.1 (by omega))
  have HCC := hid hC
  have hcf := hC.1
  clear hC
  cases hk : l.findIdx? (named n) with
  | none =>
    rw [hk] at HI
    have hat : (atI none : Int) = -1 := rfl
    rw [hat] at HI
    have HE := hid (show l.filter (keeps n) = l by
      rw [List.filter_eq_self]
      intro x hx
      rw [List.findIdx?_eq_none_iff] at hk
      have := hk x hx
      simp [keeps, this])
    clear hk hat
    go_enter Try.func114, Try.ntmps114
    go_wp2_with fail
    refine HI.out.mono ?_
    rintro e w2 ⟨rfl, b2⟩
    go_wp2_with fail
    go_ret
    rw [HE.out]
    exact ⟨rfl, hown.below b2 (Nat.le_refl _), b2.mono hB⟩
  | some k0 =>
    have H0 := hid (DelIn.start hk)
    have hk1 := H0.out.le
    rw [hk] at HI
    have hat : (atI (some k0) : Int) = (k0 : Int) := rfl
    rw [hat] at HI
    have hnz : ((k0 : Int) == -1) = false := by simp
    have hpos : 0 < l.length := by omega
    obtain ⟨g, rfl⟩ : ∃ g, A = some ⟨g, 0, none⟩ := by
      rcases hown.1.2 with ⟨hv, h0⟩ | ⟨g, cap, cur, hv, _⟩
      · omega
      · injection hv with e1 _ _; exact ⟨g, e1⟩
    have hcap := own_cap hown.1
    clear hk hat
    go_enter Try.func114, Try.ntmps114
    go_wp2_with fail
    refine HI.out.mono ?_
    rintro e w2 ⟨rfl, b2⟩
    go_wp2_with fail
    go_loopw [5, 6, 7] (fun i j _ wr => DelRel l n B B c g w i j wr) (fun _ j _ _ => l.length - (intOf j).toNat)
    case atStart => exact ⟨k0, k0 + 1, l, rfl, rfl, H0, hown.below b2 (Nat.le_refl _), b2.mono hB, by omega, hk1⟩
    case round =>
      clear hown H0 HI
      obtain ⟨a, k, L, rfl, rfl, HD, hown, hbel, hak, hkn⟩ := hrel
      have hq := (hbel.cell (p := ⟨q, 0, none⟩) hqB).trans hq
      have hqs : q < wr.heap.size := by have := hbel.size; omega
      have hcz : (a : Int) ≤ (c : Int) := by omega
      by_cases hlt : k < l.length
      · obtain ⟨x, hx⟩ : ∃ x, l[k]? = some x := ⟨_, List.getElem?_eq_getElem hlt⟩
        have hkz : (k : Int) < (l.length : Int) := by omega
        have haz : (a : Int) < (l.length : Int) := by omega
        have hLx := (HD.out.get hlt).trans hx
        obtain ⟨b, off, hbo, hb, c0, c1, c2⟩ := file_cells hown.led.1 rfl hLx
        injection hbo with hbo
        injection hbo with e1 e2
        subst e1 e2
        simp only [Nat.zero_add] at c0 c1 c2
        have HX := hid hx
        have HC := hid (HCC.out.2 x (wr.alloc (.cells #[.string x.f.name, .slice x.A x.f.data.length x.c, .int .i64 x.f.synced] 131)) (by go_simp))
        have hown1 := hown.alloc (.cells #[.string x.f.name, .slice x.A x.f.data.length x.c, .int .i64 x.f.synced] 131)
        have hBr : B ≤ wr.heap.size := by have := hbel.size; omega
        have hbX := bA (Below.refl wr.heap.size wr) (.cells #[.string x.f.name, .slice x.A x.f.data.length x.c, .int .i64 x.f.synced] 131)
        clear hx hLx
        cases hn : named n x with
        | true =>
          rw [hn] at HC
          have HN := hid (HD.out.skip HX.out hn)
          clear hn
          go_wp2_with (rw [hcf])
          refine HC.out.mono ?_
          rintro e w3 ⟨rfl, b3⟩
          go_wp2_with fail
          go_roundw
          case rel => exact ⟨a, k + 1, L, by go_num, rfl, HN, hown1.below b3 (Nat.le_refl _), hbel.trans ((bT hbX b3).mono hBr), by omega, by omega⟩
          case measure => simp [intOf]; omega
        | false =>
          rw [hn] at HC
          have HN := hid (HD.out.put HX.out hn)
          clear hn
          go_wp2_with (rw [hcf])
          refine HC.out.mono ?_
          rintro e w3 ⟨rfl, b3⟩
          have t0 : w3.cell? ⟨wr.heap.size, 0, none⟩ = some (.string x.f.name) := keepb b3 (by go_simp)
          have t1 : w3.cell? ⟨wr.heap.size, 1, none⟩ = some (.slice x.A x.f.data.length x.c) := keepb b3 (by go_simp)
          have t2 : w3.cell? ⟨wr.heap.size, 2, none⟩ = some (.int .i64 x.f.synced) := keepb b3 (by go_simp)
          have hown3 := hown1.below b3 (Nat.le_refl _)
          have hla : a < L.length := by rw [HD.out.len]; omega
          obtain ⟨y0, hy0⟩ : ∃ y0, L[a]? = some y0 := ⟨_, List.getElem?_eq_getElem hla⟩
          have hLx := (HD.out.get hlt).trans HX.out
          obtain ⟨g', hg', hgB, hgs, hgc, hgf, hput⟩ := heap_put (cells := MFile.cells) (sz := 3) (fun _ => rfl) hown3 hy0 x (fun pt hpt => hown3.2 x (List.mem_of_getElem? hLx) pt hpt) (by decide)
          injection hg' with hg'
          injection hg' with hg'
          subst hg'
          have d0 : w3.cell? ⟨g, a * 3, none⟩ = some (.string y0.f.name) := hgc 0 _ rfl
          have d1 := hgc 1 _ rfl
          have d2 := hgc 2 _ rfl
          have f0 := hgf (a * 3)
          have f1 := hgf (a * 3 + 1)
          have f2 := hgf (a * 3 + 2)
          have HP := hid hput
          have b13 := hid (hbel.trans ((bT hbX b3).mono hBr))
          clear hput hgc hgf hown3 hown1 hown hLx hy0 HC
          go_wp2_with fail
          go_roundw
          case rel => exact ⟨a + 1, k + 1, L.set a x, by go_num, by go_num, HN, HP.out, ((b13.out.setCell hgB _).setCell hgB _).setCell hgB _, by omega, by omega⟩
          case measure => simp [intOf]; omega
      · obtain rfl : k = l.length := by omega
        have HE := hid HD.out.done
        have hLL := HD.out.len
        obtain ⟨w', hcl, hown', hg'⟩ := run_clear_own (P := Try.prog) (z := .agg #[.string ByteArray.empty, .slice none 0 0, .int .i64 0]) (c' := c - a) (i := a) (k := l.length - a) (o := a * 3) Try.underlying64 zero_File rfl (by simp [go_sem, Value.oneCell']) hown.1 (by rw [hLL]; omega) rfl
        have hla : (L.take a).length = a := by rw [List.length_take]; omega
        have hH : Heaped MFile.cells MFile.parts w' B 131 3 (some ⟨g, 0, none⟩) c (L.take a) := by
          refine ⟨by rw [hla, ← flat_take (cells := MFile.cells) (sz := 3) (fun _ => rfl)]; exact hown', fun x hx p hp => ?_⟩
          have h2 := (hown.2 x (List.mem_of_mem_take hx) p hp).grown hg'
          exact h2
        have hFl : (l.filter (keeps n)).length = a := by rw [← HE.out]; exact hla
        rw [HE.out] at hH
        have HH := hid hH
        have hgb := (hown.1.lt g rfl).1
        have hBr : B ≤ wr.heap.size := by have := hbel.size; omega
        have HB := hid (hbel.trans ((Below.refl B wr).grown hg' hBr (fun k hk => by injection hk with hk; omega)))
        have HFl := hid hFl
        clear hH hFl hown hown' hg' HE HD hla hLL
        go_wp2_with (simp only [hcl])
        go_ret
        exact ⟨by rw [HFl.out]; rfl, HH.out, HB.out⟩
end Go.Proofs.Ytphgdpjfolkafaa
