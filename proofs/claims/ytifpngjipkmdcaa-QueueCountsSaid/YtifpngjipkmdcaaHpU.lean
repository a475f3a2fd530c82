/- container/heap over merge's heads: sifting, Push, Pop. -/
import Derived.Test.YtifpngjipkmdcaaHpD
namespace Go.Proofs.Ytifpngjipkmdcaa
open Go.ChangeShapes Go.WideShapes Go.ChangeAt Go.RowKit
set_option linter.unusedVariables false
set_option linter.unusedSimpArgs false
def hd0 : Hd := ⟨⟨none, 0, []⟩, 0⟩
theorem hdBlk_len {A : Option Addr} {c : Nat} {H H' : List Hd} (h : H'.length = H.length) : hdBlk A c H' = hdBlk A c H := by unfold hdBlk; rw [h]
def HdOk (H : List Hd) : Prop := ∀ x ∈ H, x.m.l ≠ [] ∧ x.i ≤ 5000
theorem HdOk.perm {H H' : List Hd} (h : HdOk H) (hp : H'.Perm H) : HdOk H' := fun x hx => h x (hp.mem_iff.1 hx)
theorem half_int {j : Nat} (h : 0 < j) : ((j : Int) - 1) / 2 = (((j - 1) / 2 : Nat) : Int) := by omega
def UpR (w : World) (B G : Nat) (A : Option Addr) (c : Nat) (H : List Hd) (n : Nat) (jv : Value) (wr : World) : Prop :=
  ∃ (j : Nat) (H' : List Hd), jv = .int .i64 (j : Nat) ∧ j < n ∧ Hid (HO wr B G A c H') ∧ Hid (H'.Perm H) ∧ Hid (H'.length = n) ∧ Hid (UpAt hdlt (nthL hd0 H') n j) ∧ Hid (HF w wr G (hdBlk A c H) (hdBlk A c H))
/-- What sifting hands back. -/
def RetH (w : World) (B G : Nat) (A : Option Addr) (c : Nat) (H : List Hd) (n : Nat) (w' : World) : Prop :=
  ∃ H' : List Hd, H'.Perm H ∧ H'.length = H.length ∧ HeapF hdlt (nthL hd0 H') n ∧ (∀ k, n ≤ k → H'[k]? = H[k]?) ∧ HO w' B G A c H' ∧ HF w w' G (hdBlk A c H) (hdBlk A c H)
set_option maxRecDepth 100000 in
set_option maxHeartbeats 4000000 in
theorem hdUp_walk {w : World} {B G : Nat} {A : Option Addr} {c : Nat} {H : List Hd} (h : HO w B G A c H) {j n : Nat} (hn : H.length = n) (hj : j < n) (hn5 : n ≤ 5001) (hok : HdOk H) (hu : UpAt hdlt (nthL hd0 H) n j) :
    Calls Try.prog 81 #[.iface 137 (.pointer (some ⟨G, 0, none⟩)), .int .i64 (j : Nat)] w fun e w' => e = .returned (.tuple #[]) ∧ RetH w B G A c H n w' := by
  have HH := hid h
  have HN := hid hn
  have HU := hid hu
  have HOK := hid hok
  have hGs := h.lt
  clear h hn hu hok
  go_enter Try.func81, Try.ntmps81
  go_wp2_with fail
  go_loopw [1, 4] (fun jv _ wr => UpR w B G A c H n jv wr) (fun jv _ _ => (intOf jv).toNat)
  case atStart => exact ⟨j, H, rfl, hj, HH, hid (List.Perm.refl _), HN, HU, hid (HF.below (Below.refl _ _) (Nat.le_of_lt hGs))⟩
  case round =>
    clear hj HH HU
    obtain ⟨j, H', rfl, hj, HH, HP, HL, HU, HFr⟩ := hrel
    have HLB : Hid (∀ L : List Hd, L.length = n → hdBlk A c L = hdBlk A c H) := hid fun L hL => hdBlk_len (by rw [hL, HN.out])
    rcases Nat.eq_zero_or_pos j with rfl | hj0
    · have HR := hid (up_stop HU.out (.inl rfl))
      go_wp2_with fail
      go_end0
      exact ⟨rfl, H', HP.out, by rw [HL.out, HN.out], HR.out, fun k hk => by rw [List.getElem?_eq_none (by rw [HL.out]; exact hk), List.getElem?_eq_none (by rw [HN.out]; exact hk)], HH.out, HFr.out⟩
    · obtain ⟨i, hi⟩ : ∃ i, i = (j - 1) / 2 := ⟨_, rfl⟩
      have hq := half_int hj0
      rw [← hi] at hq
      have hin : i < n := by omega
      have hne : ((i : Int) == (j : Int)) = false := by rw [beq_eq_false_iff_ne]; omega
      obtain ⟨x, hx⟩ : ∃ x, H'[j]? = some x := ⟨_, List.getElem?_eq_getElem (by rw [HL.out]; omega)⟩
      obtain ⟨y, hy⟩ : ∃ x, H'[i]? = some x := ⟨_, List.getElem?_eq_getElem (by rw [HL.out]; omega)⟩
      have HC := hid (hdLess_walk HH.out (by rw [HL.out]; exact hj) (by rw [HL.out]; exact hin) (HOK.out.perm HP.out) hx hy)
      have HST := hid (fun h => up_stop (lt := hdlt) HU.out (.inr h))
      have HSU := hid (fun h => up_step hdlt_ord HU.out hj0 hj h)
      rw [← hi, nthL_get hx, nthL_get hy] at HST HSU
      have HI := hid hi
      clear hx hy hi
      generalize hdlt x y = r at *
      clear HU
      cases r with
      | false =>
        have HR := hid (HST.out rfl)
        clear HST HSU
        go_wp2_with fail
        refine HC.out.mono ?_
        rintro e w1 ⟨rfl, b1⟩
        have HB1 := hid b1
        clear b1
        go_wp2_with fail
        go_end0
        have hlt := HH.out.lt
        exact ⟨rfl, H', HP.out, by rw [HL.out, HN.out], HR.out, fun k hk => by rw [List.getElem?_eq_none (by rw [HL.out]; exact hk), List.getElem?_eq_none (by rw [HN.out]; exact hk)], HH.out.below HB1.out, HFr.out.trans (HF.below HB1.out (Nat.le_of_lt hlt))⟩
      | true =>
        have HR := hid (HSU.out rfl)
        clear HST HSU
        go_wp2_with fail
        refine HC.out.mono ?_
        rintro e w1 ⟨rfl, b1⟩
        have HB1 := hid b1
        have HS1 := hid (hdSwap_walk (HH.out.below b1) (i := i) (j := j) (by rw [HL.out]; exact hin) (by rw [HL.out]; exact hj))
        clear b1 HC
        go_wp2_with fail
        refine HS1.out.mono ?_
        rintro e w2 ⟨rfl, o2, f2⟩
        have hlt := HH.out.lt
        have HO2 := hid o2
        have HF2 := hid (HFr.out.trans ((HF.below HB1.out (Nat.le_of_lt hlt)).trans (by rw [HLB.out H' HL.out] at f2; exact f2)))
        have HPS := hid ((swapL_perm H' i j (by rw [HL.out]; exact hin) (by rw [HL.out]; exact hj)).trans HP.out)
        have HLS := hid (show (swapL H' i j).length = n by rw [swapL_len, HL.out])
        have HUS := hid (show UpAt hdlt (nthL hd0 (swapL H' i j)) n i by rw [nthL_swap (by rw [HL.out]; exact hin) (by rw [HL.out]; exact hj)]; exact HR.out)
        clear o2 f2 HS1 HR
        go_wp2_with fail
        go_roundw
        case rel => exact ⟨i, swapL H' i j, rfl, hin, HO2, HPS, HLS, HUS, HF2⟩
        case measure => have := HI.out; (simp [intOf]) <;> omega
theorem swapL_far {α : Type} {l : List α} {i j k : Nat} (hi : i < l.length) (hj : j < l.length) (h1 : k ≠ i) (h2 : k ≠ j) : (swapL l i j)[k]? = l[k]? := by
  rw [swapL_eq (List.getElem?_eq_getElem hi) (List.getElem?_eq_getElem hj), List.getElem?_set_ne (fun e => h2 e.symm), List.getElem?_set_ne (fun e => h1 e.symm)]
theorem down_least {α : Type} {lt : α → α → Bool} (O : Ord2 lt) {f : Nat → α} {n i j : Nat} (h : DownAt lt f n i) (hl : ∀ k, 0 < k → k < n → (k - 1) / 2 = i → lt (f k) (f j) = false) (hj : lt (f j) (f i) = false) : HeapF lt f n :=
  down_stop h fun k h0 h1 h2 => O.trans _ _ _ hj (hl k h0 h1 h2)
theorem hdLess_at {w : World} {B G : Nat} {A : Option Addr} {c : Nat} {H : List Hd} (h : HO w B G A c H) {i j : Nat} {zi zj : Int} (hzi : zi = (i : Nat)) (hzj : zj = (j : Nat)) (hi : i < H.length) (hj : j < H.length) (hne : ∀ x ∈ H, x.m.l ≠ [] ∧ x.i ≤ 5000) {x y : Hd} (hx : H[i]? = some x) (hy : H[j]? = some y) :
    Calls Try.prog 166 #[.pointer (some ⟨G, 0, none⟩), .int .i64 zi, .int .i64 zj] w fun e w' => e = .returned (.bool (hdlt x y)) ∧ Below w.heap.size w w' := by
  subst hzi hzj; exact hdLess_walk h hi hj hne hx hy
theorem hdSwap_at {w : World} {B G : Nat} {A : Option Addr} {c : Nat} {H : List Hd} (h : HO w B G A c H) {i j : Nat} {zi zj : Int} (hzi : zi = (i : Nat)) (hzj : zj = (j : Nat)) (hi : i < H.length) (hj : j < H.length) :
    Calls Try.prog 169 #[.pointer (some ⟨G, 0, none⟩), .int .i64 zi, .int .i64 zj] w fun e w' => e = .returned (.tuple #[]) ∧ HO w' B G A c (swapL H i j) ∧ HF w w' G (hdBlk A c H) (hdBlk A c H) := by
  subst hzi hzj; exact hdSwap_walk h hi hj
def DownR (w : World) (B G : Nat) (A : Option Addr) (c : Nat) (H : List Hd) (n N : Nat) (iv : Value) (wr : World) : Prop :=
  ∃ (i : Nat) (H' : List Hd), iv = .int .i64 (i : Nat) ∧ (i < n ∨ i = 0) ∧ Hid (HO wr B G A c H') ∧ Hid (H'.Perm H) ∧ Hid (H'.length = N) ∧ Hid (DownAt hdlt (nthL hd0 H') n i) ∧ Hid (∀ k, n ≤ k → H'[k]? = H[k]?) ∧ Hid (HF w wr G (hdBlk A c H) (hdBlk A c H))
set_option maxRecDepth 100000 in
set_option maxHeartbeats 4000000 in
theorem hdDown_walk {w : World} {B G : Nat} {A : Option Addr} {c : Nat} {H : List Hd} (h : HO w B G A c H) {n N : Nat} (hN : H.length = N) (hn : n ≤ N) (hn5 : N ≤ 5001) (hok : HdOk H) (hu : DownAt hdlt (nthL hd0 H) n 0) :
    Calls Try.prog 80 #[.iface 137 (.pointer (some ⟨G, 0, none⟩)), .int .i64 0, .int .i64 (n : Nat)] w fun e w' => (∃ b, e = .returned (.bool b)) ∧ RetH w B G A c H n w' := by
  have HH := hid h
  have HN := hid hN
  have HU := hid hu
  have HOK := hid hok
  have hGs := h.lt
  clear h hN hu hok
  go_enter Try.func80, Try.ntmps80
  go_wp2_with fail
  go_loopw [7, 8, 9, 10] (fun iv _ _ _ wr => DownR w B G A c H n N iv wr) (fun iv _ _ _ _ => n - (intOf iv).toNat)
  case atStart => exact ⟨0, H, rfl, .inr rfl, HH, hid (List.Perm.refl _), HN, HU, hid (fun _ _ => rfl), hid (HF.below (Below.refl _ _) (Nat.le_of_lt hGs))⟩
  case round =>
    clear HH HU
    obtain ⟨i, H', rfl, hi, HH, HP, HL, HDN, HBY, HFr⟩ := hrel
    have HLB : Hid (∀ L : List Hd, L.length = N → hdBlk A c L = hdBlk A c H) := hid fun L hL => hdBlk_len (by rw [hL, HN.out])
    by_cases h1 : n ≤ 2 * i + 1
    · have h1z : (n : Int) ≤ 2 * (i : Int) + 1 := by omega
      have HR := hid (down_stop (lt := hdlt) HDN.out (fun k h0 hk h2 => by omega))
      go_wp2_with fail
      go_ret
      exact ⟨⟨_, rfl⟩, H', HP.out, by rw [HL.out, HN.out], HR.out, HBY.out, HH.out, HFr.out⟩
    · have h1z : ¬ (n : Int) ≤ 2 * (i : Int) + 1 := by omega
      have h1y : ¬ 2 * (i : Int) + 1 < 0 := by omega
      obtain ⟨x, hx⟩ : ∃ x, H'[i]? = some x := ⟨_, List.getElem?_eq_getElem (by rw [HL.out]; omega)⟩
      by_cases h2 : 2 * i + 2 < n
      · have h2z : 2 * (i : Int) + 1 + 1 < (n : Int) := by omega
        obtain ⟨y1, hy1⟩ : ∃ x, H'[2 * i + 1]? = some x := ⟨_, List.getElem?_eq_getElem (by rw [HL.out]; omega)⟩
        obtain ⟨y2, hy2⟩ : ∃ x, H'[2 * i + 2]? = some x := ⟨_, List.getElem?_eq_getElem (by rw [HL.out]; omega)⟩
        have HC := hid (hdLess_at HH.out (i := 2 * i + 2) (j := 2 * i + 1) (zi := 2 * (i : Int) + 1 + 1) (zj := 2 * (i : Int) + 1) (by omega) (by omega) (by rw [HL.out]; omega) (by rw [HL.out]; omega) (HOK.out.perm HP.out) hy2 hy1)
        have HB : Hid (hdlt (nthL hd0 H' (2 * i + 2)) (nthL hd0 H' (2 * i + 1)) = hdlt y2 y1) := hid (by rw [nthL_get hy2, nthL_get hy1])
        clear hy1 hy2
        generalize hdlt y2 y1 = r1 at *
        cases r1 with
        | false =>
          go_wp2_with fail
          refine HC.out.mono ?_
          rintro e w1 ⟨rfl, b1⟩
          have hlt := HH.out.lt
          have HOW := hid (HH.out.below b1)
          have HFW := hid (HFr.out.trans (HF.below b1 (Nat.le_of_lt hlt)))
          clear b1 HC hlt
          obtain ⟨y, hy⟩ : ∃ x, H'[2 * i + 1]? = some x := ⟨_, List.getElem?_eq_getElem (by rw [HL.out]; omega)⟩
          have HC2 := hid (fun (V : World) (hV : HO V B G A c H') => hdLess_at hV (i := 2 * i + 1) (j := i) (zi := 2 * (i : Int) + 1) (zj := (i : Int)) (by omega) rfl (by rw [HL.out]; omega) (by rw [HL.out]; omega) (HOK.out.perm HP.out) hy hx)
          have HLE := hid (show ∀ k, 0 < k → k < n → (k - 1) / 2 = i → hdlt (nthL hd0 H' k) (nthL hd0 H' (2 * i + 1)) = false from (by intro k h0 hk h2; by_cases e : k = 2 * i + 1; (subst e; exact hdlt_irr _); obtain rfl : k = 2 * i + 2 := (by omega); exact HB.out))
          have HST := hid (fun h => down_least hdlt_ord HDN.out HLE.out h)
          have HSU := hid (fun h => down_step hdlt_ord HDN.out (j := 2 * i + 1) (by omega) (by omega) (by omega) HLE.out h)
          rw [nthL_get hx, nthL_get hy] at HST HSU
          clear hx hy HLE HDN
          generalize hdlt y x = r at *
          cases r with
          | false =>
            have HR := hid (HST.out rfl)
            clear HST HSU
            go_wp2_with fail
            refine (HC2.out _ HOW.out).mono ?_
            rintro e w2 ⟨rfl, b2⟩
            have HB2 := hid b2
            clear b2
            go_wp2_with fail
            go_ret
            have hlt := HOW.out.lt
            exact ⟨⟨_, rfl⟩, H', HP.out, by rw [HL.out, HN.out], HR.out, HBY.out, HOW.out.below HB2.out, HFW.out.trans (HF.below HB2.out (Nat.le_of_lt hlt))⟩
          | true =>
            have HR := hid (HSU.out rfl)
            clear HST HSU
            go_wp2_with fail
            refine (HC2.out _ HOW.out).mono ?_
            rintro e w2 ⟨rfl, b2⟩
            have HB2 := hid b2
            have HS1 := hid (hdSwap_at (HOW.out.below b2) (i := i) (j := 2 * i + 1) (zi := (i : Int)) (zj := 2 * (i : Int) + 1) rfl (by omega) (by rw [HL.out]; omega) (by rw [HL.out]; omega))
            clear b2 HC2
            go_wp2_with fail
            refine HS1.out.mono ?_
            rintro e w3 ⟨rfl, o3, f3⟩
            have hlt := HOW.out.lt
            have HO3 := hid o3
            have HF3 := hid (HFW.out.trans ((HF.below HB2.out (Nat.le_of_lt hlt)).trans (by rw [HLB.out H' HL.out] at f3; exact f3)))
            have HPS := hid ((swapL_perm H' i (2 * i + 1) (by rw [HL.out]; omega) (by rw [HL.out]; omega)).trans HP.out)
            have HLS := hid (show (swapL H' i (2 * i + 1)).length = N by rw [swapL_len, HL.out])
            have HUS := hid (show DownAt hdlt (nthL hd0 (swapL H' i (2 * i + 1))) n (2 * i + 1) by rw [nthL_swap (by rw [HL.out]; omega) (by rw [HL.out]; omega)]; exact HR.out)
            have HBS := hid (show ∀ k, n ≤ k → (swapL H' i (2 * i + 1))[k]? = H[k]? from fun k hk => (swapL_far (by rw [HL.out]; omega) (by rw [HL.out]; omega) (by omega) (by omega)).trans (HBY.out k hk))
            clear o3 f3 HS1 HR
            go_wp2_with fail
            go_roundw
            case rel => exact ⟨2 * i + 1, swapL H' i (2 * i + 1), by first | rfl | (congr 1; omega), .inl (by omega), HO3, HPS, HLS, HUS, HBS, HF3⟩
            case measure => (simp [intOf]) <;> omega
        | true =>
          go_wp2_with fail
          refine HC.out.mono ?_
          rintro e w1 ⟨rfl, b1⟩
          have hlt := HH.out.lt
          have HOW := hid (HH.out.below b1)
          have HFW := hid (HFr.out.trans (HF.below b1 (Nat.le_of_lt hlt)))
          clear b1 HC hlt
          obtain ⟨y, hy⟩ : ∃ x, H'[2 * i + 2]? = some x := ⟨_, List.getElem?_eq_getElem (by rw [HL.out]; omega)⟩
          have HC2 := hid (fun (V : World) (hV : HO V B G A c H') => hdLess_at hV (i := 2 * i + 2) (j := i) (zi := 2 * (i : Int) + 1 + 1) (zj := (i : Int)) (by omega) rfl (by rw [HL.out]; omega) (by rw [HL.out]; omega) (HOK.out.perm HP.out) hy hx)
          have HLE := hid (show ∀ k, 0 < k → k < n → (k - 1) / 2 = i → hdlt (nthL hd0 H' k) (nthL hd0 H' (2 * i + 2)) = false from (by intro k h0 hk h2; by_cases e : k = 2 * i + 2; (subst e; exact hdlt_irr _); obtain rfl : k = 2 * i + 1 := (by omega); exact hdlt_ord.asym _ _ HB.out))
          have HST := hid (fun h => down_least hdlt_ord HDN.out HLE.out h)
          have HSU := hid (fun h => down_step hdlt_ord HDN.out (j := 2 * i + 2) (by omega) (by omega) (by omega) HLE.out h)
          rw [nthL_get hx, nthL_get hy] at HST HSU
          clear hx hy HLE HDN
          generalize hdlt y x = r at *
          cases r with
          | false =>
            have HR := hid (HST.out rfl)
            clear HST HSU
            go_wp2_with fail
            refine (HC2.out _ HOW.out).mono ?_
            rintro e w2 ⟨rfl, b2⟩
            have HB2 := hid b2
            clear b2
            go_wp2_with fail
            go_ret
            have hlt := HOW.out.lt
            exact ⟨⟨_, rfl⟩, H', HP.out, by rw [HL.out, HN.out], HR.out, HBY.out, HOW.out.below HB2.out, HFW.out.trans (HF.below HB2.out (Nat.le_of_lt hlt))⟩
          | true =>
            have HR := hid (HSU.out rfl)
            clear HST HSU
            go_wp2_with fail
            refine (HC2.out _ HOW.out).mono ?_
            rintro e w2 ⟨rfl, b2⟩
            have HB2 := hid b2
            have HS1 := hid (hdSwap_at (HOW.out.below b2) (i := i) (j := 2 * i + 2) (zi := (i : Int)) (zj := 2 * (i : Int) + 1 + 1) rfl (by omega) (by rw [HL.out]; omega) (by rw [HL.out]; omega))
            clear b2 HC2
            go_wp2_with fail
            refine HS1.out.mono ?_
            rintro e w3 ⟨rfl, o3, f3⟩
            have hlt := HOW.out.lt
            have HO3 := hid o3
            have HF3 := hid (HFW.out.trans ((HF.below HB2.out (Nat.le_of_lt hlt)).trans (by rw [HLB.out H' HL.out] at f3; exact f3)))
            have HPS := hid ((swapL_perm H' i (2 * i + 2) (by rw [HL.out]; omega) (by rw [HL.out]; omega)).trans HP.out)
            have HLS := hid (show (swapL H' i (2 * i + 2)).length = N by rw [swapL_len, HL.out])
            have HUS := hid (show DownAt hdlt (nthL hd0 (swapL H' i (2 * i + 2))) n (2 * i + 2) by rw [nthL_swap (by rw [HL.out]; omega) (by rw [HL.out]; omega)]; exact HR.out)
            have HBS := hid (show ∀ k, n ≤ k → (swapL H' i (2 * i + 2))[k]? = H[k]? from fun k hk => (swapL_far (by rw [HL.out]; omega) (by rw [HL.out]; omega) (by omega) (by omega)).trans (HBY.out k hk))
            clear o3 f3 HS1 HR
            go_wp2_with fail
            go_roundw
            case rel => exact ⟨2 * i + 2, swapL H' i (2 * i + 2), by first | rfl | (congr 1; omega), .inl (by omega), HO3, HPS, HLS, HUS, HBS, HF3⟩
            case measure => (simp [intOf]) <;> omega
      · have h2z : ¬ 2 * (i : Int) + 1 + 1 < (n : Int) := by omega
        have HOW := HH
        have HFW := HFr
        obtain ⟨y, hy⟩ : ∃ x, H'[2 * i + 1]? = some x := ⟨_, List.getElem?_eq_getElem (by rw [HL.out]; omega)⟩
        have HC2 := hid (fun (V : World) (hV : HO V B G A c H') => hdLess_at hV (i := 2 * i + 1) (j := i) (zi := 2 * (i : Int) + 1) (zj := (i : Int)) (by omega) rfl (by rw [HL.out]; omega) (by rw [HL.out]; omega) (HOK.out.perm HP.out) hy hx)
        have HLE := hid (show ∀ k, 0 < k → k < n → (k - 1) / 2 = i → hdlt (nthL hd0 H' k) (nthL hd0 H' (2 * i + 1)) = false from (by intro k h0 hk h2; obtain rfl : k = 2 * i + 1 := (by omega); exact hdlt_irr _))
        have HST := hid (fun h => down_least hdlt_ord HDN.out HLE.out h)
        have HSU := hid (fun h => down_step hdlt_ord HDN.out (j := 2 * i + 1) (by omega) (by omega) (by omega) HLE.out h)
        rw [nthL_get hx, nthL_get hy] at HST HSU
        clear hx hy HLE HDN
        generalize hdlt y x = r at *
        cases r with
        | false =>
          have HR := hid (HST.out rfl)
          clear HST HSU
          go_wp2_with fail
          refine (HC2.out _ HOW.out).mono ?_
          rintro e w2 ⟨rfl, b2⟩
          have HB2 := hid b2
          clear b2
          go_wp2_with fail
          go_ret
          have hlt := HOW.out.lt
          exact ⟨⟨_, rfl⟩, H', HP.out, by rw [HL.out, HN.out], HR.out, HBY.out, HOW.out.below HB2.out, HFW.out.trans (HF.below HB2.out (Nat.le_of_lt hlt))⟩
        | true =>
          have HR := hid (HSU.out rfl)
          clear HST HSU
          go_wp2_with fail
          refine (HC2.out _ HOW.out).mono ?_
          rintro e w2 ⟨rfl, b2⟩
          have HB2 := hid b2
          have HS1 := hid (hdSwap_at (HOW.out.below b2) (i := i) (j := 2 * i + 1) (zi := (i : Int)) (zj := 2 * (i : Int) + 1) rfl (by omega) (by rw [HL.out]; omega) (by rw [HL.out]; omega))
          clear b2 HC2
          go_wp2_with fail
          refine HS1.out.mono ?_
          rintro e w3 ⟨rfl, o3, f3⟩
          have hlt := HOW.out.lt
          have HO3 := hid o3
          have HF3 := hid (HFW.out.trans ((HF.below HB2.out (Nat.le_of_lt hlt)).trans (by rw [HLB.out H' HL.out] at f3; exact f3)))
          have HPS := hid ((swapL_perm H' i (2 * i + 1) (by rw [HL.out]; omega) (by rw [HL.out]; omega)).trans HP.out)
          have HLS := hid (show (swapL H' i (2 * i + 1)).length = N by rw [swapL_len, HL.out])
          have HUS := hid (show DownAt hdlt (nthL hd0 (swapL H' i (2 * i + 1))) n (2 * i + 1) by rw [nthL_swap (by rw [HL.out]; omega) (by rw [HL.out]; omega)]; exact HR.out)
          have HBS := hid (show ∀ k, n ≤ k → (swapL H' i (2 * i + 1))[k]? = H[k]? from fun k hk => (swapL_far (by rw [HL.out]; omega) (by rw [HL.out]; omega) (by omega) (by omega)).trans (HBY.out k hk))
          clear o3 f3 HS1 HR
          go_wp2_with fail
          go_roundw
          case rel => exact ⟨2 * i + 1, swapL H' i (2 * i + 1), by first | rfl | (congr 1; omega), .inl (by omega), HO3, HPS, HLS, HUS, HBS, HF3⟩
          case measure => (simp [intOf]) <;> omega
end Go.Proofs.Ytifpngjipkmdcaa
