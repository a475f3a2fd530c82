/- container/heap over paths' spots: sifting, Push, Pop. -/
import Derived.Test.YtifpngjipkmdcaaSpD
namespace Go.Proofs.Ytifpngjipkmdcaa
open Go.ChangeShapes Go.WideShapes Go.ChangeAt Go.RowKit
set_option linter.unusedVariables false
set_option linter.unusedSimpArgs false
def sp0 : Sp := (0, 0)
theorem spBlk_len {A : Option Addr} {c : Nat} {H H' : List Sp} (h : H'.length = H.length) : spBlk A c H' = spBlk A c H := by unfold spBlk; rw [h]
def SpUpR (w : World) (L G : Nat) (A : Option Addr) (c : Nat) (H : List Sp) (n : Nat) (jv : Value) (wr : World) : Prop :=
  ∃ (j : Nat) (H' : List Sp), jv = .int .i64 (j : Nat) ∧ j < n ∧ Hid (SO wr L G A c H') ∧ Hid (H'.Perm H) ∧ Hid (H'.length = n) ∧ Hid (UpAt splt (nthL sp0 H') n j) ∧ Hid (HFL w wr L G (spBlk A c H) (spBlk A c H))
/-- What sifting hands back. -/
def RetSp (w : World) (L G : Nat) (A : Option Addr) (c : Nat) (H : List Sp) (n : Nat) (w' : World) : Prop :=
  ∃ H' : List Sp, H'.Perm H ∧ H'.length = H.length ∧ HeapF splt (nthL sp0 H') n ∧ (∀ k, n ≤ k → H'[k]? = H[k]?) ∧ SO w' L G A c H' ∧ HFL w w' L G (spBlk A c H) (spBlk A c H)
set_option maxRecDepth 100000 in
set_option maxHeartbeats 1000000 in
theorem spUp_walk {w : World} {L G : Nat} {A : Option Addr} {c : Nat} {H : List Sp} (h : SO w L G A c H) {j n : Nat} (hn : H.length = n) (hj : j < n) (hn5 : n ≤ 1000001) (hu : UpAt splt (nthL sp0 H) n j) :
    Calls Try.prog 81 #[.iface 75 (.pointer (some ⟨G, 0, none⟩)), .int .i64 (j : Nat)] w fun e w' => e = .returned (.tuple #[]) ∧ RetSp w L G A c H n w' := by
  have HH := hid h
  have HN := hid hn
  have HU := hid hu
  have hGs := h.lt
  have hle := h.le
  clear h hn hu
  have hmL := fun V h => mLess (G := G) (A := A) (n := n) (c := c) V h
  have hmS := fun V h => mSwap (G := G) (A := A) (n := n) (c := c) V h
  go_enter Try.func81, Try.ntmps81
  go_wp2_with fail
  go_loopw [1, 4] (fun jv _ wr => SpUpR w L G A c H n jv wr) (fun jv _ _ => (intOf jv).toNat)
  case atStart => exact ⟨j, H, rfl, hj, HH, hid (List.Perm.refl _), HN, HU, hid (HFL.below (Below.refl _ _) (Nat.le_trans hle (Nat.le_of_lt hGs)))⟩
  case round =>
    clear hj HH HU
    obtain ⟨j, H', rfl, hj, HH, HP, HL, HU, HFr⟩ := hrel
    have k0 : wr.cell? ⟨G, 0, none⟩ = some (.slice A n c) := by have h := HH.out.all; rwa [HL.out] at h
    have HLB : Hid (∀ M : List Sp, M.length = n → spBlk A c M = spBlk A c H) := hid fun M hL => spBlk_len (by rw [hL, HN.out])
    rcases Nat.eq_zero_or_pos j with rfl | hj0
    · have HR := hid (up_stop HU.out (.inl rfl))
      go_wp2_with fail
      go_end0
      exact ⟨rfl, H', HP.out, by rw [HL.out, HN.out], HR.out, fun k hk => by rw [List.getElem?_eq_none (by rw [HL.out]; exact hk), List.getElem?_eq_none (by rw [HN.out]; exact hk)], HH.out, HFr.out⟩
    · obtain ⟨i, hi⟩ : ∃ i, i = (j - 1) / 2 := ⟨_, rfl⟩
      have hq := half_int hj0
      rw [← hi] at hq
      have hin : i < n := by omega
      have hne : ((i : Int) == (j : Int)) = false := by rw [beq_eq_false_iff_ne]; omega
      obtain ⟨x, hx⟩ : ∃ x, H'[j]? = some x := ⟨_, List.getElem?_eq_getElem (by rw [HL.out]; omega)⟩
      obtain ⟨y, hy⟩ : ∃ x, H'[i]? = some x := ⟨_, List.getElem?_eq_getElem (by rw [HL.out]; omega)⟩
      have HC := hid (spLess_walk HH.out HL.out (zi := (j : Int)) (zj := (i : Int)) rfl rfl hx hy)
      have HST := hid (fun h => up_stop (lt := splt) HU.out (.inr h))
      have HSU := hid (fun h => up_step splt_ord HU.out hj0 hj h)
      rw [← hi, nthL_get hx, nthL_get hy] at HST HSU
      have HI := hid hi
      clear hx hy hi
      generalize splt x y = r at *
      clear HU
      cases r with
      | false =>
        have HR := hid (HST.out rfl)
        clear HST HSU
        go_wp2_with fail
        refine HC.out.mono ?_
        rintro e w1 ⟨rfl, b1⟩
        have k0 := keepb b1 k0
        have HB1 := hid b1
        clear b1
        go_wp2_with fail
        go_end0
        have hlt := HH.out.lt
        exact ⟨rfl, H', HP.out, by rw [HL.out, HN.out], HR.out, fun k hk => by rw [List.getElem?_eq_none (by rw [HL.out]; exact hk), List.getElem?_eq_none (by rw [HN.out]; exact hk)], HH.out.below HB1.out, HFr.out.trans (HFL.below HB1.out (Nat.le_trans hle (Nat.le_of_lt hlt)))⟩
      | true =>
        have HR := hid (HSU.out rfl)
        clear HST HSU
        go_wp2_with fail
        refine HC.out.mono ?_
        rintro e w1 ⟨rfl, b1⟩
        have k0 := keepb b1 k0
        have HB1 := hid b1
        have HS1 := hid (spSwap_walk (HH.out.below b1) HL.out (zi := (i : Int)) (zj := (j : Int)) rfl rfl hin hj)
        clear b1 HC
        go_wp2_with fail
        refine HS1.out.mono ?_
        rintro e w2 ⟨rfl, o2, f2⟩
        have hlt := HH.out.lt
        have HO2 := hid o2
        have HF2 := hid (HFr.out.trans ((HFL.below HB1.out (Nat.le_trans hle (Nat.le_of_lt hlt))).trans (by rw [HLB.out H' HL.out] at f2; exact f2)))
        have HPS := hid ((swapL_perm H' i j (by rw [HL.out]; exact hin) (by rw [HL.out]; exact hj)).trans HP.out)
        have HLS := hid (show (swapL H' i j).length = n by rw [swapL_len, HL.out])
        have HUS := hid (show UpAt splt (nthL sp0 (swapL H' i j)) n i by rw [nthL_swap (by rw [HL.out]; exact hin) (by rw [HL.out]; exact hj)]; exact HR.out)
        clear o2 f2 HS1 HR
        go_wp2_with fail
        go_roundw
        case rel => exact ⟨i, swapL H' i j, rfl, hin, HO2, HPS, HLS, HUS, HF2⟩
        case measure => have := HI.out; (simp [intOf]) <;> omega
def SpDownR (w : World) (L G : Nat) (A : Option Addr) (c : Nat) (H : List Sp) (n N : Nat) (iv : Value) (wr : World) : Prop :=
  ∃ (i : Nat) (H' : List Sp), iv = .int .i64 (i : Nat) ∧ (i < n ∨ i = 0) ∧ Hid (SO wr L G A c H') ∧ Hid (H'.Perm H) ∧ Hid (H'.length = N) ∧ Hid (DownAt splt (nthL sp0 H') n i) ∧ Hid (∀ k, n ≤ k → H'[k]? = H[k]?) ∧ Hid (HFL w wr L G (spBlk A c H) (spBlk A c H))
set_option maxRecDepth 100000 in
set_option maxHeartbeats 1000000 in
theorem spDown_walk {w : World} {L G : Nat} {A : Option Addr} {c : Nat} {H : List Sp} (h : SO w L G A c H) {n N : Nat} (hN : H.length = N) (hn : n ≤ N) (hn5 : N ≤ 1000001) (hu : DownAt splt (nthL sp0 H) n 0) :
    Calls Try.prog 80 #[.iface 75 (.pointer (some ⟨G, 0, none⟩)), .int .i64 0, .int .i64 (n : Nat)] w fun e w' => (∃ b, e = .returned (.bool b)) ∧ RetSp w L G A c H n w' := by
  have HH := hid h
  have HN := hid hN
  have HU := hid hu
  have hGs := h.lt
  have hle := h.le
  clear h hN hu
  have hmL := fun V h => mLess (G := G) (A := A) (n := N) (c := c) V h
  have hmS := fun V h => mSwap (G := G) (A := A) (n := N) (c := c) V h
  go_enter Try.func80, Try.ntmps80
  go_wp2_with fail
  go_loopw [7, 8, 9, 10] (fun iv _ _ _ wr => SpDownR w L G A c H n N iv wr) (fun iv _ _ _ _ => n - (intOf iv).toNat)
  case atStart => exact ⟨0, H, rfl, .inr rfl, HH, hid (List.Perm.refl _), HN, HU, hid (fun _ _ => rfl), hid (HFL.below (Below.refl _ _) (Nat.le_trans hle (Nat.le_of_lt hGs)))⟩
  case round =>
    clear HH HU
    obtain ⟨i, H', rfl, hi, HH, HP, HL, HDN, HBY, HFr⟩ := hrel
    have k0 : wr.cell? ⟨G, 0, none⟩ = some (.slice A N c) := by have h := HH.out.all; rwa [HL.out] at h
    have HLB : Hid (∀ M : List Sp, M.length = N → spBlk A c M = spBlk A c H) := hid fun M hL => spBlk_len (by rw [hL, HN.out])
    by_cases h1 : n ≤ 2 * i + 1
    · have h1z : (n : Int) ≤ 2 * (i : Int) + 1 := by omega
      have HR := hid (down_stop (lt := splt) HDN.out (fun k h0 hk h2 => by omega))
      go_wp2_with fail
      go_ret
      exact ⟨⟨_, rfl⟩, H', HP.out, by rw [HL.out, HN.out], HR.out, HBY.out, HH.out, HFr.out⟩
    · have h1z : ¬ (n : Int) ≤ 2 * (i : Int) + 1 := by omega
      have h1y : ¬ 2 * (i : Int) + 1 < 0 := by omega
      obtain ⟨x, hx⟩ : ∃ x, H'[i]? = some x := ⟨_, List.getElem?_eq_getElem (by rw [HL.out]; omega)⟩
      by_cases h2 : 2 * i + 2 < n
      · have h2z : 2 * (i : Int) + 1 + 1 < (n : Int) := by omega
        obtain ⟨y1, hy1⟩ : ∃ x, H'[2 * i + 1]? = some x := ⟨_, List.getElem?_eq_getElem (by rw [HL.out]; omega)⟩
        obtain ⟨y2, hy2⟩ : ∃ x, H'[2 * i + 2]? = some x := ⟨_, List.getElem?_eq_getElem (by rw [HL.out]; omega)⟩
        have HC := hid (spLess_walk HH.out HL.out (i := 2 * i + 2) (j := 2 * i + 1) (zi := 2 * (i : Int) + 1 + 1) (zj := 2 * (i : Int) + 1) (by omega) (by omega) hy2 hy1)
        have HB : Hid (splt (nthL sp0 H' (2 * i + 2)) (nthL sp0 H' (2 * i + 1)) = splt y2 y1) := hid (by rw [nthL_get hy2, nthL_get hy1])
        clear hy1 hy2
        generalize splt y2 y1 = r1 at *
        cases r1 with
        | false =>
          go_wp2_with fail
          refine HC.out.mono ?_
          rintro e w1 ⟨rfl, b1⟩
          have k0 := keepb b1 k0
          have hlt := HH.out.lt
          have HOW := hid (HH.out.below b1)
          have HFW := hid (HFr.out.trans (HFL.below b1 (Nat.le_trans hle (Nat.le_of_lt hlt))))
          clear b1 HC hlt
          obtain ⟨y, hy⟩ : ∃ x, H'[2 * i + 1]? = some x := ⟨_, List.getElem?_eq_getElem (by rw [HL.out]; omega)⟩
          have HC2 := hid (fun (V : World) (hV : SO V L G A c H') => spLess_walk hV HL.out (i := 2 * i + 1) (j := i) (zi := 2 * (i : Int) + 1) (zj := (i : Int)) (by omega) rfl hy hx)
          have HLE := hid (show ∀ k, 0 < k → k < n → (k - 1) / 2 = i → splt (nthL sp0 H' k) (nthL sp0 H' (2 * i + 1)) = false from (by intro k h0 hk h2; by_cases e : k = 2 * i + 1; (subst e; exact splt_irr _); obtain rfl : k = 2 * i + 2 := (by omega); exact HB.out))
          have HST := hid (fun h => down_least splt_ord HDN.out HLE.out h)
          have HSU := hid (fun h => down_step splt_ord HDN.out (j := 2 * i + 1) (by omega) (by omega) (by omega) HLE.out h)
          rw [nthL_get hx, nthL_get hy] at HST HSU
          clear hx hy HLE HDN
          generalize splt y x = r at *
          cases r with
          | false =>
            have HR := hid (HST.out rfl)
            clear HST HSU
            go_wp2_with fail
            refine (HC2.out _ HOW.out).mono ?_
            rintro e w2 ⟨rfl, b2⟩
            have k0 := keepb b2 k0
            have HB2 := hid b2
            clear b2
            go_wp2_with fail
            go_ret
            have hlt := HOW.out.lt
            exact ⟨⟨_, rfl⟩, H', HP.out, by rw [HL.out, HN.out], HR.out, HBY.out, HOW.out.below HB2.out, HFW.out.trans (HFL.below HB2.out (Nat.le_trans hle (Nat.le_of_lt hlt)))⟩
          | true =>
            have HR := hid (HSU.out rfl)
            clear HST HSU
            go_wp2_with fail
            refine (HC2.out _ HOW.out).mono ?_
            rintro e w2 ⟨rfl, b2⟩
            have k0 := keepb b2 k0
            have HB2 := hid b2
            have HS1 := hid (spSwap_walk (HOW.out.below b2) HL.out (i := i) (j := 2 * i + 1) (zi := (i : Int)) (zj := 2 * (i : Int) + 1) rfl (by omega) (by omega) (by omega))
            clear b2 HC2
            go_wp2_with fail
            refine HS1.out.mono ?_
            rintro e w3 ⟨rfl, o3, f3⟩
            have hlt := HOW.out.lt
            have HO3 := hid o3
            have HF3 := hid (HFW.out.trans ((HFL.below HB2.out (Nat.le_trans hle (Nat.le_of_lt hlt))).trans (by rw [HLB.out H' HL.out] at f3; exact f3)))
            have HPS := hid ((swapL_perm H' i (2 * i + 1) (by rw [HL.out]; omega) (by rw [HL.out]; omega)).trans HP.out)
            have HLS := hid (show (swapL H' i (2 * i + 1)).length = N by rw [swapL_len, HL.out])
            have HUS := hid (show DownAt splt (nthL sp0 (swapL H' i (2 * i + 1))) n (2 * i + 1) by rw [nthL_swap (by rw [HL.out]; omega) (by rw [HL.out]; omega)]; exact HR.out)
            have HBS := hid (show ∀ k, n ≤ k → (swapL H' i (2 * i + 1))[k]? = H[k]? from fun k hk => (swapL_far (by rw [HL.out]; omega) (by rw [HL.out]; omega) (by omega) (by omega)).trans (HBY.out k hk))
            clear o3 f3 HS1 HR
            go_wp2_with fail
            go_roundw
            case rel => exact ⟨2 * i + 1, swapL H' i (2 * i + 1), by first | rfl | (congr 1; omega), .inl (by omega), HO3, HPS, HLS, HUS, HBS, HF3⟩
            case measure => (simp [intOf]) <;> omega
        | true =>
          go_wp2_with fail
          refine HC.out.mono ?_
          rintro e w1 ⟨rfl, b1⟩
          have k0 := keepb b1 k0
          have hlt := HH.out.lt
          have HOW := hid (HH.out.below b1)
          have HFW := hid (HFr.out.trans (HFL.below b1 (Nat.le_trans hle (Nat.le_of_lt hlt))))
          clear b1 HC hlt
          obtain ⟨y, hy⟩ : ∃ x, H'[2 * i + 2]? = some x := ⟨_, List.getElem?_eq_getElem (by rw [HL.out]; omega)⟩
          have HC2 := hid (fun (V : World) (hV : SO V L G A c H') => spLess_walk hV HL.out (i := 2 * i + 2) (j := i) (zi := 2 * (i : Int) + 1 + 1) (zj := (i : Int)) (by omega) rfl hy hx)
          have HLE := hid (show ∀ k, 0 < k → k < n → (k - 1) / 2 = i → splt (nthL sp0 H' k) (nthL sp0 H' (2 * i + 2)) = false from (by intro k h0 hk h2; by_cases e : k = 2 * i + 2; (subst e; exact splt_irr _); obtain rfl : k = 2 * i + 1 := (by omega); exact splt_ord.asym _ _ HB.out))
          have HST := hid (fun h => down_least splt_ord HDN.out HLE.out h)
          have HSU := hid (fun h => down_step splt_ord HDN.out (j := 2 * i + 2) (by omega) (by omega) (by omega) HLE.out h)
          rw [nthL_get hx, nthL_get hy] at HST HSU
          clear hx hy HLE HDN
          generalize splt y x = r at *
          cases r with
          | false =>
            have HR := hid (HST.out rfl)
            clear HST HSU
            go_wp2_with fail
            refine (HC2.out _ HOW.out).mono ?_
            rintro e w2 ⟨rfl, b2⟩
            have k0 := keepb b2 k0
            have HB2 := hid b2
            clear b2
            go_wp2_with fail
            go_ret
            have hlt := HOW.out.lt
            exact ⟨⟨_, rfl⟩, H', HP.out, by rw [HL.out, HN.out], HR.out, HBY.out, HOW.out.below HB2.out, HFW.out.trans (HFL.below HB2.out (Nat.le_trans hle (Nat.le_of_lt hlt)))⟩
          | true =>
            have HR := hid (HSU.out rfl)
            clear HST HSU
            go_wp2_with fail
            refine (HC2.out _ HOW.out).mono ?_
            rintro e w2 ⟨rfl, b2⟩
            have k0 := keepb b2 k0
            have HB2 := hid b2
            have HS1 := hid (spSwap_walk (HOW.out.below b2) HL.out (i := i) (j := 2 * i + 2) (zi := (i : Int)) (zj := 2 * (i : Int) + 1 + 1) rfl (by omega) (by omega) (by omega))
            clear b2 HC2
            go_wp2_with fail
            refine HS1.out.mono ?_
            rintro e w3 ⟨rfl, o3, f3⟩
            have hlt := HOW.out.lt
            have HO3 := hid o3
            have HF3 := hid (HFW.out.trans ((HFL.below HB2.out (Nat.le_trans hle (Nat.le_of_lt hlt))).trans (by rw [HLB.out H' HL.out] at f3; exact f3)))
            have HPS := hid ((swapL_perm H' i (2 * i + 2) (by rw [HL.out]; omega) (by rw [HL.out]; omega)).trans HP.out)
            have HLS := hid (show (swapL H' i (2 * i + 2)).length = N by rw [swapL_len, HL.out])
            have HUS := hid (show DownAt splt (nthL sp0 (swapL H' i (2 * i + 2))) n (2 * i + 2) by rw [nthL_swap (by rw [HL.out]; omega) (by rw [HL.out]; omega)]; exact HR.out)
            have HBS := hid (show ∀ k, n ≤ k → (swapL H' i (2 * i + 2))[k]? = H[k]? from fun k hk => (swapL_far (by rw [HL.out]; omega) (by rw [HL.out]; omega) (by omega) (by omega)).trans (HBY.out k hk))
            clear o3 f3 HS1 HR
            go_wp2_with fail
            go_roundw
            case rel => exact ⟨2 * i + 2, swapL H' i (2 * i + 2), by first | rfl | (congr 1; omega), .inl (by omega), HO3, HPS, HLS, HUS, HBS, HF3⟩
            case measure => (simp [intOf]) <;> omega
      · have h2z : ¬ 2 * (i : Int) + 1 + 1 < (n : Int) := by omega
        have HOW := HH
        have HFW := HFr
        obtain ⟨y, hy⟩ : ∃ x, H'[2 * i + 1]? = some x := ⟨_, List.getElem?_eq_getElem (by rw [HL.out]; omega)⟩
        have HC2 := hid (fun (V : World) (hV : SO V L G A c H') => spLess_walk hV HL.out (i := 2 * i + 1) (j := i) (zi := 2 * (i : Int) + 1) (zj := (i : Int)) (by omega) rfl hy hx)
        have HLE := hid (show ∀ k, 0 < k → k < n → (k - 1) / 2 = i → splt (nthL sp0 H' k) (nthL sp0 H' (2 * i + 1)) = false from (by intro k h0 hk h2; obtain rfl : k = 2 * i + 1 := (by omega); exact splt_irr _))
        have HST := hid (fun h => down_least splt_ord HDN.out HLE.out h)
        have HSU := hid (fun h => down_step splt_ord HDN.out (j := 2 * i + 1) (by omega) (by omega) (by omega) HLE.out h)
        rw [nthL_get hx, nthL_get hy] at HST HSU
        clear hx hy HLE HDN
        generalize splt y x = r at *
        cases r with
        | false =>
          have HR := hid (HST.out rfl)
          clear HST HSU
          go_wp2_with fail
          refine (HC2.out _ HOW.out).mono ?_
          rintro e w2 ⟨rfl, b2⟩
          have k0 := keepb b2 k0
          have HB2 := hid b2
          clear b2
          go_wp2_with fail
          go_ret
          have hlt := HOW.out.lt
          exact ⟨⟨_, rfl⟩, H', HP.out, by rw [HL.out, HN.out], HR.out, HBY.out, HOW.out.below HB2.out, HFW.out.trans (HFL.below HB2.out (Nat.le_trans hle (Nat.le_of_lt hlt)))⟩
        | true =>
          have HR := hid (HSU.out rfl)
          clear HST HSU
          go_wp2_with fail
          refine (HC2.out _ HOW.out).mono ?_
          rintro e w2 ⟨rfl, b2⟩
          have k0 := keepb b2 k0
          have HB2 := hid b2
          have HS1 := hid (spSwap_walk (HOW.out.below b2) HL.out (i := i) (j := 2 * i + 1) (zi := (i : Int)) (zj := 2 * (i : Int) + 1) rfl (by omega) (by omega) (by omega))
          clear b2 HC2
          go_wp2_with fail
          refine HS1.out.mono ?_
          rintro e w3 ⟨rfl, o3, f3⟩
          have hlt := HOW.out.lt
          have HO3 := hid o3
          have HF3 := hid (HFW.out.trans ((HFL.below HB2.out (Nat.le_trans hle (Nat.le_of_lt hlt))).trans (by rw [HLB.out H' HL.out] at f3; exact f3)))
          have HPS := hid ((swapL_perm H' i (2 * i + 1) (by rw [HL.out]; omega) (by rw [HL.out]; omega)).trans HP.out)
          have HLS := hid (show (swapL H' i (2 * i + 1)).length = N by rw [swapL_len, HL.out])
          have HUS := hid (show DownAt splt (nthL sp0 (swapL H' i (2 * i + 1))) n (2 * i + 1) by rw [nthL_swap (by rw [HL.out]; omega) (by rw [HL.out]; omega)]; exact HR.out)
          have HBS := hid (show ∀ k, n ≤ k → (swapL H' i (2 * i + 1))[k]? = H[k]? from fun k hk => (swapL_far (by rw [HL.out]; omega) (by rw [HL.out]; omega) (by omega) (by omega)).trans (HBY.out k hk))
          clear o3 f3 HS1 HR
          go_wp2_with fail
          go_roundw
          case rel => exact ⟨2 * i + 1, swapL H' i (2 * i + 1), by first | rfl | (congr 1; omega), .inl (by omega), HO3, HPS, HLS, HUS, HBS, HF3⟩
          case measure => (simp [intOf]) <;> omega

set_option maxRecDepth 100000 in
set_option maxHeartbeats 1000000 in
theorem spHPush_walk {w : World} {L G : Nat} {A : Option Addr} {c : Nat} {H : List Sp} (h : SO w L G A c H) (k : Sp) {zv zf : Int} (hzv : zv = (k.1 : Nat)) (hzf : zf = (k.2 : Nat)) (hn : H.length ≤ 1000000) (hh : HeapF splt (nthL sp0 H) H.length) :
    Calls Try.prog 38 #[.iface 75 (.pointer (some ⟨G, 0, none⟩)), .iface 71 (.agg #[.int .i64 zv, .int .i64 zf])] w fun e w' => e = .returned (.tuple #[]) ∧ ∃ A' c' H', H'.Perm (H ++ [k]) ∧ HeapF splt (nthL sp0 H') H'.length ∧ SO w' L G A' c' H' ∧ HFL w w' L G (spBlk A c H) (spBlk A' c' H') := by
  subst hzv hzf
  have HP := hid (spPush_walk h k hn)
  have HHH := hid hh
  clear hh h
  go_enter Try.func38, Try.ntmps38
  go_wp2_with fail
  refine HP.out.mono ?_
  rintro e w1 ⟨rfl, A1, c1, o1, f1⟩
  have hl : (H ++ [k]).length = H.length + 1 := by simp
  have HL := hid hl
  have HF1 := hid f1
  have k0 : w1.cell? ⟨G, 0, none⟩ = some (.slice A1 (H.length + 1) c1) := by have h := o1.all; rwa [hl] at h
  have HLEN := hid (spLen_walk A1 (H.length + 1) c1 w1)
  have HU := hid (spUp_walk o1 (j := H.length) (n := H.length + 1) hl (by omega) (by omega) (by
    have h1 := up_start HHH.out
    refine ⟨fun i h0 hi hne => ?_, fun h0 i h1 h2 h3 => by omega⟩
    have := h1.1 i h0 hi hne
    have e1 : nthL sp0 (H ++ [k]) i = nthL sp0 H i := nthL_append (by omega)
    have e2 : nthL sp0 (H ++ [k]) ((i - 1) / 2) = nthL sp0 H ((i - 1) / 2) := nthL_append (by omega)
    rw [e1, e2]; exact this))
  clear o1 f1 hl
  have hz : ((H.length + 1 : Nat) : Int) - 1 = (H.length : Int) := by omega
  have hmN := fun V h => mLen (G := G) (A := A1) (n := H.length + 1) (c := c1) V h
  go_wp2_with fail
  refine HLEN.out.mono ?_
  rintro e w2 ⟨rfl, rfl⟩
  go_wp2_with fail
  refine HU.out.mono ?_
  rintro e w3 ⟨rfl, H', hp, hl', hheap, _, ho, hf⟩
  go_wp2_with fail
  go_end0
  refine ⟨rfl, A1, c1, H', hp, by rw [hl', HL.out]; exact hheap, ho, ?_⟩
  rw [spBlk_len (H := H ++ [k]) hl']
  exact HF1.out.trans hf
set_option maxRecDepth 100000 in
set_option maxHeartbeats 1000000 in
theorem spHPop_walk {w : World} {L G : Nat} {A : Option Addr} {c : Nat} {H : List Sp} (h : SO w L G A c H) {n : Nat} (hn : H.length = n + 1) (hn5 : n ≤ 1000000) (hh : HeapF splt (nthL sp0 H) H.length) :
    Calls Try.prog 37 #[.iface 75 (.pointer (some ⟨G, 0, none⟩))] w fun e w' => ∃ (k : Sp) (H0 : List Sp), e = .returned (.iface 71 (.agg #[.int .i64 (k.1 : Nat), .int .i64 (k.2 : Nat)])) ∧ H0.length = n ∧ (k :: H0).Perm H ∧ (∀ y ∈ H0, splt y k = false) ∧ HeapF splt (nthL sp0 H0) n ∧ SO w' L G A c H0 ∧ HFL w w' L G (spBlk A c H) (spBlk A c H0) := by
  have k0 : w.cell? ⟨G, 0, none⟩ = some (.slice A (n + 1) c) := by have h := h.all; rwa [hn] at h
  have HLEN := hid (spLen_walk A (n + 1) c w)
  have HS := hid (spSwap_walk h hn (i := 0) (j := n) (zi := 0) (zj := (n : Int)) rfl rfl (by omega) (by omega))
  have HL := hid hn
  have HHH := hid hh
  obtain ⟨k, hk⟩ : ∃ x, H[0]? = some x := ⟨_, List.getElem?_eq_getElem (by omega)⟩
  obtain ⟨z, hz⟩ : ∃ x, H[n]? = some x := ⟨_, List.getElem?_eq_getElem (by omega)⟩
  have HN1 : Hid ((swapL H 0 n)[n]? = some k) := hid (by
    rw [swapL_eq hk hz, List.getElem?_set_self (by rw [List.length_set]; omega)])
  have HPM := hid (swapL_perm H 0 n (by omega) (by omega))
  have HLS := hid (show (swapL H 0 n).length = n + 1 by rw [swapL_len, hn])
  have HD := hid (show DownAt splt (nthL sp0 (swapL H 0 n)) n 0 by
    rw [nthL_swap (by omega) (by omega)]
    refine down_start fun i h0 hi hne => ?_
    rw [swapF_ne (by omega) (by omega), swapF_ne hne (by omega)]
    exact hh i h0 (by omega))
  have HLST := hid (show ∀ y ∈ H, splt y k = false from fun y hy => by
    obtain ⟨i, hi⟩ := List.mem_iff_getElem?.1 hy
    have := heap_least splt_ord hh splt_irr i (List.getElem?_eq_some_iff.1 hi).1
    rw [nthL_get hi, nthL_get hk] at this
    exact this)
  clear h hn hh hk hz
  have hwz : ((n + 1 : Nat) : Int) - 1 = (n : Int) := by omega
  have hmN := fun V h => mLen (G := G) (A := A) (n := n + 1) (c := c) V h
  have hmS := fun V h => mSwap (G := G) (A := A) (n := n + 1) (c := c) V h
  go_enter Try.func37, Try.ntmps37
  go_wp2_with fail
  refine HLEN.out.mono ?_
  rintro e w1 ⟨rfl, rfl⟩
  go_wp2_with fail
  refine HS.out.mono ?_
  rintro e w2 ⟨rfl, o2, f2⟩
  have HF2 := hid f2
  have HDW := hid (spDown_walk o2 (n := n) HLS.out (by omega) (by omega) HD.out)
  clear o2 f2
  go_wp2_with fail
  refine HDW.out.mono ?_
  rintro e w3 ⟨⟨b, rfl⟩, H', hp, hl', hheap, hfar, ho, hf⟩
  have hl2 : H'.length = n + 1 := by rw [hl', HLS.out]
  have hkn := (hfar n (Nat.le_refl _)).trans HN1.out
  have hE : H' = H'.take n ++ [k] := by
    have h1 : H'.take (n + 1) = H'.take n ++ [k] := by rw [List.take_add_one, hkn]; rfl
    rw [List.take_of_length_le (by omega)] at h1
    exact h1
  obtain ⟨H0, hH0⟩ : ∃ x, x = H'.take n := ⟨_, rfl⟩
  have hlH0 : H0.length = n := by rw [hH0, List.length_take]; omega
  have hheap0 : HeapF splt (nthL sp0 H0) n := heapF_congr hheap fun i hi => by rw [hH0]; exact nthL_take hi
  rw [← hH0] at hE
  clear hH0
  subst hE
  have HPP := hid ((List.perm_append_comm (l₁ := [k]) (l₂ := H0)).trans (hp.trans HPM.out))
  have HO0 := hid (spPop_walk ho (by omega))
  have HE0 := hid hheap0
  have HL0 := hid hlH0
  have HF3 := hid (HF2.out.trans (by rw [spBlk_len (A := A) (c := c) (H := H) (H' := swapL H 0 n) swapL_len] at hf; exact hf))
  have HBL : Hid (spBlk A c (H0 ++ [k]) = spBlk A c H) := hid (spBlk_len (by rw [hl2, HL.out]))
  clear hp hl' hheap hfar ho hf hl2 hkn hlH0 hheap0
  go_wp2_with fail
  refine HO0.out.mono ?_
  rintro e w4 ⟨rfl, o4, f4⟩
  go_wp2_with fail
  go_ret
  rw [HBL.out] at f4
  exact ⟨k, H0, rfl, HL0.out, HPP.out, fun y hy => HLST.out y (HPP.out.mem_iff.1 (List.mem_cons_of_mem _ hy)), HE0.out, o4, HF3.out.trans f4⟩
end Go.Proofs.Ytifpngjipkmdcaa
