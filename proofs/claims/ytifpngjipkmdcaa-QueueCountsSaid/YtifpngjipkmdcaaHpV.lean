/- container/heap over merge's heads: Push, Pop. -/
import Derived.Test.YtifpngjipkmdcaaHpU
namespace Go.Proofs.Ytifpngjipkmdcaa
open Go.ChangeShapes Go.WideShapes Go.ChangeAt Go.RowKit
set_option linter.unusedVariables false
set_option linter.unusedSimpArgs false
theorem heapF_congr {α : Type} {lt : α → α → Bool} {f g : Nat → α} {n : Nat} (h : HeapF lt f n) (e : ∀ k, k < n → g k = f k) : HeapF lt g n := fun k h0 hk => by
  rw [e k hk, e _ (by omega)]; exact h k h0 hk
set_option maxRecDepth 100000 in
set_option maxHeartbeats 4000000 in
theorem hpPush_walk {w : World} {B G : Nat} {A : Option Addr} {c : Nat} {H : List Hd} (h : HO w B G A c H) (k : Hd) (hk : Rd w B k.m.A 2 k.m.l.length (k.m.l.flatMap Mail.cells)) (hn : H.length ≤ 5000) (hok : HdOk (H ++ [k])) (hh : HeapF hdlt (nthL hd0 H) H.length) :
    Calls Try.prog 38 #[.iface 137 (.pointer (some ⟨G, 0, none⟩)), .iface 142 (.agg #[.slice k.m.A k.m.l.length k.m.c, .int .i64 (k.i : Nat)])] w fun e w' => e = .returned (.tuple #[]) ∧ ∃ A' c' H', H'.Perm (H ++ [k]) ∧ HeapF hdlt (nthL hd0 H') H'.length ∧ HO w' B G A' c' H' ∧ HF w w' G (hdBlk A c H) (hdBlk A' c' H') := by
  have HP := hid (hdPush_walk h k hk hn)
  have HHH := hid hh
  have HOK := hid hok
  clear hh hok h hk
  go_enter Try.func38, Try.ntmps38
  go_wp2_with fail
  refine HP.out.mono ?_
  rintro e w1 ⟨rfl, A1, c1, o1, f1⟩
  have hl : (H ++ [k]).length = H.length + 1 := by simp
  have HL := hid hl
  have HO1 := hid o1
  have HF1 := hid f1
  have HLEN := hid (hdLen_walk o1)
  have hwn : IntKind.i64.wrap (((H ++ [k]).length : Int) - 1) = (H.length : Int) := by rw [hl]; rw [IntWalk.i64_in _ (by omega)]; omega
  have HU := hid (hdUp_walk o1 (j := H.length) (n := H.length + 1) hl (by omega) (by omega) HOK.out (by
    have h1 := up_start HHH.out
    refine ⟨fun i h0 hi hne => ?_, fun h0 i h1 h2 h3 => by omega⟩
    have := h1.1 i h0 hi hne
    have e1 : nthL hd0 (H ++ [k]) i = nthL hd0 H i := nthL_append (by omega)
    have e2 : nthL hd0 (H ++ [k]) ((i - 1) / 2) = nthL hd0 H ((i - 1) / 2) := nthL_append (by omega)
    rw [e1, e2]; exact this))
  clear o1 f1 hl
  go_wp2_with fail
  refine HLEN.out.mono ?_
  rintro e w2 ⟨rfl, rfl⟩
  have hz : ((H ++ [k]).length : Int) - 1 = (H.length : Int) := by rw [HL.out]; omega
  go_wp2_with fail
  refine HU.out.mono ?_
  rintro e w3 ⟨rfl, H', hp, hl', hheap, _, ho, hf⟩
  go_wp2_with fail
  go_end0
  refine ⟨rfl, A1, c1, H', hp, by rw [hl', HL.out]; exact hheap, ho, ?_⟩
  rw [hdBlk_len (H := H ++ [k]) hl']
  exact HF1.out.trans hf
set_option maxRecDepth 100000 in
set_option maxHeartbeats 4000000 in
theorem hpPop_walk {w : World} {B G : Nat} {A : Option Addr} {c : Nat} {H : List Hd} (h : HO w B G A c H) {n : Nat} (hn : H.length = n + 1) (hn5 : n ≤ 5000) (hok : HdOk H) (hh : HeapF hdlt (nthL hd0 H) H.length) :
    Calls Try.prog 37 #[.iface 137 (.pointer (some ⟨G, 0, none⟩))] w fun e w' => ∃ (k : Hd) (H0 : List Hd), e = .returned (.iface 142 (.agg #[.slice k.m.A k.m.l.length k.m.c, .int .i64 (k.i : Nat)])) ∧ H0.length = n ∧ (k :: H0).Perm H ∧ (∀ y ∈ H0, hdlt y k = false) ∧ HeapF hdlt (nthL hd0 H0) n ∧ HO w' B G A c H0 ∧ HF w w' G (hdBlk A c H) (hdBlk A c H0) := by
  have HLEN := hid (hdLen_walk h)
  rw [hn] at HLEN
  have HS := hid (hdSwap_at h (i := 0) (j := n) (zi := 0) (zj := (n : Int)) rfl rfl (by omega) (by omega))
  have HL := hid hn
  have HHH := hid hh
  have HOK := hid hok
  obtain ⟨k, hk⟩ : ∃ x, H[0]? = some x := ⟨_, List.getElem?_eq_getElem (by omega)⟩
  obtain ⟨z, hz⟩ : ∃ x, H[n]? = some x := ⟨_, List.getElem?_eq_getElem (by omega)⟩
  have HN1 : Hid ((swapL H 0 n)[n]? = some k) := hid (by
    rw [swapL_eq hk hz, List.getElem?_set_self (by rw [List.length_set]; omega)])
  have HPM := hid (swapL_perm H 0 n (by omega) (by omega))
  have HLS := hid (show (swapL H 0 n).length = n + 1 by rw [swapL_len, hn])
  have HD := hid (show DownAt hdlt (nthL hd0 (swapL H 0 n)) n 0 by
    rw [nthL_swap (by omega) (by omega)]
    refine down_start fun i h0 hi hne => ?_
    rw [swapF_ne (by omega) (by omega), swapF_ne hne (by omega)]
    exact hh i h0 (by omega))
  have HLST := hid (show ∀ y ∈ H, hdlt y k = false from fun y hy => by
    obtain ⟨i, hi⟩ := List.mem_iff_getElem?.1 hy
    have := heap_least hdlt_ord hh hdlt_irr i (List.getElem?_eq_some_iff.1 hi).1
    rw [nthL_get hi, nthL_get hk] at this
    exact this)
  clear h hn hh hok hk hz
  have hwz : ((n + 1 : Nat) : Int) - 1 = (n : Int) := by omega
  go_enter Try.func37, Try.ntmps37
  go_wp2_with fail
  refine HLEN.out.mono ?_
  rintro e w1 ⟨rfl, rfl⟩
  go_wp2_with fail
  refine HS.out.mono ?_
  rintro e w2 ⟨rfl, o2, f2⟩
  have HF2 := hid f2
  have HDW := hid (hdDown_walk o2 (n := n) HLS.out (by omega) (by omega) (HOK.out.perm HPM.out) HD.out)
  clear o2 f2
  go_wp2_with fail
  refine HDW.out.mono ?_
  rintro e w3 ⟨⟨b, rfl⟩, H', hp, hl', hheap, hfar, ho, hf⟩
  have hl2 : H'.length = n + 1 := by rw [hl', HLS.out]
  have hkn := (hfar n (Nat.le_refl _)).trans HN1.out
  have hE : H' = H'.take n ++ [k] := by
    have h1 : H'.take (n + 1) = H'.take n ++ [k] := by rw [List.take_add_one, hkn]; rfl
    rw [List.take_of_length_le (by omega)] at h1
    exact h1
  obtain ⟨H0, hH0⟩ : ∃ x, x = H'.take n := ⟨_, rfl⟩
  have hlH0 : H0.length = n := by rw [hH0, List.length_take]; omega
  have hheap0 : HeapF hdlt (nthL hd0 H0) n := heapF_congr hheap fun i hi => by rw [hH0]; exact nthL_take hi
  rw [← hH0] at hE
  clear hH0
  subst hE
  have HPP := hid ((List.perm_append_comm (l₁ := [k]) (l₂ := H0)).trans (hp.trans HPM.out))
  have HO0 := hid (hdPop_walk ho (by omega))
  have HE0 := hid hheap0
  have HL0 := hid hlH0
  have HF3 := hid (HF2.out.trans (by rw [hdBlk_len (A := A) (c := c) (H := H) (H' := swapL H 0 n) swapL_len] at hf; exact hf))
  have HBL : Hid (hdBlk A c (H0 ++ [k]) = hdBlk A c H) := hid (hdBlk_len (by rw [hl2, HL.out]))
  clear hp hl' hheap hfar ho hf hl2 hkn hlH0 hheap0
  go_wp2_with fail
  refine HO0.out.mono ?_
  rintro e w4 ⟨rfl, o4, f4⟩
  go_wp2_with fail
  go_ret
  rw [HBL.out] at f4
  exact ⟨k, H0, rfl, HL0.out, HPP.out, fun y hy => HLST.out y (HPP.out.mem_iff.1 (List.mem_cons_of_mem _ hy)), HE0.out, o4, HF3.out.trans f4⟩
end Go.Proofs.Ytifpngjipkmdcaa
