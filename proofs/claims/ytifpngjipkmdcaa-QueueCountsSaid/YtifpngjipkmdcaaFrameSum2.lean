/- frame.Sum. -/
import Derived.Test.YtifpngjipkmdcaaFrameSum
namespace Go.Proofs.Ytifpngjipkmdcaa
open Go.ChangeShapes Go.WideShapes Go.ChangeAt Go.RowKit
set_option linter.unusedVariables false
set_option linter.unusedSimpArgs false
def TabAt (W : World) (b : Nat) : Prop := ∀ i : Nat, i < 256 → W.cell? ⟨b, i, none⟩ = some (.int .u32 (ctab i : Int))
theorem tab_blk (w : World) : Blk (w.alloc (.cells Try.zeroCells158 158)) w.heap.size (tabC 0) 158 := by unfold Blk; rw [tabC_zero]; exact heap_alloc_new w _
theorem tab_there (w : World) : (w.alloc (.cells Try.zeroCells158 158)).there w.heap.size 0 (tabC 256).toArray.size := (tab_blk w).there (by simp [tabC_len])
theorem tab_info : (Try.prog.info? 158).map (·.size) = some (tabC 256).toArray.size := by
  rw [List.size_toArray]; exact i_tab 256
theorem tab_one : (tabC 256).toArray.all (·.oneCell') = true := all_oneCell_toArray (tabC_one 256)
theorem tab_laid (w : World) : TabAt ((w.alloc (.cells Try.zeroCells158 158)).setCells w.heap.size 0 (tabC 256)) w.heap.size ∧ Below w.heap.size w ((w.alloc (.cells Try.zeroCells158 158)).setCells w.heap.size 0 (tabC 256)) := by
  have hrng := World.rangeAt_setCells_same (w.alloc (.cells Try.zeroCells158 158)) w.heap.size 0 (tabC 256) ((tab_blk w).there (by simp [tabC_len]))
  refine ⟨fun i hi => ?_, below_setCells w.heap.size (Nat.le_refl _) (tabC 256) 0 (bA (Below.refl w.heap.size w) _)⟩
  have := hrng i _ (tabC_get hi)
  rw [Nat.zero_add, if_pos hi] at this
  exact this
set_option maxRecDepth 100000 in
set_option maxHeartbeats 600000 in
theorem sum_walk (l : List Int) (w : World) (A : Option Addr) (n c : Nat) (hr : Rd w w.heap.size A 1 n (l.flatMap u8c)) (hL : l.length = n) (hb : ∀ x ∈ l, 0 ≤ x ∧ x ≤ 255) (hn : n ≤ 9223372036854775807) :
    Calls Try.prog 87 #[.slice A n c] w fun e w' => e = .returned (.int .u32 (sumV l)) ∧ Below w.heap.size w w' := by
  have HL := hid hL
  clear hL
  have ht := hid (table_walk w)
  go_enter Try.func87, Try.ntmps87
  go_wp2_with fail
  refine ht.out.mono ?_
  rintro e w1 ⟨rfl, b1⟩
  go_wp2_with (refine wpList_store_mid rfl 158 (.tmp 3) (.tmp 7) rfl w1.heap.size 0 (tabC 256).toArray rfl rfl ?_ ?_ ?_ ?_)
  · exact tab_there w1
  · exact tab_info
  · exact tab_one
  obtain ⟨HT, b2⟩ := tab_laid w1
  have r1 := hr.below (bT b1 b2)
  generalize (w1.alloc (.cells Try.zeroCells158 158)).setCells w1.heap.size 0 (tabC 256) = W at HT b2 r1 ⊢
  go_loop [4, 10] (SumRel l) (fun _ i => n - (intOf i).toNat)
  case atStart => exact ⟨0, by omega, rfl, rfl⟩
  case round =>
    obtain ⟨k, hk, rfl, rfl⟩ := hrel
    have hs0 := crcGo_lt (natsOf (l.take k)) 4294967295 (by omega) (natsOf_lt (fun x hx => hb x (List.mem_of_mem_take hx)))
    by_cases hlt : k < n
    · obtain ⟨x, hx⟩ : ∃ x, l[k]? = some x := ⟨_, List.getElem?_eq_getElem (by rw [HL.out]; exact hlt)⟩
      obtain ⟨hx0, hx1⟩ := hb x (List.mem_of_getElem? hx)
      obtain ⟨x, rfl⟩ := Int.eq_ofNat_of_zero_le hx0
      obtain ⟨b, off, rfl, hbb, c0⟩ := byte_cell r1 HL.out hx
      have HS : Hid (crcGo 4294967295 (natsOf (l.take (k + 1))) = cbyte (crcGo 4294967295 (natsOf (l.take k))) x) := hid (by
        rw [List.take_add_one, hx, ← crcGo_snoc]
        simp [natsOf])
      clear hx
      generalize crcGo 4294967295 (natsOf (l.take k)) = s at *
      unfold cbyte at HS
      have hw8 : IntKind.u8.wrap (s : Int) = ((s % 256 : Nat) : Int) := by rw [IntKind.wrap_u8]; omega
      have hm256 : (s % 256) ^^^ x < 256 := Nat.xor_lt_two_pow (n := 8) (by omega) (by omega)
      have ht := HT _ hm256
      have hx8 := xor8 (s % 256) x (by omega) (by omega)
      have hcl := ctab_lt (show (s % 256) ^^^ x < 4294967296 by omega)
      have hx32 := xor32 (ctab ((s % 256) ^^^ x)) (s / 256) hcl (by omega)
      have hd : ((s / 256 : Nat) : Int) = (s : Int) / 256 := by omega
      rw [hd] at hx32
      have hlt2 := Nat.xor_lt_two_pow (x := ctab ((s % 256) ^^^ x)) (y := s / 256) (n := 32) (by omega) (by omega)
      clear hd
      generalize hmm : s % 256 = m at *
      generalize hii : m ^^^ x = i at *
      generalize htt : ctab i = t at *
      generalize hqq : t ^^^ s / 256 = q at *
      clear hmm hii htt hqq
      have hi0 : (i : Int) < 256 := by omega
      go_wp2
      go_round
      case rel => exact ⟨k + 1, by rw [HL.out]; omega, by go_num, by rw [HS.out]⟩
      case measure => simp [intOf]; omega
    · obtain rfl : k = n := by have := HL.out; omega
      have HT2 := hid (List.take_of_length_le (l := l) (i := k) (by rw [HL.out]; exact Nat.le_refl _))
      rw [HT2.out] at hs0 ⊢
      have HV : Hid (sumV l = ((4294967295 - crcGo 4294967295 (natsOf l) : Nat) : Int)) := hid rfl
      generalize crcGo 4294967295 (natsOf l) = s at *
      have hx : bits BinOp.xor IntKind.u32 IntKind.u32.max (s : Int) = ((4294967295 - s : Nat) : Int) := not32 s hs0
      have hsg : IntKind.u32.signed = false := rfl
      go_wp2
      go_ret
      exact ⟨ret1 (by rw [HV.out]), bT b1 b2⟩
end Go.Proofs.Ytifpngjipkmdcaa
