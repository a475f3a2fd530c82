/- The comparison of two lists of byte strings. -/
import Derived.Test.YtifpngjipkmdcaaSameS
import Derived.Test.YtifpngjipkmdcaaBytes
import Derived.Test.YtifpngjipkmdcaaMem
namespace Go.Proofs.Ytifpngjipkmdcaa
open Go.ChangeShapes Go.WideShapes Go.ChangeAt Go.RowKit
set_option linter.unusedVariables false
set_option linter.unusedSimpArgs false
set_option maxHeartbeats 1000000 in
theorem sameList_walk (m m' : List (ML Int)) (w : World) (A A' : Option Addr) (n n' c c' : Nat) (hm : lists m' = lists m) (hl : n = m.length) (hl' : n' = m.length) (g1 : Grid u8c 1 w w.heap.size A m) (g2 : Grid u8c 1 w w.heap.size A' m') (hn : n ≤ 140737488355328) :
    Calls Try.prog 78 #[.slice A n c, .slice A' n' c'] w fun e w' => e = .returned (.bool true) ∧ Below w.heap.size w w' := by
  obtain rfl : n' = n := by omega
  have HL := hid hl
  have HL' := hid (hl.trans (lists_len hm).symm)
  have HM := hid hm
  clear hl hl' hm
  go_enter Try.func78, Try.ntmps78
  go_wp2_with fail
  go_loopw [5] (fun i wr => ∃ k : Nat, k ≤ n' ∧ i = .int .i64 k ∧ Below w.heap.size w wr) (fun i _ => n' - (intOf i).toNat)
  case atStart => exact ⟨0, by omega, rfl, Below.refl _ _⟩
  case round =>
    obtain ⟨k, hk, rfl, hbel⟩ := hrel
    by_cases hlt : k < n'
    · obtain ⟨x, hx⟩ : ∃ x, m[k]? = some x := ⟨_, List.getElem?_eq_getElem (by rw [← HL.out]; exact hlt)⟩
      obtain ⟨x', hx', hxx⟩ := lists_get HM.out hx
      obtain ⟨b, off, rfl, hb, c0⟩ := ml_cell ((g1.1.below hbel)) rfl hx
      obtain ⟨b', off', rfl, hb', d0⟩ := ml_cell ((g2.1.below hbel)) rfl hx'
      have r1 := rdb (Grid.data g1 (List.mem_of_getElem? hx)) (by decide) hbel
      have r2 := rdb (Grid.data g2 (List.mem_of_getElem? hx')) (by decide) hbel
      rw [hxx] at r2 d0
      have HQ := hid (fun q => sameBytes_walk x.l (wr.drewN q) x.A x'.A x.l.length x.l.length x.c x'.c r1 r2)
      have hjz : (k : Int) < (n' : Int) := by omega
      clear hx hx' hxx r1 r2
      go_wp2_with fail
      go_quiet ((go_at_call 24; exact qsame (HQ.out _)))
      go_wp2_with fail
      go_roundw
      case rel => exact ⟨k + 1, by omega, by go_num, below_drewN hbel _⟩
      case measure => simp [intOf]; omega
    · go_wp2_with fail
      go_ret
      exact ⟨rfl, hbel⟩
end Go.Proofs.Ytifpngjipkmdcaa
