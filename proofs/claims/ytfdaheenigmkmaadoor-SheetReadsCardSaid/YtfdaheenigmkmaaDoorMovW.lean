/- strings.Split at a blank, strconv.Atoi at every text; play.move. -/
import Derived.Test.YtfdaheenigmkmaaDoorRdM
import Derived.Test.YtfdaheenigmkmaaDoorShelfR
import Derived.Test.YtfdaheenigmkmaaDoorLinW
import Derived.Shelf.Strings.SplitCore
namespace Go.Proofs.YtfdaheenigmkmaaDoor
open Go.RowKit Go.ChangeShapes Go.WideShapes Go.ChangeAt Go.Shelf
set_option linter.unusedVariables false
set_option linter.unusedSimpArgs false
theorem idxB_sp (x : ByteArray) : Lib.indexByte x.data.toList 32 = Lib.indexB x spB := (Lib.index_one x.data.toList 32).symm
theorem gen_calls (s : ByteArray) (w : World) (hs : s.size < 4294967281) : Calls Tryd.prog 34 #[.string s, .string spB, .int .i64 0, .int .i64 (-1)] w fun e w' =>
    e = .returned (.slice (some ⟨w.heap.size, 0, none⟩) (splitW s).length (splitW s).length) ∧ w' = w.alloc (.cells ((splitW s).map Value.string).toArray 9) := by
  have hle := Lib.countB_le spB (by decide) s.size s (Nat.le_refl _)
  have c := Any.strings_genSplit_core Tryd.lays221 (by kernel_rfl) s spB 0 (-1) (Lib.countB s spB + 1) w hs (by decide) (Nat.zero_le _)
    (fun x c hx => by rw [← idxB_sp]; exact Any.strings_Index_one Tryd.lays143 x 32 _)
    (Any.strings_Count_one Tryd.lays138 s 32 w |>.mono fun e w' ⟨h1, h2⟩ => ⟨by rw [h1]; show _ = Ending.returned (Value.int .i64 ((Lib.count s.data.toList [32] : Nat) : Int)); rw [Lib.count_one]; rfl, h2⟩)
    (by decide) (by decide) (by rw [if_pos (by decide)]; omega)
  have hlen := splitW_len s
  rw [Nat.add_sub_cancel, show Lib.splitB spB 0 (Lib.countB s spB) s = splitW s from rfl, ← hlen] at c
  have e2 : Lib.cellsOf (splitW s) (splitW s).length = ((splitW s).map Value.string).toArray := Lib.cellsOf_full _
  rw [e2] at c
  exact c
theorem split_calls (s : ByteArray) (w : World) (hs : s.size < 4294967281) : Calls Tryd.prog 21 #[.string s, .string spB] w fun e w' =>
    e = .returned (.slice (some ⟨w.heap.size, 0, none⟩) (splitW s).length (splitW s).length) ∧ w' = w.alloc (.cells ((splitW s).map Value.string).toArray 9) := by
  have c := gen_calls s w hs
  go_enter Tryd.func21, Tryd.ntmps21
  go_wp2_with (go_at_call 34; refine c.mono ?_; rintro e w' ⟨rfl, hw⟩; rw [hw])
  go_ret
  exact ⟨rfl, rfl⟩
/-- The errors' variables are laid. -/
def ErrsAt (w : World) : Prop := (∃ tp p, w.var? Tryd.prog "strconv.ErrSyntax" = some #[.iface tp p]) ∧ ∃ tp p, w.var? Tryd.prog "strconv.ErrRange" = some #[.iface tp p]
theorem ErrsAt.below {w w' : World} (h : ErrsAt w) (hb : Below w.heap.size w w') : ErrsAt w' := by
  obtain ⟨⟨t1, p1, h1⟩, t2, p2, h2⟩ := h
  exact ⟨⟨t1, p1, Go.Joins.var_stays (g := 2) (by kernel_rfl) h1 hb (Nat.le_refl _)⟩, t2, p2, Go.Joins.var_stays (g := 3) (by kernel_rfl) h2 hb (Nat.le_refl _)⟩
def atoiOk (l : List UInt8) : Bool := match Lib.atoiAll l with | .ok _ => true | _ => false
theorem atoi_calls (s : ByteArray) (w : World) (hs : s.size ≤ 281474976710656) (he : ErrsAt w) : Calls Tryd.prog 23 #[.string s] w fun e w' =>
    (∃ ev, e = .returned (.tuple #[.int .i64 (atoiV s.data.toList), ev]) ∧ ((atoiOk s.data.toList = true ∧ ev = .nilIface) ∨ (atoiOk s.data.toList = false ∧ ∃ t p, ev = .iface t p))) ∧ Below w.heap.size w w' := by
  obtain ⟨⟨t1, p1, h1⟩, t2, p2, h2⟩ := he
  unfold atoiOk atoiV
  cases h : Lib.atoiAll s.data.toList
  · rename_i v
    refine (Tryd.strconv_Atoi_ok s (by omega) v h w).mono ?_
    rintro e w' ⟨rfl, hw⟩
    refine ⟨⟨_, rfl, .inl ⟨rfl, rfl⟩⟩, ?_⟩
    rcases hw with rfl | ⟨t, rfl⟩
    · exact Below.refl _ _
    · exact Go.Joins.below_bytesWorld _ _ _ _ (Nat.le_refl _)
  · refine (Any.strconv_Atoi_syntax_var Tryd.laysC172 s hs h t1 p1 w h1).mono ?_
    rintro e w' ⟨N, rfl, _, _, hb⟩
    exact ⟨⟨_, rfl, .inr ⟨rfl, _, _, rfl⟩⟩, hb⟩
  · refine (Tryd.strconv_Atoi_range_var s hs h t2 p2 w h2).mono ?_
    rintro e w' ⟨N, rfl, _, _, hb⟩
    exact ⟨⟨_, rfl, .inr ⟨rfl, _, _, rfl⟩⟩, hb⟩
end Go.Proofs.YtfdaheenigmkmaaDoor
