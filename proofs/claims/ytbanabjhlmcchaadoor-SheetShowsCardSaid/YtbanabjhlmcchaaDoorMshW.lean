/- The document's MovesShown. -/
import Derived.Test.YtbanabjhlmcchaaDoorShoW
namespace Go.Proofs.YtbanabjhlmcchaaDoor
open Go.RowKit Go.ChangeShapes Go.WideShapes Go.ChangeAt
set_option linter.unusedVariables false
set_option linter.unusedSimpArgs false
theorem conv_row {w : World} {base c : Nat} {A : Option Addr} {l : List UInt8} (h : w.ownsRow base 5 1 (.slice A l.length c) l.length (Lib.byteCells l)) : (convert 37 9 (.slice A l.length c)).run Tryd.prog w = .ok (.string ⟨l.toArray⟩) w := by
  cases l with
  | nil =>
    cases A with
    | none => exact run_convert_bytes_nil w 37 5 Tryd.underlying37 Tryd.underlying5 0 c 9 Tryd.underlying9
    | some a => exact run_convert_bytes_back w 37 9 5 a c [] Tryd.underlying37 Tryd.underlying5 Tryd.underlying9 (fun j hj => absurd hj (by simp))
  | cons x l =>
    obtain ⟨b, off, e, _, hc⟩ := (rd_own h).2 (by simp)
    rw [e]
    refine run_convert_bytes_back w 37 9 5 ⟨b, off, none⟩ c (x :: l) Tryd.underlying37 Tryd.underlying5 Tryd.underlying9 (fun j hj => ?_)
    have h8 : (Lib.byteCells (x :: l))[j]? = some (.int .u8 ((x :: l)[j].toNat : Int)) := by
      unfold Lib.byteCells
      rw [List.getElem?_map, List.getElem?_eq_getElem hj]
      rfl
    have h9 := hc j _ h8
    unfold Addr.add
    split
    · rename_i h0
      subst h0
      simpa using h9
    · exact h9
def MshR (w : World) (l : List Move) (v4 v5 : Value) (wr : World) : Prop :=
  ∃ (k : Nat) (A : Option Addr) (c : Nat), k ≤ l.length ∧ v5 = .int .i64 (k : Nat) ∧ v4 = .slice A (bodyL (l.take k)).length c ∧ Hid (wr.ownsRow w.heap.size 5 1 (.slice A (bodyL (l.take k)).length c) (bodyL (l.take k)).length (Lib.byteCells (bodyL (l.take k)))) ∧ Hid (∀ j < k, ∀ x, l[j]? = some x → (lineV x).2 = 0) ∧ Hid (Below w.heap.size w wr)
set_option maxRecDepth 100000 in
set_option maxHeartbeats 4000000 in
theorem movesShown_walk (l : List Move) (w : World) (A : Option Addr) (c : Nat) (hr : Rd w w.heap.size A 3 l.length (l.flatMap Move.cells)) (hl : l.length ≤ 9223372036854775807) :
    Calls Tryd.prog 7 #[.slice A l.length c] w fun e w' => e = .returned (.tuple #[.string (showV l).1, .int .i64 (showV l).2]) ∧ Below w.heap.size w w' := by
  have HR := hid hr
  have HLN := hid moveLine_walk
  have X : (Tryd.prog.info? 5).map (fun i => (i.zero, i.size, i.bytes)) = some (some (.int .u8 0), 1, 1) := by kernel_rfl
  obtain ⟨i0, hi, hz0, hz1, hz2⟩ := info_parts X
  by_cases hbig : 100000 < l.length
  · have hbz : (100000 : Int) < (l.length : Int) := by omega
    have HSV := hid (show showV l = (⟨#[]⟩, 1) by unfold showV; rw [if_pos hbig])
    clear hbig hr
    go_enter Tryd.func7, Tryd.ntmps7
    go_wp2_with fail
    go_ret2
    exact ⟨by rw [HSV.out]; rfl, Below.refl _ _⟩
  · have hbz : ¬ (100000 : Int) < (l.length : Int) := by omega
    have HSV := hid (show showV l = if errL l ≠ 0 then (⟨#[]⟩, errL l) else (⟨(bodyL l).toArray⟩, 0) by unfold showV; rw [if_neg hbig])
    have hlb : l.length ≤ 100000 := by omega
    clear hbig hr
    go_enter Tryd.func7, Tryd.ntmps7
    go_wp2_with fail
    go_loopw [4, 5] (fun v4 v5 wr => MshR w l v4 v5 wr) (fun _ v5 _ => l.length - (intOf v5).toNat)
    case atStart => exact ⟨0, none, 0, Nat.zero_le _, rfl, rfl, hid (World.ownsRow_nil _ _ _ _), hid (fun j hj => absurd hj (by omega)), hid (Below.refl _ _)⟩
    case round =>
      obtain ⟨k, A2, c2, hk, rfl, rfl, HO, HNO, HBL⟩ := hrel
      by_cases hlt : k < l.length
      · obtain ⟨m, hm⟩ : ∃ m, l[k]? = some m := ⟨_, List.getElem?_eq_getElem hlt⟩
        obtain ⟨b, off, rfl, hb, c0, c1, c2'⟩ := moveCells (HR.out.below HBL.out) rfl hm
        have hkz : (k : Int) < (l.length : Int) := by omega
        have hsz := HBL.out.size
        have hbw : b < wr.heap.size := by omega
        have HST := hid (bodyL_step hm)
        have hlen := bodyL_len (l.take k)
        have hlm := lineV_size m
        have htk : (l.take k).length ≤ 100000 := by rw [List.length_take]; omega
        have HL := hid (HLN.out m wr)
        have HER := hid (fun h => errL_at hm HNO.out h)
        have HM := hid hm
        have hss : (lineV m).1.data.toList.length = (lineV m).1.size := by rw [Array.length_toList]; rfl
        have HSS := hid hss
        clear hm hss
        go_wp2_with fail
        refine HL.out.mono ?_
        rintro e w6 ⟨rfl, b6⟩
        have HB6 := hid (HBL.out.trans (b6.mono hsz))
        have HO6 := hid (own_below HO.out b6 (Nat.le_refl _))
        have hs6 := HB6.out.size
        by_cases he : (lineV m).2 = 0
        · have heb : ((lineV m).2 != 0) = false := by simpa using he
          have HN2 := hid (show ∀ j < k + 1, ∀ x, l[j]? = some x → (lineV x).2 = 0 from fun j hj x hx => by
            rcases Nat.lt_succ_iff_lt_or_eq.1 hj with h | rfl
            · exact HNO.out j h x hx
            · rw [HM.out] at hx; injection hx with hx; rw [← hx]; exact he)
          clear he HER
          go_wp2_with (at_builtin; refine Lib.wpList_append_own_string _ rfl _ _ 37 9 rfl w.heap.size 5 i0 Tryd.underlying37 Tryd.underlying9 hi hz0 hz1 hz2 _ _ _ rfl HO6.out (lineV m).1 rfl (by unfold maxLen; omega) (by omega) hs6 ?_; intro v7 w7 o7 g7 _; obtain ⟨A7, c7, rfl⟩ := own_slice o7; have HB7 := hid (HB6.out.trans ((Below.refl _ _).grown g7 hs6 (fun k hk => (HO6.out.lt k hk).1))); have HO7 := hid o7)
          go_roundw
          case rel =>
            have e1 : (bodyL (l.take (k + 1))).length = (bodyL (l.take k)).length + (lineV m).1.size := by rw [HST.out, List.length_append, HSS.out]
            have e2 : Lib.byteCells (bodyL (l.take (k + 1))) = Lib.byteCells (bodyL (l.take k)) ++ Lib.strCells (lineV m).1 := by rw [HST.out]; unfold Lib.byteCells Lib.strCells; rw [List.map_append]
            exact ⟨k + 1, A7, c7, by omega, by go_num, by rw [e1], hid (by rw [e1, e2]; exact HO7.out), HN2, HB7⟩
          case measure => simp [intOf]; omega
        · have heb : ((lineV m).2 != 0) = true := by simpa using he
          have HSE := hid (show showV l = (⟨#[]⟩, (lineV m).2) by rw [HSV.out, HER.out he, if_pos he])
          clear he
          go_wp2_with fail
          go_ret2
          exact ⟨by rw [HSE.out]; rfl, HB6.out⟩
      · obtain rfl : k = l.length := by omega
        have HSE := hid (show showV l = (⟨(bodyL l).toArray⟩, 0) by
          rw [HSV.out, errL_none (fun j x hx => HNO.out j (List.getElem?_eq_some_iff.1 hx).1 x hx), if_neg (by simp)])
        have HCV := hid (conv_row HO.out)
        have htl : l.take l.length = l := List.take_length
        rw [htl] at HCV
        go_wp2_with (rw [HCV.out])
        go_ret2
        exact ⟨by rw [HSE.out]; rfl, HBL.out⟩
end Go.Proofs.YtbanabjhlmcchaaDoor
