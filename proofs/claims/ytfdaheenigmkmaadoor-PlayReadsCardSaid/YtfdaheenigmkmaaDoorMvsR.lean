/- The document's MovesRead. -/
import Derived.Test.YtfdaheenigmkmaaDoorMofW
namespace Go.Proofs.YtfdaheenigmkmaaDoor
open Go.RowKit Go.ChangeShapes Go.WideShapes Go.ChangeAt
set_option linter.unusedVariables false
set_option linter.unusedSimpArgs false
structure MrOk (s : ByteArray) (i fr : Nat) (done : List (List UInt8)) : Prop where
  le : fr ≤ i
  le2 : i ≤ s.size
  lines : linesL s.data.toList = done ++ linesL (s.data.toList.drop fr)
  ok : ∀ x ∈ done, lineOk x
  no : (10 : UInt8) ∉ (s.data.toList.drop fr).take (i - fr)
  len : done.length ≤ i
theorem MrOk.start (s : ByteArray) : MrOk s 0 0 [] := ⟨Nat.le_refl _, Nat.zero_le _, by simp, (fun x h => by cases h), by simp, Nat.le_refl _⟩
theorem MrOk.skip {s : ByteArray} {i fr : Nat} {done : List (List UInt8)} (h : MrOk s i fr done) (hi : i < s.size) {c : UInt8} (hc : s.data.toList[i]? = some c) (h10 : c ≠ 10) : MrOk s (i + 1) fr done := by
  refine ⟨by have := h.le; omega, by omega, h.lines, h.ok, ?_, by have := h.len; omega⟩
  have h1 := h.le
  rw [show i + 1 - fr = (i - fr) + 1 by omega, List.take_add_one, List.getElem?_drop, show fr + (i - fr) = i by omega, hc]
  simp only [Option.toList_some, List.mem_append, List.mem_singleton, not_or]
  exact ⟨h.no, fun e => h10 e.symm⟩
theorem MrOk.at_ {s : ByteArray} {i fr : Nat} {done : List (List UInt8)} (h : MrOk s i fr done) (hi : i < s.size) (hc : s.data.toList[i]? = some 10) :
    linesL (s.data.toList.drop fr) = ((s.extract fr i).data.toList ++ [10]) :: linesL (s.data.toList.drop (i + 1)) := by
  have hl : i < s.data.toList.length := (List.getElem?_eq_some_iff.1 hc).1
  have h1 := h.le
  have e : s.data.toList.drop fr = (s.data.toList.drop fr).take (i - fr) ++ 10 :: s.data.toList.drop (i + 1) := by
    have e1 : (s.data.toList.drop fr).drop (i - fr) = 10 :: s.data.toList.drop (i + 1) := by
      rw [List.drop_drop, show fr + (i - fr) = i by omega, List.drop_eq_getElem_cons hl]
      congr 1
      exact (List.getElem?_eq_some_iff.1 hc).2
    rw [← e1, List.take_append_drop]
  rw [extract_str, e, linesL_cut h.no, ← e]
theorem MrOk.cut {s : ByteArray} {i fr : Nat} {done : List (List UInt8)} (h : MrOk s i fr done) (hi : i < s.size) (hc : s.data.toList[i]? = some 10) (hk : lineOk ((s.extract fr i).data.toList ++ [10])) : MrOk s (i + 1) (i + 1) (done ++ [(s.extract fr i).data.toList ++ [10]]) := by
  refine ⟨Nat.le_refl _, by omega, ?_, fun x hx => ?_, by simp, by have := h.len; simp; omega⟩
  · rw [h.lines, h.at_ hi hc]; simp
  · rcases List.mem_append.1 hx with hx | hx
    · exact h.ok x hx
    · rw [List.mem_singleton.1 hx]; exact hk
def RmR (w : World) (s : ByteArray) (v4 v5 v6 : Value) (wr : World) : Prop :=
  ∃ (i fr : Nat) (done : List (List UInt8)) (A : Option Addr) (c : Nat), v6 = .int .i64 (i : Nat) ∧ v5 = .int .i64 (fr : Nat) ∧ v4 = .slice A done.length c ∧ Hid (MrOk s i fr done) ∧
    Hid (wr.ownsRow w.heap.size 38 3 (.slice A done.length c) done.length ((done.map moveOfL).flatMap Move.cells)) ∧ Hid (Below w.heap.size w wr)
theorem extract_size (s : ByteArray) (a b : Nat) : (s.extract a b).size ≤ s.size := by
  have h1 : (s.extract a b).data.toList.length ≤ s.data.toList.length := by rw [extract_str, List.length_take, List.length_drop]; omega
  rw [Array.length_toList, Array.length_toList] at h1
  exact h1
theorem one_mv (m : Move) : ∀ u ∈ [Value.int .i64 m.kind, .int .i64 m.at_, .int .i64 m.keep], u.oneCell' = true := fun u h => by simp at h; rcases h with rfl | rfl | rfl <;> rfl
set_option maxRecDepth 100000 in
set_option maxHeartbeats 8000000 in
theorem movesRead_walk (s : ByteArray) (w : World) :
    Calls Tryd.prog 6 #[.string s] w fun e w' => (∃ A c, e = .returned (.tuple #[.slice A (readV s.data.toList).1.length c, .int .i64 (readV s.data.toList).2]) ∧ Rd w' w'.heap.size A 3 (readV s.data.toList).1.length ((readV s.data.toList).1.flatMap Move.cells)) ∧ Below w.heap.size w w' := by
  have hss : s.data.toList.length = s.size := by rw [Array.length_toList]; rfl
  by_cases hbig : 5000000 < s.size
  · have hbz : (5000000 : Int) < (s.size : Int) := by omega
    have HV := hid (show readV s.data.toList = ([], 1) by unfold readV; rw [if_pos (by omega)])
    clear hbig hss
    go_enter Tryd.func6, Tryd.ntmps6
    go_wp2_with fail
    go_ret2
    exact ⟨⟨none, 0, by rw [HV.out]; rfl, by rw [HV.out]; exact Rd.nil_⟩, Below.refl _ _⟩
  · have hbz : ¬ (5000000 : Int) < (s.size : Int) := by omega
    have HV := hid (show readV s.data.toList = if ∀ x ∈ linesL s.data.toList, lineOk x then (if 100000 < (linesL s.data.toList).length then ([], 1) else ((linesL s.data.toList).map moveOfL, 0)) else ([], 3) by unfold readV; rw [if_neg (by omega)])
    have hs5 : s.size ≤ 5000000 := by omega
    have HSS := hid hss
    clear hbig hss
    go_enter Tryd.func6, Tryd.ntmps6
    go_wp2_with fail
    go_loopw [4, 5, 6] (fun v4 v5 v6 wr => RmR w s v4 v5 v6 wr) (fun _ _ v6 _ => s.size - (intOf v6).toNat)
    case atStart => exact ⟨0, 0, [], none, 0, rfl, rfl, rfl, hid (MrOk.start s), hid (World.ownsRow_nil _ _ _ _), hid (Below.refl _ _)⟩
    case round =>
      obtain ⟨i, fr, done, A, c, rfl, rfl, rfl, HOK, HOW, HBL⟩ := hrel
      have hfr := HOK.out.le
      have hi := HOK.out.le2
      have hdl := HOK.out.len
      have hsz := HBL.out.size
      by_cases hlt : i < s.size
      · have hlz : (i : Int) < (s.size : Int) := by omega
        have hwi : IntKind.i64.wrap ((i : Int) + 1) = (i : Int) + 1 := IntWalk.i64_in _ (by omega)
        obtain ⟨b, hg, hc, hd⟩ := byte_at hlt
        by_cases h10 : b.toNat = 10
        · have hbz : ((b.toNat : Int) != 10) = false := by rw [bne_eq_false_iff_eq]; omega
          have hc10 : s.data.toList[i]? = some 10 := by rw [hc, show b = 10 from UInt8.toNat_inj.1 h10]
          have HAT := hid (HOK.out.at_ hlt hc10)
          have hfz : (fr : Int) ≤ (i : Int) := by omega
          obtain ⟨m, hm⟩ : ∃ m, m = docW (splitL (s.extract fr i).data.toList) := ⟨_, rfl⟩
          have HMO := hid (show Calls Tryd.prog 14 #[.string (s.extract fr i)] wr fun e w' => e = .returned (.agg #[.int .i64 m.kind, .int .i64 m.at_, .int .i64 m.keep]) ∧ Below wr.heap.size wr w' from by
            rw [hm]; exact moveOf_walk (s.extract fr i) wr (Nat.le_trans (extract_size _ _ _) hs5))
          by_cases hk0 : m.kind = 0
          · have hkb : (m.kind == 0) = true := by simpa using hk0
            have HE := hid (show readV s.data.toList = ([], 3) by
              rw [HV.out, if_neg]
              intro hall
              refine (lineOk_nl (s.extract fr i).data.toList).1 (hall _ (by rw [HOK.out.lines, HAT.out]; simp)) ?_
              rw [← hm]; exact hk0)
            clear hc hd hm hk0 h10 hc10
            go_wp2_with fail
            refine HMO.out.mono ?_
            rintro e w2 ⟨rfl, b2⟩
            have HB2 := hid (HBL.out.trans ((bA b2 (.cells #[.int .i64 m.kind, .int .i64 m.at_, .int .i64 m.keep] 38)).mono hsz))
            go_wp2_with fail
            go_ret2
            exact ⟨⟨none, 0, by rw [HE.out]; rfl, by rw [HE.out]; exact Rd.nil_⟩, HB2.out⟩
          · have hkb : (m.kind == 0) = false := by simpa using hk0
            have hok : lineOk ((s.extract fr i).data.toList ++ [10]) := (lineOk_nl _).2 (by rw [← hm]; exact hk0)
            have HMV := hid (show moveOfL ((s.extract fr i).data.toList ++ [10]) = m by rw [hm]; exact lineOk_move (by rw [← hm]; exact hk0))
            have HOK2 := hid (HOK.out.cut hlt hc10 hok)
            clear hc hd hm hk0 h10 hc10 hok
            go_wp2_with fail
            refine HMO.out.mono ?_
            rintro e w2 ⟨rfl, b2⟩
            obtain ⟨W4, hW4⟩ : ∃ W4, W4 = w2.alloc (.cells #[.int .i64 m.kind, .int .i64 m.at_, .int .i64 m.keep] 38) := ⟨_, rfl⟩
            have b4 : Below wr.heap.size wr W4 := by rw [hW4]; exact bA b2 _
            have hmb : W4.heap[w2.heap.size]? = some (.cells #[.int .i64 m.kind, .int .i64 m.at_, .int .i64 m.keep] 38 (0, 0)) := by rw [hW4]; exact heap_alloc_new _ _
            have m0 := Go.Joins.cell_of_block hmb 0
            have m1 := Go.Joins.cell_of_block hmb 1
            have m2 := Go.Joins.cell_of_block hmb 2
            have HO4 := hid (own_below HOW.out b4 (Nat.le_refl _))
            have HB4 := hid b4
            have hs4 := b4.size
            have hSZ : (done.length + 1) * 24 ≤ 140737488355328 := by omega
            have hW5 : w.heap.size ≤ W4.heap.size := by omega
            go_upto_region 10 with fail
            rw [← hW4]
            clear hW4 hmb b2 b4
            go_wp2_with (at_builtin; refine wp_app3 _ rfl rfl el_moves rfl (own_below HO4.out (bA (Below.refl _ _) _) (Nat.le_refl _)) rfl (rd_new _ #[.int .i64 m.kind, .int .i64 m.at_, .int .i64 m.keep] 38 3 1 rfl) (one_mv m) hSZ (by rw [World.size_alloc]; omega) ?_; intro A5 c5 w5 o5 b5 g5 h5)
            have HO5 := hid (show w5.ownsRow w.heap.size 38 3 (.slice A5 (done ++ [(s.extract fr i).data.toList ++ [10]]).length c5) (done ++ [(s.extract fr i).data.toList ++ [10]]).length (((done ++ [(s.extract fr i).data.toList ++ [10]]).map moveOfL).flatMap Move.cells) by
              rw [List.length_append, List.length_singleton, List.map_append, List.map_singleton, HMV.out, List.flatMap_append, List.flatMap_singleton]; exact o5)
            have HB5 := hid (HBL.out.trans ((bA HB4.out (.cells #[.int .i64 m.kind, .int .i64 m.at_, .int .i64 m.keep] 38)).mono hsz |>.trans b5))
            clear o5 b5 g5 h5
            go_roundw
            case rel => exact ⟨i + 1, i + 1, _, A5, c5, by go_num, by go_num, by simp, HOK2, HO5, HB5⟩
            case measure => simp [intOf]; omega
        · have hbz : ((b.toNat : Int) != 10) = true := by rw [bne_iff_ne]; omega
          have HOK2 := hid (HOK.out.skip hlt hc (fun e => h10 (by rw [e]; rfl)))
          clear hc hd
          go_wp2_with fail
          go_roundw
          case rel => exact ⟨i + 1, fr, done, A, c, by go_num, rfl, rfl, HOK2, HOW, HBL⟩
          case measure => simp [intOf]; omega
      · have hlz : ¬ (i : Int) < (s.size : Int) := by omega
        have hie : i = s.size := by omega
        have HNO := hid (show (10 : UInt8) ∉ s.data.toList.drop fr from by
          have h := HOK.out.no
          rwa [List.take_of_length_le (by rw [List.length_drop, HSS.out]; omega)] at h)
        clear hie
        by_cases hfe : fr < s.size
        · have hfz : (fr : Int) < (s.size : Int) := by omega
          have HE := hid (show readV s.data.toList = ([], 3) by
            have hne : s.data.toList.drop fr ≠ [] := fun e => by
              have := congrArg List.length e
              rw [List.length_drop, HSS.out] at this
              simp at this; omega
            rw [HV.out, if_neg]
            intro hall
            refine lineOk_no10 HNO.out (hall _ ?_)
            rw [HOK.out.lines, linesL_last HNO.out hne]; simp)
          go_wp2_with fail
          go_ret2
          exact ⟨⟨none, ⟨0, by rw [HE.out]; rfl⟩, by rw [HE.out]; exact Rd.nil_⟩, HBL.out⟩
        · have hfz : ¬ (fr : Int) < (s.size : Int) := by omega
          have HLL := hid (show linesL s.data.toList = done by
            rw [HOK.out.lines, show s.data.toList.drop fr = [] from List.drop_eq_nil_of_le (by rw [HSS.out]; omega), linesL_nil, List.append_nil])
          have HV2 := hid (show readV s.data.toList = if 100000 < done.length then ([], 1) else (done.map moveOfL, 0) by
            rw [HV.out, HLL.out, if_pos HOK.out.ok])
          by_cases hmany : 100000 < done.length
          · have hmz : (100000 : Int) < (done.length : Int) := by omega
            have HE := hid (show readV s.data.toList = ([], 1) by rw [HV2.out, if_pos hmany])
            go_wp2_with fail
            go_ret2
            exact ⟨⟨none, ⟨0, by rw [HE.out]; rfl⟩, by rw [HE.out]; exact Rd.nil_⟩, HBL.out⟩
          · have hmz : ¬ (100000 : Int) < (done.length : Int) := by omega
            have HE := hid (show readV s.data.toList = (done.map moveOfL, 0) by rw [HV2.out, if_neg hmany])
            have HL2 := hid (show (readV s.data.toList).1.length = done.length by rw [HE.out]; exact List.length_map ..)
            have HRD := hid (show Rd wr wr.heap.size A 3 (readV s.data.toList).1.length ((readV s.data.toList).1.flatMap Move.cells) by rw [HL2.out, HE.out]; exact rd_own HOW.out)
            have HE2 := hid (show (readV s.data.toList).2 = 0 by rw [HE.out])
            go_wp2_with fail
            go_ret2
            exact ⟨⟨A, ⟨c, by rw [HL2.out, HE2.out]; rfl⟩, HRD.out⟩, HBL.out⟩
end Go.Proofs.YtfdaheenigmkmaaDoor
