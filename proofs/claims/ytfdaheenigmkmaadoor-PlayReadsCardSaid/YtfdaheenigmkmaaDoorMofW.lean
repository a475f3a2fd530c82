/- The document's moveOf. -/
import Derived.Test.YtfdaheenigmkmaaDoorBigW
import Derived.Lib.SmallJoins
namespace Go.Proofs.YtfdaheenigmkmaaDoor
open Go.RowKit Go.ChangeShapes Go.WideShapes Go.ChangeAt
set_option linter.unusedVariables false
set_option linter.unusedSimpArgs false
theorem el_strings : ElemTy Tryd.prog 51 9 1 16 := elemTy (z := .string ByteArray.empty) Tryd.underlying51 (by decide) (by decide) (by kernel_rfl) rfl
def SpOk (s : ByteArray) (i fr : Nat) (done : List ByteArray) : Prop :=
  (i ≤ s.size → fr ≤ i ∧ splitL s.data.toList = done.map (·.data.toList) ++ splitL (s.data.toList.drop fr) ∧ (32 : UInt8) ∉ (s.data.toList.drop fr).take (i - fr)) ∧
  (i = s.size + 1 → splitL s.data.toList = done.map (·.data.toList)) ∧ done.length ≤ i
def SpR (w : World) (s : ByteArray) (v3 v4 v5 : Value) (wr : World) : Prop :=
  ∃ (i fr : Nat) (done : List ByteArray) (A : Option Addr) (c : Nat), v5 = .int .i64 (i : Nat) ∧ v4 = .int .i64 (fr : Nat) ∧ v3 = .slice A done.length c ∧ i ≤ s.size + 1 ∧ Hid (SpOk s i fr done) ∧ Hid (wr.ownsRow (w.heap.size + 1) 9 1 (.slice A done.length c) done.length (done.map Value.string)) ∧
    Hid (wr.heap[w.heap.size]? = some (.cells #[.int .i64 0, .int .i64 0, .int .i64 0] 38 (0, 0))) ∧ Hid (Below w.heap.size w wr) ∧ w.heap.size + 1 ≤ wr.heap.size
theorem extract_str (s : ByteArray) (a b : Nat) : (s.extract a b).data.toList = (s.data.toList.drop a).take (b - a) := Lib.extract_data s a b
theorem SpOk.start (s : ByteArray) : SpOk s 0 0 [] := ⟨fun _ => ⟨Nat.le_refl _, by simp, by simp⟩, fun h => absurd h (by omega), Nat.le_refl _⟩
theorem SpOk.skip {s : ByteArray} {i fr : Nat} {done : List ByteArray} (h : SpOk s i fr done) (hi : i < s.size) {c : UInt8} (hc : s.data.toList[i]? = some c) (h32 : c ≠ 32) : SpOk s (i + 1) fr done := by
  obtain ⟨h1, h2, h3⟩ := h.1 (by omega)
  refine ⟨fun _ => ⟨by omega, h2, ?_⟩, fun h => absurd h (by omega), by have := h.2.2; omega⟩
  rw [show i + 1 - fr = (i - fr) + 1 by omega, List.take_add_one, List.getElem?_drop, show fr + (i - fr) = i by omega, hc]
  simp only [Option.toList_some, List.mem_append, List.mem_singleton, not_or]
  exact ⟨h3, fun e => h32 e.symm⟩
theorem SpOk.cut {s : ByteArray} {i fr : Nat} {done : List ByteArray} (h : SpOk s i fr done) (hi : i < s.size) (hc : s.data.toList[i]? = some 32) : SpOk s (i + 1) (i + 1) (done ++ [s.extract fr i]) := by
  obtain ⟨h1, h2, h3⟩ := h.1 (by omega)
  refine ⟨fun _ => ⟨Nat.le_refl _, ?_, by simp⟩, fun h => absurd h (by omega), by have := h.2.2; simp; omega⟩
  have hl : i < s.data.toList.length := (List.getElem?_eq_some_iff.1 hc).1
  have e : s.data.toList.drop fr = (s.data.toList.drop fr).take (i - fr) ++ 32 :: s.data.toList.drop (i + 1) := by
    have e1 : (s.data.toList.drop fr).drop (i - fr) = 32 :: s.data.toList.drop (i + 1) := by
      rw [List.drop_drop, show fr + (i - fr) = i by omega, List.drop_eq_getElem_cons hl]
      congr 1
      exact (List.getElem?_eq_some_iff.1 hc).2
    rw [← e1, List.take_append_drop]
  rw [h2, List.map_append, List.map_singleton, extract_str, e, splitL_cut h3, ← e]
  simp
theorem SpOk.last {s : ByteArray} {i fr : Nat} {done : List ByteArray} (h : SpOk s i fr done) (hi : i = s.size) : SpOk s (i + 1) (i + 1) (done ++ [s.extract fr i]) := by
  obtain ⟨h1, h2, h3⟩ := h.1 (by omega)
  refine ⟨fun h => absurd h (by omega), fun _ => ?_, by have := h.2.2; simp; omega⟩
  have e : (s.data.toList.drop fr).take (i - fr) = s.data.toList.drop fr := List.take_of_length_le (by rw [List.length_drop, Array.length_toList]; show s.data.size - fr ≤ _; have : s.data.size = s.size := rfl; omega)
  rw [e] at h3
  rw [h2, List.map_append, List.map_singleton, extract_str, e, splitL_none h3]
theorem one_str (x : ByteArray) : ∀ u ∈ [Value.string x], u.oneCell' = true := fun u h => by rw [List.mem_singleton.1 h]; rfl
theorem docW_at {ws : List (List UInt8)} {k : Int} (h1 : 1 ≤ k) (h8 : k ≤ 8) (h0 : ws.headD [] = wordL k) (hl : ws.length = manyV k) :
    docW ws = if (if atB k then bigV (ws.getD 1 []) else 0) < 0 ∨ (if keepB k then bigV (ws.getD 2 []) else 0) < 0 then ⟨0, 0, 0⟩ else ⟨k, if atB k then bigV (ws.getD 1 []) else 0, if keepB k then bigV (ws.getD 2 []) else 0⟩ := by
  unfold docW docK
  rw [h0, kindW_word h1 h8, if_neg (by rintro (h | h); omega; exact h hl)]
theorem docW_none {ws : List (List UInt8)} (h : ∀ j : Nat, j < 8 → ¬ (ws.headD [] = wordL ((j : Int) + 1) ∧ ws.length = manyV ((j : Int) + 1))) : docW ws = ⟨0, 0, 0⟩ := by
  unfold docW docK
  rw [if_pos]
  by_cases hk : kindW (ws.headD []) = 0
  · exact .inl hk
  · refine .inr fun hl => ?_
    obtain ⟨r1, r2⟩ := kindW_range (ws.headD [])
    have e : (((kindW (ws.headD [])).toNat - 1 : Nat) : Int) + 1 = kindW (ws.headD []) := by omega
    exact h ((kindW (ws.headD [])).toNat - 1) (by omega) ⟨by rw [e]; exact kindW_inv hk, by rw [e]; exact hl⟩
theorem res_end {w W : World} {T : TypeId} {a b c : Value} (h : W.heap[w.heap.size]? = some (.cells #[a, b, c] T (0, 0))) (hb : Below w.heap.size w W) (x y z : Value) :
    (((W.setCell ⟨w.heap.size, 0, none⟩ x).setCell ⟨w.heap.size, 1, none⟩ y).setCell ⟨w.heap.size, 2, none⟩ z).heap[w.heap.size]? = some (.cells #[x, y, z] T (0, 0)) ∧
    Below w.heap.size w (((W.setCell ⟨w.heap.size, 0, none⟩ x).setCell ⟨w.heap.size, 1, none⟩ y).setCell ⟨w.heap.size, 2, none⟩ z) :=
  ⟨Go.Joins.block_setCell (Go.Joins.block_setCell (Go.Joins.block_setCell h _) _) _, bS (bS (bS hb (Nat.le_refl _) _) (Nat.le_refl _) _) (Nat.le_refl _) _⟩
theorem heap_setN {W : World} {b o k : Nat} (v : Value) (h : k ≠ b) : (W.setCell ⟨b, o, none⟩ v).heap[k]? = W.heap[k]? := by
  simp only [World.setCell, Array.getElem?_modify]
  rw [if_neg (fun e => h e.symm)]
def MoR (ws : List (List UInt8)) (v6 : Value) : Prop := ∃ k : Nat, k ≤ 8 ∧ v6 = .int .i64 ((k : Int) + 1) ∧ Hid (∀ j : Nat, j < k → ¬ (ws.headD [] = wordL ((j : Int) + 1) ∧ ws.length = manyV ((j : Int) + 1)))
set_option maxRecDepth 100000 in
set_option maxHeartbeats 8000000 in
theorem moveOf_walk (s : ByteArray) (w : World) (hs : s.size ≤ 5000000) : Calls Tryd.prog 14 #[.string s] w fun e w' => e = .returned (.agg #[.int .i64 (docW (splitL s.data.toList)).kind, .int .i64 (docW (splitL s.data.toList)).at_, .int .i64 (docW (splitL s.data.toList)).keep]) ∧ Below w.heap.size w w' := by
  obtain ⟨W, hW⟩ : ∃ W, W = w.alloc (.cells #[.int .i64 0, .int .i64 0, .int .i64 0] 38) := ⟨_, rfl⟩
  have HBW := hid (show Below w.heap.size w W by rw [hW]; exact bA (Below.refl _ _) _)
  have HRS := hid (show W.heap[w.heap.size]? = some (.cells #[.int .i64 0, .int .i64 0, .int .i64 0] 38 (0, 0)) by rw [hW]; exact heap_alloc_new w _)
  have hWs : W.heap.size = w.heap.size + 1 := by rw [hW]; simp
  go_enter Tryd.func14, Tryd.ntmps14
  go_upto_region 4 with fail
  rw [← hW]
  clear hW
  go_loopw [3, 4, 5] (fun v3 v4 v5 wr => SpR w s v3 v4 v5 wr) (fun _ _ v5 _ => s.size + 1 - (intOf v5).toNat)
  case atStart => exact ⟨0, 0, [], none, 0, rfl, rfl, rfl, by omega, hid (SpOk.start s), hid (World.ownsRow_nil _ _ _ _), HRS, HBW, by omega⟩
  case round =>
    clear HBW HRS hWs
    obtain ⟨i, fr, done, A, c, rfl, rfl, rfl, hi, HOK, HOW, HRS, HBL, hsz⟩ := hrel
    by_cases hle : i ≤ s.size
    · have hlz : (i : Int) ≤ (s.size : Int) := by omega
      obtain ⟨hfr, _, _⟩ := HOK.out.1 hle
      have hdl := HOK.out.2.2
      have hwi : IntKind.i64.wrap ((i : Int) + 1) = (i : Int) + 1 := IntWalk.i64_in _ (by omega)
      by_cases hend : i = s.size
      · have heb : ((i : Int) == (s.size : Int)) = true := by rw [beq_iff_eq]; omega
        have HOK2 := hid (HOK.out.last hend)
        clear hend
        have hW4 : w.heap.size + 1 ≤ wr.heap.size + 1 := by omega
        have hSZ : (done.length + 1) * 16 ≤ 140737488355328 := by omega
        have hfz : (fr : Int) ≤ (i : Int) := by omega
        go_wp2_with (at_builtin; refine wp_app3 _ rfl rfl el_strings rfl (own_below HOW.out (bA (Below.refl _ _) _) (Nat.le_refl _)) rfl (rd_new _ _ _ 1 1 rfl) (one_str _) hSZ (by simpa using hW4) ?_; intro A5 c5 w5 o5 b5 g5 h5)
        have HO5 := hid (show w5.ownsRow (w.heap.size + 1) 9 1 (.slice A5 (done ++ [s.extract fr i]).length c5) (done ++ [s.extract fr i]).length ((done ++ [s.extract fr i]).map Value.string) by rw [List.length_append, List.length_singleton, List.map_append, List.map_singleton]; exact o5)
        have HR5 := hid ((b5.block _ (Nat.lt_succ_self _)).trans (((bA (Below.refl wr.heap.size wr) (.cells #[.string (s.extract fr i)] 9)).block _ (by omega)).trans HRS.out))
        have HB5 := hid (HBL.out.trans ((bA (Below.refl wr.heap.size wr) (.cells #[.string (s.extract fr i)] 9)).mono (by omega) |>.trans (b5.mono (by omega))))
        have hs5 := b5.size
        rw [World.size_alloc] at hs5
        clear o5 b5 g5 h5
        go_roundw
        case rel => exact ⟨i + 1, i + 1, done ++ [s.extract fr i], A5, c5, by go_num, by go_num, by simp, by omega, HOK2, HO5, HR5, HB5, by omega⟩
        case measure => simp [intOf]; omega
      · have heb : ((i : Int) == (s.size : Int)) = false := by simp; omega
        have hlt : i < s.size := by omega
        obtain ⟨b, hg, hc, hd⟩ := byte_at hlt
        by_cases h32 : b.toNat = 32
        · have h32z : ((b.toNat : Int) == 32) = true := by rw [beq_iff_eq]; omega
          have HOK2 := hid (HOK.out.cut hlt (by rw [hc, show b = 32 from UInt8.toNat_inj.1 h32]))
          clear hc hd hend h32
          have hW4 : w.heap.size + 1 ≤ wr.heap.size + 1 := by omega
          have hSZ : (done.length + 1) * 16 ≤ 140737488355328 := by omega
          have hfz : (fr : Int) ≤ (i : Int) := by omega
          go_wp2_with (at_builtin; refine wp_app3 _ rfl rfl el_strings rfl (own_below HOW.out (bA (Below.refl _ _) _) (Nat.le_refl _)) rfl (rd_new _ _ _ 1 1 rfl) (one_str _) hSZ (by simpa using hW4) ?_; intro A5 c5 w5 o5 b5 g5 h5)
          have HO5 := hid (show w5.ownsRow (w.heap.size + 1) 9 1 (.slice A5 (done ++ [s.extract fr i]).length c5) (done ++ [s.extract fr i]).length ((done ++ [s.extract fr i]).map Value.string) by rw [List.length_append, List.length_singleton, List.map_append, List.map_singleton]; exact o5)
          have HR5 := hid ((b5.block _ (Nat.lt_succ_self _)).trans (((bA (Below.refl wr.heap.size wr) (.cells #[.string (s.extract fr i)] 9)).block _ (by omega)).trans HRS.out))
          have HB5 := hid (HBL.out.trans ((bA (Below.refl wr.heap.size wr) (.cells #[.string (s.extract fr i)] 9)).mono (by omega) |>.trans (b5.mono (by omega))))
          have hs5 := b5.size
          rw [World.size_alloc] at hs5
          clear o5 b5 g5 h5
          go_roundw
          case rel => exact ⟨i + 1, i + 1, done ++ [s.extract fr i], A5, c5, by go_num, by go_num, by simp, by omega, HOK2, HO5, HR5, HB5, by omega⟩
          case measure => simp [intOf]; omega
        · have h32z : ((b.toNat : Int) == 32) = false := by simp; omega
          have HOK2 := hid (HOK.out.skip hlt hc (fun e => h32 (by rw [e]; rfl)))
          clear hc hd hend
          go_wp2_with fail
          go_roundw
          case rel => exact ⟨i + 1, fr, done, A, c, by go_num, rfl, rfl, by omega, HOK2, HOW, HRS, HBL, hsz⟩
          case measure => simp [intOf]; omega
    · have hlz : ¬ (i : Int) ≤ (s.size : Int) := by omega
      have hi1 : i = s.size + 1 := by omega
      have HWS := hid (HOK.out.2.1 hi1)
      have hdl : done.length ≤ 5000001 := by have := HOK.out.2.2; omega
      obtain ⟨x0, rest, hxr⟩ : ∃ x0 rest, done = x0 :: rest := by
        cases h : done with
        | nil => exact absurd (by rw [HWS.out, h]; rfl) (splitL_ne s.data.toList)
        | cons x r => exact ⟨x, r, rfl⟩
      have hd0 : 0 < done.length := by rw [hxr]; simp
      obtain ⟨g, off, hA, hgb, hcl⟩ := (rd_own HOW.out).2 hd0
      have HCL := hid hcl
      subst hA
      have c0 : wr.cell? ⟨g, off + 0, none⟩ = some (.string x0) := hcl 0 _ (by rw [hxr]; rfl)
      rw [Nat.add_zero] at c0
      have HX0 := hid (show (splitL s.data.toList).headD [] = x0.data.toList by rw [HWS.out, hxr]; rfl)
      have HLN := hid (show (splitL s.data.toList).length = done.length by rw [HWS.out]; exact List.length_map ..)
      have HGD := hid (fun j => show (splitL s.data.toList).getD j [] = (done.getD j ⟨#[]⟩).data.toList by
        rw [HWS.out, List.getD_eq_getElem?_getD, List.getD_eq_getElem?_getD, List.getElem?_map]
        cases done[j]? <;> rfl)
      have HD8 := hid (show ∀ x ∈ done, x.size ≤ 5000000 from fun x hx => by
        have h2 := splitL_len s.data.toList x.data.toList (by rw [HWS.out]; exact List.mem_map.2 ⟨x, hx, rfl⟩)
        rw [Array.length_toList, Array.length_toList] at h2
        exact Nat.le_trans h2 hs)
      clear hi1 HOK hcl hxr
      go_upto_region 10 with fail
      go_loopw [6] (fun v6 wx => MoR (splitL s.data.toList) v6 ∧ Hid (wx = wr)) (fun v6 _ => 9 - (intOf v6).toNat)
      case atStart => exact ⟨⟨0, by decide, rfl, hid (fun j h => absurd h (by omega))⟩, hid rfl⟩
      case round =>
        obtain ⟨⟨k, hk, rfl, HNO⟩, HWX⟩ := hrel
        have hwx := HWX.out
        subst hwx
        by_cases hk8 : k < 8
        · have hkz : (k : Int) + 1 ≤ 8 := by omega
          have HMW := hid (moveWord_walk ((k : Int) + 1) wr)
          have hwk : IntKind.i64.wrap ((k : Int) + 1 + 1) = (k : Int) + 1 + 1 := IntWalk.i64_in _ (by omega)
          by_cases hit : wordB ((k : Int) + 1) = x0 ∧ done.length = manyV ((k : Int) + 1)
          · obtain ⟨hw0, hln⟩ := hit
            have hq : ((wordB ((k : Int) + 1)).toList == x0.toList) = true := by rw [hw0]; simp
            have HDOC := hid (docW_at (ws := splitL s.data.toList) (k := (k : Int) + 1) (by omega) (by omega) (by rw [HX0.out, ← hw0]; rfl) (by rw [HLN.out]; exact hln))
            have HLN2 := hid hln
            clear hw0
            obtain ⟨W5, hW5⟩ : ∃ W5, W5 = wr.alloc (.cells #[.int .i64 ((k : Int) + 1), .int .i64 0, .int .i64 0] 38) := ⟨_, rfl⟩
            have HB5 := hid (show Below wr.heap.size wr W5 by rw [hW5]; exact bA (Below.refl _ _) _)
            have HM5 := hid (show W5.heap[wr.heap.size]? = some (.cells #[.int .i64 ((k : Int) + 1), .int .i64 0, .int .i64 0] 38 (0, 0)) by rw [hW5]; exact heap_alloc_new _ _)
            have HR5 := hid ((HB5.out.block _ (by omega)).trans HRS.out)
            have HBL5 := hid (HBL.out.trans (HB5.out.mono (by omega)))
            cases hA : atB ((k : Int) + 1) with
            | false =>
              cases hK : keepB ((k : Int) + 1) with
              | true => exact absurd (keep_at hK) (by rw [hA]; decide)
              | false =>
                have hmn : manyV ((k : Int) + 1) = 1 := by unfold manyV; rw [hA, hK]; rfl
                have hnb : ((done.length : Int) != 1) = false := by rw [bne_eq_false_iff_eq]; omega
                have HE := hid (show docW (splitL s.data.toList) = ⟨(k : Int) + 1, 0, 0⟩ by rw [HDOC.out, hA, hK]; rfl)
                have m0 := Go.Joins.cell_of_block HM5.out 0
                have m1 := Go.Joins.cell_of_block HM5.out 1
                have m2 := Go.Joins.cell_of_block HM5.out 2
                have HE3 := hid (res_end HR5.out HBL5.out (.int .i64 ((k : Int) + 1)) (.int .i64 0) (.int .i64 0))
                have r0 := Go.Joins.cell_of_block HR5.out 0
                have r1 := Go.Joins.cell_of_block HR5.out 1
                have r2 := Go.Joins.cell_of_block HR5.out 2
                have f0 := Go.Joins.unfrozen_of_block HR5.out 0
                have f1 := Go.Joins.unfrozen_of_block HR5.out 1
                have f2 := Go.Joins.unfrozen_of_block HR5.out 2
                clear hln hmn
                go_wp2_with fail
                refine HMW.out.mono ?_
                rintro e w2 ⟨rfl, rfl⟩
                go_upto_region 24 with fail
                rw [← hW5]
                clear hW5
                go_wp2_with fail
                refine bodyPost_ret (Go.results_cell_row rfl _ _ w.heap.size 38 _ _ _ rfl HE3.out.1 Tryd.underlying38 rfl (by kernel_rfl)) rfl ⟨by rw [HE.out], HE3.out.2⟩
            | true =>
              have ha0 := Go.Joins.unfrozen_of_block HM5.out 1
              have hp0 := Go.Joins.unfrozen_of_block HM5.out 2
              obtain ⟨a, hadef⟩ : ∃ a, a = bigV ((splitL s.data.toList).getD 1 []) := ⟨_, rfl⟩
              obtain ⟨p, hpdef⟩ : ∃ p, p = bigV ((splitL s.data.toList).getD 2 []) := ⟨_, rfl⟩
              rw [← hadef, ← hpdef] at HDOC
              have h1d : 1 < done.length := by rw [hln]; unfold manyV; rw [hA]; simp only [if_true]; omega
              have h1z : (1 : Int) < (done.length : Int) := by omega
              obtain ⟨x1, hx1⟩ : ∃ x, done[1]? = some x := ⟨_, List.getElem?_eq_getElem h1d⟩
              have c1 : W5.cell? ⟨g, off + 1, none⟩ = some (.string x1) := keepb HB5.out (HCL.out 1 _ (by rw [List.getElem?_map, hx1]; rfl))
              have HBG := hid (show Calls Tryd.prog 26 #[.string x1] W5 fun e w' => e = .returned (.int .i64 a) ∧ w' = W5 from by
                rw [hadef, HGD.out 1, List.getD_eq_getElem?_getD, hx1]
                exact big_walk x1 W5 (HD8.out x1 (List.mem_of_getElem? hx1)))
              have HM6 := hid (show (W5.setCell ⟨wr.heap.size, 1, none⟩ (.int .i64 a)).heap[wr.heap.size]? = some (.cells #[.int .i64 ((k : Int) + 1), .int .i64 a, .int .i64 0] 38 (0, 0)) from by rw [Go.Joins.block_setCell HM5.out]; rfl)
              have HR6 := hid ((heap_setN (b := wr.heap.size) (o := 1) (.int .i64 a) (show w.heap.size ≠ wr.heap.size by omega)).trans HR5.out)
              have HBL6 := hid (bS HBL5.out (p := ⟨wr.heap.size, 1, none⟩) (show w.heap.size ≤ wr.heap.size by omega) (.int .i64 a))
              cases hK : keepB ((k : Int) + 1) with
              | false =>
                have hmn : manyV ((k : Int) + 1) = 2 := by unfold manyV; rw [hA, hK]; rfl
                have hnb : ((done.length : Int) != 2) = false := by rw [bne_eq_false_iff_eq]; omega
                have HD3 := hid (show docW (splitL s.data.toList) = if a < 0 then ⟨0, 0, 0⟩ else ⟨(k : Int) + 1, a, 0⟩ by
                  rw [HDOC.out, hA, hK]
                  by_cases h : a < 0
                  · rw [if_pos h, if_pos (.inl h)]
                  · rw [if_neg h, if_neg (by rintro (h2 | h2); exact h h2; rw [if_neg (by decide)] at h2; exact absurd h2 (by decide))]; rfl)
                have n0 := Go.Joins.cell_of_block HM6.out 0
                have n1 := Go.Joins.cell_of_block HM6.out 1
                have n2 := Go.Joins.cell_of_block HM6.out 2
                have r0 := Go.Joins.cell_of_block HR6.out 0
                have r1 := Go.Joins.cell_of_block HR6.out 1
                have r2 := Go.Joins.cell_of_block HR6.out 2
                have f0 := Go.Joins.unfrozen_of_block HR6.out 0
                have f1 := Go.Joins.unfrozen_of_block HR6.out 1
                have f2 := Go.Joins.unfrozen_of_block HR6.out 2
                have m0 := Go.Joins.cell_of_block HM5.out 0
                have m1 := Go.Joins.cell_of_block HM5.out 1
                have m2 := Go.Joins.cell_of_block HM5.out 2
                clear hln hmn hx1 hadef hpdef
                go_wp2_with fail
                refine HMW.out.mono ?_
                rintro e w2 ⟨rfl, rfl⟩
                go_upto_region 20 with fail
                rw [← hW5]
                clear hW5
                go_wp2_with fail
                refine HBG.out.mono ?_
                rintro e w2 ⟨rfl, hw2⟩
                rw [hw2]
                clear hw2
                by_cases hneg : a < 0
                · have HE := hid (show docW (splitL s.data.toList) = ⟨0, 0, 0⟩ by rw [HD3.out, if_pos hneg])
                  have HE3 := hid (res_end HR6.out HBL6.out (.int .i64 0) (.int .i64 0) (.int .i64 0))
                  go_wp2_with fail
                  refine bodyPost_ret (Go.results_cell_row rfl _ _ w.heap.size 38 _ _ _ rfl HE3.out.1 Tryd.underlying38 rfl (by kernel_rfl)) rfl ⟨by rw [HE.out], HE3.out.2⟩
                · have HE := hid (show docW (splitL s.data.toList) = ⟨(k : Int) + 1, a, 0⟩ by rw [HD3.out, if_neg hneg])
                  have HE3 := hid (res_end HR6.out HBL6.out (.int .i64 ((k : Int) + 1)) (.int .i64 a) (.int .i64 0))
                  go_wp2_with fail
                  refine bodyPost_ret (Go.results_cell_row rfl _ _ w.heap.size 38 _ _ _ rfl HE3.out.1 Tryd.underlying38 rfl (by kernel_rfl)) rfl ⟨by rw [HE.out], HE3.out.2⟩
              | true =>
                have hmn : manyV ((k : Int) + 1) = 3 := by unfold manyV; rw [hA, hK]; rfl
                have hnb : ((done.length : Int) != 3) = false := by rw [bne_eq_false_iff_eq]; omega
                have h2z : (2 : Int) < (done.length : Int) := by omega
                obtain ⟨x2, hx2⟩ : ∃ x, done[2]? = some x := ⟨_, List.getElem?_eq_getElem (by omega)⟩
                have c2 : W5.cell? ⟨g, off + 2, none⟩ = some (.string x2) := keepb HB5.out (HCL.out 2 _ (by rw [List.getElem?_map, hx2]; rfl))
                have c26 : (W5.setCell ⟨wr.heap.size, 1, none⟩ (.int .i64 a)).cell? ⟨g, off + 2, none⟩ = some (.string x2) := by rw [World.cell?_setCell_other _ _ _ _ (by intro h; have := congrArg Addr.block h; simp at this; omega)]; exact c2
                have HBG2 := hid (fun V => show Calls Tryd.prog 26 #[.string x2] V fun e w' => e = .returned (.int .i64 p) ∧ w' = V from by
                  rw [hpdef, HGD.out 2, List.getD_eq_getElem?_getD, hx2]
                  exact big_walk x2 V (HD8.out x2 (List.mem_of_getElem? hx2)))
                have HM7 := hid (show ((W5.setCell ⟨wr.heap.size, 1, none⟩ (.int .i64 a)).setCell ⟨wr.heap.size, 2, none⟩ (.int .i64 p)).heap[wr.heap.size]? = some (.cells #[.int .i64 ((k : Int) + 1), .int .i64 a, .int .i64 p] 38 (0, 0)) from by rw [Go.Joins.block_setCell HM6.out]; rfl)
                have HR7 := hid ((heap_setN (b := wr.heap.size) (o := 2) (.int .i64 p) (show w.heap.size ≠ wr.heap.size by omega)).trans HR6.out)
                have HBL7 := hid (bS HBL6.out (p := ⟨wr.heap.size, 2, none⟩) (show w.heap.size ≤ wr.heap.size by omega) (.int .i64 p))
                have HD3 := hid (show docW (splitL s.data.toList) = if a < 0 ∨ p < 0 then ⟨0, 0, 0⟩ else ⟨(k : Int) + 1, a, p⟩ by
                  rw [HDOC.out, hA, hK]; rfl)
                have n0 := Go.Joins.cell_of_block HM7.out 0
                have n1 := Go.Joins.cell_of_block HM7.out 1
                have n2 := Go.Joins.cell_of_block HM7.out 2
                have r0 := Go.Joins.cell_of_block HR7.out 0
                have r1 := Go.Joins.cell_of_block HR7.out 1
                have r2 := Go.Joins.cell_of_block HR7.out 2
                have f0 := Go.Joins.unfrozen_of_block HR7.out 0
                have f1 := Go.Joins.unfrozen_of_block HR7.out 1
                have f2 := Go.Joins.unfrozen_of_block HR7.out 2
                have hp6 := Go.Joins.unfrozen_of_block HM6.out 2
                have p0 := Go.Joins.cell_of_block HM6.out 2
                have m0 := Go.Joins.cell_of_block HM5.out 0
                have m1 := Go.Joins.cell_of_block HM5.out 1
                have m2 := Go.Joins.cell_of_block HM5.out 2
                clear hln hmn hx1 hx2 hadef hpdef
                go_wp2_with fail
                refine HMW.out.mono ?_
                rintro e w2 ⟨rfl, rfl⟩
                go_upto_region 20 with fail
                rw [← hW5]
                clear hW5
                go_wp2_with fail
                refine HBG.out.mono ?_
                rintro e w2 ⟨rfl, hw2⟩
                rw [hw2]
                clear hw2
                go_wp2_with fail
                refine (HBG2.out _).mono ?_
                rintro e w2 ⟨rfl, hw2⟩
                rw [hw2]
                clear hw2
                by_cases hneg : a < 0
                · have HE := hid (show docW (splitL s.data.toList) = ⟨0, 0, 0⟩ by rw [HD3.out, if_pos (.inl hneg)])
                  have HE3 := hid (res_end HR7.out HBL7.out (.int .i64 0) (.int .i64 0) (.int .i64 0))
                  go_wp2_with fail
                  refine bodyPost_ret (Go.results_cell_row rfl _ _ w.heap.size 38 _ _ _ rfl HE3.out.1 Tryd.underlying38 rfl (by kernel_rfl)) rfl ⟨by rw [HE.out], HE3.out.2⟩
                · by_cases hneg2 : p < 0
                  · have HE := hid (show docW (splitL s.data.toList) = ⟨0, 0, 0⟩ by rw [HD3.out, if_pos (.inr hneg2)])
                    have HE3 := hid (res_end HR7.out HBL7.out (.int .i64 0) (.int .i64 0) (.int .i64 0))
                    go_wp2_with fail
                    refine bodyPost_ret (Go.results_cell_row rfl _ _ w.heap.size 38 _ _ _ rfl HE3.out.1 Tryd.underlying38 rfl (by kernel_rfl)) rfl ⟨by rw [HE.out], HE3.out.2⟩
                  · have HE := hid (show docW (splitL s.data.toList) = ⟨(k : Int) + 1, a, p⟩ by rw [HD3.out, if_neg (by omega)])
                    have HE3 := hid (res_end HR7.out HBL7.out (.int .i64 ((k : Int) + 1)) (.int .i64 a) (.int .i64 p))
                    go_wp2_with fail
                    refine bodyPost_ret (Go.results_cell_row rfl _ _ w.heap.size 38 _ _ _ rfl HE3.out.1 Tryd.underlying38 rfl (by kernel_rfl)) rfl ⟨by rw [HE.out], HE3.out.2⟩
          · have HR := hid (show MoR (splitL s.data.toList) (.int .i64 ((k : Int) + 1 + 1)) from ⟨k + 1, by omega, by go_num, hid (fun j hj => by
              rcases Nat.lt_succ_iff_lt_or_eq.1 hj with h | rfl
              · exact HNO.out j h
              · rw [HX0.out, HLN.out]
                exact fun h => hit ⟨(ByteArray.ext (Array.toList_inj.1 h.1)).symm, h.2⟩)⟩)
            have hq : ((wordB ((k : Int) + 1)).toList == x0.toList) = false ∨ (((wordB ((k : Int) + 1)).toList == x0.toList) = true ∧ done.length ≠ manyV ((k : Int) + 1)) := by
              by_cases h1 : wordB ((k : Int) + 1) = x0
              · exact .inr ⟨by rw [h1]; simp, fun h2 => hit ⟨h1, h2⟩⟩
              · exact .inl (by rw [beq_eq_false_iff_ne, ByteArray.toList_eq, ByteArray.toList_eq]; exact fun e => h1 (ByteArray.ext (Array.toList_inj.1 e)))
            clear hit
            cases hA : atB ((k : Int) + 1) with
            | false =>
              cases hK : keepB ((k : Int) + 1) with
              | true => exact absurd (keep_at hK) (by rw [hA]; decide)
              | false =>
                have hmn : manyV ((k : Int) + 1) = 1 := by unfold manyV; rw [hA, hK]; rfl
                rcases hq with hq | ⟨hq, hne⟩
                · go_wp2_with fail
                  refine HMW.out.mono ?_
                  rintro e w2 ⟨rfl, rfl⟩
                  go_wp2_with fail
                  go_roundw
                  case rel => exact ⟨HR.out, hid trivial⟩
                  case measure => simp [intOf]; omega
                · rw [hmn] at hne
                  have hnb : ((done.length : Int) != 1) = true := by rw [bne_iff_ne]; omega
                  go_wp2_with fail
                  refine HMW.out.mono ?_
                  rintro e w2 ⟨rfl, rfl⟩
                  go_wp2_with fail
                  go_roundw
                  case rel => exact ⟨HR.out, hid trivial⟩
                  case measure => simp [intOf]; omega
            | true =>
              cases hK : keepB ((k : Int) + 1) with
              | false =>
                have hmn : manyV ((k : Int) + 1) = 2 := by unfold manyV; rw [hA, hK]; rfl
                rcases hq with hq | ⟨hq, hne⟩
                · go_wp2_with fail
                  refine HMW.out.mono ?_
                  rintro e w2 ⟨rfl, rfl⟩
                  go_wp2_with fail
                  go_roundw
                  case rel => exact ⟨HR.out, hid trivial⟩
                  case measure => simp [intOf]; omega
                · rw [hmn] at hne
                  have hnb : ((done.length : Int) != 2) = true := by rw [bne_iff_ne]; omega
                  go_wp2_with fail
                  refine HMW.out.mono ?_
                  rintro e w2 ⟨rfl, rfl⟩
                  go_wp2_with fail
                  go_roundw
                  case rel => exact ⟨HR.out, hid trivial⟩
                  case measure => simp [intOf]; omega
              | true =>
                have hmn : manyV ((k : Int) + 1) = 3 := by unfold manyV; rw [hA, hK]; rfl
                rcases hq with hq | ⟨hq, hne⟩
                · go_wp2_with fail
                  refine HMW.out.mono ?_
                  rintro e w2 ⟨rfl, rfl⟩
                  go_wp2_with fail
                  go_roundw
                  case rel => exact ⟨HR.out, hid trivial⟩
                  case measure => simp [intOf]; omega
                · rw [hmn] at hne
                  have hnb : ((done.length : Int) != 3) = true := by rw [bne_iff_ne]; omega
                  go_wp2_with fail
                  refine HMW.out.mono ?_
                  rintro e w2 ⟨rfl, rfl⟩
                  go_wp2_with fail
                  go_roundw
                  case rel => exact ⟨HR.out, hid trivial⟩
                  case measure => simp [intOf]; omega
        · obtain rfl : k = 8 := by omega
          have HE := hid (docW_none HNO.out)
          have r0 := Go.Joins.cell_of_block HRS.out 0
          have r1 := Go.Joins.cell_of_block HRS.out 1
          have r2 := Go.Joins.cell_of_block HRS.out 2
          have f0 := Go.Joins.unfrozen_of_block HRS.out 0
          have f1 := Go.Joins.unfrozen_of_block HRS.out 1
          have f2 := Go.Joins.unfrozen_of_block HRS.out 2
          have HE3 := hid (res_end HRS.out HBL.out (.int .i64 0) (.int .i64 0) (.int .i64 0))
          go_wp2_with fail
          refine bodyPost_ret (Go.results_cell_row rfl _ _ w.heap.size 38 _ _ _ rfl HE3.out.1 Tryd.underlying38 rfl (by kernel_rfl)) rfl ⟨by rw [HE.out], HE3.out.2⟩
end Go.Proofs.YtfdaheenigmkmaaDoor
