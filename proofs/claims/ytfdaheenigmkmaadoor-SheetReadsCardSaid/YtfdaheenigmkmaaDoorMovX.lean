/- play.move. -/
import Derived.Test.YtfdaheenigmkmaaDoorMovW
import Derived.Deep.MidRow
import Derived.MapKept
namespace Go.Proofs.YtfdaheenigmkmaaDoor
open Go.RowKit Go.ChangeShapes Go.WideShapes Go.ChangeAt Go.Shelf
set_option linter.unusedVariables false
set_option linter.unusedSimpArgs false
def mvVal (m : Move) : Value := .agg #[.int .i64 m.kind, .int .i64 m.at_, .int .i64 m.keep]
def formC (k : Nat) : List Value := [.string (wordB ((k : Int) + 1)), .bool (atB ((k : Int) + 1)), .bool (keepB ((k : Int) + 1))]
def formsV : List Value := formC 0 ++ formC 1 ++ formC 2 ++ formC 3 ++ formC 4 ++ formC 5 ++ formC 6 ++ formC 7
theorem forms_range (V : World) (h : FormsAt V) : V.rangeAt 0 0 formsV := by
  intro j v hv
  have hj : j < 24 := (List.getElem?_eq_some_iff.1 hv).1
  rw [Nat.zero_add]
  obtain ⟨k, r, hk, hr, rfl⟩ : ∃ k r, k < 8 ∧ r < 3 ∧ j = k * 3 + r := ⟨j / 3, j % 3, by omega, by omega, by omega⟩
  obtain ⟨f0, f1, f2⟩ := h k hk
  have e : formsV[k * 3 + r]? = (formC k)[r]? := by
    rcases (show k = 0 ∨ k = 1 ∨ k = 2 ∨ k = 3 ∨ k = 4 ∨ k = 5 ∨ k = 6 ∨ k = 7 by omega) with rfl | rfl | rfl | rfl | rfl | rfl | rfl | rfl <;> rcases (show r = 0 ∨ r = 1 ∨ r = 2 by omega) with rfl | rfl | rfl <;> rfl
  rw [e] at hv
  rcases (show r = 0 ∨ r = 1 ∨ r = 2 by omega) with rfl | rfl | rfl
  · have : v = _ := (Option.some.inj hv).symm
    subst this; exact f0
  · have : v = _ := (Option.some.inj hv).symm
    subst this; exact f1
  · have : v = _ := (Option.some.inj hv).symm
    subst this; exact f2
theorem forms_ix (k : Nat) (hk : k < 8) (V : World) : (Instr.index 56 (.agg formsV.toArray) (.int .i64 (k : Nat))).run Tryd.prog V = .ok (.agg #[.string (wordB ((k : Int) + 1)), .bool (atB ((k : Int) + 1)), .bool (keepB ((k : Int) + 1))]) V := by
  rcases (show k = 0 ∨ k = 1 ∨ k = 2 ∨ k = 3 ∨ k = 4 ∨ k = 5 ∨ k = 6 ∨ k = 7 by omega) with rfl | rfl | rfl | rfl | rfl | rfl | rfl | rfl <;> kernel_rfl
def wordTo (w : List UInt8) (i : Nat) : Int := if kindW w ≤ i then kindW w else 0
theorem wordTo_hit {w : List UInt8} {i : Nat} (hi : i < 8) (h : w = wordL ((i : Int) + 1)) : wordTo w (i + 1) = (i : Int) + 1 := by
  unfold wordTo; rw [h, kindW_word (by omega) (by omega), if_pos (by omega)]
theorem wordTo_miss {w : List UInt8} {i : Nat} (h : w ≠ wordL ((i : Int) + 1)) : wordTo w (i + 1) = wordTo w i := by
  unfold wordTo
  by_cases h2 : kindW w = (i : Int) + 1
  · exact absurd (by have := kindW_inv (w := w) (by omega); rwa [h2] at this) h
  · by_cases h3 : kindW w ≤ i
    · rw [if_pos (by omega), if_pos h3]
    · rw [if_neg (by omega), if_neg h3]
theorem wordTo_0 (w : List UInt8) : wordTo w 0 = 0 := by
  have := kindW_range w
  unfold wordTo; split <;> omega
theorem wordTo_8 (w : List UInt8) : wordTo w 8 = kindW w := by
  have := kindW_range w
  unfold wordTo; rw [if_pos (by omega)]
structure Mv (w : World) (T : TypeId) (ws : List ByteArray) (k a p : Int) (wr : World) : Prop where
  res : wr.heap[w.heap.size]? = some (.cells #[.int .i64 0, .int .i64 0, .int .i64 0] T (0, 0))
  blk : wr.heap[w.heap.size + 1]? = some (.cells #[.int .i64 k, .int .i64 a, .int .i64 p] T (0, 0))
  row : Rd wr wr.heap.size (some ⟨w.heap.size + 1 + 1, 0, none⟩) 1 ws.length (ws.map Value.string)
  bel : Below w.heap.size w wr
theorem Mv.below {w : World} {T : TypeId} {ws : List ByteArray} {k a p : Int} {wr V : World} (h : Mv w T ws k a p wr) (hb : Below wr.heap.size wr V) : Mv w T ws k a p V :=
  ⟨(hb.block _ (Array.getElem?_eq_some_iff.1 h.res).1).trans h.res, (hb.block _ (Array.getElem?_eq_some_iff.1 h.blk).1).trans h.blk, (h.row.below hb).any (by decide), bT h.bel hb⟩
theorem Mv.cell {w : World} {T : TypeId} {ws : List ByteArray} {k a p : Int} {wr : World} (h : Mv w T ws k a p wr) : wr.cell? ⟨w.heap.size + 1, 0, none⟩ = some (.int .i64 k) ∧ wr.cell? ⟨w.heap.size + 1, 1, none⟩ = some (.int .i64 a) ∧ wr.cell? ⟨w.heap.size + 1, 2, none⟩ = some (.int .i64 p) ∧ ∀ o, wr.frozen? ⟨w.heap.size + 1, o, none⟩ = false :=
  ⟨by rw [Go.Joins.cell_of_block h.blk]; rfl, by rw [Go.Joins.cell_of_block h.blk]; rfl, by rw [Go.Joins.cell_of_block h.blk]; rfl, fun o => Go.Joins.unfrozen_of_block h.blk o⟩
theorem Mv.word {w : World} {T : TypeId} {ws : List ByteArray} {k a p : Int} {wr : World} (h : Mv w T ws k a p wr) {i : Nat} {x : ByteArray} (hx : ws[i]? = some x) : wr.cell? ⟨w.heap.size + 1 + 1, i, none⟩ = some (.string x) := by
  have hl := (List.getElem?_eq_some_iff.1 hx).1
  obtain ⟨b, off, e, _, hc⟩ := h.row.2 (by omega)
  have h1 := hc i (.string x) (by rw [List.getElem?_map, hx]; rfl)
  simp only [Option.some.injEq, Addr.mk.injEq, and_true] at e
  obtain ⟨rfl, rfl⟩ := e
  simpa using h1
theorem Mv.store {w : World} {T : TypeId} {ws : List ByteArray} {k a p : Int} {wr : World} (h : Mv w T ws k a p wr) (i : Nat) (x : Int) {k' a' p' : Int} (he : (#[Value.int .i64 k, .int .i64 a, .int .i64 p].setIfInBounds i (.int .i64 x)) = #[.int .i64 k', .int .i64 a', .int .i64 p']) : Mv w T ws k' a' p' (wr.setCell ⟨w.heap.size + 1, i, none⟩ (.int .i64 x)) := by
  refine ⟨?_, ?_, ?_, bS h.bel (by simp) _⟩
  · rw [show (wr.setCell ⟨w.heap.size + 1, i, none⟩ (.int .i64 x)).heap[w.heap.size]? = wr.heap[w.heap.size]? by simp only [World.setCell, Array.getElem?_modify]; rw [if_neg (by omega)]]
    exact h.res
  · rw [Go.Joins.block_setCell h.blk, he]
  · refine ⟨h.row.1, fun hn => ?_⟩
    obtain ⟨b, off, e, hb, hc⟩ := h.row.2 hn
    simp only [Option.some.injEq, Addr.mk.injEq, and_true] at e
    obtain ⟨rfl, rfl⟩ := e
    exact ⟨_, _, rfl, by simpa using hb, fun j u hu => by rw [World.cell?_setCell_other _ _ _ _ (by simp)]; exact hc j u hu⟩
theorem move_end {w : World} {T : TypeId} {ws : List ByteArray} {k a p : Int} {wr : World} (h : Mv w T ws k a p wr) :
    (((wr.setCell ⟨w.heap.size, 0, none⟩ (.int .i64 k)).setCell ⟨w.heap.size, 1, none⟩ (.int .i64 a)).setCell ⟨w.heap.size, 2, none⟩ (.int .i64 p)).heap[w.heap.size]? = some (.cells #[.int .i64 k, .int .i64 a, .int .i64 p] T (0, 0)) ∧
    Below w.heap.size w (((wr.setCell ⟨w.heap.size, 0, none⟩ (.int .i64 k)).setCell ⟨w.heap.size, 1, none⟩ (.int .i64 a)).setCell ⟨w.heap.size, 2, none⟩ (.int .i64 p)) :=
  ⟨Go.Joins.block_setCell (Go.Joins.block_setCell (Go.Joins.block_setCell h.res _) _) _, bS (bS (bS h.bel (Nat.le_refl _) _) (Nat.le_refl _) _) (Nat.le_refl _) _⟩
def MvA (w : World) (T : TypeId) (ws : List ByteArray) (w0 : List UInt8) (v15 : Value) (wr : World) : Prop :=
  ∃ i : Nat, i ≤ 8 ∧ v15 = .int .i64 (i : Nat) ∧ Hid (Mv w T ws (wordTo w0 i) 0 0 wr)
def atTo (ws : List ByteArray) (j : Nat) : Int := if 0 < j then atoiV (ws.getD 1 ⟨#[]⟩).data.toList else 0
def keepTo (ws : List ByteArray) (j : Nat) : Int := if 1 < j then atoiV (ws.getD j ⟨#[]⟩).data.toList else 0
def MvB (w : World) (T : TypeId) (ws : List ByteArray) (k : Int) (v32 : Value) (wr : World) : Prop :=
  ∃ j : Nat, j + 1 ≤ ws.length ∧ v32 = .int .i64 (j : Nat) ∧ Hid (Mv w T ws k (atTo ws j) (keepTo ws j) wr)
theorem splitW_size (s x : ByteArray) (h : x ∈ splitW s) : x.size ≤ s.size := by
  have h1 : x.data.toList ∈ splitL s.data.toList := by rw [← splitW_data]; exact List.mem_map.2 ⟨x, h, rfl⟩
  have h2 := splitL_len _ _ h1
  rw [Array.length_toList, Array.length_toList] at h2
  exact h2
set_option maxRecDepth 100000 in
set_option maxHeartbeats 8000000 in
theorem move_walk (s : ByteArray) (w : World) (hs : s.size ≤ 5000000) (hf : FormsAt w) (he : ErrsAt w) : Calls Tryd.prog 12 #[.string s] w fun e w' => e = .returned (mvVal (moveOfL s.data.toList)) ∧ Below w.heap.size w w' := by
  obtain ⟨s', hs'⟩ : ∃ s' : ByteArray, s' = ⟨(trimL s.data.toList).toArray⟩ := ⟨_, rfl⟩
  have HTR := hid (fun V => show Calls Tryd.prog 22 #[.string s, .string ⟨#[10]⟩] V fun e w' => e = .returned (.string s') ∧ w' = V from by rw [hs']; exact Tryd.strings_TrimSuffix s ⟨#[10]⟩ V (by omega))
  have hsz' : s'.size ≤ 5000000 := by
    rw [hs']
    have h1 : (trimL s.data.toList).length ≤ s.data.toList.length := by unfold trimL Lib.trimSuffix; split <;> simp
    have h2 : s.data.toList.length = s.size := by rw [Array.length_toList]; rfl
    have h3 : (⟨(trimL s.data.toList).toArray⟩ : ByteArray).size = (trimL s.data.toList).length := by show (trimL s.data.toList).toArray.size = _; simp
    omega
  have HSP := hid (fun V => show Calls Tryd.prog 21 #[.string s', .string ⟨#[32]⟩] V _ from split_calls s' V (by omega))
  have HF := hid hf
  have HE := hid he
  have HS' := hid hs'
  clear hf he hs'
  go_enter Tryd.func12, Tryd.ntmps12
  go_upto_region 3 with fail
  refine (HTR.out _).mono ?_
  rintro e w1 ⟨rfl, rfl⟩
  go_upto_region 3 with fail
  refine (HSP.out _).mono ?_
  rintro e w1 ⟨rfl, rfl⟩
  go_upto_region 3 with fail
  obtain ⟨W, hW⟩ : ∃ W, W = ((w.alloc (.cells #[.int .i64 0, .int .i64 0, .int .i64 0] 38)).alloc (.cells #[.int .i64 0, .int .i64 0, .int .i64 0] 38)).alloc (.cells ((splitW s').map Value.string).toArray 9) := ⟨_, rfl⟩
  rw [← hW]
  have HBW := hid (show Below w.heap.size w W by rw [hW]; exact bA (bA (bA (Below.refl _ _) _) _) _)
  have HMV := hid (show Mv w 38 (splitW s') 0 0 0 W by
    refine ⟨?_, ?_, ?_, HBW.out⟩
    · rw [hW]; exact (Below.heap_alloc _ _ _ (by simp; omega)).trans ((Below.heap_alloc _ _ _ (by simp)).trans (heap_alloc_new w _))
    · rw [hW]; exact (Below.heap_alloc _ _ _ (by simp)).trans (by have := heap_alloc_new (w.alloc (.cells #[.int .i64 0, .int .i64 0, .int .i64 0] 38)) (.cells #[.int .i64 0, .int .i64 0, .int .i64 0] 38); simpa using this)
    · have h := rd_new ((w.alloc (.cells #[.int .i64 0, .int .i64 0, .int .i64 0] 38)).alloc (.cells #[.int .i64 0, .int .i64 0, .int .i64 0] 38)) ((splitW s').map Value.string).toArray 9 1 (splitW s').length (by simp)
      rw [← hW] at h
      have h2 : ((w.alloc (.cells #[.int .i64 0, .int .i64 0, .int .i64 0] 38)).alloc (.cells #[.int .i64 0, .int .i64 0, .int .i64 0] 38)).heap.size = w.heap.size + 1 + 1 := by simp
      rw [h2] at h
      exact h.any (by decide))
  have HFW := hid (HF.out.below HBW.out)
  clear hW
  have HRG := hid (forms_range W HFW.out)
  go_upto_region 4 with (refine Go.wpList_load_mid rfl 56 _ rfl 0 0 rfl formsV _ HRG.out Tryd.underlying56 rfl (by kernel_rfl) ?_)
  obtain ⟨ws, hws⟩ : ∃ ws, ws = splitW s' := ⟨_, rfl⟩
  have HWS := hid hws
  rw [← hws] at HMV ⊢
  clear hws HSP HTR HRG HFW
  obtain ⟨x0, rest, hxr⟩ : ∃ x0 rest, ws = x0 :: rest := by
    cases h : ws with
    | nil => have := splitW_len s'; rw [← HWS.out, h] at this; simp at this
    | cons x r => exact ⟨x, r, rfl⟩
  have HX := hid hxr
  have hx0 : ws[0]? = some x0 := by rw [hxr]; rfl
  have HX0 := hid hx0
  have hwl : 0 < ws.length := by rw [hxr]; simp
  have hwz : 0 < (ws.length : Int) := by omega
  clear hxr hx0
  go_loopw [15] (fun v15 wr => MvA w 38 ws x0.data.toList v15 wr) (fun v15 _ => 8 - (intOf v15).toNat)
  case atStart => exact ⟨0, by decide, rfl, hid (by rw [wordTo_0]; exact HMV.out)⟩
  case round =>
    clear HMV HBW
    obtain ⟨i, hi, rfl, HM⟩ := hrel
    by_cases hlt : i < 8
    · have hiz : (i : Int) < 8 := by omega
      have HIX := hid (forms_ix i hlt)
      obtain ⟨W5, hW5⟩ : ∃ W5, W5 = wr.alloc (.cells #[.string (wordB ((i : Int) + 1)), .bool (atB ((i : Int) + 1)), .bool (keepB ((i : Int) + 1))] 55) := ⟨_, rfl⟩
      have HB5 := hid (show Below wr.heap.size wr W5 by rw [hW5]; exact bA (Below.refl _ _) _)
      have HM5 := hid (HM.out.below HB5.out)
      have f0 : W5.cell? ⟨wr.heap.size, 0, none⟩ = some (.string (wordB ((i : Int) + 1))) := by rw [hW5]; go_simp
      have g0 := HM5.out.word HX0.out
      obtain ⟨k0, _, _, kf⟩ := HM5.out.cell
      have kf0 := kf 0
      clear kf
      have hwr : IntKind.i64.wrap ((i : Int) + 1) = (i : Int) + 1 := IntWalk.i64_in _ (by omega)
      by_cases heq : wordB ((i : Int) + 1) = x0
      · have hbq : ((wordB ((i : Int) + 1)).toList == x0.toList) = true := by rw [heq]; simp
        have HR := hid (fun q => show MvA w 38 ws x0.data.toList (.int .i64 ((i : Int) + 1)) ((W5.drewN q).setCell ⟨w.heap.size + 1, 0, none⟩ (.int .i64 ((i : Int) + 1))) from ⟨i + 1, by omega, by go_num, (HM5.out.below (bN (Below.refl _ _) q)).store 0 _ (by rw [wordTo_hit hlt (by rw [← heq]; rfl)]; rfl)⟩)
        clear heq
        go_upto_region 6 with (first | rw [HIX.out])
        rw [← hW5]
        clear hW5
        go_quiet (fail)
        go_wp2_with fail
        go_roundw
        case rel => exact HR.out _
        case measure => simp [intOf]; omega
      · have hbq : ((wordB ((i : Int) + 1)).toList == x0.toList) = false := by rw [beq_eq_false_iff_ne, ByteArray.toList_eq, ByteArray.toList_eq]; exact fun e => heq (ByteArray.ext (Array.toList_inj.1 e))
        have HR := hid (fun q => show MvA w 38 ws x0.data.toList (.int .i64 ((i : Int) + 1)) (W5.drewN q) from ⟨i + 1, by omega, by go_num, by rw [wordTo_miss (fun e => heq (by apply ByteArray.ext; apply Array.toList_inj.1; exact e.symm))]; exact HM5.out.below (bN (Below.refl _ _) q)⟩)
        clear heq
        go_upto_region 6 with (first | rw [HIX.out])
        rw [← hW5]
        clear hW5
        go_quiet (fail)
        go_wp2_with fail
        go_roundw
        case rel => exact HR.out _
        case measure => simp [intOf]; omega
    · obtain rfl : i = 8 := by omega
      obtain ⟨k, hk⟩ : ∃ k, k = kindW x0.data.toList := ⟨_, rfl⟩
      have HMV := hid (show Mv w 38 ws k 0 0 wr by rw [hk, ← wordTo_8]; exact HM.out)
      have HKW := hid hk
      clear hk HM
      have HAT := hid (fun (V : World) (x : ByteArray) (hx : x ∈ ws) (hV : Below w.heap.size w V) => atoi_calls x V (by have := splitW_size s' x (by rw [← HWS.out]; exact hx); omega) (HE.out.below hV))
      have HFIN := hid (show ∀ j, j + 1 = ws.length → mvVal ⟨k, atTo ws j, keepTo ws j⟩ = mvVal (moveOfL s.data.toList) from fun j hj => by
        have h1 : splitL (trimL s.data.toList) = ws.map (·.data.toList) := by rw [HWS.out, splitW_data, HS'.out]
        unfold moveOfL moveW
        rw [h1, List.length_map, HKW.out, HX.out]
        unfold atTo keepTo
        rw [HX.out, List.length_cons] at hj
        have hj2 : j = rest.length := by omega
        subst hj2
        simp only [List.map_cons, List.headD_cons, List.length_cons, Nat.add_sub_cancel]
        have e1 : ∀ i, (x0.data.toList :: rest.map (·.data.toList)).getD i [] = ((x0 :: rest).getD i ⟨#[]⟩).data.toList := fun i => by
          rw [← List.map_cons (f := fun x : ByteArray => x.data.toList), List.getD_eq_getElem?_getD, List.getD_eq_getElem?_getD, List.getElem?_map]
          cases (x0 :: rest)[i]? <;> rfl
        rw [e1, e1]
        have e2 : (0 < rest.length) = (1 < rest.length + 1) := by rw [eq_iff_iff]; omega
        have e3 : (1 < rest.length) = (2 < rest.length + 1) := by rw [eq_iff_iff]; omega
        simp only [e2, e3])
      clear HX HKW
      by_cases hone : ws.length = 1
      · have HF1 := hid (HFIN.out 0 (by omega))
        have HM1 := hid (show Mv w 38 ws k (atTo ws 0) (keepTo ws 0) wr from HMV.out)
        clear HFIN HMV
        go_upto_region 10 with fail
        go_loopw [32] (fun v32 wr => v32 = .int .i64 0 ∧ Hid (Mv w 38 ws k (atTo ws 0) (keepTo ws 0) wr)) (fun v32 _ => 0)
        case atStart => exact ⟨rfl, HM1⟩
        case round =>
          clear HM1
          obtain ⟨rfl, HM⟩ := hrel
          obtain ⟨k0, k1, k2, kf⟩ := HM.out.cell
          have r0 := Go.Joins.unfrozen_of_block HM.out.res 0
          have r1 := Go.Joins.unfrozen_of_block HM.out.res 1
          have r2 := Go.Joins.unfrozen_of_block HM.out.res 2
          have q0 := Go.Joins.cell_of_block HM.out.res 0
          have q1 := Go.Joins.cell_of_block HM.out.res 1
          have q2 := Go.Joins.cell_of_block HM.out.res 2
          have HE3 := hid (move_end HM.out)
          clear HM kf
          go_wp2_with fail
          refine bodyPost_ret (Go.results_cell_row rfl _ _ w.heap.size 38 _ _ _ rfl HE3.out.1 Tryd.underlying38 rfl (by kernel_rfl)) rfl ⟨by rw [← HF1.out]; rfl, HE3.out.2⟩
      · have hw2 : 1 < ws.length := by omega
        have hw2z : (1 : Int) < (ws.length : Int) := by omega
        go_upto_region 10 with fail
        go_loopw [32] (fun v32 wr => MvB w 38 ws k v32 wr) (fun v32 _ => ws.length - (intOf v32).toNat)
        case atStart => exact ⟨0, by omega, rfl, HMV⟩
        case round =>
          clear HMV
          obtain ⟨j, hj, rfl, HM⟩ := hrel
          by_cases hlt : j + 1 < ws.length
          · have hjz : (j : Int) < ((ws.length - 1 : Nat) : Int) := by omega
            obtain ⟨x, hx⟩ : ∃ x, ws[1 + j]? = some x := ⟨_, List.getElem?_eq_getElem (by omega)⟩
            have g0 := HM.out.word hx
            have HA := hid (HAT.out wr x (List.mem_of_getElem? hx) HM.out.bel)
            have HXD := hid (show ws.getD (j + 1) ⟨#[]⟩ = x by rw [List.getD_eq_getElem?_getD, Nat.add_comm, hx]; rfl)
            have hwr : IntKind.i64.wrap ((j : Int) + 1) = (j : Int) + 1 := by
              have : ws.length ≤ 5000001 := by rw [HWS.out, splitW_len]; have := Lib.countB_le spB (by decide) s'.size s' (Nat.le_refl _); omega
              exact IntWalk.i64_in _ (by omega)
            clear hx
            go_wp2_with fail
            refine HA.out.mono ?_
            rintro e w1 ⟨⟨ev, rfl, _⟩, b1⟩
            have HM1 := hid (HM.out.below b1)
            obtain ⟨k0, k1, k2, kf⟩ := HM1.out.cell
            have kf1 := kf 1
            have kf2 := kf 2
            clear kf b1 g0 HA
            by_cases h0 : j = 0
            · subst h0
              have HR := hid (show MvB w 38 ws k (.int .i64 1) (w1.setCell ⟨w.heap.size + 1, 1, none⟩ (.int .i64 (atoiV x.data.toList))) from ⟨1, by omega, rfl, HM1.out.store 1 _ (by rw [← HXD.out]; rfl)⟩)
              go_wp2_with fail
              go_roundw
              case rel => exact ⟨_, _, _, _, _, _, _, _, _, _, _, _, _, _, _, _, _, _, _, _, _, HR.out, rfl⟩
              case measure => simp [intOf]; omega
            · have h0z : ((j : Int) == 0) = false := by simpa using h0
              have HR := hid (show MvB w 38 ws k (.int .i64 ((j : Int) + 1)) (w1.setCell ⟨w.heap.size + 1, 2, none⟩ (.int .i64 (atoiV x.data.toList))) from ⟨j + 1, by omega, by go_num, HM1.out.store 2 _ (by
                unfold keepTo atTo
                rw [if_pos (show 0 < j by omega), if_pos (show 0 < j + 1 by omega), if_pos (show 1 < j + 1 by omega), HXD.out]; rfl)⟩)
              go_wp2_with fail
              go_roundw
              case rel => exact ⟨_, _, _, _, _, _, _, _, _, _, _, _, _, _, _, _, _, _, _, _, _, HR.out, rfl⟩
              case measure => simp [intOf]; omega
          · have hjz : ¬ (j : Int) < ((ws.length - 1 : Nat) : Int) := by omega
            have HF1 := hid (HFIN.out j (by omega))
            obtain ⟨k0, k1, k2, kf⟩ := HM.out.cell
            have r0 := Go.Joins.unfrozen_of_block HM.out.res 0
            have r1 := Go.Joins.unfrozen_of_block HM.out.res 1
            have r2 := Go.Joins.unfrozen_of_block HM.out.res 2
            have q0 := Go.Joins.cell_of_block HM.out.res 0
            have q1 := Go.Joins.cell_of_block HM.out.res 1
            have q2 := Go.Joins.cell_of_block HM.out.res 2
            have HE3 := hid (move_end HM.out)
            clear HFIN HM kf
            go_wp2_with fail
            refine bodyPost_ret (Go.results_cell_row rfl _ _ w.heap.size 38 _ _ _ rfl HE3.out.1 Tryd.underlying38 rfl (by kernel_rfl)) rfl ⟨by rw [← HF1.out]; rfl, HE3.out.2⟩
end Go.Proofs.YtfdaheenigmkmaaDoor
