/- The document's Renamed. -/
import Derived.Test.YtafnbackjjaelaaDoorDiskS
namespace Go.Proofs.YtafnbackjjaelaaDoor
open Go.ChangeShapes Go.WideShapes Go.ChangeAt Go.RowKit
set_option linter.unusedVariables false
def staysM (a b : ByteArray) (x : MFile) : Bool := staysF a b x.f
def nameM (a b : ByteArray) (x : MFile) : MFile := if sameN x.f.name a = true then ⟨x.A, x.c, { x.f with name := b }⟩ else x
theorem nameM_f (a b : ByteArray) (x : MFile) : (nameM a b x).f = nameF a b x.f := by
  unfold nameM nameF; split <;> rfl
theorem files_named (l : List MFile) (a b : ByteArray) : files ((l.filter (staysM a b)).map (nameM a b)) = ((files l).filter (staysF a b)).map (nameF a b) := by
  unfold files
  rw [List.filter_map, List.map_map, List.map_map]
  refine List.map_congr_left fun x _ => ?_
  exact nameM_f a b x
theorem sub_named {l : List MFile} {a b : ByteArray} {k : Nat} : ∀ y ∈ ((l.take k).filter (staysM a b)).map (nameM a b), ∃ x ∈ l, y.A = x.A ∧ y.f.data = x.f.data := fun y hy => by
  obtain ⟨x, hx, rfl⟩ := List.mem_map.1 hy
  refine ⟨x, List.mem_of_mem_take (List.mem_filter.1 hx).1, ?_⟩
  unfold nameM; split <;> exact ⟨rfl, rfl⟩
theorem named_put {l : List MFile} {a b : ByteArray} {k : Nat} {x y : MFile} (hx : l[k]? = some x) (h : staysM a b x = true) (hy : nameM a b x = y) : ((l.take (k + 1)).filter (staysM a b)).map (nameM a b) = ((l.take k).filter (staysM a b)).map (nameM a b) ++ [y] := by
  rw [filter_put hx h, List.map_append]; simp [hy]
def RnmRel (l : List MFile) (a b : ByteArray) (P : Nat) (v : Value) (w : World) (i : Value) (wr : World) : Prop :=
  ∃ (k m c : Nat) (A : Option Addr) (acc : List MFile), k ≤ l.length ∧ i = .int .i64 k ∧ Hid (acc.length = m) ∧ Hid (acc = ((l.take k).filter (staysM a b)).map (nameM a b)) ∧ Hid (m ≤ k) ∧ Heaped MFile.cells noParts wr (P + 2) 67 3 A c acc ∧ Below (P + 1) w wr ∧ P + 2 ≤ wr.heap.size ∧
    wr.cell? ⟨P, 0, none⟩ = some v ∧ wr.cell? ⟨P + 1, 0, none⟩ = some (.slice A m c) ∧ wr.frozen? ⟨P + 1, 0, none⟩ = false
set_option maxRecDepth 100000 in
set_option maxHeartbeats 8000000 in
theorem renamed_walk (l : List MFile) (a n : ByteArray) (w : World) (A : Option Addr) (c : Nat) (hr : Files w w.heap.size A l) (hn : l.length * 48 ≤ 140737488355328) (hm : Okm l) :
    Calls Tryd.prog 34 #[.agg #[.slice A l.length c], .string a, .string n] w (RetD w (renameF (files l) a n).1 (renameF (files l) a n).2) := by
  have b0 := bA (bA (Below.refl w.heap.size w) (.cells #[.slice A l.length c] 38)) (.cells #[.slice none 0 0] 38)
  have HM := hid (DiskMay_walk l _ A c (rdb hr.1 (by decide) b0) (by omega))
  cases hok : okB l with
  | false =>
    rw [renameF_bad hok]
    rw [hok] at HM
    clear hok
    go_enter Tryd.func34, Tryd.ntmps34
    go_wp2_with fail
    refine HM.out.mono ?_
    rintro e w1 ⟨rfl, b1⟩
    have q : w1.cell? ⟨w.heap.size + 1, 0, none⟩ = some (.slice none 0 0) := keepb b1 (by go_simp)
    have qf : ∀ o, w1.frozen? ⟨w.heap.size + 1, o, none⟩ = false := fun o => by rw [(bcell b1).2 _ _ (by simp)]; go_simp
    go_wp2_with fail
    exact bodyPost_ret (v := .tuple #[.agg #[.slice none 0 0], .int .i64 9]) (by simp [results, Tryd.results34, go_sem, *]) rfl (retD_bad _ _ _ (bS (bT b0 b1) (by show w.heap.size ≤ w.heap.size + 1; omega) _))
  | true =>
    rw [hok] at HM
    by_cases hsz : 1 ≤ n.size ∧ n.size ≤ 20
    · have i1 : inB (n.size : Int) 1 20 = true := inB_yes (by omega)
      cases hk : l.findIdx? (named a) with
      | none =>
        rw [renameF_none hok hsz hk]
        clear hsz
        go_enter Tryd.func34, Tryd.ntmps34
        go_wp2_with fail
        refine HM.out.mono ?_
        rintro e w1 ⟨rfl, b1⟩
        have b01 := bT b0 b1
        have g0 : w1.cell? ⟨w.heap.size, 0, none⟩ = some (.slice A l.length c) := keepb b1 (by go_simp)
        have q : w1.cell? ⟨w.heap.size + 1, 0, none⟩ = some (.slice none 0 0) := keepb b1 (by go_simp)
        have qf : ∀ o, w1.frozen? ⟨w.heap.size + 1, o, none⟩ = false := fun o => by rw [(bcell b1).2 _ _ (by simp)]; go_simp
        have qz : w.heap.size + 1 < w1.heap.size := by have := b1.size; simp at this; omega
        have HA := hid (FileAt_walk l a w1 A c (rdb hr.1 (by decide) b01) (by omega))
        rw [hk] at HA
        have hat : (atI none : Int) = -1 := rfl
        rw [hat] at HA
        clear hok hk hat
        go_wp2_with fail
        refine (In_walk _ _ _ _).mono ?_
        rintro e w2 ⟨rfl, rfl⟩
        rw [i1]
        go_wp2_with fail
        refine HA.out.mono ?_
        rintro e w2 ⟨rfl, b2⟩
        have q := keepb b2 q
        have qf : ∀ o, w2.frozen? ⟨w.heap.size + 1, o, none⟩ = false := fun o => keepf b2 (qf o) qz
        go_wp2_with fail
        exact bodyPost_ret (v := .tuple #[.agg #[.slice none 0 0], .int .i64 7]) (by simp [results, Tryd.results34, go_sem, *]) rfl (retD_bad _ _ _ (bS (bT b01 b2) (by show w.heap.size ≤ w.heap.size + 1; omega) _))
      | some k0 =>
        rw [renameF_some hok hsz hk]
        clear hsz
        go_enter Tryd.func34, Tryd.ntmps34
        go_wp2_with fail
        refine HM.out.mono ?_
        rintro e w1 ⟨rfl, b1⟩
        have b01 := bT b0 b1
        have g0 : w1.cell? ⟨w.heap.size, 0, none⟩ = some (.slice A l.length c) := keepb b1 (by go_simp)
        have q : w1.cell? ⟨w.heap.size + 1, 0, none⟩ = some (.slice none 0 0) := keepb b1 (by go_simp)
        have qf : ∀ o, w1.frozen? ⟨w.heap.size + 1, o, none⟩ = false := fun o => by rw [(bcell b1).2 _ _ (by simp)]; go_simp
        have qz : w.heap.size + 1 < w1.heap.size := by have := b1.size; simp at this; omega
        have HA := hid (FileAt_walk l a w1 A c (rdb hr.1 (by decide) b01) (by omega))
        rw [hk] at HA
        have hat : (atI (some k0) : Int) = (k0 : Int) := rfl
        rw [hat] at HA
        clear hok hk hat HM
        go_wp2_with fail
        refine (In_walk _ _ _ _).mono ?_
        rintro e w2 ⟨rfl, rfl⟩
        rw [i1]
        go_wp2_with fail
        refine HA.out.mono ?_
        rintro e w2 ⟨rfl, b2⟩
        have b02 := bT b01 b2
        have g0 := keepb b2 g0
        have q := keepb b2 q
        have qf : ∀ o, w2.frozen? ⟨w.heap.size + 1, o, none⟩ = false := fun o => keepf b2 (qf o) qz
        have qz : w.heap.size + 1 < w2.heap.size := Nat.lt_of_lt_of_le qz b2.size
        have HC := hid (DiskCopy_walk l w2 A c (Files.b hr b02) hn hm.1)
        clear HA
        go_wp2_with fail
        refine HC.out.mono ?_
        rintro e w3 ⟨A1, c1, l1, rfl, hf, hln, hown, b3⟩
        have b03 := bT b02 b3
        have q := keepb b3 q
        have qf : ∀ o, w3.frozen? ⟨w.heap.size + 1, o, none⟩ = false := fun o => keepf b3 (qf o) qz
        have qz3 : w.heap.size + 1 < w3.heap.size := Nat.lt_of_lt_of_le qz b3.size
        have HL1 := hid hown.led
        have HOW := hid hown
        have HF := hid hf
        have HLN := hid hln
        have bX := bA (bA (Below.refl w3.heap.size w3) (.cells #[.slice A1 l.length c1] 38)) (.cells #[.slice none 0 0] 38)
        clear hf hln hown HC
        go_wp2_with fail
        go_loopw [10, 11] (fun i _ wr => RnmRel l1 a n w3.heap.size (.slice A1 l.length c1) ((w3.alloc (.cells #[.slice A1 l.length c1] 38)).alloc (.cells #[.slice none 0 0] 38)) i wr) (fun i _ _ => l.length - (intOf i).toNat)
        case atStart => exact ⟨0, 0, 0, none, [], by omega, rfl, hid rfl, hid (by simp), hid (by omega), Heaped.nil, Below.refl _ _, by simp, by go_simp, by go_simp, by go_simp⟩
        case round =>
          clear g0
          obtain ⟨k, m, c', A', acc, hk, rfl, HAL, HAC, HMK, hown, hbel, hsz, g0, g1, f1⟩ := hrel
          have hl1 : l1.length = l.length := HLN.out
          have hbX := bX.trans (hbel.mono (show w3.heap.size ≤ w3.heap.size + 1 by omega))
          by_cases hlt : k < l.length
          · obtain ⟨x, hx⟩ : ∃ x, l1[k]? = some x := ⟨_, List.getElem?_eq_getElem (by omega)⟩
            have hkz : (k : Int) < (l.length : Int) := by omega
            have HX := hid hx
            obtain ⟨b, off, rfl, hb, d0, d1, d2⟩ := file_cells (HL1.out.1.below hbX) rfl HX.out
            have hbY := bA (Below.refl wr.heap.size wr) (.cells #[.string x.f.name, .slice x.A x.f.data.length x.c, .int .i64 x.f.synced] 67)
            have g0' := keepb hbY g0
            have g1' := keepb hbY g1
            have f1' := keepf hbY f1 (by show w3.heap.size + 1 < wr.heap.size; omega)
            have hown1 := hown.alloc (.cells #[.string x.f.name, .slice x.A x.f.data.length x.c, .int .i64 x.f.synced] 67)
            have hn1 : (m + 1) * 48 ≤ 140737488355328 := by have := HMK.out; omega
            have hz0 : w3.heap.size < wr.heap.size := by omega
            have hz1 : w3.heap.size + 1 < wr.heap.size := by omega
            have hbel2 : Below (w3.heap.size + 1) ((w3.alloc (.cells #[.slice (some ⟨b, off, none⟩) l.length c1] 38)).alloc (.cells #[.slice none 0 0] 38)) (wr.alloc (.cells #[.string x.f.name, .slice x.A x.f.data.length x.c, .int .i64 x.f.synced] 67)) := hbel.trans (hbY.mono (by omega))
            clear hx hl1
            cases hs1 : (x.f.name.toList == n.toList) with
            | true =>
              cases hs2 : (a.toList == n.toList) with
              | false =>
                have HS := hid (filter_skip (p := staysM a n) HX.out (by unfold staysM staysF sameN; rw [hs1, hs2]; rfl))
                go_wp2_with fail
                go_roundw
                case rel => exact ⟨k + 1, m, c', A', acc, by rw [HLN.out]; omega, by go_num, HAL, hid (by rw [HS.out]; exact HAC.out), hid (by have := HMK.out; omega), hown1, hbel2, by have := hbY.size; omega, g0', g1', f1'⟩
                case measure => simp [intOf]; omega
              | true =>
                have hs3 : (x.f.name.toList == a.toList) = true := by
                  have e1 := sameN_iff.1 hs1
                  have e2 := sameN_iff.1 hs2
                  exact sameN_iff.2 (by rw [e1, e2])
                have HS := hid (named_put (a := a) (b := n) (y := ⟨x.A, x.c, { x.f with name := n }⟩) HX.out (by unfold staysM staysF sameN; rw [hs1, hs2]; rfl) (by unfold nameM; rw [if_pos (show sameN x.f.name a = true from hs3)]))
                obtain ⟨W, hW⟩ : ∃ W, W = wr.alloc (.cells #[.string n, .slice x.A x.f.data.length x.c, .int .i64 x.f.synced] 67) := ⟨_, rfl⟩
                have hbZ : Below wr.heap.size wr W := by rw [hW]; exact bA (Below.refl _ _) _
                have u0 : W.cell? ⟨wr.heap.size, 0, none⟩ = some (.string n) := by rw [hW]; go_simp
                have u1 : W.cell? ⟨wr.heap.size, 1, none⟩ = some (.slice x.A x.f.data.length x.c) := by rw [hW]; go_simp
                have u2 : W.cell? ⟨wr.heap.size, 2, none⟩ = some (.int .i64 x.f.synced) := by rw [hW]; go_simp
                have v1 : W.cell? ⟨w3.heap.size + 1, 0, none⟩ = some (.slice A' m c') := keepb hbZ g1
                have v0 := keepb hbZ g0
                have vf := keepf hbZ f1 (by show w3.heap.size + 1 < wr.heap.size; omega)
                have hownW := hown.below hbZ (Nat.le_refl _)
                have hbW := hbel.trans (hbZ.mono (show w3.heap.size + 1 ≤ wr.heap.size by omega))
                have hsW : w3.heap.size + 2 ≤ W.heap.size := by have := hbZ.size; omega
                clear g0' g1' f1' hown1 hbel2
                subst hW
                go_wp2_with (at_builtin; refine wp_heap _ rfl rfl el_files rfl HAL.out.symm (hownW.alloc _) (⟨x.A, x.c, { x.f with name := n }⟩ : MFile) (fun p hp => by cases hp) rfl (rd_newAt _ _ _ 3 1 _ (by simp) rfl) (one_file _) hn1 (Nat.le_trans hsW (by simp)) ?_; intro A2 c2 w4 hown4 hb4 hg4; have hb5 := ((Below.refl _ _).alloc hsW _).trans hb4; have gg0 := (hb5.cell (p := ⟨w3.heap.size, 0, none⟩) (by show w3.heap.size < w3.heap.size + 2; omega)).trans v0; have gg1 := (hb5.cell (p := ⟨w3.heap.size + 1, 0, none⟩) (by show w3.heap.size + 1 < w3.heap.size + 2; omega)).trans v1; have ff1 := (hb5.frozen (p := ⟨w3.heap.size + 1, 0, none⟩) (by show w3.heap.size + 1 < w3.heap.size + 2; omega)).trans vf)
                go_roundw
                case rel => exact ⟨k + 1, m + 1, c2, A2, acc ++ [⟨x.A, x.c, { x.f with name := n }⟩], by rw [HLN.out]; omega, by go_num, hid (by rw [List.length_append, HAL.out]; rfl), hid (by rw [HS.out, HAC.out]), hid (by have := HMK.out; omega), hown4.store (by show w3.heap.size + 1 < w3.heap.size + 2; omega) _, (hbW.trans (hb5.mono (by omega))).setCell (by show w3.heap.size + 1 ≤ w3.heap.size + 1; omega) _, by have := Nat.le_trans hsW hb5.size; simpa using this, (World.cell?_setCell_far _ _ _ _ (by simp)).trans gg0, World.cell?_setCell_same _ _ _ gg1, by simpa using ff1⟩
                case measure => simp [intOf]; omega
            | false =>
              cases hs3 : (x.f.name.toList == a.toList) with
              | true =>
                have HS := hid (named_put (a := a) (b := n) (y := ⟨x.A, x.c, { x.f with name := n }⟩) HX.out (by unfold staysM staysF sameN; rw [hs1]; rfl) (by unfold nameM; rw [if_pos (show sameN x.f.name a = true from hs3)]))
                obtain ⟨W, hW⟩ : ∃ W, W = wr.alloc (.cells #[.string n, .slice x.A x.f.data.length x.c, .int .i64 x.f.synced] 67) := ⟨_, rfl⟩
                have hbZ : Below wr.heap.size wr W := by rw [hW]; exact bA (Below.refl _ _) _
                have u0 : W.cell? ⟨wr.heap.size, 0, none⟩ = some (.string n) := by rw [hW]; go_simp
                have u1 : W.cell? ⟨wr.heap.size, 1, none⟩ = some (.slice x.A x.f.data.length x.c) := by rw [hW]; go_simp
                have u2 : W.cell? ⟨wr.heap.size, 2, none⟩ = some (.int .i64 x.f.synced) := by rw [hW]; go_simp
                have v1 : W.cell? ⟨w3.heap.size + 1, 0, none⟩ = some (.slice A' m c') := keepb hbZ g1
                have v0 := keepb hbZ g0
                have vf := keepf hbZ f1 (by show w3.heap.size + 1 < wr.heap.size; omega)
                have hownW := hown.below hbZ (Nat.le_refl _)
                have hbW := hbel.trans (hbZ.mono (show w3.heap.size + 1 ≤ wr.heap.size by omega))
                have hsW : w3.heap.size + 2 ≤ W.heap.size := by have := hbZ.size; omega
                clear g0' g1' f1' hown1 hbel2
                subst hW
                go_wp2_with (at_builtin; refine wp_heap _ rfl rfl el_files rfl HAL.out.symm (hownW.alloc _) (⟨x.A, x.c, { x.f with name := n }⟩ : MFile) (fun p hp => by cases hp) rfl (rd_newAt _ _ _ 3 1 _ (by simp) rfl) (one_file _) hn1 (Nat.le_trans hsW (by simp)) ?_; intro A2 c2 w4 hown4 hb4 hg4; have hb5 := ((Below.refl _ _).alloc hsW _).trans hb4; have gg0 := (hb5.cell (p := ⟨w3.heap.size, 0, none⟩) (by show w3.heap.size < w3.heap.size + 2; omega)).trans v0; have gg1 := (hb5.cell (p := ⟨w3.heap.size + 1, 0, none⟩) (by show w3.heap.size + 1 < w3.heap.size + 2; omega)).trans v1; have ff1 := (hb5.frozen (p := ⟨w3.heap.size + 1, 0, none⟩) (by show w3.heap.size + 1 < w3.heap.size + 2; omega)).trans vf)
                go_roundw
                case rel => exact ⟨k + 1, m + 1, c2, A2, acc ++ [⟨x.A, x.c, { x.f with name := n }⟩], by rw [HLN.out]; omega, by go_num, hid (by rw [List.length_append, HAL.out]; rfl), hid (by rw [HS.out, HAC.out]), hid (by have := HMK.out; omega), hown4.store (by show w3.heap.size + 1 < w3.heap.size + 2; omega) _, (hbW.trans (hb5.mono (by omega))).setCell (by show w3.heap.size + 1 ≤ w3.heap.size + 1; omega) _, by have := Nat.le_trans hsW hb5.size; simpa using this, (World.cell?_setCell_far _ _ _ _ (by simp)).trans gg0, World.cell?_setCell_same _ _ _ gg1, by simpa using ff1⟩
                case measure => simp [intOf]; omega
              | false =>
                have HS := hid (named_put (a := a) (b := n) (y := x) HX.out (by unfold staysM staysF sameN; rw [hs1]; rfl) (by unfold nameM sameN; rw [if_neg (by rw [hs3]; simp)]))
                obtain ⟨W, hW⟩ : ∃ W, W = wr.alloc (.cells #[.string x.f.name, .slice x.A x.f.data.length x.c, .int .i64 x.f.synced] 67) := ⟨_, rfl⟩
                have hbZ : Below wr.heap.size wr W := by rw [hW]; exact bA (Below.refl _ _) _
                have u0 : W.cell? ⟨wr.heap.size, 0, none⟩ = some (.string x.f.name) := by rw [hW]; go_simp
                have u1 : W.cell? ⟨wr.heap.size, 1, none⟩ = some (.slice x.A x.f.data.length x.c) := by rw [hW]; go_simp
                have u2 : W.cell? ⟨wr.heap.size, 2, none⟩ = some (.int .i64 x.f.synced) := by rw [hW]; go_simp
                have v1 : W.cell? ⟨w3.heap.size + 1, 0, none⟩ = some (.slice A' m c') := keepb hbZ g1
                have v0 := keepb hbZ g0
                have vf := keepf hbZ f1 (by show w3.heap.size + 1 < wr.heap.size; omega)
                have hownW := hown.below hbZ (Nat.le_refl _)
                have hbW := hbel.trans (hbZ.mono (show w3.heap.size + 1 ≤ wr.heap.size by omega))
                have hsW : w3.heap.size + 2 ≤ W.heap.size := by have := hbZ.size; omega
                clear g0' g1' f1' hown1 hbel2
                subst hW
                go_wp2_with (at_builtin; refine wp_heap _ rfl rfl el_files rfl HAL.out.symm (hownW.alloc _) x (fun p hp => by cases hp) rfl (rd_newAt _ _ _ 3 1 _ (by simp) rfl) (one_file _) hn1 (Nat.le_trans hsW (by simp)) ?_; intro A2 c2 w4 hown4 hb4 hg4; have hb5 := ((Below.refl _ _).alloc hsW _).trans hb4; have gg0 := (hb5.cell (p := ⟨w3.heap.size, 0, none⟩) (by show w3.heap.size < w3.heap.size + 2; omega)).trans v0; have gg1 := (hb5.cell (p := ⟨w3.heap.size + 1, 0, none⟩) (by show w3.heap.size + 1 < w3.heap.size + 2; omega)).trans v1; have ff1 := (hb5.frozen (p := ⟨w3.heap.size + 1, 0, none⟩) (by show w3.heap.size + 1 < w3.heap.size + 2; omega)).trans vf)
                go_roundw
                case rel => exact ⟨k + 1, m + 1, c2, A2, acc ++ [x], by rw [HLN.out]; omega, by go_num, hid (by rw [List.length_append, HAL.out]; rfl), hid (by rw [HS.out, HAC.out]), hid (by have := HMK.out; omega), hown4.store (by show w3.heap.size + 1 < w3.heap.size + 2; omega) _, (hbW.trans (hb5.mono (by omega))).setCell (by show w3.heap.size + 1 ≤ w3.heap.size + 1; omega) _, by have := Nat.le_trans hsW hb5.size; simpa using this, (World.cell?_setCell_far _ _ _ _ (by simp)).trans gg0, World.cell?_setCell_same _ _ _ gg1, by simpa using ff1⟩
                case measure => simp [intOf]; omega
          · obtain rfl : k = l.length := by omega
            have hfin : files acc = ((files l).filter (staysF a n)).map (nameF a n) := by
              rw [HAC.out, List.take_of_length_le (by omega), files_named, HF.out]
            have HFIN := hid hfin
            have q := keepb hbX q
            have qf : ∀ o, wr.frozen? ⟨w.heap.size + 1, o, none⟩ = false := fun o => keepf hbX (qf o) qz3
            have hw8 : w.heap.size + 1 ≠ w3.heap.size + 1 := by omega
            clear hfin hl1
            go_wp2_with fail
            refine bodyPost_ret (v := .tuple #[.agg #[.slice A' m c'], .int .i64 0]) (by simp [results, Tryd.results34, go_sem, *]) rfl ?_
            have hml : m = (((files l).filter (staysF a n)).map (nameF a n)).length := by rw [← HFIN.out, files_length, HAL.out]
            refine ⟨A', c', acc, by rw [hml], HFIN.out, ?_, bS (bT b03 hbX) (by show w.heap.size ≤ w.heap.size + 1; omega) _⟩
            exact chosen ((HOW.out.below hbX (Nat.le_refl _)).store (by show w.heap.size + 1 < w2.heap.size; omega) _).led (Below.refl _ _) (by rw [HAC.out]; exact sub_named) (hown.store (by show w.heap.size + 1 < w3.heap.size + 2; omega) _)
    · rw [renameF_size hok hsz]
      have i1 : inB (n.size : Int) 1 20 = false := inB_no (by omega)
      clear hsz hok
      go_enter Tryd.func34, Tryd.ntmps34
      go_wp2_with fail
      refine HM.out.mono ?_
      rintro e w1 ⟨rfl, b1⟩
      have q : w1.cell? ⟨w.heap.size + 1, 0, none⟩ = some (.slice none 0 0) := keepb b1 (by go_simp)
      have qf : ∀ o, w1.frozen? ⟨w.heap.size + 1, o, none⟩ = false := fun o => by rw [(bcell b1).2 _ _ (by simp)]; go_simp
      go_wp2_with fail
      refine (In_walk _ _ _ _).mono ?_
      rintro e w2 ⟨rfl, rfl⟩
      rw [i1]
      go_wp2_with fail
      exact bodyPost_ret (v := .tuple #[.agg #[.slice none 0 0], .int .i64 1]) (by simp [results, Tryd.results34, go_sem, *]) rfl (retD_bad _ _ _ (bS (bT b0 b1) (by show w.heap.size ≤ w.heap.size + 1; omega) _))
end Go.Proofs.YtafnbackjjaelaaDoor
