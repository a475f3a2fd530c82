/- The statement on merge.Lists. -/
import Derived.Test.YtifpngjipkmdcaaMgR
import Derived.Test.YtifpngjipkmdcaaStateD
import Derived.Test.YtifpngjipkmdcaaRegF
namespace Go.Proofs.Ytifpngjipkmdcaa
open Go.ChangeShapes Go.WideShapes Go.ChangeAt Go.RowKit
set_option linter.unusedVariables false
set_option linter.unusedSimpArgs false
abbrev rowsOf {α : Type} (l : List (ML α)) : List (List α) := l.map ML.l
theorem rows_snoc {α : Type} {m acc : List (ML α)} {k : Nat} {x : ML α} (A : Option Addr) (c : Nat) (h : rowsOf acc = rowsOf (m.take k)) (hx : m[k]? = some x) : rowsOf (acc ++ [⟨A, c, x.l⟩]) = rowsOf (m.take (k + 1)) := by
  rw [take_nextV hx]; unfold rowsOf at *; rw [List.map_append, List.map_append, h]; rfl
theorem one_rowV {α : Type} (x : ML α) : ∀ u ∈ x.cells, u.oneCell' = true := by
  intro u hu; simp [ML.cells] at hu; subst hu; rfl
theorem rows_at {α : Type} {l m : List (ML α)} (h : rowsOf m = rowsOf l) {k : Nat} {x : ML α} (hx : l[k]? = some x) : ∃ y, m[k]? = some y ∧ y.l = x.l := by
  have h2 : (rowsOf m)[k]? = (rowsOf l)[k]? := by rw [h]
  unfold rowsOf at h2
  rw [List.getElem?_map, List.getElem?_map, hx] at h2
  cases hm : m[k]? with
  | none => rw [hm] at h2; cases h2
  | some y => rw [hm] at h2; injection h2 with h2; exact ⟨y, rfl, h2⟩
theorem rows_len {α : Type} {l m : List (ML α)} (h : rowsOf m = rowsOf l) : m.length = l.length := by
  have := congrArg List.length h; simpa [rowsOf] using this
theorem catL_rows (l : List (ML Mail)) : catL l = (rowsOf l).flatten := by unfold catL rowsOf; rw [List.flatMap_def]
theorem lensGo_congr : ∀ (l m : List (ML Mail)) (a : Int), rowsOf l = rowsOf m → lensGo l a = lensGo m a
  | [], [], _, _ => rfl
  | [], _ :: _, _, h => by cases h
  | _ :: _, [], _, h => by cases h
  | x :: l, y :: m, a, h => by
    unfold rowsOf at h
    rw [List.map_cons, List.map_cons] at h
    injection h with h1 h2
    rw [lensGo, lensGo, h1]
    exact lensGo_congr l m _ h2
theorem mergeL_congr {l m : List (ML Mail)} (h : rowsOf l = rowsOf m) : mergeL l = mergeL m := by
  have e1 := lensGo_congr l m 0 h
  have e2 := rows_len h
  have e3 : catL l = catL m := by rw [catL_rows, catL_rows, h]
  have e4 : (∀ x ∈ l, ordB x.l = true) ↔ (∀ x ∈ m, ordB x.l = true) := by
    have k : ∀ q : List (ML Mail), (∀ x ∈ q, ordB x.l = true) ↔ ∀ y ∈ rowsOf q, ordB y = true := fun q => by simp [rowsOf]
    rw [k, k, h]
  by_cases h1 : 5000 < lensGo l 0 ∨ 5000 < l.length
  · rw [mergeL_big h1, mergeL_big (by rw [← e1, ← e2]; exact h1)]
  · have h2 : ¬ (5000 < lensGo m 0 ∨ 5000 < m.length) := by rw [← e1, ← e2]; exact h1
    by_cases h3 : ∀ x ∈ l, ordB x.l = true
    · rw [mergeL_ok h1 h3, mergeL_ok h2 (e4.1 h3), e3]
    · obtain ⟨x, hx, hb⟩ : ∃ x ∈ l, ordB x.l = false := by
        by_cases hh : ∃ x ∈ l, ordB x.l = false
        · exact hh
        · exact absurd (fun x hx => by
            cases ho : ordB x.l with
            | true => rfl
            | false => exact absurd ⟨x, hx, ho⟩ hh) h3
      have h4 : ¬ ∀ x ∈ m, ordB x.l = true := fun h => h3 (e4.2 h)
      obtain ⟨y, hy, hb2⟩ : ∃ x ∈ m, ordB x.l = false := by
        by_cases hh : ∃ x ∈ m, ordB x.l = false
        · exact hh
        · exact absurd (fun x hx => by
            cases ho : ordB x.l with
            | true => rfl
            | false => exact absurd ⟨x, hx, ho⟩ hh) h4
      rw [mergeL_form h1 hx hb, mergeL_form h2 hy hb2]
theorem mergeL_len (l : List (ML Mail)) (hz : ∀ x ∈ l, x.l.length ≤ 140737488355328) : (mergeL l).1.length ≤ 5000 := by
  unfold mergeL
  split
  · simp
  · split
    · rename_i h _; show (srtOf mlt (catL l)).length ≤ 5000; rw [srtOf_len]; exact lensGo_cat hz h
    · simp
abbrev MGrid (w : World) (base : Nat) (A : Option Addr) (c : Nat) (l : List (ML Mail)) : Prop := OwnGrid ML.cells id Mail.cells 35 62 1 2 w base A c l
def LcR (l : List (ML Mail)) (w : World) (sv iv : Value) (wr : World) : Prop :=
  ∃ (k c : Nat) (A : Option Addr) (acc : List (ML Mail)), k ≤ l.length ∧ iv = .int .i64 (k : Nat) ∧ sv = .slice A k c ∧ Hid (acc.length = k) ∧ Hid (rowsOf acc = rowsOf (l.take k)) ∧ Hid (MGrid wr w.heap.size A c acc) ∧ Below w.heap.size w wr
def RetLC (w : World) (l : List (ML Mail)) (e : Ending) (w' : World) : Prop :=
  ∃ A' c' m, e = .returned (.slice A' l.length c') ∧ m.length = l.length ∧ rowsOf m = rowsOf l ∧ MGrid w' w.heap.size A' c' m ∧ Below w.heap.size w w'
set_option maxRecDepth 100000 in
set_option maxHeartbeats 4000000 in
theorem lists_copy (l : List (ML Mail)) (w : World) (A : Option Addr) (c : Nat) (hg : Grid Mail.cells 2 w w.heap.size A l) (hl : l.length * 24 ≤ 140737488355328) (hz : ∀ x ∈ l, x.l.length * 16 ≤ 140737488355328) :
    Calls Try.prog 15 #[.slice A l.length c] w (RetLC w l) := by
  have HG := hid hg
  have HZ := hid hz
  clear hg hz
  go_enter Try.func15, Try.ntmps15
  go_wp2_with fail
  go_loopw [3, 4] (fun sv iv wr => LcR l w sv iv wr) (fun _ iv _ => l.length - (intOf iv).toNat)
  case atStart => exact ⟨0, 0, none, [], Nat.zero_le _, rfl, rfl, hid rfl, hid rfl, hid OwnGrid.nil, Below.refl _ _⟩
  case round =>
    obtain ⟨k, c1, A1, acc, hk, rfl, rfl, HAL, HRW, HGR, hbel⟩ := hrel
    have hbs := hbel.size
    by_cases hlt : k < l.length
    · obtain ⟨x, hx⟩ : ∃ x, l[k]? = some x := ⟨_, List.getElem?_eq_getElem hlt⟩
      have hxm := List.mem_of_getElem? hx
      obtain ⟨b, off, rfl, hb, c0⟩ := ml_cell (HG.out.1.below hbel) rfl hx
      have hkz : (k : Int) < (l.length : Int) := by omega
      have HM := hid (mails_copy x.l wr x.A x.l.length x.c _ ((Grid.data HG.out hxm).below hbel) (HZ.out x hxm))
      have HRN := hid (fun A c => rows_snoc A c HRW.out hx)
      have hSZ : (k + 1) * 24 ≤ 140737488355328 := by omega
      clear hx hxm HRW
      go_wp2_with fail
      refine HM.out.mono ?_
      rintro e w1 ⟨A2, c2, rfl, o2, b2⟩
      have HO2 := hid (own_more (base' := w.heap.size) o2 hbs)
      have HG1 := hid (HGR.out.below b2 (Nat.le_refl _))
      have HAS : Hid (Aside id A1 c1 acc (id (⟨A2, c2, x.l⟩ : ML Mail))) := hid (OwnGrid.aside HGR.out (base' := wr.heap.size) o2 (Nat.le_refl _))
      have HB2 := hid (bT hbel b2)
      have hz2 := b2.size
      clear o2 b2 HGR
      go_wp2_with (at_builtin; refine wp_grid (cells := Mail.cells) (inner := id) (sz := 2) _ rfl rfl el_grid_mail rfl HAL.out.symm (HG1.out.alloc _) (⟨A2, c2, x.l⟩ : ML Mail) (own_below HO2.out (bA (Below.refl _ _) _) (Nat.le_refl _)) HAS.out rfl (rd_new _ _ _ 1 1 rfl) (one_rowV _) hSZ (by simp; omega) ?_; intro A5 c5 w5 o5 b5 g5)
      have HO5 := hid o5
      have HB5 := hid ((HB2.out.trans ((bA (Below.refl w1.heap.size w1) _).mono (by omega))).trans b5)
      clear o5 b5 g5
      go_wp2_with fail
      go_roundw
      case rel => exact ⟨k + 1, c5, A5, acc ++ [⟨A2, c2, x.l⟩], by omega, by go_num, rfl, hid (by rw [List.length_append, HAL.out]; rfl), hid (HRN.out _ _), HO5, HB5.out⟩
      case measure => (simp [intOf]) <;> omega
    · obtain rfl : k = l.length := by omega
      have hkz : ¬ (l.length : Int) < (l.length : Int) := by omega
      go_wp2_with fail
      go_ret
      exact ⟨A1, c1, acc, rfl, HAL.out, by have h := HRW.out; rwa [List.take_length] at h, HGR.out, hbel⟩
set_option maxRecDepth 100000 in
set_option maxHeartbeats 400000 in
theorem sameLists_walk (l m : List (ML Mail)) (w : World) (A A' : Option Addr) (c c' n : Nat) (hn : l.length = n) (hm : rowsOf m = rowsOf l) (hg : Grid Mail.cells 2 w w.heap.size A' l) (hgm : Grid Mail.cells 2 w w.heap.size A m) (hl : n ≤ 140737488355328) (hz : ∀ x ∈ l, x.l.length ≤ 140737488355328) :
    Calls Try.prog 19 #[.slice A n c, .slice A' n c'] w fun e w' => e = .returned (.bool true) ∧ Below w.heap.size w w' := by
  have HG := hid hg
  have HGM := hid hgm
  have HZ := hid hz
  have HN := hid hn
  have HM := hid hm
  have HML := hid (show m.length = n from by rw [rows_len hm, hn])
  clear hg hgm hz hn hm
  go_enter Try.func19, Try.ntmps19
  go_wp2_with fail
  go_loopw [5] (fun iv wr => ∃ k : Nat, k ≤ n ∧ iv = .int .i64 (k : Nat) ∧ Below w.heap.size w wr) (fun iv _ => n - (intOf iv).toNat)
  case atStart => exact ⟨0, Nat.zero_le _, rfl, Below.refl _ _⟩
  case round =>
    obtain ⟨k, hk, rfl, hbel⟩ := hrel
    have hbs := hbel.size
    by_cases hlt : k < n
    · obtain ⟨x0, hx⟩ : ∃ x, l[k]? = some x := ⟨_, List.getElem?_eq_getElem (by rw [HN.out]; exact hlt)⟩
      obtain ⟨x, hy, hxy⟩ := rows_at HM.out hx
      obtain ⟨b', off', rfl, hb', d0⟩ := ml_cell (HG.out.1.below hbel) rfl hx
      have hgm2 := HGM.out.1.below hbel
      obtain ⟨b, off, rfl, hb, c0⟩ := ml_cell hgm2 rfl hy
      have hkz : (k : Int) < (n : Int) := by omega
      have HS := hid (fun (V : World) (hV : Below wr.heap.size wr V) => sameMails_walk x0.l V x.A x0.A x.c x0.c (by
          have h := rdb (Grid.data HGM.out (List.mem_of_getElem? hy)) (by decide) (hbel.trans (hV.mono hbs))
          rw [hxy] at h; exact h) (rdb (Grid.data HG.out (List.mem_of_getElem? hx)) (by decide) (hbel.trans (hV.mono hbs))) (HZ.out x0 (List.mem_of_getElem? hx)))
      rw [hxy] at c0
      generalize hq : x0.l.length = q at *
      clear hx hy hxy hq hgm2
      go_wp2_with fail
      refine wp_region_F (S := (fun V => Below wr.heap.size wr V ∧ V.cell? ⟨b, off + k, none⟩ = some (.slice x.A q x.c) ∧ V.cell? ⟨b', off' + k, none⟩ = some (.slice x0.A q x0.c))) [] (by kernel_rfl) ⟨bD (Below.refl _ _), keepb (bD (Below.refl _ _)) c0, keepb (bD (Below.refl _ _)) d0⟩ (fun hHeld => ?_)
      refine wpAnyF_pure (i := 0) (v := ?vg1_1_0) rfl (by kernel_rfl) (by kernel_rfl) (by kernel_rfl) (fun _ _ _ h => h) (Or.inl ⟨by rfl, ?hyg1_1_0⟩) ?restg1_1_0
      case hyg1_1_0 => (intro w hSw; clear hSw; go_simp; (all_goals with_reducible rfl))
      try simp only [Act.put, List.setIfInBounds_toArray, List.set_cons_zero, List.set_cons_succ, List.getElem_toArray, List.getElem_cons_succ, List.getElem_cons_zero]
      refine wpAnyF_pure (i := 1) (v := ?vg1_2_1) rfl (by kernel_rfl) (by kernel_rfl) (by kernel_rfl) (fun _ _ _ h => h) (Or.inl ⟨by rfl, ?hyg1_2_1⟩) ?restg1_2_1
      case hyg1_2_1 => (intro w hSw; clear hSw; go_simp; (all_goals with_reducible rfl))
      try simp only [Act.put, List.setIfInBounds_toArray, List.set_cons_zero, List.set_cons_succ, List.getElem_toArray, List.getElem_cons_succ, List.getElem_cons_zero]
      refine wpAnyF_pure (i := 2) (v := ?vg1_3_2) rfl (by kernel_rfl) (by kernel_rfl) (by kernel_rfl) (fun _ _ _ h => h) (Or.inl ⟨by rfl, ?hyg1_3_2⟩) ?restg1_3_2
      case hyg1_3_2 => (intro w hSw; clear hSw; go_simp; (all_goals with_reducible rfl))
      try simp only [Act.put, List.setIfInBounds_toArray, List.set_cons_zero, List.set_cons_succ, List.getElem_toArray, List.getElem_cons_succ, List.getElem_cons_zero]
      refine wpAnyF_pure (i := 4) (v := ?vg1_4_4) rfl (by kernel_rfl) (by kernel_rfl) (by kernel_rfl) (fun _ _ _ h => h) (Or.inl ⟨by rfl, ?hyg1_4_4⟩) ?restg1_4_4
      case hyg1_4_4 => (intro w hSw; clear hSw; go_simp; (all_goals with_reducible rfl))
      try simp only [Act.put, List.setIfInBounds_toArray, List.set_cons_zero, List.set_cons_succ, List.getElem_toArray, List.getElem_cons_succ, List.getElem_cons_zero]
      refine wpAnyF_pure (i := 5) (v := ?vg1_5_5) rfl (by kernel_rfl) (by kernel_rfl) (by kernel_rfl) (fun _ _ _ h => h) (Or.inl ⟨by rfl, ?hyg1_5_5⟩) ?restg1_5_5
      case hyg1_5_5 => (intro w hSw; clear hSw; go_simp; (all_goals with_reducible rfl))
      try simp only [Act.put, List.setIfInBounds_toArray, List.set_cons_zero, List.set_cons_succ, List.getElem_toArray, List.getElem_cons_succ, List.getElem_cons_zero]
      refine wpAnyF_pure (i := 6) (v := ?vg1_6_6) rfl (by kernel_rfl) (by kernel_rfl) (by kernel_rfl) (fun _ _ _ h => h) (Or.inl ⟨by rfl, ?hyg1_6_6⟩) ?restg1_6_6
      case hyg1_6_6 => (intro w hSw; clear hSw; go_simp; (all_goals with_reducible rfl))
      try simp only [Act.put, List.setIfInBounds_toArray, List.set_cons_zero, List.set_cons_succ, List.getElem_toArray, List.getElem_cons_succ, List.getElem_cons_zero]
      refine wpAnyF_take [8, 9] (i := 3) (v := ?vg1_7_3) rfl (by kernel_rfl) (by kernel_rfl) (by kernel_rfl) (by kernel_rfl) (fun _ _ _ h => h) (Or.inl ⟨by rfl, ?hyg1_7_3⟩) (by assumption) ?restg1_7_3
      case hyg1_7_3 => (intro w hSw; (try dsimp only at hSw); go_simp; (all_goals with_reducible rfl))
      try simp only [Act.put, List.setIfInBounds_toArray, List.set_cons_zero, List.set_cons_succ, List.getElem_toArray, List.getElem_cons_succ, List.getElem_cons_zero]
      refine wpAnyF_take [8, 9] (i := 7) (v := ?vg1_8_7) rfl (by kernel_rfl) (by kernel_rfl) (by kernel_rfl) (by kernel_rfl) (fun _ _ _ h => h) (Or.inl ⟨by rfl, ?hyg1_8_7⟩) (by assumption) ?restg1_8_7
      case hyg1_8_7 => (intro w hSw; (try dsimp only at hSw); go_simp; (all_goals with_reducible rfl))
      try simp only [Act.put, List.setIfInBounds_toArray, List.set_cons_zero, List.set_cons_succ, List.getElem_toArray, List.getElem_cons_succ, List.getElem_cons_zero]
      refine wpAnyF_one (i := 8) (by kernel_rfl) rfl (fun K hK => ?_)
      go_simp
      go_at_call 18
      refine (HS.out _ hHeld.1).mono ?_
      rintro e w2 ⟨rfl, b2⟩
      go_wp2_with fail
      refine hK.out _ _ ⟨bT hHeld.1 b2, keepb b2 hHeld.2.1, keepb b2 hHeld.2.2⟩ (fun hHeld => ?_)
      clear hK K
      try simp only [Act.put, List.setIfInBounds_toArray, List.set_cons_zero, List.set_cons_succ, List.getElem_toArray, List.getElem_cons_succ, List.getElem_cons_zero]
      refine wpAnyF_pure (i := 9) (v := ?vg1_10_9) rfl (by kernel_rfl) (by kernel_rfl) (by kernel_rfl) (fun _ _ _ h => h) (Or.inl ⟨by rfl, ?hyg1_10_9⟩) ?restg1_10_9
      case hyg1_10_9 => (intro w hSw; clear hSw; go_simp; (all_goals with_reducible rfl))
      try simp only [Act.put, List.setIfInBounds_toArray, List.set_cons_zero, List.set_cons_succ, List.getElem_toArray, List.getElem_cons_succ, List.getElem_cons_zero]
      refine wpAnyF_done (by kernel_rfl) ?_ _
      go_wp2_with fail
      go_roundw
      case rel => exact ⟨k + 1, by omega, by go_num, hbel.trans (hHeld.1.mono hbs)⟩
      case measure => (simp [intOf]) <;> omega
    · obtain rfl : n = k := by omega
      go_wp2_with fail
      go_ret
      exact ⟨rfl, hbel⟩
set_option maxHeartbeats 400000 in
theorem law_MergeLists (w : World) (l : List (ML Mail)) (A : Option Addr) (c : Nat) (hf : Flat w w.heap.size 24 1 ML.cells A c l) (hb : ∀ x ∈ l, x.wf Mail.cells 2 16 Mail.wf w) :
    Calls Try.prog 4 #[.slice A l.length c] w fun e w' => e = .returned (.bool true) ∧ Below w.heap.size w w' := by
  have hg := grid_of hf hb
  obtain ⟨f1, f2, f3, f4⟩ := hf
  have hl : l.length * 24 ≤ 140737488355328 := by omega
  have hz : ∀ x ∈ l, x.l.length * 16 ≤ 140737488355328 := fun x hx => by obtain ⟨_, h1, h2, _⟩ := hb x hx; omega
  have hz1 : ∀ x ∈ l, x.l.length ≤ 140737488355328 := fun x hx => by have := hz x hx; omega
  clear hb f1 f2 f3 f4
  have C1 := hid (lists_copy l w A c hg hl hz)
  have C2 := hid (fun (V : World) A k (m : List (ML Mail)) (hm : rowsOf m = rowsOf l) (h : MGrid V w.heap.size A k m) => mergeLists_walk m V A k h.led (by rw [rows_len hm]; omega) (fun x hx => by
    obtain ⟨i, hi⟩ := List.mem_iff_getElem?.1 hx
    obtain ⟨y, hy, he⟩ := rows_at hm.symm hi
    rw [← he]; exact hz1 y (List.mem_of_getElem? hy)) (fun x hx => by
    obtain ⟨i, hi⟩ := List.mem_iff_getElem?.1 hx
    exact own_cap (h.row hi)))
  have C3 := hid (fun (V : World) (h : Grid Mail.cells 2 V V.heap.size A l) => mailMerged_walk l V A c h (by omega) hz1)
  have hlen := mergeL_len l hz1
  have C4 := hid (fun (V : World) A' k' (m : List (ML Mail)) (hm : rowsOf m = rowsOf l) (h : Grid Mail.cells 2 V V.heap.size A' m) (h2 : Grid Mail.cells 2 V V.heap.size A l) => sameLists_walk l m V A' A k' c l.length rfl hm h2 h (by omega) hz1)
  have HCG := hid (fun (m : List (ML Mail)) (hm : rowsOf m = rowsOf l) => mergeL_congr hm)
  have HG := hid hg
  clear hg hz hz1
  generalize hM : mergeL l = M at *
  obtain ⟨v, r⟩ := M
  simp only at hlen
  clear hM
  go_enter Try.func4, Try.ntmps4
  go_wp2_with fail
  refine C1.out.mono ?_
  rintro e w1 ⟨A1, k1, m, rfl, hml, hmr, hmg, b1⟩
  have C2b := C2.out w1 A1 k1 m hmr hmg
  rw [HCG.out m hmr, hml] at C2b
  unfold RetL at C2b C3
  simp only at C2b C3
  have HMR := hid hmr
  have HMG := hid hmg.led
  have HB1 := hid b1
  clear hml hmr hmg b1
  go_wp2_with fail
  refine C2b.mono ?_
  rintro e w2 ⟨A2, k2, rfl, o2, b2⟩
  have HO2 := hid (rd_own o2)
  have HB2 := hid b2
  clear o2 b2 C2b
  go_wp2_with fail
  refine (C3.out w2 (Grid.b HG.out (by decide) (HB1.out.trans (HB2.out.mono HB1.out.size)))).mono ?_
  rintro e w3 ⟨A3, k3, rfl, o3, b3⟩
  have HO3 := hid (rd_own o3)
  have HB3 := hid b3
  clear o3 b3
  go_wp2_with fail
  refine (sameMails_walk v _ _ _ _ _ ((HO2.out.below HB3.out).any (by decide)) HO3.out (by omega)).mono ?_
  rintro e w4 ⟨rfl, b4⟩
  have HB14 := hid (bT (bT HB2.out HB3.out) b4)
  go_wp2_with fail
  refine (C4.out w4 A1 k1 m HMR.out (Grid.b HMG.out (by decide) HB14.out) (Grid.b HG.out (by decide) (bT HB1.out HB14.out))).mono ?_
  rintro e w5 ⟨rfl, b5⟩
  go_wp2_with fail
  go_ret
  exact ⟨by simp, bT (bT HB1.out HB14.out) b5⟩
end Go.Proofs.Ytifpngjipkmdcaa
