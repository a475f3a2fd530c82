/- disk.open: a copy behind a pointer. -/
import Derived.Test.YtphgdpjfolkafaaDoorDiskM
import Derived.Test.YtphgdpjfolkafaaDoorDiskC
namespace Go.Proofs.YtphgdpjfolkafaaDoor
open Go.ChangeShapes Go.WideShapes Go.ChangeAt Go.RowKit
set_option linter.unusedVariables false
set_option linter.unusedSimpArgs false
theorem cloneB_walk (l : List Int) (A : Option Addr) (n c B : Nat) (w : World) (hr : Rd w B A 1 n (l.flatMap u8c)) (hn : n ≤ 140737488355328) :
    Calls Tryd.prog 37 #[.slice A n c] w fun e w' => ∃ A' c', e = .returned (.slice A' n c') ∧ w'.ownsRow w.heap.size 5 1 (.slice A' n c') n (l.flatMap u8c) ∧ Below w.heap.size w w' := by
  cases A with
  | none =>
    have h0 : n = 0 := by
      rcases Nat.eq_zero_or_pos n with h | h
      · exact h
      · obtain ⟨b, off, e, _⟩ := hr.2 h; cases e
    subst h0
    have hl := hr.1
    have hx : l.flatMap u8c = [] := List.eq_nil_of_length_eq_zero (by simpa using hl)
    rw [hx]
    clear hx hl hr
    have hnil := fun w => Lib.run_eql_slice_nil (P := Tryd.prog) w 36 5 none 0 c 0 0 Tryd.underlying36
    go_enter Tryd.func37, Tryd.ntmps37
    go_wp2
    go_ret
    exact ⟨none, 0, rfl, World.ownsRow_nil _ _ _ _, Below.refl _ _⟩
  | some a =>
    have hnil := fun w => Lib.run_eql_slice_nil (P := Tryd.prog) w 36 5 (some a) n c 0 0 Tryd.underlying36
    have r0 := (hr.any (by decide)).alloc (Nat.le_refl _) (.cells #[] 5)
    have o0 : (w.alloc (.cells #[] 5)).ownsRow w.heap.size 5 1 (.slice (some ⟨w.heap.size, 0, none⟩) 0 0) 0 [] := World.ownsRow_lit w #[] 0 (Nat.le_refl _) (by simp [maxLen]) rfl
    go_enter Tryd.func37, Tryd.ntmps37
    go_wp2_with (at_builtin; refine wp_app1 _ rfl rfl el_bytes rfl o0 rfl r0 (one_u8 l) (by omega) (by simp) ?_; intro A' c' w1 hown1 hb1 hg1)
    go_ret
    rw [Nat.zero_add] at hown1
    exact ⟨A', c', by rw [← Nat.zero_add n]; rfl, hown1, (bA (Below.refl _ _) _).trans hb1⟩
/-- What an opened disk is: a cell that leads to a row of the call's own. -/
def Opened (w w' : World) (l : List MFile) (p : Nat) : Prop :=
  ∃ A c l', files l' = files l ∧ l'.length = l.length ∧ w'.cell? ⟨p, 0, none⟩ = some (.slice A l.length c) ∧ w'.frozen? ⟨p, 0, none⟩ = false ∧ w.heap.size ≤ p ∧ p < w'.heap.size ∧ Heaped MFile.cells MFile.parts w' (p + 1) 45 3 A c l' ∧ Below w.heap.size w w'
def OpenedC (w w' : World) (l : List MFile) (p : Nat) : Prop :=
  ∃ A c l', files l' = files l ∧ l'.length = l.length ∧ w'.cell? ⟨p, 0, none⟩ = some (.slice A l.length c) ∧ w'.frozen? ⟨p, 0, none⟩ = false ∧ w.heap.size ≤ p ∧ p < w'.heap.size ∧ Heaped MFile.cells MFile.parts w' (p + 1) 45 3 A c l' ∧ Below w.heap.size w w' ∧ ∀ x ∈ l', x.f.data.length ≤ x.c
def OpRelG (l : List MFile) (p : Nat) (w1 : World) (i : Value) (wr : World) : Prop :=
  ∃ (k c : Nat) (A : Option Addr) (acc : List MFile), k ≤ l.length ∧ i = .int .i64 k ∧ Hid (acc.length = k) ∧ Hid (files acc = files (l.take k)) ∧ FGrid wr (p + 1) A c acc ∧ Below p w1 wr ∧ p + 1 ≤ wr.heap.size ∧
    wr.cell? ⟨p, 0, none⟩ = some (.slice A k c) ∧ wr.frozen? ⟨p, 0, none⟩ = false
/-- What an opened disk is: a cell that leads to files of the call's own. -/
def OpenedG (w w' : World) (l : List MFile) (p : Nat) : Prop :=
  ∃ A c l', files l' = files l ∧ l'.length = l.length ∧ w'.cell? ⟨p, 0, none⟩ = some (.slice A l.length c) ∧ w'.frozen? ⟨p, 0, none⟩ = false ∧ w.heap.size ≤ p ∧ p < w'.heap.size ∧ FGrid w' (p + 1) A c l' ∧ Below w.heap.size w w'
set_option maxRecDepth 100000 in
set_option maxHeartbeats 1000000 in
theorem open_own (l : List MFile) (w : World) (A : Option Addr) (c : Nat) (hr : Files w w.heap.size A l) (hn : l.length * 48 ≤ 140737488355328) (hd : ∀ x ∈ l, x.f.data.length ≤ 140737488355328) (hnm : ∀ x ∈ l, x.f.name.size ≤ 140737488351232) (hok : okB l = true) :
    Calls Tryd.prog 25 #[.agg #[.slice A l.length c]] w fun e w' => ∃ p, e = .returned (.tuple #[.pointer (some ⟨p, 0, none⟩), .int .i64 0]) ∧ OpenedG w w' l p := by
  have b0 := bA (Below.refl w.heap.size w) (.cells #[.slice A l.length c] 24)
  have hmay := may_walk l _ A c (rdb hr.1 (by decide) b0) (by omega) hnm
  rw [hok] at hmay
  go_enter Tryd.func25, Tryd.ntmps25
  go_wp2_with fail
  refine hmay.mono ?_
  rintro e w1 ⟨rfl, b1⟩
  have b01 := bT b0 b1
  have hz1 : w.heap.size < w1.heap.size := by have := b1.size; simp at this; omega
  have q0 : w1.cell? ⟨w.heap.size, 0, none⟩ = some (.slice A l.length c) := keepb b1 (by go_simp)
  clear b1 hmay
  go_wp2_with fail
  go_loopw [15] (OpRelG l w1.heap.size w1) (fun i _ => l.length - (intOf i).toNat)
  case atStart => exact ⟨0, 0, none, [], by omega, rfl, hid rfl, hid (by simp [files]), OwnGrid.nil, bA (Below.refl _ _) _, by simp, by go_simp, by go_simp⟩
  case round =>
    obtain ⟨k, c', A', acc, hk, rfl, HA, HF, hown, hbel, hsz, g0, f0⟩ := hrel
    by_cases hlt : k < l.length
    · obtain ⟨x, hx⟩ : ∃ x, l[k]? = some x := ⟨_, List.getElem?_eq_getElem hlt⟩
      have hxm := List.mem_of_getElem? hx
      have b0r := bT b01 hbel
      obtain ⟨b, off, rfl, hb, c0, c1, c2⟩ := file_cells (hr.1.below b0r) rfl hx
      have hdat := Rd.below (Files.data hr hxm) b0r
      have hbr : b < wr.heap.size := by have := b0r.size; omega
      have hkz : (k : Int) < (l.length : Int) := by omega
      have HX := hid (take_next hx)
      have hxl := hd x hxm
      have hps : w1.heap.size < wr.heap.size := by omega
      clear hx hxm
      go_wp2_with fail
      have bX := bA (Below.refl wr.heap.size wr) (.cells #[.string x.f.name, .slice x.A x.f.data.length x.c, .int .i64 x.f.synced] 45)
      refine (cloneB_walk x.f.data x.A x.f.data.length x.c _ _ (rdb hdat (by decide) ((Below.refl w.heap.size wr).alloc (by have := b0r.size; omega) _)) hxl).mono ?_
      rintro e w2 ⟨A1, k1, rfl, o1, b2⟩
      have bX2 := bT bX b2
      have g0' := keepb bX2 g0
      have f0' := keepf bX2 f0 hps
      have t0 : w2.cell? ⟨wr.heap.size, 0, none⟩ = some (.string x.f.name) := keepb b2 (by go_simp)
      have t1 : w2.cell? ⟨wr.heap.size, 1, none⟩ = some (.slice x.A x.f.data.length x.c) := keepb b2 (by go_simp)
      have t2 : w2.cell? ⟨wr.heap.size, 2, none⟩ = some (.int .i64 x.f.synced) := keepb b2 (by go_simp)
      have tf : ∀ o, w2.frozen? ⟨wr.heap.size, o, none⟩ = false := fun o => by rw [(bcell b2).2 _ _ (by simp)]; go_simp
      have hz2 : wr.heap.size < w2.heap.size := by have := b2.size; simp at this; omega
      have u0 : (w2.setCell ⟨wr.heap.size, 1, none⟩ (.slice A1 x.f.data.length k1)).cell? ⟨wr.heap.size, 0, none⟩ = some (.string x.f.name) := by go_simp
      have u1 : (w2.setCell ⟨wr.heap.size, 1, none⟩ (.slice A1 x.f.data.length k1)).cell? ⟨wr.heap.size, 1, none⟩ = some (.slice A1 x.f.data.length k1) := World.cell?_setCell_same _ _ _ t1
      have u2 : (w2.setCell ⟨wr.heap.size, 1, none⟩ (.slice A1 x.f.data.length k1)).cell? ⟨wr.heap.size, 2, none⟩ = some (.int .i64 x.f.synced) := by go_simp
      have bW : Below wr.heap.size wr (w2.setCell ⟨wr.heap.size, 1, none⟩ (.slice A1 x.f.data.length k1)) := bS bX2 (by show wr.heap.size ≤ wr.heap.size; omega) _
      have o1' := ownsRow_setCell_below (a := ⟨wr.heap.size, 1, none⟩) o1 (by show wr.heap.size < (wr.alloc _).heap.size; simp) (.slice A1 x.f.data.length k1)
      have hzW : wr.heap.size < (w2.setCell ⟨wr.heap.size, 1, none⟩ (.slice A1 x.f.data.length k1)).heap.size := by simpa using hz2
      have HTF := hid tf
      clear b2 bX2 hz2 o1 bX
      go_wp2_with fail
      clear tf g0' f0' t0 t1 t2
      generalize w2.setCell ⟨wr.heap.size, 1, none⟩ (.slice A1 x.f.data.length k1) = W at *
      have g0' := keepb bW g0
      have f0' := keepf bW f0 hps
      have hown1 := OwnGrid.below hown bW (Nat.le_refl _)
      have o1w := own_more (base' := wr.heap.size) o1' (by simp)
      have hasd : Aside MFile.ml A' c' acc (MFile.ml ⟨A1, k1, ⟨x.f.name, x.f.data, x.f.synced⟩⟩) := OwnGrid.aside hown (base' := wr.heap.size) o1w (Nat.le_refl _)
      have o1b := own_more (base' := w1.heap.size + 1) o1w hsz
      have hpW : w1.heap.size < W.heap.size := by omega
      clear g0 f0 hown o1'
      have hn1 : (k + 1) * 48 ≤ 140737488355328 := by omega
      have hsz1 : ∀ o, w1.heap.size + 1 ≤ (W.drew.alloc o).heap.size := fun o => by simp; omega
      have HFn := hid (show files (acc ++ [⟨A1, k1, ⟨x.f.name, x.f.data, x.f.synced⟩⟩]) = files (l.take (k + 1)) by
        rw [HX.out]; unfold files; rw [List.map_append, List.map_append]; show files acc ++ _ = files (l.take k) ++ _; rw [HF.out]; rfl)
      have hcell2 : ∀ (o : Obj) (w3 : World), Below (w1.heap.size + 1) (W.drew.alloc o) w3 → w3.cell? ⟨w1.heap.size, 0, none⟩ = some (.slice A' k c') ∧ w3.frozen? ⟨w1.heap.size, 0, none⟩ = false ∧ Below w1.heap.size w1 w3 ∧ w1.heap.size + 1 ≤ w3.heap.size := fun o w3 h2 => by
        have h3 := ((bA (bD (Below.refl W.heap.size W)) o).mono (show w1.heap.size + 1 ≤ W.heap.size by omega)).trans h2
        exact ⟨(h3.cell (p := ⟨w1.heap.size, 0, none⟩) (by show w1.heap.size < _; omega)).trans g0', (h3.frozen (p := ⟨w1.heap.size, 0, none⟩) (by show w1.heap.size < _; omega)).trans f0', (bT hbel bW).trans (h3.mono (by omega)), Nat.le_trans (by omega) h3.size⟩
      have HK : Hid (∀ V, Below W.heap.size W V → ((fun V => V.cell? ⟨w1.heap.size, 0, none⟩ = some (.slice A' k c') ∧ V.cell? ⟨wr.heap.size, 0, none⟩ = some (.string x.f.name) ∧ V.cell? ⟨wr.heap.size, 1, none⟩ = some (.slice A1 x.f.data.length k1) ∧ V.cell? ⟨wr.heap.size, 2, none⟩ = some (.int .i64 x.f.synced)) : World → Prop) V) := hid fun V hV => ⟨keepb hV g0', keepb hV u0, keepb hV u1, keepb hV u2⟩
      refine wp_region_F (S := (fun V => V.cell? ⟨w1.heap.size, 0, none⟩ = some (.slice A' k c') ∧ V.cell? ⟨wr.heap.size, 0, none⟩ = some (.string x.f.name) ∧ V.cell? ⟨wr.heap.size, 1, none⟩ = some (.slice A1 x.f.data.length k1) ∧ V.cell? ⟨wr.heap.size, 2, none⟩ = some (.int .i64 x.f.synced))) [8, 12] (by kernel_rfl) (HK.out _ (bD (Below.refl _ _))) (fun hHeld => ?_)
      refine wpAnyF_pure (i := 0) (v := ?vg2_1_0) rfl (by kernel_rfl) (by kernel_rfl) (by kernel_rfl) (fun _ _ _ h => h) (Or.inl ⟨by rfl, ?hyg2_1_0⟩) ?restg2_1_0
      case hyg2_1_0 => (intro w hSw; clear hSw; go_simp; (all_goals with_reducible rfl))
      try simp only [Act.put, List.setIfInBounds_toArray, List.set_cons_zero, List.set_cons_succ, List.getElem_toArray, List.getElem_cons_succ, List.getElem_cons_zero]
      refine wpAnyF_pure (i := 1) (v := ?vg2_2_1) rfl (by kernel_rfl) (by kernel_rfl) (by kernel_rfl) (fun _ _ _ h => h) (Or.inl ⟨by rfl, ?hyg2_2_1⟩) ?restg2_2_1
      case hyg2_2_1 => (intro w hSw; clear hSw; go_simp; (all_goals with_reducible rfl))
      try simp only [Act.put, List.setIfInBounds_toArray, List.set_cons_zero, List.set_cons_succ, List.getElem_toArray, List.getElem_cons_succ, List.getElem_cons_zero]
      refine wpAnyF_pure (i := 2) (v := ?vg2_3_2) rfl (by kernel_rfl) (by kernel_rfl) (by kernel_rfl) (fun _ _ _ h => h) (Or.inl ⟨by rfl, ?hyg2_3_2⟩) ?restg2_3_2
      case hyg2_3_2 => (intro w hSw; clear hSw; go_simp; (all_goals with_reducible rfl))
      try simp only [Act.put, List.setIfInBounds_toArray, List.set_cons_zero, List.set_cons_succ, List.getElem_toArray, List.getElem_cons_succ, List.getElem_cons_zero]
      refine wpAnyF_pure (i := 3) (v := ?vg2_4_3) rfl (by kernel_rfl) (by kernel_rfl) (by kernel_rfl) (fun _ _ _ h => h) (Or.inl ⟨by rfl, ?hyg2_4_3⟩) ?restg2_4_3
      case hyg2_4_3 => (intro w hSw; clear hSw; go_simp; (all_goals with_reducible rfl))
      try simp only [Act.put, List.setIfInBounds_toArray, List.set_cons_zero, List.set_cons_succ, List.getElem_toArray, List.getElem_cons_succ, List.getElem_cons_zero]
      refine wpAnyF_pure (i := 4) (v := ?vg2_5_4) rfl (by kernel_rfl) (by kernel_rfl) (by kernel_rfl) (fun _ _ _ h => h) (Or.inl ⟨by rfl, ?hyg2_5_4⟩) ?restg2_5_4
      case hyg2_5_4 => (intro w hSw; clear hSw; go_simp; (all_goals with_reducible rfl))
      try simp only [Act.put, List.setIfInBounds_toArray, List.set_cons_zero, List.set_cons_succ, List.getElem_toArray, List.getElem_cons_succ, List.getElem_cons_zero]
      refine wpAnyF_take [8, 9, 10, 11, 12] (i := 5) (v := ?vg2_6_5) rfl (by kernel_rfl) (by kernel_rfl) (by kernel_rfl) (by kernel_rfl) (fun _ _ _ h => h) (Or.inl ⟨by rfl, ?hyg2_6_5⟩) (by assumption) ?restg2_6_5
      case hyg2_6_5 => (intro w hSw; (try dsimp only at hSw); go_simp; (all_goals with_reducible rfl))
      try simp only [Act.put, List.setIfInBounds_toArray, List.set_cons_zero, List.set_cons_succ, List.getElem_toArray, List.getElem_cons_succ, List.getElem_cons_zero]
      refine wpAnyF_take [7, 8, 9, 10, 11, 12] (i := 6) (v := ?vg2_7_6) rfl (by kernel_rfl) (by kernel_rfl) (by kernel_rfl) (by kernel_rfl) (fun _ _ _ h => h) (Or.inl ⟨by rfl, ?hyg2_7_6⟩) (by assumption) ?restg2_7_6
      case hyg2_7_6 => (intro w hSw; (try dsimp only at hSw); go_simp; (all_goals with_reducible rfl))
      try simp only [Act.put, List.setIfInBounds_toArray, List.set_cons_zero, List.set_cons_succ, List.getElem_toArray, List.getElem_cons_succ, List.getElem_cons_zero]
      refine wpAnyF_one (i := 7) (by kernel_rfl) rfl (fun K hK => ?_)
      go_simp
      refine hK.out _ _ (HK.out _ (bA (bD (Below.refl _ _)) _)) (fun hHeld => ?_)
      clear hK K
      try simp only [Act.put, List.setIfInBounds_toArray, List.set_cons_zero, List.set_cons_succ, List.getElem_toArray, List.getElem_cons_succ, List.getElem_cons_zero]
      refine wpAnyF_oneD (i := 8) (by kernel_rfl) (by kernel_rfl) rfl (fun K hK => ?_)
      refine step_grid (cells := u8c) (inner := MFile.ml) (sz := 1) rfl rfl el_files rfl HA.out.symm (hown1.below (bA (bD (Below.refl _ _)) _) (Nat.le_refl _)) ⟨A1, k1, ⟨x.f.name, x.f.data, x.f.synced⟩⟩ (own_below o1b (bA (bD (Below.refl _ _)) _) (Nat.le_refl _)) hasd rfl (rd_newAt _ _ _ 3 1 _ (by simp) rfl) (one_file _) hn1 (hsz1 _) ?_
      intro A2 c2 w3 hown3 hb3 hg3
      obtain ⟨gg, ff, bb, ss⟩ := hcell2 _ _ hb3
      refine hK.out _ _ ?_
      clear hK K
      try simp only [Act.put, List.setIfInBounds_toArray, List.set_cons_zero, List.set_cons_succ, List.getElem_toArray, List.getElem_cons_succ, List.getElem_cons_zero]
      refine wpAnyF_pure (i := 9) (v := ?vg2_10_9) rfl (by kernel_rfl) (by kernel_rfl) (by kernel_rfl) (fun _ _ _ h => h) (Or.inl ⟨by rfl, ?hyg2_10_9⟩) ?restg2_10_9
      case hyg2_10_9 => (intro w hSw; clear hSw; go_simp; (all_goals with_reducible rfl))
      try simp only [Act.put, List.setIfInBounds_toArray, List.set_cons_zero, List.set_cons_succ, List.getElem_toArray, List.getElem_cons_succ, List.getElem_cons_zero]
      refine wpAnyF_pure (i := 10) (v := ?vg2_11_10) rfl (by kernel_rfl) (by kernel_rfl) (by kernel_rfl) (fun _ _ _ h => h) (Or.inl ⟨by rfl, ?hyg2_11_10⟩) ?restg2_11_10
      case hyg2_11_10 => (intro w hSw; clear hSw; go_simp; (all_goals with_reducible rfl))
      try simp only [Act.put, List.setIfInBounds_toArray, List.set_cons_zero, List.set_cons_succ, List.getElem_toArray, List.getElem_cons_succ, List.getElem_cons_zero]
      refine wpAnyF_pure (i := 11) (v := ?vg2_12_11) rfl (by kernel_rfl) (by kernel_rfl) (by kernel_rfl) (fun _ _ _ h => h) (Or.inl ⟨by rfl, ?hyg2_12_11⟩) ?restg2_12_11
      case hyg2_12_11 => (intro w hSw; clear hSw; go_simp; (all_goals with_reducible rfl))
      try simp only [Act.put, List.setIfInBounds_toArray, List.set_cons_zero, List.set_cons_succ, List.getElem_toArray, List.getElem_cons_succ, List.getElem_cons_zero]
      refine wpAnyF_oneD (i := 12) (by kernel_rfl) (by kernel_rfl) rfl (fun K hK => ?_)
      go_simp
      refine hK.out _ _ ?_
      clear hK K
      try simp only [Act.put, List.setIfInBounds_toArray, List.set_cons_zero, List.set_cons_succ, List.getElem_toArray, List.getElem_cons_succ, List.getElem_cons_zero]
      refine wpAnyF_done (by kernel_rfl) ?_ _
      all_goals
        go_wp2_with fail
        go_roundw
        case rel => exact ⟨k + 1, c2, A2, acc ++ [⟨A1, k1, ⟨x.f.name, x.f.data, x.f.synced⟩⟩], by omega, by go_num, hid (by rw [List.length_append, HA.out]; rfl), HFn, OwnGrid.store hown3 (by show w1.heap.size < w1.heap.size + 1; omega) _, bS bb (by show w1.heap.size ≤ w1.heap.size; omega) _, by simpa using ss, World.cell?_setCell_same _ _ _ gg, by simpa using ff⟩
        case measure => simp [intOf]; omega
    · obtain rfl : k = l.length := by omega
      have HFF := hid (show files acc = files l by rw [HF.out, List.take_length])
      have HAA := hid HA.out
      clear HA HF
      go_wp2_with fail
      go_ret2
      exact ⟨_, rfl, A', c', acc, HFF.out, HAA.out, g0, f0, Nat.le_of_lt hz1, by omega, hown, bT b01 hbel⟩
theorem open_cap (l : List MFile) (w : World) (A : Option Addr) (c : Nat) (hr : Files w w.heap.size A l) (hn : l.length * 48 ≤ 140737488355328) (hd : ∀ x ∈ l, x.f.data.length ≤ 140737488355328) (hnm : ∀ x ∈ l, x.f.name.size ≤ 140737488351232) (hok : okB l = true) :
    Calls Tryd.prog 25 #[.agg #[.slice A l.length c]] w fun e w' => ∃ p, e = .returned (.tuple #[.pointer (some ⟨p, 0, none⟩), .int .i64 0]) ∧ OpenedC w w' l p :=
  (open_own l w A c hr hn hd hnm hok).mono fun e w' ⟨p, h, A', c', l', h1, h2, h3, h4, h5, h6, h7, h8⟩ => ⟨p, h, A', c', l', h1, h2, h3, h4, h5, h6, h7.heaped, h8, h7.cap⟩
theorem open_ok (l : List MFile) (w : World) (A : Option Addr) (c : Nat) (hr : Files w w.heap.size A l) (hn : l.length * 48 ≤ 140737488355328) (hd : ∀ x ∈ l, x.f.data.length ≤ 140737488355328) (hnm : ∀ x ∈ l, x.f.name.size ≤ 140737488351232) (hok : okB l = true) :
    Calls Tryd.prog 25 #[.agg #[.slice A l.length c]] w fun e w' => ∃ p, e = .returned (.tuple #[.pointer (some ⟨p, 0, none⟩), .int .i64 0]) ∧ Opened w w' l p :=
  (open_cap l w A c hr hn hd hnm hok).mono fun e w' ⟨p, h, A', c', l', h1, h2, h3, h4, h5, h6, h7, h8, _⟩ => ⟨p, h, A', c', l', h1, h2, h3, h4, h5, h6, h7, h8⟩
theorem open_bad (l : List MFile) (w : World) (A : Option Addr) (c : Nat) (hr : Files w w.heap.size A l) (hn : l.length * 48 ≤ 140737488355328) (hnm : ∀ x ∈ l, x.f.name.size ≤ 140737488351232) (hok : okB l = false) :
    Calls Tryd.prog 25 #[.agg #[.slice A l.length c]] w fun e w' => e = .returned (.tuple #[.pointer none, .int .i64 9]) ∧ Below w.heap.size w w' := by
  have b0 := bA (Below.refl w.heap.size w) (.cells #[.slice A l.length c] 24)
  have hmay := may_walk l _ A c (rdb hr.1 (by decide) b0) (by omega) hnm
  rw [hok] at hmay
  go_enter Tryd.func25, Tryd.ntmps25
  go_wp2_with fail
  refine hmay.mono ?_
  rintro e w1 ⟨rfl, b1⟩
  go_wp2_with fail
  go_ret2
  exact ⟨rfl, bT b0 b1⟩
end Go.Proofs.YtphgdpjfolkafaaDoor
