/- The document's copy of a disk. -/
import Derived.Test.YtphgdpjfolkafaaDoorDiskE
import Derived.Test.YtphgdpjfolkafaaDoorBytes
import Derived.Test.YtphgdpjfolkafaaDoorDegrees
import Derived.Deep.RegionHeld
import Derived.Test.YtphgdpjfolkafaaDoorRegF
namespace Go.Proofs.YtphgdpjfolkafaaDoor
open Go.ChangeShapes Go.WideShapes Go.ChangeAt Go.RowKit
set_option linter.unusedVariables false
set_option linter.unusedSimpArgs false
theorem take_flat1 {α : Type} {l : List α} {k : Nat} {x : α} (h : l[k]? = some x) : l.take (k + 1) = l.take k ++ [x] := take_next h
theorem one_cell1 (v : Value) (h : v.oneCell' = true) : ∀ u ∈ (#[v] : Array Value).toList, u.oneCell' = true := by
  intro u hu; simp at hu; subst hu; exact h
theorem one_file (x : MFile) : ∀ u ∈ x.cells, u.oneCell' = true := by
  intro u hu; simp [MFile.cells] at hu; rcases hu with rfl | rfl | rfl <;> rfl
def BytRel (l : List Int) (w : World) (s i : Value) (wr : World) : Prop :=
  ∃ (k c : Nat) (A : Option Addr), k ≤ l.length ∧ i = .int .i64 k ∧ s = .slice A k c ∧ wr.ownsRow w.heap.size 5 1 (.slice A k c) k ((l.take k).flatMap u8c) ∧ Below w.heap.size w wr
set_option maxHeartbeats 1000000 in
theorem Bytes_walk (l : List Int) (w : World) (A : Option Addr) (c : Nat) (hr : Rd w w.heap.size A 1 l.length (l.flatMap u8c)) (hn : l.length ≤ 140737488355328) :
    Calls Tryd.prog 24 #[.slice A l.length c] w fun e w' => ∃ A' c', e = .returned (.slice A' l.length c') ∧ w'.ownsRow w.heap.size 5 1 (.slice A' l.length c') l.length (l.flatMap u8c) ∧ Below w.heap.size w w' := by
  generalize hL : l.length = n at *
  have HL := hid hL
  clear hL
  go_enter Tryd.func24, Tryd.ntmps24
  go_wp2_with fail
  go_loopw [3, 4] (BytRel l w) (fun _ i _ => n - (intOf i).toNat)
  case atStart => exact ⟨0, 0, none, by omega, rfl, rfl, World.ownsRow_nil _ _ _ _, Below.refl _ _⟩
  case round =>
    obtain ⟨k, c', A', hk, rfl, rfl, hown, hbel⟩ := hrel
    rw [HL.out] at hk
    by_cases hlt : k < n
    · obtain ⟨x, hx⟩ : ∃ x, l[k]? = some x := ⟨_, List.getElem?_eq_getElem (by rw [HL.out]; omega)⟩
      obtain ⟨b, off, rfl, hb, hc⟩ := (hr.below hbel).2 (by omega)
      have c0 := hc k (.int .u8 x) (by have h := (flatMap_get (cells := u8c) (sz := 1) (l := l) (fun _ _ => rfl)).2 k x 0 (.int .u8 x) hx rfl; simpa using h)
      have HT := hid (take_next hx)
      have hkz : (k : Int) < (n : Int) := by omega
      clear hx hc
      go_wp2_with (at_builtin; refine wp_app1 _ rfl rfl el_bytes rfl (hown.alloc _) rfl (rd_new _ _ _ 1 1 rfl) (one_cell1 _ rfl) (by omega) (Nat.le_trans hbel.size (by simp)) ?_; intro A2 c2 w2 hown2 hb2 hg2)
      go_roundw
      case rel => exact ⟨k + 1, c2, A2, by rw [HL.out]; omega, by go_num, rfl, by rw [HT.out, List.flatMap_append]; exact hown2, (hbel.alloc hbel.size _).trans hb2⟩
      case measure => simp [intOf]; omega
    · obtain rfl : n = k := by omega
      rw [List.take_of_length_le (by rw [HL.out]; omega)] at hown
      go_wp2
      go_ret
      exact ⟨_, _, rfl, hown, hbel⟩
theorem cap_snoc {acc : List MFile} {A1 : Option Addr} {k1 : Nat} {f : File} (h : ∀ x ∈ acc, x.f.data.length ≤ x.c) (hc : f.data.length ≤ k1) : ∀ x ∈ acc ++ [(⟨A1, k1, ⟨f.name, f.data, f.synced⟩⟩ : MFile)], x.f.data.length ≤ x.c := by
  intro x hx
  rcases List.mem_append.1 hx with hx | hx
  · exact h x hx
  · obtain rfl := List.mem_singleton.1 hx
    exact hc
def MFile.ml (x : MFile) : ML Int := ⟨x.A, x.c, x.f.data⟩
/-- Files in a row of the call's own, their data in rows of its own that lie apart. -/
abbrev FGrid (w : World) (base : Nat) (A : Option Addr) (c : Nat) (l : List MFile) : Prop := OwnGrid MFile.cells MFile.ml u8c 45 5 3 1 w base A c l
theorem FGrid.files {w : World} {base c : Nat} {A : Option Addr} {l : List MFile} (h : FGrid w base A c l) : Files w w.heap.size A l := by
  refine ⟨rd_own h.1.1, fun x hx p hp => ?_⟩
  obtain rfl := List.mem_singleton.1 hp
  obtain ⟨i, hi⟩ := List.mem_iff_getElem?.1 hx
  exact rd_own (OwnGrid.row h hi)
/-- A disk of the call's own and an error number come back. -/
def RetDG (w : World) (fs : List File) (err : Int) (e : Ending) (w' : World) : Prop :=
  ∃ A c l', e = .returned (.tuple #[.agg #[.slice A fs.length c], .int .i64 err]) ∧ files l' = fs ∧ FGrid w' w.heap.size A c l' ∧ Below w.heap.size w w'
theorem retDG_bad (w w' : World) (err : Int) (b : Below w.heap.size w w') : RetDG w [] err (.returned (.tuple #[.agg #[.slice none 0 0], .int .i64 err])) w' := ⟨none, 0, [], rfl, rfl, OwnGrid.nil, b⟩
/-- The copy under way. -/
def CopRelG (l : List MFile) (dv : Value) (G : Nat) (w : World) (d i : Value) (wr : World) : Prop :=
  ∃ (k c : Nat) (A : Option Addr) (acc : List MFile), k ≤ l.length ∧ i = .int .i64 k ∧ Hid (acc.length = k) ∧ Hid (files acc = files (l.take k)) ∧ FGrid wr (G + 3) A c acc ∧ Below G w wr ∧ G + 3 ≤ wr.heap.size ∧
    wr.cell? ⟨G, 0, none⟩ = some dv ∧ wr.cell? ⟨G + 2, 0, none⟩ = some (.slice A k c) ∧ wr.frozen? ⟨G + 2, 0, none⟩ = false ∧ wr.frozen? ⟨G + 1, 0, none⟩ = false ∧ (∃ u, wr.cell? ⟨G + 1, 0, none⟩ = some u)
theorem FGrid.heaped {w : World} {base c : Nat} {A : Option Addr} {l : List MFile} (h : FGrid w base A c l) : Heaped MFile.cells MFile.parts w base 45 3 A c l := by
  refine ⟨h.1.1, fun x hx p hp => ?_⟩
  obtain rfl := List.mem_singleton.1 hp
  obtain ⟨i, hi⟩ := List.mem_iff_getElem?.1 hx
  have hi2 : (l.map MFile.ml)[i]? = some x.ml := by rw [List.getElem?_map, hi]; rfl
  have ho := h.2.own i x.ml hi2
  refine ⟨ho.1, fun hn => ?_⟩
  obtain ⟨b, off, e, hb, hc⟩ := (rd_own ho).2 hn
  have e' : x.A = some ⟨b, off, none⟩ := e
  have hk : x.ml.blk = some b := by show (Value.slice x.A x.f.data.length x.c).ownBlock = some b; rw [e']; rfl
  exact ⟨b, off, e', hb, h.2.off i x.ml b hi2 hk, (h.2.lt hi2 hk).1, hc⟩
theorem FGrid.cap {w : World} {base c : Nat} {A : Option Addr} {l : List MFile} (h : FGrid w base A c l) : ∀ x ∈ l, x.f.data.length ≤ x.c := fun x hx => by
  obtain ⟨i, hi⟩ := List.mem_iff_getElem?.1 hx
  exact own_cap (h.2.own i x.ml (by rw [List.getElem?_map, hi]; rfl))
set_option maxRecDepth 100000 in
set_option maxHeartbeats 1000000 in
theorem DiskCopy_own (l : List MFile) (w : World) (A : Option Addr) (c : Nat) (hr : Files w w.heap.size A l) (hn : l.length * 48 ≤ 140737488355328) (hd : ∀ x ∈ l, x.f.data.length ≤ 140737488355328) :
    Calls Tryd.prog 12 #[.agg #[.slice A l.length c]] w fun e w' => ∃ A' c' l', e = .returned (.agg #[.slice A' l.length c']) ∧ files l' = files l ∧ l'.length = l.length ∧ FGrid w' w.heap.size A' c' l' ∧ Below w.heap.size w w' := by
  go_enter Tryd.func12, Tryd.ntmps12
  go_wp2_with fail
  go_loopw [4, 5] (fun i d wr => CopRelG l (.slice A l.length c) w.heap.size w d i wr) (fun i _ _ => l.length - (intOf i).toNat)
  case atStart => exact ⟨0, 0, none, [], by omega, rfl, hid rfl, hid (by simp [files]), OwnGrid.nil, bA (bA (bA (Below.refl _ _) _) _) _, by simp, by go_simp, by go_simp, by go_simp, by go_simp, ⟨.slice none 0 0, by go_simp⟩⟩
  case round =>
    obtain ⟨k, c', A', acc, hk, rfl, HA, HF, hown, hbel, hsz, g0, g2, f2, f1, u1, g1⟩ := hrel
    by_cases hlt : k < l.length
    · obtain ⟨x, hx⟩ : ∃ x, l[k]? = some x := ⟨_, List.getElem?_eq_getElem hlt⟩
      have hxm := List.mem_of_getElem? hx
      obtain ⟨b, off, rfl, hb, c0, c1, c2⟩ := file_cells (hr.1.below hbel) rfl hx
      have hdat := Rd.below (Files.data hr hxm) hbel
      have hbr : b < wr.heap.size := by omega
      have hkz : (k : Int) < (l.length : Int) := by omega
      have HX := hid (take_next hx)
      have hxl := hd x hxm
      clear hx hxm
      go_wp2_with fail
      refine (Bytes_walk x.f.data wr x.A x.c (Rd.any hdat (by decide)) hxl).mono ?_
      rintro e w1 ⟨A1, k1, rfl, o1, b1⟩
      have g0' := keepb b1 g0
      have g2' := keepb b1 g2
      have c0' := keepb b1 c0
      have c2' := keepb b1 c2
      have f2' := keepf b1 f2 (by show w.heap.size + 2 < _; omega)
      have f1' := keepf b1 f1 (by show w.heap.size + 1 < _; omega)
      have g1' := keepb b1 g1
      have hown1 := OwnGrid.below hown b1 (Nat.le_refl _)
      have hasd : Aside MFile.ml A' c' acc (MFile.ml ⟨A1, k1, ⟨x.f.name, x.f.data, x.f.synced⟩⟩) := OwnGrid.aside hown (base' := wr.heap.size) o1 (Nat.le_refl _)
      have o1b := own_more (base' := w.heap.size + 3) o1 hsz
      have hz1 := b1.size
      have hzz0 : w.heap.size < w1.heap.size := by omega
      have hzz1 : w.heap.size + 1 < w1.heap.size := by omega
      have hzz2 : w.heap.size + 2 < w1.heap.size := by omega
      have hbw1 : b < w1.heap.size := by omega
      clear g0 g2 c0 c1 c2 f2 f1 g1 hown
      have hcell2 : ∀ (o : Obj) (w2 : World), Below (w.heap.size + 3) (w1.drew.alloc o) w2 → w2.cell? ⟨w.heap.size, 0, none⟩ = some (.slice (some ⟨b, off, none⟩) l.length c) ∧ w2.cell? ⟨w.heap.size + 1, 0, none⟩ = some u1 ∧ w2.cell? ⟨w.heap.size + 2, 0, none⟩ = some (.slice A' k c') ∧ w2.frozen? ⟨w.heap.size + 1, 0, none⟩ = false ∧ w2.frozen? ⟨w.heap.size + 2, 0, none⟩ = false ∧ Below w.heap.size w w2 ∧ w.heap.size + 3 ≤ w2.heap.size ∧ w2.cell? ⟨b, off + k * 3, none⟩ = some (.string x.f.name) ∧ w2.cell? ⟨b, off + k * 3 + 2, none⟩ = some (.int .i64 x.f.synced) := fun o w2 h2 => by
        have hd : Below (w.heap.size + 3) w1 (w1.drew.alloc o) := ((Below.refl (w.heap.size + 3) w1).drew).alloc (by simp; omega) o
        have h3 := hd.trans h2
        refine ⟨(h3.cell (p := ⟨w.heap.size, 0, none⟩) (by show w.heap.size < _; omega)).trans g0', (h3.cell (p := ⟨w.heap.size + 1, 0, none⟩) (by show w.heap.size + 1 < _; omega)).trans g1', (h3.cell (p := ⟨w.heap.size + 2, 0, none⟩) (by show w.heap.size + 2 < _; omega)).trans g2', (h3.frozen (p := ⟨w.heap.size + 1, 0, none⟩) (by show w.heap.size + 1 < _; omega)).trans f1', (h3.frozen (p := ⟨w.heap.size + 2, 0, none⟩) (by show w.heap.size + 2 < _; omega)).trans f2', (bT hbel b1).trans (h3.mono (by omega)), Nat.le_trans (by omega) h3.size, (h3.cell (p := ⟨b, off + k * 3, none⟩) (by show b < _; omega)).trans c0', (h3.cell (p := ⟨b, off + k * 3 + 2, none⟩) (by show b < _; omega)).trans c2'⟩
      have HFn := hid (show files (acc ++ [⟨A1, k1, ⟨x.f.name, x.f.data, x.f.synced⟩⟩]) = files (l.take (k + 1)) by
        rw [HX.out]; unfold files; rw [List.map_append, List.map_append]; show files acc ++ _ = files (l.take k) ++ _; rw [HF.out]; rfl)
      have hn1 : (k + 1) * 48 ≤ 140737488355328 := by omega
      have hsz1 : ∀ o, w.heap.size + 3 ≤ (w1.drew.alloc o).heap.size := fun o => by simp; omega
      have HK : Hid (∀ V, Below w1.heap.size w1 V → ((fun V => V.cell? ⟨w.heap.size, 0, none⟩ = some (.slice (some ⟨b, off, none⟩) l.length c) ∧ V.cell? ⟨w.heap.size + 2, 0, none⟩ = some (.slice A' k c') ∧ V.cell? ⟨b, off + k * 3, none⟩ = some (.string x.f.name) ∧ V.cell? ⟨b, off + k * 3 + 2, none⟩ = some (.int .i64 x.f.synced)) : World → Prop) V) := hid fun V hV => ⟨keepb hV g0', keepb hV g2', keepb hV c0', keepb hV c2'⟩
      go_wp2_with fail
      refine wp_region_F (S := (fun V => V.cell? ⟨w.heap.size, 0, none⟩ = some (.slice (some ⟨b, off, none⟩) l.length c) ∧ V.cell? ⟨w.heap.size + 2, 0, none⟩ = some (.slice A' k c') ∧ V.cell? ⟨b, off + k * 3, none⟩ = some (.string x.f.name) ∧ V.cell? ⟨b, off + k * 3 + 2, none⟩ = some (.int .i64 x.f.synced))) [17, 19] (by kernel_rfl) (HK.out _ (bD (Below.refl _ _))) (fun hHeld => ?_)
      refine wpAnyF_pure (i := 0) (v := ?vg1_1_0) rfl (by kernel_rfl) (by kernel_rfl) (by kernel_rfl) (fun _ _ _ h => h) (Or.inl ⟨by rfl, ?hyg1_1_0⟩) ?restg1_1_0
      case hyg1_1_0 => (intro w hSw; clear hSw; go_simp; (all_goals with_reducible rfl))
      try simp only [Act.put, List.setIfInBounds_toArray, List.set_cons_zero, List.set_cons_succ, List.getElem_toArray, List.getElem_cons_succ, List.getElem_cons_zero]
      refine wpAnyF_pure (i := 2) (v := ?vg1_2_2) rfl (by kernel_rfl) (by kernel_rfl) (by kernel_rfl) (fun _ _ _ h => h) (Or.inl ⟨by rfl, ?hyg1_2_2⟩) ?restg1_2_2
      case hyg1_2_2 => (intro w hSw; clear hSw; go_simp; (all_goals with_reducible rfl))
      try simp only [Act.put, List.setIfInBounds_toArray, List.set_cons_zero, List.set_cons_succ, List.getElem_toArray, List.getElem_cons_succ, List.getElem_cons_zero]
      refine wpAnyF_pure (i := 4) (v := ?vg1_3_4) rfl (by kernel_rfl) (by kernel_rfl) (by kernel_rfl) (fun _ _ _ h => h) (Or.inl ⟨by rfl, ?hyg1_3_4⟩) ?restg1_3_4
      case hyg1_3_4 => (intro w hSw; clear hSw; go_simp; (all_goals with_reducible rfl))
      try simp only [Act.put, List.setIfInBounds_toArray, List.set_cons_zero, List.set_cons_succ, List.getElem_toArray, List.getElem_cons_succ, List.getElem_cons_zero]
      refine wpAnyF_pure (i := 8) (v := ?vg1_4_8) rfl (by kernel_rfl) (by kernel_rfl) (by kernel_rfl) (fun _ _ _ h => h) (Or.inl ⟨by rfl, ?hyg1_4_8⟩) ?restg1_4_8
      case hyg1_4_8 => (intro w hSw; clear hSw; go_simp; (all_goals with_reducible rfl))
      try simp only [Act.put, List.setIfInBounds_toArray, List.set_cons_zero, List.set_cons_succ, List.getElem_toArray, List.getElem_cons_succ, List.getElem_cons_zero]
      refine wpAnyF_pure (i := 9) (v := ?vg1_5_9) rfl (by kernel_rfl) (by kernel_rfl) (by kernel_rfl) (fun _ _ _ h => h) (Or.inl ⟨by rfl, ?hyg1_5_9⟩) ?restg1_5_9
      case hyg1_5_9 => (intro w hSw; clear hSw; go_simp; (all_goals with_reducible rfl))
      try simp only [Act.put, List.setIfInBounds_toArray, List.set_cons_zero, List.set_cons_succ, List.getElem_toArray, List.getElem_cons_succ, List.getElem_cons_zero]
      refine wpAnyF_pure (i := 11) (v := ?vg1_6_11) rfl (by kernel_rfl) (by kernel_rfl) (by kernel_rfl) (fun _ _ _ h => h) (Or.inl ⟨by rfl, ?hyg1_6_11⟩) ?restg1_6_11
      case hyg1_6_11 => (intro w hSw; clear hSw; go_simp; (all_goals with_reducible rfl))
      try simp only [Act.put, List.setIfInBounds_toArray, List.set_cons_zero, List.set_cons_succ, List.getElem_toArray, List.getElem_cons_succ, List.getElem_cons_zero]
      refine wpAnyF_take [17, 18, 19] (i := 1) (v := ?vg1_7_1) rfl (by kernel_rfl) (by kernel_rfl) (by kernel_rfl) (by kernel_rfl) (fun _ _ _ h => h) (Or.inl ⟨by rfl, ?hyg1_7_1⟩) (by assumption) ?restg1_7_1
      case hyg1_7_1 => (intro w hSw; (try dsimp only at hSw); go_simp; (all_goals with_reducible rfl))
      try simp only [Act.put, List.setIfInBounds_toArray, List.set_cons_zero, List.set_cons_succ, List.getElem_toArray, List.getElem_cons_succ, List.getElem_cons_zero]
      refine wpAnyF_take [5, 6, 7, 15, 16, 17, 18, 19] (i := 3) (v := ?vg1_8_3) rfl (by kernel_rfl) (by kernel_rfl) (by kernel_rfl) (by kernel_rfl) (fun _ _ _ h => h) (Or.inl ⟨by rfl, ?hyg1_8_3⟩) (by assumption) ?restg1_8_3
      case hyg1_8_3 => (intro w hSw; (try dsimp only at hSw); go_simp; (all_goals with_reducible rfl))
      try simp only [Act.put, List.setIfInBounds_toArray, List.set_cons_zero, List.set_cons_succ, List.getElem_toArray, List.getElem_cons_succ, List.getElem_cons_zero]
      refine wpAnyF_pure (i := 5) (v := ?vg1_9_5) rfl (by kernel_rfl) (by kernel_rfl) (by kernel_rfl) (fun _ _ _ h => h) (Or.inl ⟨by rfl, ?hyg1_9_5⟩) ?restg1_9_5
      case hyg1_9_5 => (intro w hSw; clear hSw; go_simp; (all_goals with_reducible rfl))
      try simp only [Act.put, List.setIfInBounds_toArray, List.set_cons_zero, List.set_cons_succ, List.getElem_toArray, List.getElem_cons_succ, List.getElem_cons_zero]
      refine wpAnyF_pure (i := 6) (v := ?vg1_10_6) rfl (by kernel_rfl) (by kernel_rfl) (by kernel_rfl) (fun _ _ _ h => h) (Or.inl ⟨by rfl, ?hyg1_10_6⟩) ?restg1_10_6
      case hyg1_10_6 => (intro w hSw; clear hSw; go_simp; (all_goals with_reducible rfl))
      try simp only [Act.put, List.setIfInBounds_toArray, List.set_cons_zero, List.set_cons_succ, List.getElem_toArray, List.getElem_cons_succ, List.getElem_cons_zero]
      refine wpAnyF_take [15, 16, 17, 18, 19] (i := 7) (v := ?vg1_11_7) rfl (by kernel_rfl) (by kernel_rfl) (by kernel_rfl) (by kernel_rfl) (fun _ _ _ h => h) (Or.inl ⟨by rfl, ?hyg1_11_7⟩) (by assumption) ?restg1_11_7
      case hyg1_11_7 => (intro w hSw; (try dsimp only at hSw); go_simp; (all_goals with_reducible rfl))
      try simp only [Act.put, List.setIfInBounds_toArray, List.set_cons_zero, List.set_cons_succ, List.getElem_toArray, List.getElem_cons_succ, List.getElem_cons_zero]
      refine wpAnyF_take [12, 13, 14, 15, 16, 17, 18, 19] (i := 10) (v := ?vg1_12_10) rfl (by kernel_rfl) (by kernel_rfl) (by kernel_rfl) (by kernel_rfl) (fun _ _ _ h => h) (Or.inl ⟨by rfl, ?hyg1_12_10⟩) (by assumption) ?restg1_12_10
      case hyg1_12_10 => (intro w hSw; (try dsimp only at hSw); go_simp; (all_goals with_reducible rfl))
      try simp only [Act.put, List.setIfInBounds_toArray, List.set_cons_zero, List.set_cons_succ, List.getElem_toArray, List.getElem_cons_succ, List.getElem_cons_zero]
      refine wpAnyF_pure (i := 12) (v := ?vg1_13_12) rfl (by kernel_rfl) (by kernel_rfl) (by kernel_rfl) (fun _ _ _ h => h) (Or.inl ⟨by rfl, ?hyg1_13_12⟩) ?restg1_13_12
      case hyg1_13_12 => (intro w hSw; clear hSw; go_simp; (all_goals with_reducible rfl))
      try simp only [Act.put, List.setIfInBounds_toArray, List.set_cons_zero, List.set_cons_succ, List.getElem_toArray, List.getElem_cons_succ, List.getElem_cons_zero]
      refine wpAnyF_pure (i := 13) (v := ?vg1_14_13) rfl (by kernel_rfl) (by kernel_rfl) (by kernel_rfl) (fun _ _ _ h => h) (Or.inl ⟨by rfl, ?hyg1_14_13⟩) ?restg1_14_13
      case hyg1_14_13 => (intro w hSw; clear hSw; go_simp; (all_goals with_reducible rfl))
      try simp only [Act.put, List.setIfInBounds_toArray, List.set_cons_zero, List.set_cons_succ, List.getElem_toArray, List.getElem_cons_succ, List.getElem_cons_zero]
      refine wpAnyF_take [15, 16, 17, 18, 19] (i := 14) (v := ?vg1_15_14) rfl (by kernel_rfl) (by kernel_rfl) (by kernel_rfl) (by kernel_rfl) (fun _ _ _ h => h) (Or.inl ⟨by rfl, ?hyg1_15_14⟩) (by assumption) ?restg1_15_14
      case hyg1_15_14 => (intro w hSw; (try dsimp only at hSw); go_simp; (all_goals with_reducible rfl))
      try simp only [Act.put, List.setIfInBounds_toArray, List.set_cons_zero, List.set_cons_succ, List.getElem_toArray, List.getElem_cons_succ, List.getElem_cons_zero]
      refine wpAnyF_pure (i := 15) (v := ?vg1_16_15) rfl (by kernel_rfl) (by kernel_rfl) (by kernel_rfl) (fun _ _ _ h => h) (Or.inl ⟨by rfl, ?hyg1_16_15⟩) ?restg1_16_15
      case hyg1_16_15 => (intro w hSw; clear hSw; go_simp; (all_goals with_reducible rfl))
      try simp only [Act.put, List.setIfInBounds_toArray, List.set_cons_zero, List.set_cons_succ, List.getElem_toArray, List.getElem_cons_succ, List.getElem_cons_zero]
      refine wpAnyF_one (i := 16) (by kernel_rfl) rfl (fun K hK => ?_)
      go_simp
      refine hK.out _ _ (HK.out _ (bA (bD (Below.refl _ _)) _)) (fun hHeld => ?_)
      clear hK K
      try simp only [Act.put, List.setIfInBounds_toArray, List.set_cons_zero, List.set_cons_succ, List.getElem_toArray, List.getElem_cons_succ, List.getElem_cons_zero]
      refine wpAnyF_oneD (i := 17) (by kernel_rfl) (by kernel_rfl) rfl (fun K hK => ?_)
      refine step_grid (cells := u8c) (inner := MFile.ml) (sz := 1) rfl rfl el_files rfl HA.out.symm (hown1.below (bA (bD (Below.refl _ _)) _) (Nat.le_refl _)) ⟨A1, k1, ⟨x.f.name, x.f.data, x.f.synced⟩⟩ (own_below o1b (bA (bD (Below.refl _ _)) _) (Nat.le_refl _)) hasd rfl (rd_newAt _ _ _ 3 1 _ (by simp) rfl) (one_file _) hn1 (hsz1 _) ?_
      intro A2 c2 w3 hown3 hb3 hg3
      obtain ⟨gg0, gg1, gg2, ff1, ff2, bb, ss, hh0, hh2⟩ := hcell2 _ _ hb3
      refine hK.out _ _ ?_
      clear hK K
      try simp only [Act.put, List.setIfInBounds_toArray, List.set_cons_zero, List.set_cons_succ, List.getElem_toArray, List.getElem_cons_succ, List.getElem_cons_zero]
      refine wpAnyF_pure (i := 18) (v := ?vg1_19_18) rfl (by kernel_rfl) (by kernel_rfl) (by kernel_rfl) (fun _ _ _ h => h) (Or.inl ⟨by rfl, ?hyg1_19_18⟩) ?restg1_19_18
      case hyg1_19_18 => (intro w hSw; clear hSw; go_simp; (all_goals with_reducible rfl))
      try simp only [Act.put, List.setIfInBounds_toArray, List.set_cons_zero, List.set_cons_succ, List.getElem_toArray, List.getElem_cons_succ, List.getElem_cons_zero]
      refine wpAnyF_oneD (i := 19) (by kernel_rfl) (by kernel_rfl) rfl (fun K hK => ?_)
      go_simp
      refine hK.out _ _ ?_
      clear hK K
      try simp only [Act.put, List.setIfInBounds_toArray, List.set_cons_zero, List.set_cons_succ, List.getElem_toArray, List.getElem_cons_succ, List.getElem_cons_zero]
      refine wpAnyF_done (by kernel_rfl) ?_ _
      all_goals
        go_wp2_with fail
        go_roundw
        case rel =>
          have t1 : ∀ u, ((w3.setCell ⟨w.heap.size + 2, 0, none⟩ u).cell? ⟨w.heap.size, 0, none⟩) = some (.slice (some ⟨b, off, none⟩) l.length c) := fun u => (World.cell?_setCell_far _ _ _ _ (by simp)).trans gg0
          have t2 : ∀ u, ((w3.setCell ⟨w.heap.size + 2, 0, none⟩ u).cell? ⟨w.heap.size + 1, 0, none⟩) = some u1 := fun u => (World.cell?_setCell_far _ _ _ _ (by simp)).trans gg1
          have t3 : ∀ u, ((w3.setCell ⟨w.heap.size + 2, 0, none⟩ u).cell? ⟨w.heap.size + 2, 0, none⟩) = some u := fun u => World.cell?_setCell_same _ _ _ gg2
          have t4 : ∀ u, ((w3.setCell ⟨w.heap.size + 2, 0, none⟩ u).frozen? ⟨w.heap.size + 1, 0, none⟩) = false := fun u => by simpa using ff1
          have t5 : ∀ u, ((w3.setCell ⟨w.heap.size + 2, 0, none⟩ u).frozen? ⟨w.heap.size + 2, 0, none⟩) = false := fun u => by simpa using ff2
          exact ⟨k + 1, c2, A2, acc ++ [⟨A1, k1, ⟨x.f.name, x.f.data, x.f.synced⟩⟩], by omega, by go_num, hid (by rw [List.length_append, HA.out]; rfl), HFn, OwnGrid.store hown3 (by show w.heap.size + 2 < _; omega) _, bS bb (by show w.heap.size ≤ w.heap.size + 2; omega) _, by simpa using ss, t1 _, t3 _, t5 _, t4 _, ⟨_, t2 _⟩⟩
        case measure => simp [intOf]; omega
    · obtain rfl : k = l.length := by omega
      have HFF := hid (show files acc = files l by rw [HF.out, List.take_length])
      have HAA := hid HA.out
      clear HA HF
      go_wp2_with fail
      refine bodyPost_ret (v := .agg #[.slice A' l.length c']) (by simp [results, Tryd.results12, go_sem, *]) rfl ⟨A', c', acc, rfl, HFF.out, HAA.out, ?_, bS hbel (by show w.heap.size ≤ w.heap.size + 1; omega) _⟩
      exact OwnGrid.less (OwnGrid.store hown (by show w.heap.size + 1 < w.heap.size + 3; omega) _) (by omega)
theorem DiskCopy_cap (l : List MFile) (w : World) (A : Option Addr) (c : Nat) (hr : Files w w.heap.size A l) (hn : l.length * 48 ≤ 140737488355328) (hd : ∀ x ∈ l, x.f.data.length ≤ 140737488355328) :
    Calls Tryd.prog 12 #[.agg #[.slice A l.length c]] w fun e w' => ∃ A' c' l', e = .returned (.agg #[.slice A' l.length c']) ∧ files l' = files l ∧ l'.length = l.length ∧ Heaped MFile.cells MFile.parts w' w.heap.size 45 3 A' c' l' ∧ Below w.heap.size w w' ∧ ∀ x ∈ l', x.f.data.length ≤ x.c :=
  (DiskCopy_own l w A c hr hn hd).mono fun e w' ⟨A', c', l', h1, h2, h3, h4, h5⟩ => ⟨A', c', l', h1, h2, h3, h4.heaped, h5, h4.cap⟩
theorem DiskCopy_walk (l : List MFile) (w : World) (A : Option Addr) (c : Nat) (hr : Files w w.heap.size A l) (hn : l.length * 48 ≤ 140737488355328) (hd : ∀ x ∈ l, x.f.data.length ≤ 140737488355328) :
    Calls Tryd.prog 12 #[.agg #[.slice A l.length c]] w fun e w' => ∃ A' c' l', e = .returned (.agg #[.slice A' l.length c']) ∧ files l' = files l ∧ l'.length = l.length ∧ Heaped MFile.cells MFile.parts w' w.heap.size 45 3 A' c' l' ∧ Below w.heap.size w w' :=
  (DiskCopy_cap l w A c hr hn hd).mono fun e w' ⟨A', c', l', h1, h2, h3, h4, h5, _⟩ => ⟨A', c', l', h1, h2, h3, h4, h5⟩
end Go.Proofs.YtphgdpjfolkafaaDoor
