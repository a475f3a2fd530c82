/- The document's copy of a state; the statements' copy. -/
import Derived.Test.YteefemiieidpaaaAnsW
import Derived.Test.YteefemiieidpaaaMem
import Derived.Test.YteefemiieidpaaaDegrees
namespace Go.Proofs.Yteefemiieidpaaa
open Go.ChangeShapes Go.WideShapes Go.ChangeAt Go.RowKit
set_option linter.unusedVariables false
set_option linter.unusedSimpArgs false
/-- A state comes back. -/
def RetS1 (w : World) (s : State) (e : Ending) (w' : World) : Prop :=
  ∃ A c B k m, e = .returned (.agg (stCells { s with mail := m } A c B k)) ∧ lists m = lists s.mail ∧ w'.ownsRow w.heap.size 50 2 (.slice A s.vals.length c) s.vals.length (s.vals.flatMap Val.cells) ∧ Heaped ML.cells (ML.parts i64c 1) w' w.heap.size 53 1 B k m ∧ Below w.heap.size w w'
theorem keepx {B : Nat} {W w' : World} (h : Below B W w') {p : Addr} {v : Value} (hc : W.cell? p = some v) (hp : p.block < B) : w'.cell? p = some v := (h.cell hp).trans hc
theorem keepxf {B : Nat} {W w' : World} (h : Below B W w') {p : Addr} (hc : W.frozen? p = false) (hp : p.block < B) : w'.frozen? p = false := (h.frozen hp).trans hc
theorem lists_snoc {α : Type} {m acc : List (ML α)} {k : Nat} {x : ML α} (A : Option Addr) (c : Nat) (h : lists acc = lists (m.take k)) (hx : m[k]? = some x) : lists (acc ++ [⟨A, c, x.l⟩]) = lists (m.take (k + 1)) := by
  rw [take_next hx]; unfold lists at *; rw [List.map_append, List.map_append, h]; rfl
theorem one_slc (x : ML Int) : ∀ u ∈ x.cells, u.oneCell' = true := by
  intro u hu; simp [ML.cells] at hu; subst hu; rfl
def ScA (s : State) (G : Nat) (W : World) (o i : Value) (wr : World) : Prop :=
  ∃ (k c : Nat) (A : Option Addr), k ≤ s.vals.length ∧ i = .int .i64 k ∧ o = .slice A k c ∧ wr.ownsRow (G + 2) 50 2 (.slice A k c) k ((s.vals.take k).flatMap Val.cells) ∧ Below (G + 2) W wr
def ScB (s : State) (G : Nat) (W : World) (o i : Value) (wr : World) : Prop :=
  ∃ (k c : Nat) (A : Option Addr) (acc : List (ML Int)), k ≤ s.mail.length ∧ i = .int .i64 k ∧ o = .slice A k c ∧ Hid (acc.length = k) ∧ Hid (lists acc = lists (s.mail.take k)) ∧ Heaped ML.cells (ML.parts i64c 1) wr W.heap.size 53 1 A c acc ∧ Below W.heap.size W wr
def ScC (l : List Int) (W : World) (o i : Value) (wr : World) : Prop :=
  ∃ (k c : Nat) (A : Option Addr), k ≤ l.length ∧ i = .int .i64 k ∧ o = .slice A k c ∧ wr.ownsRow W.heap.size 3 1 (.slice A k c) k ((l.take k).flatMap i64c) ∧ Below W.heap.size W wr
set_option maxRecDepth 100000 in
set_option maxHeartbeats 8000000 in
theorem stateCopy_walk (s : State) (w : World) (A B : Option Addr) (c d : Nat) (h1 : Rd w w.heap.size A 2 s.vals.length (s.vals.flatMap Val.cells)) (hn : s.vals.length * 16 ≤ 140737488355328)
    (g1 : Grid i64c 1 w w.heap.size B s.mail) (hg : s.mail.length * 24 ≤ 140737488355328) (hz : ∀ x ∈ s.mail, x.l.length * 8 ≤ 140737488355328) :
    Calls Try.prog 16 #[.agg (stCells s A c B d)] w (RetS1 w s) := by
  unfold stCells
  obtain ⟨step, phase, fresh, done, vs, ml⟩ := s
  simp only at *
  obtain ⟨W, hW⟩ : ∃ W, W = (w.alloc (.cells #[.int .i64 step, .int .i64 phase, .bool fresh, .bool done, .slice A vs.length c, .slice B ml.length d] 30)).alloc (.cells #[.int .i64 0, .int .i64 0, .bool false, .bool false, .slice none 0 0, .slice none 0 0] 30) := ⟨_, rfl⟩
  have b0 : Below w.heap.size w W := by rw [hW]; exact bA (bA (Below.refl _ _) _) _
  have hWs : W.heap.size = w.heap.size + 2 := by rw [hW]; simp
  have q0 : W.cell? ⟨w.heap.size, 0, none⟩ = some (.int .i64 step) := by rw [hW]; go_simp
  have q1 : W.cell? ⟨w.heap.size, 1, none⟩ = some (.int .i64 phase) := by rw [hW]; go_simp
  have q2 : W.cell? ⟨w.heap.size, 2, none⟩ = some (.bool fresh) := by rw [hW]; go_simp
  have q3 : W.cell? ⟨w.heap.size, 3, none⟩ = some (.bool done) := by rw [hW]; go_simp
  have q4 : W.cell? ⟨w.heap.size, 4, none⟩ = some (.slice A vs.length c) := by rw [hW]; go_simp
  have q5 : W.cell? ⟨w.heap.size, 5, none⟩ = some (.slice B ml.length d) := by rw [hW]; go_simp
  have qf : ∀ o, W.frozen? ⟨w.heap.size, o, none⟩ = false := fun o => by rw [hW]; go_simp
  have z0 : W.cell? ⟨w.heap.size + 1, 0, none⟩ = some (.int .i64 0) := by rw [hW]; go_simp
  have z1 : W.cell? ⟨w.heap.size + 1, 1, none⟩ = some (.int .i64 0) := by rw [hW]; go_simp
  have z2 : W.cell? ⟨w.heap.size + 1, 2, none⟩ = some (.bool false) := by rw [hW]; go_simp
  have z3 : W.cell? ⟨w.heap.size + 1, 3, none⟩ = some (.bool false) := by rw [hW]; go_simp
  have z4 : W.cell? ⟨w.heap.size + 1, 4, none⟩ = some (.slice none 0 0) := by rw [hW]; go_simp
  have z5 : W.cell? ⟨w.heap.size + 1, 5, none⟩ = some (.slice none 0 0) := by rw [hW]; go_simp
  have zf : ∀ o, W.frozen? ⟨w.heap.size + 1, o, none⟩ = false := fun o => by rw [hW]; go_simp
  go_enter Try.func16, Try.ntmps16
  go_wp2_with fail
  rw [← hW]
  clear hW
  go_loopw [3, 5] (fun o i wr => ScA ⟨step, phase, fresh, done, vs, ml⟩ w.heap.size W o i wr) (fun _ i _ => vs.length - (intOf i).toNat)
  case atStart => exact ⟨0, 0, none, by omega, rfl, rfl, World.ownsRow_nil _ _ _ _, Below.refl _ _⟩
  case round =>
    obtain ⟨k, c', A', hk, rfl, rfl, hown, hbel⟩ := hrel
    dsimp only at hk hown
    have g4 := keepx hbel q4 (by show w.heap.size < _; omega)
    have hbw := b0.trans (hbel.mono (show w.heap.size ≤ w.heap.size + 2 by omega))
    have hsz : w.heap.size + 2 ≤ wr.heap.size := by have := hbel.size; omega
    by_cases hlt : k < vs.length
    · obtain ⟨x, hx⟩ : ∃ x, vs[k]? = some x := ⟨_, List.getElem?_eq_getElem hlt⟩
      obtain ⟨b, off, rfl, hb, c0, c1⟩ := vcells (h1.below hbw) rfl hx
      have hkz : (k : Int) < (vs.length : Int) := by omega
      have HT := hid (take_next hx)
      have hn1 : (k + 1) * 16 ≤ 140737488355328 := by omega
      have hbr : b < wr.heap.size := by omega
      clear hx
      go_wp2_with (at_builtin; refine wp_app1 _ rfl rfl el_vals rfl (hown.alloc _) rfl (rd_newAt _ _ _ 2 1 _ (by simp) rfl) (one2 _ _) hn1 (Nat.le_trans hsz (by simp)) ?_; intro A2 c2 w4 hown4 hb4 hg4)
      go_roundw
      case rel => exact ⟨k + 1, c2, A2, by show k + 1 ≤ vs.length; omega, by go_num, rfl, by show World.ownsRow _ _ _ _ _ _ ((vs.take (k + 1)).flatMap Val.cells); rw [HT.out, List.flatMap_append]; exact hown4, (hbel.alloc hsz _).trans hb4⟩
      case measure => simp [intOf]; omega
    · obtain rfl : k = vs.length := by omega
      rw [List.take_length] at hown
      have HO := hid hown
      have HB := hid hbel
      clear hown
      obtain ⟨V, hV⟩ : ∃ V, V = wr := ⟨_, rfl⟩
      subst hV
      go_wp2_with fail
      go_loopw [4, 6, 7, 8] (fun o i _ _ w2 => ScB ⟨step, phase, fresh, done, vs, ml⟩ w.heap.size V o i w2) (fun _ i _ _ _ => ml.length - (intOf i).toNat)
      case atStart => exact ⟨0, 0, none, [], by omega, rfl, rfl, hid rfl, hid (by simp [lists]), Heaped.nil, Below.refl _ _⟩
      case round =>
        obtain ⟨w2, hw2⟩ : ∃ w2, w2 = wr := ⟨_, rfl⟩
        subst hw2
        obtain ⟨k, c2, A2, acc, hk, rfl, rfl, HAL, HAC, hown, hb2⟩ := hrel
        dsimp only at hk HAC
        have hbel2 : Below (w.heap.size + 2) W w2 := HB.out.trans (hb2.mono (by have := HB.out.size; omega))
        have q5' := keepx hbel2 q5 (by show w.heap.size < _; omega)
        have hbw2 : Below w.heap.size w w2 := b0.trans (hbel2.mono (by omega))
        have hsz2 := hb2.size
        by_cases hlt : k < ml.length
        · obtain ⟨x, hx⟩ : ∃ x, ml[k]? = some x := ⟨_, List.getElem?_eq_getElem hlt⟩
          have hxm := List.mem_of_getElem? hx
          obtain ⟨b, off, rfl, hb, c0⟩ := ml_cell (g1.1.below hbw2) rfl hx
          have hrow := rdb (Grid.data g1 hxm) (by decide) hbw2
          have hkz : (k : Int) < (ml.length : Int) := by omega
          have hxz := hz x hxm
          have HLS := hid (fun A c => lists_snoc A c HAC.out hx)
          have hbr : b < w2.heap.size := by omega
          clear hx hxm
          have hrow' : Rd w2 w2.heap.size x.A 1 x.l.length (x.l.flatMap i64c) := hrow
          go_wp2_with fail
          go_loopw [7, 8] (fun o i w3 => ScC x.l w2 o i w3) (fun _ i _ => x.l.length - (intOf i).toNat)
          case atStart => exact ⟨0, 0, none, by omega, rfl, rfl, World.ownsRow_nil _ _ _ _, Below.refl _ _⟩
          case round =>
            obtain ⟨w3, hw3⟩ : ∃ w3, w3 = wr := ⟨_, rfl⟩
            subst hw3
            obtain ⟨i, c3, A3, hi, rfl, rfl, hown3, hb3⟩ := hrel
            have q5'' := keepb hb3 q5'
            have c0' := keepb hb3 c0
            by_cases hlt3 : i < x.l.length
            · obtain ⟨y, hy⟩ : ∃ y, x.l[i]? = some y := ⟨_, List.getElem?_eq_getElem hlt3⟩
              obtain ⟨b3, off3, hA3, hbb3, _⟩ := hrow'.2 (show 0 < x.l.length by omega)
              rw [hA3] at hrow' c0'
              have f0 := icell (rdb hrow' (by decide) hb3) rfl hy
              have HT := hid (take_next hy)
              have hiz : (i : Int) < (x.l.length : Int) := by omega
              have hn3 : (i + 1) * 8 ≤ 140737488355328 := by omega
              have hb3s := hb3.size
              have hbr3 : b3 < w3.heap.size := by omega
              have hbr4 : b < w3.heap.size := by omega
              clear hy hA3
              go_wp2_with (at_builtin; refine wp_app1 _ rfl rfl el_ints rfl (hown3.alloc _) rfl (rd_newAt _ _ _ 1 1 _ (by simp) rfl) (one_nil _ rfl) hn3 (Nat.le_trans hb3s (by simp)) ?_; intro A4 c4 w4 hown4 hb4 hg4)
              go_roundw
              case rel => exact ⟨i + 1, c4, A4, by omega, by go_num, rfl, by rw [HT.out, List.flatMap_append]; exact hown4, (hb3.alloc hb3s _).trans hb4⟩
              case measure => simp [intOf]; omega
            · obtain rfl : i = x.l.length := by omega
              rw [List.take_length] at hown3
              have hn2 : (k + 1) * 24 ≤ 140737488355328 := by omega
              have hb3s := hb3.size
              have HH := hid (hown.below hb3 (Nat.le_refl _))
              have HOK := hid (fun o => (Heaped.ok hown hown3 (Nat.le_refl _) hsz2).alloc o)
              have HA3 := hid hown3
              clear hown hown3
              go_wp2_with (at_builtin; refine wp_heap _ rfl rfl el_grid_int rfl HAL.out.symm (HH.out.alloc _) (⟨A3, c3, x.l⟩ : ML Int) (fun p hp => by obtain rfl := List.mem_singleton.1 hp; exact HOK.out _) rfl (rd_newAt _ _ _ 1 1 _ (by simp) rfl) (one_slc _) hn2 (Nat.le_trans (Nat.le_trans hsz2 hb3s) (by simp)) ?_; intro A5 c5 w5 hown5 hb5 hg5)
              go_roundw
              case rel => exact ⟨k + 1, c5, A5, acc ++ [⟨A3, c3, x.l⟩], by show k + 1 ≤ ml.length; omega, by go_num, rfl, hid (by rw [List.length_append, HAL.out]; rfl), hid (HLS.out _ _), hown5, ((hb2.trans (hb3.mono hsz2)).alloc (Nat.le_trans hsz2 hb3s) _).trans hb5⟩
              case measure => simp [intOf]; omega
        · obtain rfl : k = ml.length := by omega
          have HLF := hid (show lists acc = lists ml by rw [HAC.out, List.take_length])
          have hK : ∀ o v, o.block < w.heap.size + 2 → W.cell? o = some v → w2.cell? o = some v := fun o v ho hv => keepx hbel2 hv ho
          have e0 := hK _ _ (by show w.heap.size < _; omega) q0
          have e1 := hK _ _ (by show w.heap.size < _; omega) q1
          have e2 := hK _ _ (by show w.heap.size < _; omega) q2
          have e3 := hK _ _ (by show w.heap.size < _; omega) q3
          have e4 := hK _ _ (by show w.heap.size < _; omega) q4
          have e5 := hK _ _ (by show w.heap.size < _; omega) q5
          have f0 := hK _ _ (by show w.heap.size + 1 < _; omega) z0
          have f1 := hK _ _ (by show w.heap.size + 1 < _; omega) z1
          have f2 := hK _ _ (by show w.heap.size + 1 < _; omega) z2
          have f3 := hK _ _ (by show w.heap.size + 1 < _; omega) z3
          have f4 := hK _ _ (by show w.heap.size + 1 < _; omega) z4
          have f5 := hK _ _ (by show w.heap.size + 1 < _; omega) z5
          have ef : ∀ o, w2.frozen? ⟨w.heap.size, o, none⟩ = false := fun o => keepxf hbel2 (qf o) (by show w.heap.size < _; omega)
          have ff : ∀ o, w2.frozen? ⟨w.heap.size + 1, o, none⟩ = false := fun o => keepxf hbel2 (zf o) (by show w.heap.size + 1 < _; omega)
          have hws : w.heap.size + 1 < w2.heap.size := by omega
          have hws0 : w.heap.size < w2.heap.size := by omega
          have HVO := hid (rd_own (own_below (base' := w.heap.size + 2) HO.out hb2 (by omega)))
          have HVW := hid (own_below (base' := w.heap.size + 2) HO.out (hb2.mono (Nat.le_refl _)) (Nat.le_refl _))
          have HHO := hid (hown.less (base' := w.heap.size + 2) (by omega))
          have HAL2 := hid HAL.out
          clear hK hown q5' hbel hb2 hbel2 HAL
          go_wp2_with fail
          refine bodyPost_ret (v := .agg #[.int .i64 step, .int .i64 phase, .bool fresh, .bool done, .slice A' vs.length c', .slice A2 ml.length c2]) (by simp [results, Try.results16, go_sem, *]) rfl ?_
          refine ⟨A', c', A2, c2, acc, by simp only [stCells, HAL2.out], HLF.out, ?_, ?_, ?_⟩
          · refine own_more (base := w.heap.size + 2) ?_ (by omega)
            repeat (with_reducible refine ownsRow_setCell_below ?_ (by simp; try omega) _)
            exact HVW.out
          · refine Heaped.less (base := w.heap.size + 2) ?_ (by omega)
            repeat (with_reducible refine Heaped.store ?_ (by simp; try omega) _)
            exact HHO.out
          · repeat (with_reducible refine bS ?_ (by simp; try omega) _)
            exact hbw2
set_option maxHeartbeats 2000000 in
theorem states_walk (s : State) (w : World) (A B : Option Addr) (c d : Nat) (h1 : Rd w w.heap.size A 2 s.vals.length (s.vals.flatMap Val.cells)) (hn : s.vals.length * 16 ≤ 140737488355328)
    (g1 : Grid i64c 1 w w.heap.size B s.mail) (hg : s.mail.length * 24 ≤ 140737488355328) (hz : ∀ x ∈ s.mail, x.l.length * 8 ≤ 140737488355328) :
    Calls Try.prog 6 #[.agg (stCells s A c B d)] w (RetS1 w s) := by
  have b0 := bA (bA (Below.refl w.heap.size w) (.cells (stCells s A c B d) 30)) (.cells #[.int .i64 0, .int .i64 0, .bool false, .bool false, .slice none 0 0, .slice none 0 0] 30)
  have HC := hid (stateCopy_walk s _ A B c d (rdb h1 (by decide) b0) hn (Grid.b g1 (by decide) b0) hg hz)
  unfold stCells at *
  go_enter Try.func6, Try.ntmps6
  go_wp2_with fail
  refine HC.out.mono ?_
  rintro e w1 ⟨A1, c1, B1, d1, m, rfl, hm, r1, gr1, b1⟩
  have ff : ∀ o, w1.frozen? ⟨w.heap.size + 1, o, none⟩ = false := fun o => keepf b1 (by go_simp) (by simp)
  have f0 : w1.cell? ⟨w.heap.size + 1, 0, none⟩ = some (.int .i64 0) := keepb b1 (by go_simp)
  have f1 : w1.cell? ⟨w.heap.size + 1, 1, none⟩ = some (.int .i64 0) := keepb b1 (by go_simp)
  have f2 : w1.cell? ⟨w.heap.size + 1, 2, none⟩ = some (.bool false) := keepb b1 (by go_simp)
  have f3 : w1.cell? ⟨w.heap.size + 1, 3, none⟩ = some (.bool false) := keepb b1 (by go_simp)
  have f4 : w1.cell? ⟨w.heap.size + 1, 4, none⟩ = some (.slice none 0 0) := keepb b1 (by go_simp)
  have f5 : w1.cell? ⟨w.heap.size + 1, 5, none⟩ = some (.slice none 0 0) := keepb b1 (by go_simp)
  have hz1 : w.heap.size + 1 < w1.heap.size := by have := b1.size; simp at this; omega
  have HM := hid hm
  clear hm
  unfold stCells
  go_wp2_with fail
  refine bodyPost_ret (v := .agg #[.int .i64 s.step, .int .i64 s.phase, .bool s.fresh, .bool s.done, .slice A1 s.vals.length c1, .slice B1 m.length d1]) (by simp [results, Try.results6, go_sem, *]) rfl ?_
  have hR1 := own_more (base' := w.heap.size + 2) r1 (by simp)
  have hG1 := gr1.less (base' := w.heap.size + 2) (by simp)
  refine ⟨A1, c1, B1, d1, m, rfl, HM.out, ?_, ?_, ?_⟩
  · refine own_more (base := w.heap.size + 2) ?_ (by omega)
    repeat (with_reducible refine ownsRow_setCell_below ?_ (by simp; try omega) _)
    exact hR1
  · refine Heaped.less (base := w.heap.size + 2) ?_ (by omega)
    repeat (with_reducible refine Heaped.store ?_ (by simp; try omega) _)
    exact hG1
  · repeat (with_reducible refine bS ?_ (by simp; try omega) _)
    exact bT b0 b1
end Go.Proofs.Yteefemiieidpaaa
