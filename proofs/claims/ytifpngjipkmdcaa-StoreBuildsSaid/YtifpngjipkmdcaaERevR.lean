/- The document's GraphReversed. -/
import Derived.Test.YtifpngjipkmdcaaERev
namespace Go.Proofs.Ytifpngjipkmdcaa
open Go.ChangeShapes Go.WideShapes Go.ChangeAt Go.RowKit
set_option linter.unusedVariables false
set_option linter.unusedSimpArgs false
set_option maxRecDepth 100000 in
set_option maxHeartbeats 8000000 in
theorem graphReversed_walk (g : Graph) (w : World) (A : Option Addr) (c : Nat) (hr : Rd w w.heap.size A 3 g.edges.length (g.edges.flatMap Edge.cells)) (hl : g.edges.length * 24 ≤ 140737488355328) :
    Calls Try.prog 65 #[.agg #[.int .i64 g.n, .slice A g.edges.length c]] w (RetG w (reversedV g).1 (reversedV g).2) := by
  have b0 := bA (bA (Below.refl w.heap.size w) (.cells #[.int .i64 g.n, .slice A g.edges.length c] 24)) (.cells #[.int .i64 0, .slice none 0 0] 24)
  have hc := hid (graphFault_walk g _ A c (rdb hr (by decide) b0) (by omega))
  by_cases h0 : graphV g = 0
  · rw [h0] at hc
    have HRV := hid (reversedV_ok h0)
    have HSL := hid (srtOf_len (lt := elt) (g.edges.map revE))
    simp only [List.length_map] at HSL
    have HIO := hid (inOrder_walk (g.edges.map revE))
    clear h0
    go_enter Try.func65, Try.ntmps65
    go_wp2_with fail
    refine hc.out.mono ?_
    rintro e w1 ⟨rfl, b1⟩
    have b01 := bT b0 b1
    have hz1 : w.heap.size + 2 ≤ w1.heap.size := by have := b1.size; simpa using this
    have q0 : w1.cell? ⟨w.heap.size, 0, none⟩ = some (.int .i64 g.n) := keepb b1 (by go_simp)
    have q1 : w1.cell? ⟨w.heap.size, 1, none⟩ = some (.slice A g.edges.length c) := keepb b1 (by go_simp)
    have z0 : w1.cell? ⟨w.heap.size + 1, 0, none⟩ = some (.int .i64 0) := keepb b1 (by go_simp)
    have z1 : w1.cell? ⟨w.heap.size + 1, 1, none⟩ = some (.slice none 0 0) := keepb b1 (by go_simp)
    have zf : ∀ o, w1.frozen? ⟨w.heap.size + 1, o, none⟩ = false := fun o => keepf b1 (by go_simp) (by simp)
    go_wp2_with fail
    go_loopw [5, 6] (fun o i wr => RvRel g.edges w1 o i wr) (fun _ i _ => g.edges.length - (intOf i).toNat)
    case atStart => exact ⟨0, 0, none, by omega, rfl, rfl, World.ownsRow_nil _ _ _ _, Below.refl _ _⟩
    case round =>
      obtain ⟨k, c', A', hk, rfl, rfl, hown, hbel⟩ := hrel
      have hsz := hbel.size
      have q1 := keepb hbel q1
      have hws : w.heap.size + 1 < wr.heap.size := by omega
      have hws0 : w.heap.size < wr.heap.size := by omega
      by_cases hlt : k < g.edges.length
      · obtain ⟨e, he⟩ : ∃ e, g.edges[k]? = some e := ⟨_, List.getElem?_eq_getElem hlt⟩
        obtain ⟨b, off, rfl, hb, c0, c1, c2⟩ := edge_cells (hr.below (bT b01 hbel)) rfl he
        have HT := hid (take_nextE he)
        have hkz : (k : Int) < (g.edges.length : Int) := by omega
        have hn1 : (k + 1) * 24 ≤ 140737488355328 := by omega
        have hbr : b < wr.heap.size := by omega
        have hbn : b ≠ wr.heap.size := by omega
        have hSZ : ∀ o : Obj, w1.heap.size ≤ ((wr.alloc o).drew).heap.size := fun o => by simp; omega
        have HKC : Hid (∀ (o : Obj) (w4 : World), Below w1.heap.size (wr.alloc o).drew w4 → Below w1.heap.size wr w4) := hid fun o w4 h => (((Below.refl w1.heap.size wr).alloc hsz o).drew).trans h
        have HO := hid (fun o => World.ownsRow.drew (hown.alloc o))
        have hK : ∀ (o : Obj) (w4 : World), (wr.alloc o).drew.grownBy w4 (Value.slice A' k c').ownBlock → w4.cell? ⟨w.heap.size, 1, none⟩ = some (.slice (some ⟨b, off, none⟩) g.edges.length c) ∧ w4.cell? ⟨b, off + k * 3, none⟩ = some (.int .i64 e.src) ∧ w4.cell? ⟨b, off + k * 3 + 1, none⟩ = some (.int .i64 e.dst) ∧ w4.cell? ⟨b, off + k * 3 + 2, none⟩ = some (.int .i64 e.wt) := fun o w4 h => by
          have hne : ∀ x, (Value.slice A' k c').ownBlock = some x → w1.heap.size ≤ x := fun x hx => (hown.lt x hx).1
          have hc : ∀ (p : Addr) (u : Value), p.block < w1.heap.size → wr.cell? p = some u → w4.cell? p = some u := fun p u hp hu => by
            refine h.cell ?_ (fun e2 => ?_)
            · exact keepb (bA (Below.refl wr.heap.size wr) o) hu
            · have := hne _ e2.symm; omega
          have hb1 := b01.size
          exact ⟨hc _ _ (by show w.heap.size < _; omega) q1, hc _ _ (by show b < _; omega) c0, hc _ _ (by show b < _; omega) c1, hc _ _ (by show b < _; omega) c2⟩
        have HK := hid hK
        clear he hown hK
        go_wp2_with fail
        go_region_held_law (fun w' => w'.cell? ⟨w.heap.size, 1, none⟩ = some (.slice (some ⟨b, off, none⟩) g.edges.length c) ∧ w'.cell? ⟨b, off + k * 3, none⟩ = some (.int .i64 e.src) ∧ w'.cell? ⟨b, off + k * 3 + 1, none⟩ = some (.int .i64 e.dst) ∧ w'.cell? ⟨b, off + k * 3 + 2, none⟩ = some (.int .i64 e.wt)) (first | exact HK.out _ _ hg4 | go_keep) ((refine step_app1 rfl rfl el_edges rfl (HO.out _) rfl (rd_newAt _ _ _ 3 1 _ (by simp) rfl).drew (three_oneR _ _ _) hn1 (hSZ _) ?_; intro A2 c2' w4 hown4 hb4 hg4))
        all_goals
          go_wp2_with fail
          go_roundw
          case rel => exact ⟨k + 1, c2', A2, by omega, by go_num, rfl, by rw [HT.out, List.map_append, List.flatMap_append]; exact hown4, hbel.trans (HKC.out _ _ hb4)⟩
          case measure => simp [intOf]; omega
      · obtain rfl : k = g.edges.length := by omega
        rw [List.take_length] at hown
        have q0 := keepb hbel q0
        have z0 := keepb hbel z0
        have z1 := keepb hbel z1
        have zf : ∀ o, wr.frozen? ⟨w.heap.size + 1, o, none⟩ = false := fun o => keepf hbel (zf o) (by show w.heap.size + 1 < _; omega)
        have b0r := bT b01 hbel
        have hIC := HIO.out wr.drew A' c' (by rw [List.length_map]; exact rdb (rd_own hown) (by decide) (Below.refl wr.heap.size wr).drew) (by simpa using hl)
        simp only [List.length_map] at hIC
        have HC := hid hIC
        have HF : Hid (∀ w2 : World, Below wr.drew.heap.size wr.drew w2 → w2.cell? ⟨w.heap.size, 0, none⟩ = some (.int .i64 g.n) ∧ w2.cell? ⟨w.heap.size + 1, 0, none⟩ = some (.int .i64 0) ∧ w2.cell? ⟨w.heap.size + 1, 1, none⟩ = some (.slice none 0 0) ∧ (∀ o, w2.frozen? ⟨w.heap.size + 1, o, none⟩ = false) ∧ w.heap.size + 2 ≤ w2.heap.size ∧ Below wr.heap.size wr w2) := hid fun w2 h => by
          have hh : Below wr.heap.size wr w2 := (Below.refl wr.heap.size wr).drew.trans h
          exact ⟨keepb hh q0, keepb hh z0, keepb hh z1, fun o => keepf hh (zf o) (by show w.heap.size + 1 < _; omega), Nat.le_trans (by omega) hh.size, hh⟩
        clear hown hIC
        go_wp2_with fail
        go_region_with ((go_at_call 100; refine HC.out.mono ?_; rintro e w2 ⟨A2, c2, rfl, o2, b2⟩; obtain ⟨q0', z0', z1', zf', hz2, hb2⟩ := HF.out _ b2))
        all_goals
          go_wp2_with fail
          refine bodyPost_ret (v := .tuple #[.agg #[.int .i64 g.n, .slice A2 g.edges.length c2], .int .i64 0]) (by simp [results, Try.results65, go_sem, *]) rfl ?_
          rw [HRV.out]
          refine ⟨A2, c2, by show _ = Ending.returned (.tuple #[.agg #[_, .slice A2 (srtOf elt (g.edges.map revE)).length c2], _]); rw [HSL.out], ?_, ?_⟩
          · show World.ownsRow _ _ _ _ (.slice A2 (srtOf elt (g.edges.map revE)).length c2) (srtOf elt (g.edges.map revE)).length _
            rw [HSL.out]
            refine own_more (base := wr.heap.size) ?_ b0r.size
            repeat (with_reducible refine ownsRow_setCell_below ?_ (by simp; try omega) _)
            exact o2
          · repeat (with_reducible refine bS ?_ (by simp; try omega) _)
            exact bT b0r hb2
  · have HRV := hid (reversedV_bad h0)
    have hb : (graphV g != 0) = true := by simpa using h0
    generalize graphV g = r at *
    clear h0
    go_enter Try.func65, Try.ntmps65
    go_wp2_with fail
    refine hc.out.mono ?_
    rintro e w1 ⟨rfl, b1⟩
    have z0 : w1.cell? ⟨w.heap.size + 1, 0, none⟩ = some (.int .i64 0) := keepb b1 (by go_simp)
    have z1 : w1.cell? ⟨w.heap.size + 1, 1, none⟩ = some (.slice none 0 0) := keepb b1 (by go_simp)
    have zf : ∀ o, w1.frozen? ⟨w.heap.size + 1, o, none⟩ = false := fun o => keepf b1 (by go_simp) (by simp)
    go_wp2_with fail
    refine bodyPost_ret (v := .tuple #[.agg #[.int .i64 0, .slice none 0 0], .int .i64 r]) (by simp [results, Try.results65, go_sem, *]) rfl ?_
    rw [HRV.out]
    refine retG_bad _ _ _ ?_
    repeat (with_reducible refine bS ?_ (by simp; try omega) _)
    exact bT b0 b1
end Go.Proofs.Ytifpngjipkmdcaa
