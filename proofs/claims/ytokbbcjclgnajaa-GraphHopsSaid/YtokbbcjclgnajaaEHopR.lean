/- The document's hopsOf, HopsFrom; the law on graph.Hops. -/
import Derived.Test.YtokbbcjclgnajaaEHop
namespace Go.Proofs.Ytokbbcjclgnajaa
open Go.ChangeShapes Go.WideShapes Go.ChangeAt Go.RowKit
set_option linter.unusedVariables false
set_option maxRecDepth 100000 in
set_option maxHeartbeats 4000000 in
theorem hopsOf_walk (l : List Edge) (v : Int) (w : World) (A : Option Addr) (c : Nat) (hr : Rd w w.heap.size A 3 l.length (l.flatMap Edge.cells)) (hl : l.length * 24 ≤ 140737488355328) :
    Calls Try.prog 26 #[.slice A l.length c, .int .i64 v] w fun e w' => ∃ A' c', e = .returned (.slice A' (hopsS l v).length c') ∧ w'.ownsRow w.heap.size 47 2 (.slice A' (hopsS l v).length c') (hopsS l v).length ((hopsS l v).flatMap Hop.cells) ∧ Below w.heap.size w w' := by
  have HSL := hid (srtOf_len (lt := elt) l)
  have HIO := hid (inOrder_walk l w A c hr hl)
  go_enter Try.func26, Try.ntmps26
  go_wp2_with fail
  refine HIO.out.mono ?_
  rintro e w1 ⟨A1, c1, rfl, o1, b1⟩
  have hr1 := rd_own o1
  have HDEF : Hid (hopsS l v = hopsT (srtOf elt l) v l.length) := hid rfl
  generalize srtOf elt l = L at *
  have hLl : L.length = l.length := HSL.out
  have HX : Hid (Rd w1 w1.heap.size A1 3 L.length (L.flatMap Edge.cells)) := hid (by rw [hLl]; exact hr1)
  have HE : Hid (hopsS l v = hopsT L v L.length) := hid (by rw [HDEF.out, hLl])
  rw [← hLl]
  have hnl : L.length * 24 ≤ 140737488355328 := by omega
  clear hLl hr1 o1 HDEF HSL
  go_wp2_with fail
  go_loopw [6, 7] (fun o i wr => HsRel L v w1 o i wr) (fun _ i _ => L.length - (intOf i).toNat)
  case atStart => exact ⟨0, 0, 0, none, by omega, rfl, rfl, hid rfl, by omega, World.ownsRow_nil _ _ _ _, Below.refl _ _⟩
  case round =>
    obtain ⟨k, m, c', A', hk, rfl, rfl, HM, hmk, hown, hbel⟩ := hrel
    have hsz := hbel.size
    by_cases hlt : k < L.length
    · obtain ⟨e, he⟩ : ∃ e, L[k]? = some e := ⟨_, List.getElem?_eq_getElem hlt⟩
      obtain ⟨b, off, rfl, hb, c0, c1, c2⟩ := edge_cells (HX.out.below hbel) rfl he
      have hkz : (k : Int) < (L.length : Int) := by omega
      have hn1 : (m + 1) * 16 ≤ 140737488355328 := by omega
      have hbr : b < wr.heap.size := by omega
      have hbn : b ≠ wr.heap.size := by omega
      by_cases hv : e.src = v
      · have HT := hid (hopsT_keep he hv)
        have hSZ : ∀ o : Obj, w1.heap.size ≤ ((wr.alloc o).drew).heap.size := fun o => by simp; omega
        have HKC : Hid (∀ (o : Obj) (w4 : World), Below w1.heap.size (wr.alloc o).drew w4 → Below w1.heap.size wr w4) := hid fun o w4 h => (((Below.refl w1.heap.size wr).alloc hsz o).drew).trans h
        have HO := hid (fun o => World.ownsRow.drew (hown.alloc o))
        have hK : ∀ (o : Obj) (w4 : World), (wr.alloc o).drew.grownBy w4 (Value.slice A' m c').ownBlock → w4.cell? ⟨b, off + k * 3 + 1, none⟩ = some (.int .i64 e.dst) ∧ w4.cell? ⟨b, off + k * 3 + 2, none⟩ = some (.int .i64 e.wt) := fun o w4 h => by
          have hne : ∀ x, (Value.slice A' m c').ownBlock = some x → w1.heap.size ≤ x := fun x hx => (hown.lt x hx).1
          have hc : ∀ (p : Addr) (u : Value), p.block < w1.heap.size → wr.cell? p = some u → w4.cell? p = some u := fun p u hp hu => by
            refine h.cell ?_ (fun e2 => ?_)
            · exact keepb (bA (Below.refl wr.heap.size wr) o) hu
            · have := hne _ e2.symm; omega
          exact ⟨hc _ _ hb c1, hc _ _ hb c2⟩
        have HK := hid hK
        subst hv
        clear he hown hK
        go_wp2_with fail
        go_region_held_law (fun w' => w'.cell? ⟨b, off + k * 3 + 1, none⟩ = some (.int .i64 e.dst) ∧ w'.cell? ⟨b, off + k * 3 + 2, none⟩ = some (.int .i64 e.wt)) (first | exact HK.out _ _ hg4 | go_keep) ((refine step_app1 rfl rfl el_hops rfl (HO.out _) rfl (rd_newAt _ _ _ 2 1 _ (by simp) rfl).drew (two_oneHp _ _) hn1 (hSZ _) ?_; intro A2 c2' w4 hown4 hb4 hg4))
        all_goals
          go_wp2_with fail
          go_roundw
          case rel => exact ⟨k + 1, m + 1, c2', A2, by omega, by go_num, rfl, hid (by rw [HT.out, List.length_append, ← HM.out]; rfl), by omega, by rw [HT.out, List.flatMap_append]; exact hown4, hbel.trans (HKC.out _ _ hb4)⟩
          case measure => simp [intOf]; omega
      · have HT := hid (hopsT_skip he hv)
        have hvb : (e.src == v) = false := by simpa using hv
        clear he hv
        go_wp2_with fail
        go_roundw
        case rel => exact ⟨k + 1, m, c', A', by omega, by go_num, rfl, hid (by rw [HT.out]; exact HM.out), by omega, by rw [HT.out]; exact hown, hbel⟩
        case measure => simp [intOf]; omega
    · obtain rfl : k = L.length := by omega
      have HO := hid hown
      have HMM := hid HM.out
      clear hown
      go_wp2_with fail
      go_ret
      rw [HE.out]
      exact ⟨A', c', by rw [← HMM.out]; rfl, by rw [← HMM.out]; exact own_more HO.out b1.size, bT b1 hbel⟩
set_option maxRecDepth 100000 in
set_option maxHeartbeats 4000000 in
theorem hopsFrom_walk (g : Graph) (v : Int) (w : World) (A : Option Addr) (c : Nat) (hr : Rd w w.heap.size A 3 g.edges.length (g.edges.flatMap Edge.cells)) (hl : g.edges.length * 24 ≤ 140737488355328) :
    Calls Try.prog 14 #[.agg #[.int .i64 g.n, .slice A g.edges.length c], .int .i64 v] w (RetH w (hopSV g v).1 (hopSV g v).2) := by
  have b0 := bA (Below.refl w.heap.size w) (.cells #[.int .i64 g.n, .slice A g.edges.length c] 24)
  have hc := hid (graphFault_walk g _ A c (rdb hr (by decide) b0) (by omega))
  have hI := fun w => In_walk v 0 (g.n - 1) w
  by_cases h0 : graphV g = 0
  · rw [h0] at hc
    have hgn := (graphV_ok.1 h0).1
    have hw1 : IntKind.i64.wrap (g.n - 1) = g.n - 1 := IntWalk.i64_in _ (by have := hgn.1; have := hgn.2.1; omega)
    by_cases hv : 0 ≤ v ∧ v < g.n
    · have HRV := hid (hopSV_ok h0 hv)
      rw [inB_yes (by omega)] at hI
      have HI := hid hI
      have HHO := hid (hopsOf_walk g.edges v)
      clear h0 hv hI hgn
      go_enter Try.func14, Try.ntmps14
      go_wp2_with fail
      refine hc.out.mono ?_
      rintro e w1 ⟨rfl, b1⟩
      have b01 := bT b0 b1
      have q0 : w1.cell? ⟨w.heap.size, 0, none⟩ = some (.int .i64 g.n) := keepb b1 (by go_simp)
      have q1 : w1.cell? ⟨w.heap.size, 1, none⟩ = some (.slice A g.edges.length c) := keepb b1 (by go_simp)
      go_wp2_with fail
      refine (HI.out _).mono ?_
      rintro e w' ⟨rfl, rfl⟩
      go_wp2_with fail
      refine (HHO.out w1 A c (rdb hr (by decide) b01) hl).mono ?_
      rintro e w2 ⟨A2, c2, rfl, o2, b2⟩
      have HO := hid o2
      clear o2
      go_wp2_with fail
      go_ret2
      rw [HRV.out]
      exact ⟨A2, c2, rfl, own_more HO.out b01.size, bT b01 b2⟩
    · have HRV := hid (hopSV_out h0 hv)
      rw [inB_no (by omega)] at hI
      have HI := hid hI
      clear h0 hv hI hgn
      go_enter Try.func14, Try.ntmps14
      go_wp2_with fail
      refine hc.out.mono ?_
      rintro e w1 ⟨rfl, b1⟩
      have q0 : w1.cell? ⟨w.heap.size, 0, none⟩ = some (.int .i64 g.n) := keepb b1 (by go_simp)
      go_wp2_with fail
      refine (HI.out _).mono ?_
      rintro e w' ⟨rfl, rfl⟩
      go_wp2_with fail
      go_ret2
      rw [HRV.out]
      exact retH_none _ _ _ (bT b0 b1)
  · have HRV := hid (hopSV_bad (v := v) h0)
    have hb : (graphV g != 0) = true := by simpa using h0
    generalize graphV g = r at *
    clear h0
    go_enter Try.func14, Try.ntmps14
    go_wp2_with fail
    refine hc.out.mono ?_
    rintro e w1 ⟨rfl, b1⟩
    go_wp2_with fail
    go_ret2
    rw [HRV.out]
    exact retH_none _ _ _ (bT b0 b1)
set_option maxRecDepth 100000 in
set_option maxHeartbeats 2000000 in
theorem law_GraphHops (w : World) (g : Graph) (A : Option Addr) (c : Nat) (hn : I64 g.n) (hf : Flat w w.heap.size 24 3 Edge.cells A c g.edges) (hw : ∀ x ∈ g.edges, x.wf) (v : Int) (hv : (Lit.int .i64 v).wf = true) :
    Calls Try.prog 5 #[.agg #[.int .i64 g.n, .slice A g.edges.length c], .int .i64 v] w fun e w' => e = .returned (.bool true) ∧ Below w.heap.size w w' := by
  obtain ⟨f1, f2, f3, f4⟩ := hf
  clear hw hn hv
  have h24 : g.edges.length * 24 ≤ 140737488355328 := by omega
  have hv := hopSV_len g v
  have c1 := hid (fun w2 A2 k2 h => hopsG_walk g v w2 A2 k2 h h24)
  have c2 := hid (fun w2 A2 k2 h => hopsFrom_walk g v w2 A2 k2 h h24)
  generalize hopSV g v = z at c1 c2 hv
  obtain ⟨x, r⟩ := z
  simp only at hv c1 c2
  have b0 := bA (Below.refl w.heap.size w) (.cells #[.int .i64 g.n, .slice A g.edges.length c] 24)
  have r0 := rdb f4 (by decide) b0
  clear f1 f2 f3
  go_enter Try.func5, Try.ntmps5
  go_wp2_with fail
  refine (graphs_copy g _ A c r0 h24).mono ?_
  rintro e w1 ⟨A1, k1, rfl, o1, b1⟩
  have b01 := bT b0 b1
  have hr1 := rd_own o1
  have j0 : w1.cell? ⟨w.heap.size, 0, none⟩ = some (.int .i64 g.n) := keepb b1 (by go_simp)
  have j1 : w1.cell? ⟨w.heap.size, 1, none⟩ = some (.slice A g.edges.length c) := keepb b1 (by go_simp)
  have bX := bA (Below.refl w1.heap.size w1) (.cells #[.int .i64 g.n, .slice A1 g.edges.length k1] 24)
  have g0 : (w1.alloc (.cells #[.int .i64 g.n, .slice A1 g.edges.length k1] 24)).cell? ⟨w1.heap.size, 0, none⟩ = some (.int .i64 g.n) := by go_simp
  have g1 : (w1.alloc (.cells #[.int .i64 g.n, .slice A1 g.edges.length k1] 24)).cell? ⟨w1.heap.size, 1, none⟩ = some (.slice A1 g.edges.length k1) := by go_simp
  have j0 := keepb bX j0
  have j1 := keepb bX j1
  clear o1
  go_wp2_with fail
  refine (c1.out _ A1 k1 (rdb hr1 (by decide) bX)).mono ?_
  rintro e w2 ⟨A2, k2, rfl, o2, b2⟩
  have b12 := bT bX b2
  have g0 := keepb b2 g0
  have g1 := keepb b2 g1
  have j0 := keepb b2 j0
  have j1 := keepb b2 j1
  have b02 := bT b01 b12
  go_wp2_with fail
  refine (c2.out _ A c (rdb f4 (by decide) b02)).mono ?_
  rintro e w3 ⟨A3, k3, rfl, o3, b3⟩
  have g0 := keepb b3 g0
  have g1 := keepb b3 g1
  have j0 := keepb b3 j0
  have j1 := keepb b3 j1
  have b03 := bT b02 b3
  have b13 := bT b12 b3
  go_wp2_with fail
  refine (sameHops_walk x w3 A2 A3 k2 k3 (own_rdb o2 (by decide) b3) (rd_own o3) (by omega)).mono ?_
  rintro e w4 ⟨rfl, b4⟩
  have g0 := keepb b4 g0
  have g1 := keepb b4 g1
  have j0 := keepb b4 j0
  have j1 := keepb b4 j1
  go_wp2_with fail
  refine (sameGraph_walk g w4 A1 A k1 c (rdb hr1 (by decide) (bT b13 b4)) (rdb f4 (by decide) (bT b03 b4)) (by omega)).mono ?_
  rintro e w5 ⟨rfl, b5⟩
  go_wp2_with fail
  go_ret
  exact ⟨by simp, bT (bT b03 b4) b5⟩
end Go.Proofs.Ytokbbcjclgnajaa
