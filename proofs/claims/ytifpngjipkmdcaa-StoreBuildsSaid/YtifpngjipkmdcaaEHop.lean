/- graph.Hops, the document's HopsFrom; the law. -/
import Derived.Test.YtifpngjipkmdcaaERev
import Derived.Test.YtifpngjipkmdcaaSameB
namespace Go.Proofs.Ytifpngjipkmdcaa
open Go.ChangeShapes Go.WideShapes Go.ChangeAt Go.RowKit
set_option linter.unusedVariables false
set_option linter.unusedSimpArgs false
def hopE (e : Edge) : Hop := ⟨e.dst, e.wt⟩
def hopsT (l : List Edge) (v : Int) (k : Nat) : List Hop := ((l.take k).filter fun e => e.src == v).map hopE
theorem hopsT_keep {l : List Edge} {v : Int} {k : Nat} {e : Edge} (h : l[k]? = some e) (he : e.src = v) : hopsT l v (k + 1) = hopsT l v k ++ [hopE e] := by
  unfold hopsT; rw [take_nextE h, List.filter_append, List.map_append]; simp [he]
theorem hopsT_skip {l : List Edge} {v : Int} {k : Nat} {e : Edge} (h : l[k]? = some e) (he : ¬ e.src = v) : hopsT l v (k + 1) = hopsT l v k := by
  unfold hopsT; rw [take_nextE h, List.filter_append, List.map_append]; simp [he]
theorem hopsT_len (l : List Edge) (v : Int) (k : Nat) : (hopsT l v k).length ≤ k := by
  unfold hopsT; rw [List.length_map]
  exact Nat.le_trans (List.length_filter_le _ _) (by rw [List.length_take]; omega)
noncomputable def hopsS (l : List Edge) (v : Int) : List Hop := hopsT (srtOf elt l) v l.length
theorem hopsS_len (l : List Edge) (v : Int) : (hopsS l v).length ≤ l.length := hopsT_len _ _ _
noncomputable def hopSV (g : Graph) (v : Int) : List Hop × Int := if graphV g ≠ 0 then ([], graphV g) else if 0 ≤ v ∧ v < g.n then (hopsS g.edges v, 0) else ([], 2)
theorem hopSV_bad {g : Graph} {v : Int} (h : graphV g ≠ 0) : hopSV g v = ([], graphV g) := by unfold hopSV; rw [if_pos h]
theorem hopSV_out {g : Graph} {v : Int} (h : graphV g = 0) (hv : ¬ (0 ≤ v ∧ v < g.n)) : hopSV g v = ([], 2) := by unfold hopSV; rw [if_neg (by simpa using h), if_neg hv]
theorem hopSV_ok {g : Graph} {v : Int} (h : graphV g = 0) (hv : 0 ≤ v ∧ v < g.n) : hopSV g v = (hopsS g.edges v, 0) := by unfold hopSV; rw [if_neg (by simpa using h), if_pos hv]
theorem hopSV_len (g : Graph) (v : Int) : (hopSV g v).1.length ≤ g.edges.length := by
  unfold hopSV; split
  · simp
  · split
    · exact hopsS_len _ _
    · simp
abbrev RetH (w : World) (l : List Hop) (err : Int) : Ending → World → Prop := RetL 78 2 w l.length (l.flatMap Hop.cells) err
theorem retH_none (w w' : World) (err : Int) (b : Below w.heap.size w w') : RetH w [] err (.returned (.tuple #[.slice none 0 0, .int .i64 err])) w' := ⟨none, 0, rfl, World.ownsRow_nil _ _ _ _, b⟩
def HsRel (l : List Edge) (v : Int) (V : World) (o i : Value) (wr : World) : Prop :=
  ∃ (k m c : Nat) (A : Option Addr), k ≤ l.length ∧ i = .int .i64 k ∧ o = .slice A m c ∧ Hid (m = (hopsT l v k).length) ∧ m ≤ k ∧ wr.ownsRow V.heap.size 78 2 (.slice A m c) m ((hopsT l v k).flatMap Hop.cells) ∧ Below V.heap.size V wr
theorem two_oneHp (a b : Int) : ∀ u ∈ (#[Value.int .i64 a, Value.int .i64 b] : Array Value).toList, u.oneCell' = true := by
  intro u hu; simp at hu; rcases hu with rfl | rfl <;> rfl
set_option maxRecDepth 100000 in
set_option maxHeartbeats 4000000 in
theorem hopsG_walk (g : Graph) (v : Int) (w : World) (A : Option Addr) (c : Nat) (hr : Rd w w.heap.size A 3 g.edges.length (g.edges.flatMap Edge.cells)) (hl : g.edges.length * 24 ≤ 140737488355328) :
    Calls Try.prog 62 #[.agg #[.int .i64 g.n, .slice A g.edges.length c], .int .i64 v] w (RetH w (hopSV g v).1 (hopSV g v).2) := by
  have b0 := bA (Below.refl w.heap.size w) (.cells #[.int .i64 g.n, .slice A g.edges.length c] 24)
  have hc := hid (sorted_walk g _ A c (rdb hr (by decide) b0) hl)
  by_cases h0 : graphV g = 0
  · rw [sortedV_ok h0] at hc
    have HSL := hid (srtOf_len (lt := elt) g.edges)
    have hcase : v < 0 ∨ (¬ v < 0 ∧ g.n ≤ v) ∨ (¬ v < 0 ∧ ¬ g.n ≤ v) := by omega
    rcases hcase with h1 | ⟨h1, h2⟩ | ⟨h1, h2⟩
    · have HRV := hid (hopSV_out (v := v) h0 (by omega))
      clear h0
      go_enter Try.func62, Try.ntmps62
      go_wp2_with fail
      refine hc.out.mono ?_
      rintro e w1 ⟨A1, c1, rfl, o1, b1⟩
      have q0 : w1.cell? ⟨w.heap.size, 0, none⟩ = some (.int .i64 g.n) := keepb b1 (by go_simp)
      have b01 := bT b0 b1
      clear o1
      go_wp2_with fail
      go_ret2
      rw [HRV.out]
      exact retH_none _ _ _ (bA b01 _)
    · have HRV := hid (hopSV_out (v := v) h0 (by omega))
      clear h0
      go_enter Try.func62, Try.ntmps62
      go_wp2_with fail
      refine hc.out.mono ?_
      rintro e w1 ⟨A1, c1, rfl, o1, b1⟩
      have q0 : w1.cell? ⟨w.heap.size, 0, none⟩ = some (.int .i64 g.n) := keepb b1 (by go_simp)
      have b01 := bT b0 b1
      have hz1 : w.heap.size < w1.heap.size := by have := b1.size; simp at this; omega
      clear o1
      go_wp2_with fail
      go_ret2
      rw [HRV.out]
      exact retH_none _ _ _ (bA b01 _)
    · have HRV := hid (hopSV_ok (v := v) h0 (by omega))
      clear h0
      go_enter Try.func62, Try.ntmps62
      go_wp2_with fail
      refine hc.out.mono ?_
      rintro e w1 ⟨A1, c1, rfl, o1, b1⟩
      have q0 : w1.cell? ⟨w.heap.size, 0, none⟩ = some (.int .i64 g.n) := keepb b1 (by go_simp)
      have b01 := bT b0 b1
      have hz1 : w.heap.size < w1.heap.size := by have := b1.size; simp at this; omega
      have o1' : w1.ownsRow (w.alloc (.cells #[.int .i64 g.n, .slice A g.edges.length c] 24)).heap.size 82 3 (.slice A1 (srtOf elt g.edges).length c1) (srtOf elt g.edges).length ((srtOf elt g.edges).flatMap Edge.cells) := o1
      have hr1 := rd_own o1'
      generalize hL : srtOf elt g.edges = L at *
      have hLl : L.length = g.edges.length := HSL.out
      have HLL := hid hLl
      have HRV2 : Hid (hopSV g v = (hopsT L v L.length, 0)) := hid (by rw [HRV.out]; unfold hopsS; rw [hL, hLl])
      clear o1 o1' hL
      have bX := bA (Below.refl w1.heap.size w1) (.cells #[.int .i64 g.n, .slice A1 L.length c1] 24)
      have HX := hid (rdb hr1 (by decide) bX)
      have hnl : L.length * 24 ≤ 140737488355328 := by omega
      clear hLl hr1
      go_wp2_with fail
      obtain ⟨V, hV⟩ : ∃ V, V = w1.alloc (.cells #[.int .i64 g.n, .slice A1 L.length c1] 24) := ⟨_, rfl⟩
      rw [← hV] at HX bX ⊢
      clear hV
      go_loopw [8, 10, 30] (fun o _ i wr => HsRel L v V o i wr) (fun _ _ i _ => L.length - (intOf i).toNat)
      case atStart => exact ⟨0, 0, 0, none, by omega, rfl, rfl, hid rfl, by omega, World.ownsRow_nil _ _ _ _, Below.refl _ _⟩
      case round =>
        obtain ⟨k, m, c', A', hk, rfl, rfl, HM, hmk, hown, hbel⟩ := hrel
        have hsz := hbel.size
        by_cases hlt : k < L.length
        · obtain ⟨e, he⟩ : ∃ e, L[k]? = some e := ⟨_, List.getElem?_eq_getElem hlt⟩
          obtain ⟨b, off, rfl, hb, c0, c1, c2⟩ := edge_cells (HX.out.below hbel) rfl he
          have hkz : (k : Int) < (L.length : Int) := by omega
          have hn1 : (m + 1) * 16 ≤ 140737488355328 := by omega
          have hbr : b < wr.heap.size := by omega
          by_cases hv : e.src = v
          · have HT := hid (hopsT_keep he hv)
            subst hv
            clear he
            go_wp2_with (at_builtin; refine wp_app1 _ rfl rfl el_hops rfl ((hown.alloc _).alloc _) rfl (rd_newAt _ _ _ 2 1 _ (by simp) rfl) (two_oneHp _ _) hn1 (Nat.le_trans hsz (by simp <;> omega)) ?_; intro A2 c2 w4 hown4 hb4 hg4)
            go_roundw
            case rel => exact ⟨k + 1, m + 1, c2, A2, by omega, by go_num, rfl, hid (by rw [HT.out, List.length_append, ← HM.out]; rfl), by omega, by rw [HT.out, List.flatMap_append]; exact hown4, ((hbel.alloc hsz _).alloc (Nat.le_trans hsz (by simp)) _).trans hb4⟩
            case measure => simp [intOf]; omega
          · have HT := hid (hopsT_skip he hv)
            have hvb : (e.src == v) = false := by simpa using hv
            clear he hv
            go_wp2_with fail
            go_roundw
            case rel => exact ⟨k + 1, m, c', A', by omega, by go_num, rfl, hid (by rw [HT.out]; exact HM.out), by omega, by rw [HT.out]; exact hown.alloc _, hbel.alloc hsz _⟩
            case measure => simp [intOf]; omega
        · obtain rfl : k = L.length := by omega
          have HO := hid hown
          have HMM := hid HM.out
          have b0V := bT b01 bX
          clear hown
          go_wp2_with fail
          go_ret2
          rw [HRV2.out]
          exact ⟨A', c', by rw [← HMM.out]; rfl, by rw [← HMM.out]; exact own_more HO.out b0V.size, bT b0V hbel⟩
  · rw [sortedV_bad h0] at hc
    have HRV := hid (hopSV_bad (v := v) h0)
    have hb : (graphV g != 0) = true := by simpa using h0
    generalize graphV g = r at *
    clear h0
    go_enter Try.func62, Try.ntmps62
    go_wp2_with fail
    refine hc.out.mono ?_
    rintro e w1 ⟨A1, c1, rfl, o1, b1⟩
    clear o1
    go_wp2_with fail
    go_ret2
    rw [HRV.out]
    exact retH_none _ _ _ (bA (bT b0 b1) _)
end Go.Proofs.Ytifpngjipkmdcaa
