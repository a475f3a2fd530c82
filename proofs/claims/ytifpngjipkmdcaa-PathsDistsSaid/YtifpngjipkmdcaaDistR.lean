/- The document's DistOf. -/
import Derived.Test.YtifpngjipkmdcaaDisP
import Derived.Test.YtifpngjipkmdcaaMem
namespace Go.Proofs.Ytifpngjipkmdcaa
open Go.ChangeShapes Go.WideShapes Go.ChangeAt Go.RowKit
set_option linter.unusedVariables false
set_option linter.unusedSimpArgs false
theorem relax1_bound {f : Nat → Int} {e : Nat × Nat × Nat} {C : Int} (hC : 0 ≤ C) (h : ∀ v, f v ≤ C) (hw : e.2.2 ≤ 1099511627776) : ∀ v, relax1 f e v ≤ C + 1099511627776 := by
  intro v
  have h1 := h v
  have h2 := h e.1
  unfold relax1
  split
  · unfold upd
    split
    · omega
    · omega
  · omega
theorem relax_bound {f : Nat → Int} {C : Int} (hC : 0 ≤ C) (h : ∀ v, f v ≤ C) : ∀ l : List (Nat × Nat × Nat), (∀ e ∈ l, e.2.2 ≤ 1099511627776) → ∀ v, relax f l v ≤ C + (l.length : Int) * 1099511627776 := by
  intro l
  induction l using list_snoc_ind2 with
  | h0 => intro _ v; have := h v; simpa [relax] using this
  | h1 l a ih =>
    intro hw v
    have h1 := ih fun e he => hw e (List.mem_append_left _ he)
    rw [relax_snoc]
    have h2 := relax1_bound (C := C + (l.length : Int) * 1099511627776) (by omega) h1 (hw a (by simp)) v
    rw [List.length_append, List.length_singleton]
    omega
theorem relaxes_bound (l : List (Nat × Nat × Nat)) (s : Nat) (hw : ∀ e ∈ l, e.2.2 ≤ 1099511627776) (hl : l.length ≤ 600) : ∀ k v, relaxes l s k v ≤ (k : Int) * 659706976665600 := by
  intro k
  induction k with
  | zero => intro v; show upd (fun _ => -1) s 0 v ≤ _; unfold upd; split <;> simp
  | succ k ih =>
    intro v
    have h := relax_bound (f := relaxes l s k) (C := (k : Int) * 659706976665600) (by omega) ih l hw v
    show relax (relaxes l s k) l v ≤ _
    omega
theorem fl_snoc (k : Nat) (f : Nat → Int) : fl (k + 1) f = fl k f ++ [f k] := by
  unfold fl; rw [List.range_succ, List.map_append]; rfl
theorem i64_oneD (x : Int) : ∀ u ∈ (#[Value.int .i64 x] : Array Value).toList, u.oneCell' = true := by
  intro u hu; simp at hu; subst hu; rfl
theorem triE_take {l : List Edge} {i a b w : Nat} (h : l[i]? = some ⟨(a : Int), (b : Int), (w : Int)⟩) : triE (l.take (i + 1)) = triE (l.take i) ++ [(a, b, w)] := by
  unfold triE; rw [List.take_add_one, h, List.map_append]; simp
theorem wt_at {n : Nat} {l : List Edge} (h : WtEdges n l) {i : Nat} {e : Edge} (he : l[i]? = some e) : ∃ a b w : Nat, e = ⟨(a : Int), (b : Int), (w : Int)⟩ ∧ a < n ∧ b < n ∧ w ≤ 1099511627776 := h e (List.mem_of_getElem? he)
theorem triE_wt {n : Nat} {l : List Edge} (h : WtEdges n l) : ∀ e ∈ triE l, e.2.2 ≤ 1099511627776 := fun e he => by
  obtain ⟨x, hx, rfl⟩ := List.mem_map.1 he
  obtain ⟨a, b, w, rfl, h1, h2, h3⟩ := h x hx
  simpa using h3
def DoA (n : Nat) (w1 : World) (s i : Value) (wr : World) : Prop :=
  ∃ (k c : Nat) (A : Option Addr), k ≤ n ∧ i = .int .i64 k ∧ s = .slice A k c ∧ wr.ownsRow w1.heap.size 3 1 (.slice A k c) k ((fl k (fun _ => -1)).flatMap i64c) ∧ Below w1.heap.size w1 wr
def DoB (F : Nat → Nat → Int) (m n c : Nat) (A : Option Addr) (w1 : World) (i : Value) (wr : World) : Prop :=
  ∃ k : Nat, k ≤ m ∧ i = .int .i64 k ∧ wr.ownsRow w1.heap.size 3 1 (.slice A n c) n ((fl n (F k)).flatMap i64c) ∧ Below w1.heap.size w1 wr
theorem retL_noneDr (w w' : World) (err : Int) (b : Below w.heap.size w w') : RetL 3 1 w 0 [] err (.returned (.tuple #[.slice none 0 0, .int .i64 err])) w' := ⟨none, 0, rfl, World.ownsRow_nil _ _ _ _, b⟩
theorem own_drewD {w : World} {base : Nat} {e : TypeId} {size : Nat} {v : Value} {n : Nat} {xs : List Value} (h : w.ownsRow base e size v n xs) (k : Nat) : (w.drewN k).ownsRow base e size v n xs := h
set_option maxRecDepth 100000 in
set_option maxHeartbeats 1000000 in
theorem distOf_walk (g : Graph) (s : Int) (w : World) (A : Option Addr) (c : Nat) (hr : Rd w w.heap.size A 3 g.edges.length (g.edges.flatMap Edge.cells)) (hl : g.edges.length ≤ 9223372036854775807) :
    Calls Try.prog 12 #[.agg #[.int .i64 g.n, .slice A g.edges.length c], .int .i64 s] w (RetL 3 1 w (distV g s).1.length ((distV g s).1.flatMap i64c) (distV g s).2) := by
  have b0 := bA (Below.refl w.heap.size w) (.cells #[.int .i64 g.n, .slice A g.edges.length c] 24)
  have hc := hid (graphFault_walk g _ A c (rdb hr (by decide) b0) hl)
  have hI := fun w => In_walk s 0 (g.n - 1) w
  by_cases h0 : graphV g = 0
  · rw [h0] at hc
    have hgn := (graphV_ok.1 h0).1
    have hw1 : IntKind.i64.wrap (g.n - 1) = g.n - 1 := IntWalk.i64_in _ (by have := hgn.1; have := hgn.2.1; omega)
    by_cases hv : 0 ≤ s ∧ s < g.n
    · rw [inB_yes (by omega)] at hI
      obtain ⟨n, hn⟩ := Int.eq_ofNat_of_zero_le (show (0 : Int) ≤ g.n by omega)
      obtain ⟨s, rfl⟩ := Int.eq_ofNat_of_zero_le hv.1
      obtain ⟨_, hl6, hn2⟩ := graph_edges h0 hn
      have HWE := hid (wt_edges h0 hn)
      have hsn : s < n := by omega
      have hvz : (s : Int) < (n : Int) := by omega
      have HRE : Hid (distV g s = (fl n (relaxes (triE g.edges) s n), 0)) := hid (by rw [distV_ok h0 hn hsn, fl_ext fun v hv => (relaxes_dist n (triE g.edges) (triE_lt HWE.out) s v hv).symm])
      have HBO := hid (relaxes_bound (triE g.edges) s (triE_wt HWE.out) (by unfold triE; simpa using hl6))
      rw [hn] at hc hI hw1 ⊢
      have HI := hid hI
      obtain ⟨gn, l⟩ := g
      simp only at hn hc hr hl hl6 HWE HRE HBO ⊢
      clear h0 hv hn hI hgn b0
      go_enter Try.func12, Try.ntmps12
      go_wp2_with fail
      refine hc.out.mono ?_
      rintro e w1 ⟨rfl, b1⟩
      have b01 := bT (bA (Below.refl w.heap.size w) (.cells #[.int .i64 (n : Int), .slice A l.length c] 24)) b1
      have hz1 : w.heap.size < w1.heap.size := by have := b1.size; simp at this; omega
      have q0 : w1.cell? ⟨w.heap.size, 0, none⟩ = some (.int .i64 (n : Int)) := keepb b1 (by go_simp)
      have q1 : w1.cell? ⟨w.heap.size, 1, none⟩ = some (.slice A l.length c) := keepb b1 (by go_simp)
      clear b1
      go_wp2_with fail
      refine (HI.out _).mono ?_
      rintro e w' ⟨rfl, rfl⟩
      go_wp2_with fail
      go_loopw [7, 8] (DoA n w1) (fun _ i _ => n - (intOf i).toNat)
      case atStart => exact ⟨0, 0, none, by omega, rfl, rfl, World.ownsRow_nil _ _ _ _, Below.refl _ _⟩
      case round =>
        obtain ⟨k, c', A', hk, rfl, rfl, hown, hbel⟩ := hrel
        have p0 := keepb hbel q0
        have p1 := keepb hbel q1
        by_cases hlt : k < n
        · have HS := hid (fl_snoc k (fun _ => -1))
          have hltz : (k : Int) < (n : Int) := by omega
          go_wp2_with (at_builtin; refine wp_app1 _ rfl rfl el_ints rfl (hown.alloc _) rfl (rd_new _ _ _ 1 1 rfl) (i64_oneD _) (by omega) (Nat.le_trans hbel.size (by simp)) ?_; intro A2 c2 w2 hown2 hb2 hg2)
          go_roundw
          case rel => exact ⟨k + 1, c2, A2, by omega, by go_num, rfl, by rw [HS.out, List.flatMap_append]; exact hown2, (hbel.alloc hbel.size _).trans hb2⟩
          case measure => (simp [intOf]) <;> omega
        · obtain rfl : n = k := by omega
          clear hlt
          obtain ⟨G, rfl, hgb, hgs, d0, d1, HO1⟩ := own_atA hown (flat_i64_get (fl_get (fun _ => -1) hsn))
          have HO2 := hid (show World.ownsRow (wr.setCell ⟨G, s, none⟩ (.int .i64 0)) w1.heap.size 3 1 (.slice (some ⟨G, 0, none⟩) n c') n ((fl n (relaxes (triE l) s 0)).flatMap i64c) from by
            have h := HO1 _ (.int .i64 0) rfl
            rw [flat_i64_set, fl_set _ _ hsn] at h; exact h)
          have HB2 := hid (bS hbel (p := ⟨G, s, none⟩) hgb (.int .i64 0))
          clear hown hbel HO1
          have hgw : G ≠ w.heap.size := by omega
          have hwg : w.heap.size ≠ G := by omega
          go_wp2_with fail
          clear d0 d1 p0 p1
          go_loopw [9] (DoB (relaxes (triE l) s) n n c' (some ⟨G, 0, none⟩) w1) (fun i _ => n - (intOf i).toNat)
          case atStart => exact ⟨0, by omega, rfl, HO2.out, HB2.out⟩
          case round =>
            clear HO2 HB2
            obtain ⟨k, hk, rfl, hown, hbel⟩ := hrel
            have p0 := keepb hbel q0
            have p1 := keepb hbel q1
            by_cases hlt : k < n
            · have hltz : (k : Int) < (n : Int) := by omega
              go_wp2_with fail
              go_loopw [10] (DoB (fun j => relax (relaxes (triE l) s k) (triE (l.take j))) l.length n c' (some ⟨G, 0, none⟩) w1) (fun i _ => l.length - (intOf i).toNat)
              case atStart => exact ⟨0, by omega, rfl, hown, hbel⟩
              case round =>
                clear hown hbel p0 p1
                obtain ⟨j, hj, rfl, hown, hbel⟩ := hrel
                dsimp only at hown
                have p0 := keepb hbel q0
                have p1 := keepb hbel q1
                by_cases hlt2 : j < l.length
                · obtain ⟨e, he⟩ : ∃ e, l[j]? = some e := ⟨_, List.getElem?_eq_getElem hlt2⟩
                  obtain ⟨x, y, z, rfl, hxn, hyn, hzT⟩ := wt_at HWE.out he
                  obtain ⟨b, off, rfl, hb, c0, c1, c2⟩ := edge_cells (hr.below (bT b01 hbel)) rfl he
                  simp only at c0 c1 c2
                  have HR1 : Hid (relax (relaxes (triE l) s k) (triE (l.take (j + 1))) = relax1 (relax (relaxes (triE l) s k) (triE (l.take j))) (x, y, z)) := hid (by rw [triE_take he, relax_snoc])
                  have HFB : Hid (∀ v, relax (relaxes (triE l) s k) (triE (l.take j)) v ≤ 1000000 * 1099511627776) := hid (fun v => by
                    have h := relax_bound (f := relaxes (triE l) s k) (C := (k : Int) * 659706976665600) (by omega) (HBO.out k) (triE (l.take j)) (fun e he => triE_wt HWE.out e (by unfold triE at he ⊢; obtain ⟨q, hq, rfl⟩ := List.mem_map.1 he; exact List.mem_map.2 ⟨q, List.mem_of_mem_take hq, rfl⟩)) v
                    have h2 : (triE (l.take j)).length ≤ 600 := by unfold triE; rw [List.length_map, List.length_take]; omega
                    omega)
                  clear he
                  generalize relax (relaxes (triE l) s k) (triE (l.take j)) = F at *
                  obtain ⟨d0, d1⟩ := own_at hown (flat_i64_get (fl_get F hxn))
                  obtain ⟨d2, d3⟩ := own_at hown (flat_i64_get (fl_get F hyn))
                  have hxz : (x : Int) < (n : Int) := by omega
                  have hyz : (y : Int) < (n : Int) := by omega
                  have hjz : (j : Int) < (l.length : Int) := by omega
                  have hgz : G < wr.heap.size := (hown.lt G rfl).2
                  have hfx := HFB.out x
                  have hfy := HFB.out y
                  have HOW := hid hown
                  have HOA := hid (fun o => hown.alloc o)
                  have HST := hid (show ∀ (o : Obj) (q : Nat), World.ownsRow (((wr.alloc o).drewN q).setCell ⟨G, y, none⟩ (.int .i64 (F x + (z : Int)))) w1.heap.size 3 1 (.slice (some ⟨G, 0, none⟩) n c') n ((fl n (upd F y (F x + (z : Int)))).flatMap i64c) from fun o q => by
                    obtain ⟨g', hg', _, _, _, _, h⟩ := own_atA (HOA.out o) (flat_i64_get (fl_get F hyn))
                    injection hg' with hg'; injection hg' with hg'; subst hg'
                    have h2 := h ((wr.alloc o).drewN q) (.int .i64 (F x + (z : Int))) rfl
                    rw [flat_i64_set, fl_set _ _ hyn] at h2; exact h2)
                  clear hown
                  by_cases hA : 0 ≤ F x
                  · by_cases hB : F y < 0
                    · have HN : Hid (relax (relaxes (triE l) s k) (triE (l.take (j + 1))) = upd F y (F x + (z : Int))) := hid (by rw [HR1.out]; unfold relax1; rw [if_pos ⟨hA, .inl hB⟩])
                      generalize F x = fx at *
                      generalize F y = fy at *
                      go_wp2_with fail
                      go_quiet (fail)
                      go_wp2
                      go_region
                      go_wp2_with fail
                      go_roundw
                      case rel => exact ⟨j + 1, by omega, by go_num, by dsimp only; rw [HN.out]; exact HST.out _ _, (below_drewN (hbel.alloc hbel.size _) _).setCell (by simpa using hgb) _⟩
                      case measure => (simp [intOf]) <;> omega
                    · have hB' : decide (F y < 0) = false := by simpa using hB
                      by_cases hC : F x + (z : Int) < F y
                      · have HN : Hid (relax (relaxes (triE l) s k) (triE (l.take (j + 1))) = upd F y (F x + (z : Int))) := hid (by rw [HR1.out]; unfold relax1; rw [if_pos ⟨hA, .inr hC⟩])
                        generalize F x = fx at *
                        generalize F y = fy at *
                        go_wp2_with fail
                        go_quiet (fail)
                        go_wp2
                        go_region
                        go_wp2_with fail
                        go_roundw
                        case rel => exact ⟨j + 1, by omega, by go_num, by dsimp only; rw [HN.out]; exact HST.out _ _, (below_drewN (hbel.alloc hbel.size _) _).setCell (by simpa using hgb) _⟩
                        case measure => (simp [intOf]) <;> omega
                      · have hC' : decide (F x + (z : Int) < F y) = false := by simpa using hC
                        have HN : Hid (relax (relaxes (triE l) s k) (triE (l.take (j + 1))) = F) := hid (by rw [HR1.out]; unfold relax1; rw [if_neg (fun h => h.2.elim hB hC)])
                        generalize F x = fx at *
                        generalize F y = fy at *
                        go_wp2_with fail
                        go_quiet (fail)
                        go_wp2
                        go_roundw
                        case rel => exact ⟨j + 1, by omega, by go_num, by dsimp only; rw [HN.out]; exact own_drewD (HOA.out _) _, below_drewN (hbel.alloc hbel.size _) _⟩
                        case measure => (simp [intOf]) <;> omega
                  · have HN : Hid (relax (relaxes (triE l) s k) (triE (l.take (j + 1))) = F) := hid (by rw [HR1.out]; unfold relax1; rw [if_neg (fun h => hA h.1)])
                    have hA' : decide (0 ≤ F x) = false := by simpa using hA
                    generalize F x = fx at *
                    generalize F y = fy at *
                    go_wp2_with fail
                    go_quiet (fail)
                    go_wp2
                    go_roundw
                    case rel => exact ⟨j + 1, by omega, by go_num, by dsimp only; rw [HN.out]; exact own_drewD (HOA.out _) _, below_drewN (hbel.alloc hbel.size _) _⟩
                    case measure => (simp [intOf]) <;> omega
                · obtain rfl : j = l.length := by omega
                  have HFF : Hid (relax (relaxes (triE l) s k) (triE (l.take l.length)) = relaxes (triE l) s (k + 1)) := hid (by rw [List.take_length]; rfl)
                  have HOW := hid hown
                  clear hown
                  go_wp2_with fail
                  go_roundw
                  case rel => exact ⟨k + 1, by omega, by go_num, by rw [← HFF.out]; exact HOW.out, hbel⟩
                  case measure => (simp [intOf]) <;> omega
            · obtain rfl : n = k := by omega
              go_wp2_with fail
              go_ret2
              rw [HRE.out]
              exact ⟨_, _, by rw [fl_len]; rfl, by rw [fl_len]; exact own_more hown (Nat.le_of_lt hz1), bT b01 hbel⟩
    · have HRV := hid (distV_out h0 hv)
      rw [inB_no (by omega)] at hI
      have HI := hid hI
      go_enter Try.func12, Try.ntmps12
      go_wp2_with fail
      refine hc.out.mono ?_
      rintro e w1 ⟨rfl, b1⟩
      have q0 : w1.cell? ⟨w.heap.size, 0, none⟩ = some (.int .i64 g.n) := keepb b1 (by go_simp)
      go_wp2_with fail
      refine (HI.out _).mono ?_
      rintro e w' ⟨rfl, rfl⟩
      go_wp2_with fail
      go_ret2
      rw [HRV.out]
      exact retL_noneDr _ _ _ (bT b0 b1)
  · have HRV := hid (distV_bad (s := s) h0)
    have hb : (graphV g != 0) = true := by simpa using h0
    generalize graphV g = r at *
    clear h0
    go_enter Try.func12, Try.ntmps12
    go_wp2_with fail
    refine hc.out.mono ?_
    rintro e w1 ⟨rfl, b1⟩
    go_wp2_with fail
    go_ret2
    rw [HRV.out]
    exact retL_noneDr _ _ _ (bT b0 b1)
end Go.Proofs.Ytifpngjipkmdcaa
