/- paths.hops. -/
import Derived.Test.YtifpngjipkmdcaaHopP
import Derived.Test.YtifpngjipkmdcaaMem
import Derived.Test.YtifpngjipkmdcaaSameS
import Derived.Deep.RegionHeldLaw
import Derived.Test.YtifpngjipkmdcaaRegF
namespace Go.Proofs.Ytifpngjipkmdcaa
open Go.ChangeShapes Go.WideShapes Go.ChangeAt Go.RowKit
set_option linter.unusedVariables false
set_option linter.unusedSimpArgs false
theorem el_grid_hop : ElemTy Try.prog 43 76 1 24 := elemTy (z := .slice none 0 0) Try.underlying43 (by decide) (by decide) (by kernel_rfl) rfl
abbrev OwnHops (w : World) (base : Nat) (A : Option Addr) (c : Nat) (m : List (ML Hop)) : Prop := OwnGrid ML.cells id Hop.cells 76 78 1 2 w base A c m
theorem flat_repH (n : Nat) : (List.replicate n (Value.slice none 0 0)) = (List.replicate n (⟨none, 0, []⟩ : ML Hop)).flatMap ML.cells := by
  rw [flat_ML, List.map_replicate]; rfl
theorem own_rep {w : World} {base n c : Nat} {A : Option Addr} (h : w.ownsRow base 76 1 (.slice A n c) n (List.replicate n (Value.slice none 0 0))) : OwnHops w base A c (List.replicate n ⟨none, 0, []⟩) := by
  rw [flat_repH] at h
  have hm : ∀ (i : Nat) (x : ML Hop), ((List.replicate n (⟨none, 0, []⟩ : ML Hop)).map id)[i]? = some x → x = ⟨none, 0, []⟩ := fun i x hx => by
    have := List.mem_of_getElem? hx
    rw [List.map_id] at this
    exact (List.mem_replicate.1 this).2
  refine ⟨⟨by simpa using h, fun _ _ _ hp => by cases hp⟩, fun i x hx => ?_, fun i x k hx hk => ?_, fun i j x y k _ hx _ hk => ?_⟩
  · rw [hm i x hx]; exact World.ownsRow_nil _ _ _ _
  · rw [hm i x hx] at hk; simp [ML.blk, Value.ownBlock] at hk
  · rw [hm i x hx] at hk; simp [ML.blk, Value.ownBlock] at hk
def HopRel (l : List Edge) (n G : Nat) (w1 : World) (i : Value) (wr : World) : Prop :=
  ∃ (k : Nat) (m : List (ML Hop)), k ≤ l.length ∧ i = .int .i64 k ∧ Hid (m.length = n) ∧ Hid (HopsOf (l.take k) n (lists m)) ∧ OwnHops wr G (some ⟨G, 0, none⟩) n m ∧ Below G w1 wr ∧ G + 1 ≤ wr.heap.size
theorem two_oneH (a b : Int) : ∀ u ∈ (#[Value.int .i64 a, Value.int .i64 b] : Array Value).toList, u.oneCell' = true := by
  intro u hu; simp at hu; rcases hu with rfl | rfl <;> rfl
set_option maxRecDepth 100000 in
set_option maxHeartbeats 8000000 in
theorem hops_own (g : Graph) (n : Nat) (hgn : g.n = (n : Int)) (hn : n ≤ 200) (hE : NatEdges n g.edges) (hl : g.edges.length ≤ 600) (w : World) (A : Option Addr) (c : Nat) (hr : Rd w w.heap.size A 3 g.edges.length (g.edges.flatMap Edge.cells)) :
    Calls Try.prog 36 #[.agg #[.int .i64 g.n, .slice A g.edges.length c]] w fun e w' => ∃ A' m, e = .returned (.slice A' n n) ∧ m.length = n ∧ HopsOf g.edges n (lists m) ∧ OwnHops w' w.heap.size A' n m ∧ Below w.heap.size w w' := by
  obtain ⟨n', l⟩ := g
  simp only at *
  subst hgn
  have HE := hid hE
  clear hE
  go_enter Try.func36, Try.ntmps36
  go_wp2_with (refine wp_make1 rfl rfl Try.underlying43 inf_hops rfl n rfl rfl (by omega) (by omega) ?_; intro w2 o2 b2 hz2; obtain ⟨hc2, hf2⟩ := bcell b2)
  have o3 : OwnHops w2 (w.heap.size + 1) (some ⟨w.heap.size + 1, 0, none⟩) n (List.replicate n ⟨none, 0, []⟩) := own_rep (by simpa using o2)
  have hz3 : w2.heap.size = w.heap.size + 2 := by simpa using hz2
  have b02 : Below w.heap.size w w2 := bT (bA (Below.refl _ _) _) b2
  clear o2 hz2 hc2 hf2 b2
  go_loopw [5, 12] (fun _ i wr => HopRel l n (w.heap.size + 1) w2 i wr) (fun _ i _ => l.length - (intOf i).toNat)
  case atStart => exact ⟨0, _, by omega, rfl, hid (by simp), hid (by have := hopsOf_zero n; simpa [lists] using this), o3, Below.refl _ _, by omega⟩
  case round =>
    obtain ⟨k, m, hk, rfl, HML, HHO, hown, hbel, hsz⟩ := hrel
    have hb0 : Below w.heap.size w wr := b02.trans (hbel.mono (by omega))
    by_cases hlt : k < l.length
    · obtain ⟨e, he⟩ : ∃ e, l[k]? = some e := ⟨_, List.getElem?_eq_getElem hlt⟩
      obtain ⟨a, b, ha, hb, han, hbn⟩ := HE.out k e he
      obtain ⟨bb, off, rfl, hbb, c0, c1, c2⟩ := edge_cells (hr.below hb0) rfl he
      obtain ⟨x, hx⟩ : ∃ x, m[a]? = some x := ⟨_, List.getElem?_eq_getElem (by rw [HML.out]; exact han)⟩
      have HT := hid (take_next he)
      have hxl : x.l.length ≤ 600 := by
        have h1 := HHO.out.2 a x.l (by unfold lists; rw [List.getElem?_map, hx]; rfl)
        have h2 := hopsL_len (l.take k) a
        rw [h1]
        have h3 : (l.take k).length ≤ l.length := by rw [List.length_take]; omega
        omega
      obtain ⟨src, dst, wt⟩ := e
      simp only at ha hb c0 c1 c2 HT
      subst ha hb
      have hx' : (m.flatMap ML.cells)[a]? = some (.slice x.A x.l.length x.c) := by rw [flat_ML, List.getElem?_map, hx]; rfl
      obtain ⟨d0, d1⟩ := own_at hown.1.1 hx'
      have hkz : (k : Int) < (l.length : Int) := by omega
      have haz : (a : Int) < (n : Int) := by omega
      have hbr : bb < wr.heap.size := by have := hb0.size; omega
      have hzG : w.heap.size + 1 < wr.heap.size := by omega
      have hzG2 : w.heap.size < wr.heap.size := by omega
      have hn1 : (x.l.length + 1) * 16 ≤ 140737488355328 := by omega
      have HOX := hid (World.ownsRow.drew (World.ownsRow.alloc (World.ownsRow.alloc (hown.row hx) (.cells #[.int .i64 (a : Int), .int .i64 (b : Int), .int .i64 wt] 82)) (.cells #[.int .i64 (b : Int), .int .i64 wt] 78)))
      have hSZ : w.heap.size + 1 ≤ ((wr.alloc (.cells #[.int .i64 (a : Int), .int .i64 (b : Int), .int .i64 wt] 82)).alloc (.cells #[.int .i64 (b : Int), .int .i64 wt] 78)).drew.heap.size := by simp; omega
      have hPUT : ∀ (A2 : Option Addr) (c2 : Nat) (w3 : World), w3.ownsRow (w.heap.size + 1) 78 2 (.slice A2 (x.l.length + 1) c2) (x.l.length + 1) (x.l.flatMap Hop.cells ++ (#[Value.int .i64 (b : Int), .int .i64 wt] : Array Value).toList) →
          ((wr.alloc (.cells #[.int .i64 (a : Int), .int .i64 (b : Int), .int .i64 wt] 82)).alloc (.cells #[.int .i64 (b : Int), .int .i64 wt] 78)).drew.grownBy w3 (Value.slice x.A x.l.length x.c).ownBlock →
          ((Value.slice A2 (x.l.length + 1) c2).ownBlock = (Value.slice x.A x.l.length x.c).ownBlock ∨ (Value.slice A2 (x.l.length + 1) c2).ownBlock = some ((wr.alloc (.cells #[.int .i64 (a : Int), .int .i64 (b : Int), .int .i64 wt] 82)).alloc (.cells #[.int .i64 (b : Int), .int .i64 wt] 78)).drew.heap.size) →
          Below (w.heap.size + 1) ((wr.alloc (.cells #[.int .i64 (a : Int), .int .i64 (b : Int), .int .i64 wt] 82)).alloc (.cells #[.int .i64 (b : Int), .int .i64 wt] 78)).drew w3 →
          w3.cell? ⟨w.heap.size + 1, a, none⟩ = some (.slice x.A x.l.length x.c) ∧ w3.frozen? ⟨w.heap.size + 1, a, none⟩ = false ∧ w3.cell? ⟨wr.heap.size, 0, none⟩ = some (.int .i64 (a : Int)) ∧ w3.cell? ⟨wr.heap.size, 1, none⟩ = some (.int .i64 (b : Int)) ∧ w3.cell? ⟨wr.heap.size, 2, none⟩ = some (.int .i64 wt) ∧
          OwnHops (w3.setCell ⟨w.heap.size + 1, a, none⟩ (.slice A2 (x.l.length + 1) c2)) (w.heap.size + 1) (some ⟨w.heap.size + 1, 0, none⟩) n (m.set a ⟨A2, c2, x.l ++ [⟨(b : Int), wt⟩]⟩) ∧ Below (w.heap.size + 1) wr w3 ∧ w.heap.size + 2 ≤ w3.heap.size := fun A2 c2 w3 h2 h3 h4 h5 => by
        have hbW : Below (w.heap.size + 1) wr ((wr.alloc (.cells #[.int .i64 (a : Int), .int .i64 (b : Int), .int .i64 wt] 82)).alloc (.cells #[.int .i64 (b : Int), .int .i64 wt] 78)).drew := (((Below.refl _ _).alloc (by omega) _).alloc (by simp; omega) _).drew
        have hownW := hown.below ((((Below.refl wr.heap.size wr).alloc (Nat.le_refl _) (.cells #[.int .i64 (a : Int), .int .i64 (b : Int), .int .i64 wt] 82)).alloc (by simp) (.cells #[.int .i64 (b : Int), .int .i64 wt] 78)).drew) (Nat.le_refl _)
        obtain ⟨g, hA, _, _, hc, hf, hO⟩ := hownW.put (j := 0) (y := ⟨A2, c2, x.l ++ [⟨(b : Int), wt⟩]⟩) (v := .slice A2 (x.l.length + 1) c2) hx (by show World.ownsRow _ _ _ _ (.slice A2 (x.l ++ [_]).length c2) (x.l ++ [_]).length ((x.l ++ [_]).flatMap Hop.cells); rw [List.length_append, List.flatMap_append]; exact h2) h3 (by show (Value.slice A2 (x.l ++ [_]).length c2).ownBlock = _ ∨ (Value.slice A2 (x.l ++ [_]).length c2).ownBlock = _; rw [List.length_append]; exact h4) (fun _ => rfl) (by decide) (by show [Value.slice A2 (x.l ++ [_]).length c2] = _; rw [List.length_append]; rfl)
        injection hA with hA
        injection hA with hA _
        subst hA
        have hxb : ∀ k, (Value.slice x.A x.l.length x.c).ownBlock = some k → k ≠ wr.heap.size := fun k hk => by
          have := (World.ownsRow.lt (hown.row hx) k hk).2
          omega
        have hk0 : ∀ o v, ((wr.alloc (.cells #[.int .i64 (a : Int), .int .i64 (b : Int), .int .i64 wt] 82)).alloc (.cells #[.int .i64 (b : Int), .int .i64 wt] 78)).cell? ⟨wr.heap.size, o, none⟩ = some v → w3.cell? ⟨wr.heap.size, o, none⟩ = some v := fun o v hv => h3.cell hv (fun e => hxb _ e.symm rfl)
        have hc0 := hc 0 _ rfl
        simp only [Nat.mul_one, Nat.add_zero] at hc0 hO
        exact ⟨hc0, hf _, hk0 _ _ (by go_simp), hk0 _ _ (by go_simp), hk0 _ _ (by go_simp), hO, hbW.trans h5, by have := h5.size; simp at this; omega⟩
      have HPUT := hid hPUT
      have HNX := hid (show HopsOf (l.take (k + 1)) n (lists (m.set a ⟨none, 0, x.l ++ [⟨(b : Int), wt⟩]⟩)) by
        rw [HT.out]
        have := hopsOf_next (e := ⟨(a : Int), (b : Int), wt⟩) HHO.out (a := a) (x := x.l) (by unfold lists; rw [List.getElem?_map, hx]; rfl) rfl
        unfold lists; rw [List.map_set]; exact this)
      clear hPUT he hx hx' hown
      have HK : Hid (∀ V, Below (wr.alloc (.cells #[.int .i64 (a : Int), .int .i64 (b : Int), .int .i64 wt] 82)).heap.size (wr.alloc (.cells #[.int .i64 (a : Int), .int .i64 (b : Int), .int .i64 wt] 82)) V → ((fun V => V.cell? ⟨wr.heap.size, 0, none⟩ = some (.int .i64 (a : Int)) ∧ V.cell? ⟨wr.heap.size, 1, none⟩ = some (.int .i64 (b : Int)) ∧ V.cell? ⟨wr.heap.size, 2, none⟩ = some (.int .i64 wt) ∧ V.cell? ⟨w.heap.size + 1, a, none⟩ = some (.slice x.A x.l.length x.c)) : World → Prop) V) := hid fun V hV => ⟨keepb hV (by go_simp), keepb hV (by go_simp), keepb hV (by go_simp), keepb hV (keepb (bA (Below.refl wr.heap.size wr) _) d0)⟩
      go_wp2_with fail
      refine wp_region_F (S := (fun V => V.cell? ⟨wr.heap.size, 0, none⟩ = some (.int .i64 (a : Int)) ∧ V.cell? ⟨wr.heap.size, 1, none⟩ = some (.int .i64 (b : Int)) ∧ V.cell? ⟨wr.heap.size, 2, none⟩ = some (.int .i64 wt) ∧ V.cell? ⟨w.heap.size + 1, a, none⟩ = some (.slice x.A x.l.length x.c))) [16] (by kernel_rfl) (HK.out _ (bD (Below.refl _ _))) (fun hHeld => ?_)
      refine wpAnyF_pure (i := 0) (v := ?vg1_1_0) rfl (by kernel_rfl) (by kernel_rfl) (by kernel_rfl) (fun _ _ _ h => h) (Or.inl ⟨by rfl, ?hyg1_1_0⟩) ?restg1_1_0
      case hyg1_1_0 => (intro w hSw; clear hSw; go_simp; (all_goals with_reducible rfl))
      try simp only [Act.put, List.setIfInBounds_toArray, List.set_cons_zero, List.set_cons_succ, List.getElem_toArray, List.getElem_cons_succ, List.getElem_cons_zero]
      refine wpAnyF_pure (i := 1) (v := ?vg1_2_1) rfl (by kernel_rfl) (by kernel_rfl) (by kernel_rfl) (fun _ _ _ h => h) (Or.inl ⟨by rfl, ?hyg1_2_1⟩) ?restg1_2_1
      case hyg1_2_1 => (intro w hSw; clear hSw; go_simp; (all_goals with_reducible rfl))
      try simp only [Act.put, List.setIfInBounds_toArray, List.set_cons_zero, List.set_cons_succ, List.getElem_toArray, List.getElem_cons_succ, List.getElem_cons_zero]
      refine wpAnyF_pure (i := 3) (v := ?vg1_3_3) rfl (by kernel_rfl) (by kernel_rfl) (by kernel_rfl) (fun _ _ _ h => h) (Or.inl ⟨by rfl, ?hyg1_3_3⟩) ?restg1_3_3
      case hyg1_3_3 => (intro w hSw; clear hSw; go_simp; (all_goals with_reducible rfl))
      try simp only [Act.put, List.setIfInBounds_toArray, List.set_cons_zero, List.set_cons_succ, List.getElem_toArray, List.getElem_cons_succ, List.getElem_cons_zero]
      refine wpAnyF_pure (i := 4) (v := ?vg1_4_4) rfl (by kernel_rfl) (by kernel_rfl) (by kernel_rfl) (fun _ _ _ h => h) (Or.inl ⟨by rfl, ?hyg1_4_4⟩) ?restg1_4_4
      case hyg1_4_4 => (intro w hSw; clear hSw; go_simp; (all_goals with_reducible rfl))
      try simp only [Act.put, List.setIfInBounds_toArray, List.set_cons_zero, List.set_cons_succ, List.getElem_toArray, List.getElem_cons_succ, List.getElem_cons_zero]
      refine wpAnyF_pure (i := 8) (v := ?vg1_5_8) rfl (by kernel_rfl) (by kernel_rfl) (by kernel_rfl) (fun _ _ _ h => h) (Or.inl ⟨by rfl, ?hyg1_5_8⟩) ?restg1_5_8
      case hyg1_5_8 => (intro w hSw; clear hSw; go_simp; (all_goals with_reducible rfl))
      try simp only [Act.put, List.setIfInBounds_toArray, List.set_cons_zero, List.set_cons_succ, List.getElem_toArray, List.getElem_cons_succ, List.getElem_cons_zero]
      refine wpAnyF_pure (i := 10) (v := ?vg1_6_10) rfl (by kernel_rfl) (by kernel_rfl) (by kernel_rfl) (fun _ _ _ h => h) (Or.inl ⟨by rfl, ?hyg1_6_10⟩) ?restg1_6_10
      case hyg1_6_10 => (intro w hSw; clear hSw; go_simp; (all_goals with_reducible rfl))
      try simp only [Act.put, List.setIfInBounds_toArray, List.set_cons_zero, List.set_cons_succ, List.getElem_toArray, List.getElem_cons_succ, List.getElem_cons_zero]
      refine wpAnyF_take [15, 16] (i := 2) (v := ?vg1_7_2) rfl (by kernel_rfl) (by kernel_rfl) (by kernel_rfl) (by kernel_rfl) (fun _ _ _ h => h) (Or.inl ⟨by rfl, ?hyg1_7_2⟩) (by assumption) ?restg1_7_2
      case hyg1_7_2 => (intro w hSw; (try dsimp only at hSw); go_simp; (all_goals with_reducible rfl))
      try simp only [Act.put, List.setIfInBounds_toArray, List.set_cons_zero, List.set_cons_succ, List.getElem_toArray, List.getElem_cons_succ, List.getElem_cons_zero]
      refine wpAnyF_take [6, 7, 14, 15, 16] (i := 5) (v := ?vg1_8_5) rfl (by kernel_rfl) (by kernel_rfl) (by kernel_rfl) (by kernel_rfl) (fun _ _ _ h => h) (Or.inl ⟨by rfl, ?hyg1_8_5⟩) (by assumption) ?restg1_8_5
      case hyg1_8_5 => (intro w hSw; (try dsimp only at hSw); go_simp; (all_goals with_reducible rfl))
      try simp only [Act.put, List.setIfInBounds_toArray, List.set_cons_zero, List.set_cons_succ, List.getElem_toArray, List.getElem_cons_succ, List.getElem_cons_zero]
      refine wpAnyF_pure (i := 6) (v := ?vg1_9_6) rfl (by kernel_rfl) (by kernel_rfl) (by kernel_rfl) (fun _ _ _ h => h) (Or.inl ⟨by rfl, ?hyg1_9_6⟩) ?restg1_9_6
      case hyg1_9_6 => (intro w hSw; clear hSw; go_simp; (all_goals with_reducible rfl))
      try simp only [Act.put, List.setIfInBounds_toArray, List.set_cons_zero, List.set_cons_succ, List.getElem_toArray, List.getElem_cons_succ, List.getElem_cons_zero]
      refine wpAnyF_take [14, 15, 16] (i := 7) (v := ?vg1_10_7) rfl (by kernel_rfl) (by kernel_rfl) (by kernel_rfl) (by kernel_rfl) (fun _ _ _ h => h) (Or.inl ⟨by rfl, ?hyg1_10_7⟩) (by assumption) ?restg1_10_7
      case hyg1_10_7 => (intro w hSw; (try dsimp only at hSw); go_simp; (all_goals with_reducible rfl))
      try simp only [Act.put, List.setIfInBounds_toArray, List.set_cons_zero, List.set_cons_succ, List.getElem_toArray, List.getElem_cons_succ, List.getElem_cons_zero]
      refine wpAnyF_take [12, 13, 14, 15, 16] (i := 9) (v := ?vg1_11_9) rfl (by kernel_rfl) (by kernel_rfl) (by kernel_rfl) (by kernel_rfl) (fun _ _ _ h => h) (Or.inl ⟨by rfl, ?hyg1_11_9⟩) (by assumption) ?restg1_11_9
      case hyg1_11_9 => (intro w hSw; (try dsimp only at hSw); go_simp; (all_goals with_reducible rfl))
      try simp only [Act.put, List.setIfInBounds_toArray, List.set_cons_zero, List.set_cons_succ, List.getElem_toArray, List.getElem_cons_succ, List.getElem_cons_zero]
      refine wpAnyF_take [12, 13, 14, 15, 16] (i := 11) (v := ?vg1_12_11) rfl (by kernel_rfl) (by kernel_rfl) (by kernel_rfl) (by kernel_rfl) (fun _ _ _ h => h) (Or.inl ⟨by rfl, ?hyg1_12_11⟩) (by assumption) ?restg1_12_11
      case hyg1_12_11 => (intro w hSw; (try dsimp only at hSw); go_simp; (all_goals with_reducible rfl))
      try simp only [Act.put, List.setIfInBounds_toArray, List.set_cons_zero, List.set_cons_succ, List.getElem_toArray, List.getElem_cons_succ, List.getElem_cons_zero]
      refine wpAnyF_pure (i := 12) (v := ?vg1_13_12) rfl (by kernel_rfl) (by kernel_rfl) (by kernel_rfl) (fun _ _ _ h => h) (Or.inl ⟨by rfl, ?hyg1_13_12⟩) ?restg1_13_12
      case hyg1_13_12 => (intro w hSw; clear hSw; go_simp; (all_goals with_reducible rfl))
      try simp only [Act.put, List.setIfInBounds_toArray, List.set_cons_zero, List.set_cons_succ, List.getElem_toArray, List.getElem_cons_succ, List.getElem_cons_zero]
      refine wpAnyF_one (i := 13) (by kernel_rfl) rfl (fun K hK => ?_)
      go_simp
      refine hK.out _ _ (HK.out _ (bD (bA (Below.refl _ _) _))) (fun hHeld => ?_)
      clear hK K
      try simp only [Act.put, List.setIfInBounds_toArray, List.set_cons_zero, List.set_cons_succ, List.getElem_toArray, List.getElem_cons_succ, List.getElem_cons_zero]
      refine wpAnyF_one (i := 14) (by kernel_rfl) rfl (fun K hK => ?_)
      refine step_app3 rfl rfl el_hops rfl HOX.out rfl (rd_newAt _ _ _ 2 1 _ (by simp) rfl).drew (two_oneH _ _) hn1 hSZ ?_
      intro A2 c2 w3 hown3 hb3 hg3 hl3
      obtain ⟨gc, gf, s0, s1, s2, hO, hB, hS⟩ := HPUT.out _ _ _ hown3 hg3 hl3 hb3
      refine hK.out _ _ ⟨s0, s1, s2, gc⟩ (fun hHeld => ?_)
      clear hK K
      try simp only [Act.put, List.setIfInBounds_toArray, List.set_cons_zero, List.set_cons_succ, List.getElem_toArray, List.getElem_cons_succ, List.getElem_cons_zero]
      refine wpAnyF_pure (i := 15) (v := ?vg1_16_15) rfl (by kernel_rfl) (by kernel_rfl) (by kernel_rfl) (fun _ _ _ h => h) (Or.inl ⟨by rfl, ?hyg1_16_15⟩) ?restg1_16_15
      case hyg1_16_15 => (intro w hSw; clear hSw; go_simp; (all_goals with_reducible rfl))
      try simp only [Act.put, List.setIfInBounds_toArray, List.set_cons_zero, List.set_cons_succ, List.getElem_toArray, List.getElem_cons_succ, List.getElem_cons_zero]
      refine wpAnyF_oneD (i := 16) (by kernel_rfl) (by kernel_rfl) rfl (fun K hK => ?_)
      go_simp
      refine hK.out _ _ ?_
      clear hK K
      try simp only [Act.put, List.setIfInBounds_toArray, List.set_cons_zero, List.set_cons_succ, List.getElem_toArray, List.getElem_cons_succ, List.getElem_cons_zero]
      refine wpAnyF_done (by kernel_rfl) ?_ _
      all_goals
        go_wp2_with fail
        go_roundw
        case rel => exact ⟨k + 1, _, by omega, by go_num, hid (by rw [List.length_set]; exact HML.out), hid (by have := HNX.out; unfold lists at *; rw [List.map_set] at *; exact this), hO, (hbel.trans hB).setCell (by show w.heap.size + 1 ≤ w.heap.size + 1; omega) _, by simpa using hS⟩
        case measure => simp [intOf]; omega
    · obtain rfl : k = l.length := by omega
      have HHF : Hid (HopsOf l n (lists m)) := hid (by have := HHO.out; rw [List.take_length] at this; exact this)
      clear HHO
      go_wp2_with fail
      go_ret
      exact ⟨_, m, rfl, HML.out, HHF.out, OwnGrid.less hown (by omega), hb0⟩
theorem hops_walk (g : Graph) (n : Nat) (hgn : g.n = (n : Int)) (hn : n ≤ 200) (hE : NatEdges n g.edges) (hl : g.edges.length ≤ 600) (w : World) (A : Option Addr) (c : Nat) (hr : Rd w w.heap.size A 3 g.edges.length (g.edges.flatMap Edge.cells)) :
    Calls Try.prog 36 #[.agg #[.int .i64 g.n, .slice A g.edges.length c]] w fun e w' => ∃ A' m, e = .returned (.slice A' n n) ∧ m.length = n ∧ HopsOf g.edges n (lists m) ∧ Grid Hop.cells 2 w' w'.heap.size A' m ∧ Below w.heap.size w w' :=
  (hops_own g n hgn hn hE hl w A c hr).mono fun e w' ⟨A', m, h1, h2, h3, h4, h5⟩ => ⟨A', m, h1, h2, h3, by have := OwnGrid.led (show OwnGrid ML.cells id Hop.cells 76 78 1 2 w' w.heap.size A' n m from h4); exact this, h5⟩
end Go.Proofs.Ytifpngjipkmdcaa
