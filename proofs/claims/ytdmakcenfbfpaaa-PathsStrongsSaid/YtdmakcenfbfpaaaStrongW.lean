/- paths.Strong. -/
import Derived.Test.YtdmakcenfbfpaaaStrongP
import Derived.Test.YtdmakcenfbfpaaaReachW
import Derived.Test.YtdmakcenfbfpaaaRegF
import Derived.Deep.DeepCutAuto
namespace Go.Proofs.Ytdmakcenfbfpaaa
open Go.ChangeShapes Go.WideShapes Go.ChangeAt Go.RowKit
set_option linter.unusedVariables false
set_option linter.unusedSimpArgs false
/-- 'make([]T, n)' as one step of a region that draws. -/
theorem step_make1 {P : Program} {ops : Array Oper} {o : Oper} {a : Act} {w : World} {K : Act → World → Prop} {Q : Exit → Act → World → Prop} {E : Prop} (hgd : o.guard = none) {l c : Operand} {t e : TypeId} {bs : Nat} {z : Value}
    (ho : o.op = .makeSlice t l c) (ht : P.underlying t = some (.slice e)) (hi : (P.info? e).map (fun i => (i.zero, i.size, i.bytes)) = some (some z, 1, bs)) (hz : z.cells = #[z])
    (n : Nat) (hl : a.eval l = .int .i64 (n : Int)) (hc : a.eval c = .int .i64 (n : Int)) (hb : bs * n ≤ 281474976710656) (hn : n ≤ 9223372036854775807)
    (h : ∀ w', w'.ownsRow w.heap.size e 1 (.slice (some ⟨w.heap.size, 0, none⟩) n n) n (List.replicate n z) → Below w.heap.size w w' → w'.heap.size = w.heap.size + 1 → K (a.put o.dst (.slice (some ⟨w.heap.size, 0, none⟩) n n)) w') :
    if Region.wanted o (yielded ops a.tmps) = true then Oper.wp P o a w K Q else E := by
  have hw : Region.wanted o (yielded ops a.tmps) = true := by simp [Region.wanted, hgd]
  rw [if_pos hw]
  obtain ⟨i, h0, h1, h2, h3⟩ := info_parts hi
  have hr := run_make (P := P) w t e i z ht h0 h1 .i64 .i64 n n (by omega) (Int.le_refl _) (by rw [h3]; omega) (by omega)
  simp only [Int.toNat_natCast] at hr
  have ho1 := World.ownsRow_lit (base := w.heap.size) (e := e) (size := 1) w (madeCells z.cells (n * 1)) n (Nat.le_refl _) (by simp [maxLen]; omega) (by rw [size_madeCells])
  rw [hz, toList_madeCells_one, Nat.mul_one] at ho1
  have hfin := h _ ho1 ((Below.refl _ _).alloc (Nat.le_refl _) _) (by simp)
  rw [h2, hz, Nat.mul_one] at hr
  unfold Oper.wp
  simp [execOp, ho, hl, hc, hr, Result.andThen]
  exact hfin
theorem natEdges_rev {n : Nat} {l : List Edge} (h : NatEdges n l) : NatEdges n (srtOf elt (l.map revE)) := fun k e hk => by
  have hm := (srtOf_perm (lt := elt) _).mem_iff.1 (List.mem_of_getElem? hk)
  obtain ⟨x, hx, rfl⟩ := List.mem_map.1 hm
  obtain ⟨i, hi⟩ := List.mem_iff_getElem?.1 hx
  obtain ⟨a, b, h1, h2, h3, h4⟩ := h i x hi
  exact ⟨b, a, h2, h1, h4, h3⟩
theorem back_mem (l : List Edge) (e : Edge) : e ∈ srtOf elt (l.map revE) ↔ ∃ x ∈ l, e = revE x := by
  rw [(srtOf_perm (lt := elt) _).mem_iff, List.mem_map]
  exact ⟨fun ⟨x, hx, h⟩ => ⟨x, hx, h.symm⟩, fun ⟨x, hx, h⟩ => ⟨x, hx, h.symm⟩⟩
/-- The labels lie in a row of the call's own; the graph's box is as it was. -/
def LbW (G : Nat) (n : Nat) (f : Nat → Int) (base gl : Nat) (w wr : World) : Prop :=
  wr.ownsRow base 3 1 (.slice (some ⟨gl, 0, none⟩) n n) n ((fl n f).flatMap i64c) ∧ Below w.heap.size w wr ∧ wr.cell? ⟨G, 0, none⟩ = some (.int .i64 (n : Int))
/-- A row that lies below the grid changes. -/
theorem hops_off {w w' : World} {base n p : Nat} {A : Option Addr} {m : List (ML Hop)} (h : OwnHops w base A n m) (hg : w.grownBy w' (some p)) (hp : p < base) : OwnHops w' base A n m :=
  ⟨⟨own_grown h.1.1 hg (fun k hk e => by have := (h.1.1.lt k hk).1; injection e with e; omega), fun _ _ _ hp => by cases hp⟩, fun i x hx => own_grown (h.2.own i x hx) hg (fun k hk e => by have := (h.2.lt hx hk).1; injection e with e; omega), h.2.off, h.2.apart⟩
theorem hops_grid {w : World} {base n : Nat} {A : Option Addr} {m : List (ML Hop)} (h : OwnHops w base A n m) : Grid Hop.cells 2 w w.heap.size A m := OwnGrid.led (show OwnGrid ML.cells id Hop.cells 82 84 1 2 w base A n m from h)
def OutS (l : List (Nat × Nat)) (G n base gl : Nat) (A4 A5 : Option Addr) (m4 m5 : List (ML Hop)) (w : World) (i : Value) (wr : World) : Prop :=
  ∃ k : Nat, k ≤ n ∧ i = .int .i64 k ∧ Hid (LbW G n (lb l k) base gl w wr) ∧ Hid (OwnHops wr (gl + 1) A4 n m4) ∧ Hid (OwnHops wr (gl + 1) A5 n m5)
def InS (l : List (Nat × Nat)) (k G n base gl : Nat) (W : World) (w : World) (i : Value) (wr : World) : Prop :=
  ∃ j : Nat, j ≤ n ∧ i = .int .i64 j ∧ Hid (LbW G n (fun u => if u < j then lb l (k + 1) u else lb l k u) base gl w wr) ∧ W.grownBy wr (some gl)
def MkS (n : Nat) (w : World) (s11 s12 : Value) (wx : World) : Prop :=
  ∃ ga gb : Nat, s11 = .slice (some ⟨ga, 0, none⟩) n n ∧ s12 = .slice (some ⟨gb, 0, none⟩) n n ∧ wx.ownsRow w.heap.size 4 1 (.slice (some ⟨ga, 0, none⟩) n n) n (List.replicate n (.bool false)) ∧ wx.ownsRow w.heap.size 4 1 (.slice (some ⟨gb, 0, none⟩) n n) n (List.replicate n (.bool false)) ∧ ga ≠ gb ∧ Below w.heap.size w wx
theorem lb_keep {l : List (Nat × Nat)} {n v j : Nat} (h : lb l (v + 1) j = lb l v j) : (fl n fun u => if u < j + 1 then lb l (v + 1) u else lb l v u) = fl n fun u => if u < j then lb l (v + 1) u else lb l v u := by
  refine fl_ext fun u _ => ?_
  by_cases e : u < j
  · rw [if_pos e, if_pos (by omega)]
  · rw [if_neg e]
    by_cases e2 : u < j + 1
    · obtain rfl : u = j := by omega
      rw [if_pos e2, h]
    · rw [if_neg e2]
theorem lb_fill {n k : Nat} : fl n (upd (fun u => if u < k then (-1 : Int) else 0) k (-1)) = fl n fun u => if u < k + 1 then (-1 : Int) else 0 := by
  refine fl_ext fun u _ => ?_
  unfold upd
  by_cases e : u = k
  · subst e; rw [if_pos rfl, if_pos (by omega)]
  · rw [if_neg e]
    dsimp only
    by_cases e2 : u < k
    · rw [if_pos e2, if_pos (by omega)]
    · rw [if_neg e2, if_neg (by omega)]
theorem lb_put {l : List (Nat × Nat)} {n v j : Nat} (h : lb l (v + 1) j = (v : Int)) : fl n (upd (fun u => if u < j then lb l (v + 1) u else lb l v u) j (v : Int)) = fl n fun u => if u < j + 1 then lb l (v + 1) u else lb l v u := by
  refine fl_ext fun u _ => ?_
  unfold upd
  by_cases e : u = j
  · subst e; rw [if_pos rfl, if_pos (by omega), h]
  · rw [if_neg e]
    dsimp only
    by_cases e2 : u < j
    · rw [if_pos e2, if_pos (by omega)]
    · rw [if_neg e2, if_neg (by omega)]
set_option maxRecDepth 100000 in
set_option maxHeartbeats 2000000 in
theorem strong_walk (g : Graph) (w : World) (A : Option Addr) (c : Nat) (hr : Rd w w.heap.size A 3 g.edges.length (g.edges.flatMap Edge.cells)) (hl : g.edges.length * 24 ≤ 140737488355328) :
    Calls Try.prog 27 #[.agg #[.int .i64 g.n, .slice A g.edges.length c]] w (RetL 3 1 w (strongV g).1.length ((strongV g).1.flatMap i64c) (strongV g).2) := by
  have b0 := bA (Below.refl w.heap.size w) (.cells #[.int .i64 g.n, .slice A g.edges.length c] 41)
  have HRV := hid (reverse_walk g _ A c (rdb hr (by decide) b0) hl)
  by_cases h0 : graphV g = 0
  · rw [reversedV_ok h0] at HRV
    unfold RetG at HRV
    obtain ⟨n, hn⟩ := Int.eq_ofNat_of_zero_le (show (0 : Int) ≤ g.n from (graphV_ok.1 h0).1.1)
    obtain ⟨hE, hl6, hn2⟩ := graph_edges h0 hn
    have hlen : (srtOf elt (g.edges.map revE)).length = g.edges.length := by rw [srtOf_len, List.length_map]
    have hE' := natEdges_rev hE
    have HBK := hid (rch_back hE hE' (back_mem g.edges))
    have HE := hid hE
    have HE' := hid hE'
    have HSV := hid (strongV_ok h0 hn)
    have HH1 := hid (hops_own g n hn hn2 hE hl6)
    have HH2 := hid (hops_own ⟨g.n, srtOf elt (g.edges.map revE)⟩ n hn hn2 hE' (by show (srtOf elt (g.edges.map revE)).length ≤ 600; omega))
    rw [hn] at HRV HH1 HH2 ⊢
    simp only at HRV HH2
    rw [hlen] at HRV HH2
    have HSR1 := hid (search_walk g.edges n hn2 hE)
    have HSR2 := hid (search_walk (srtOf elt (g.edges.map revE)) n hn2 hE')
    rw [hlen] at HSR2
    generalize srtOf elt (g.edges.map revE) = bk at *
    have HL6 := hid hl6
    rw [hn] at b0
    have hlq : (strongV g).1.length = n := by rw [HSV.out, fl_len]
    rw [HSV.out, fl_len]
    clear h0 hn hE hE' hlen hlq HSV
    go_enter Try.func27, Try.ntmps27
    go_wp2_with fail
    refine HRV.out.mono ?_
    rintro e w2 ⟨A2, k2, rfl, r2, b2⟩
    have b02 := bT b0 b2
    have hz2 : w.heap.size < w2.heap.size := by have := b2.size; simp at this; omega
    have q0y : w2.cell? ⟨w.heap.size, 0, none⟩ = some (.int .i64 (n : Int)) := keepb b2 (by go_simp)
    have q1y : w2.cell? ⟨w.heap.size, 1, none⟩ = some (.slice A g.edges.length c) := keepb b2 (by go_simp)
    have bX := bA (Below.refl w2.heap.size w2) (.cells #[.int .i64 (n : Int), .slice A2 g.edges.length k2] 41)
    have q0x := keepb bX q0y
    have q1x := keepb bX q1y
    have p0x : (w2.alloc (.cells #[.int .i64 (n : Int), .slice A2 g.edges.length k2] 41)).cell? ⟨w2.heap.size, 0, none⟩ = some (.int .i64 (n : Int)) := by go_simp
    have p1x : (w2.alloc (.cells #[.int .i64 (n : Int), .slice A2 g.edges.length k2] 41)).cell? ⟨w2.heap.size, 1, none⟩ = some (.slice A2 g.edges.length k2) := by go_simp
    go_wp2_with (refine wp_make1 rfl rfl Try.underlying43 inf_int rfl n rfl rfl (by omega) (by omega) ?_; intro w3 o3 b3 hz3)
    have b2X := bT bX b3
    have b03 := bT b02 b2X
    have q0 := keepb b3 q0x
    have q1 := keepb b3 q1x
    have p0 := keepb b3 p0x
    have p1 := keepb b3 p1x
    rw [replicate_i64] at o3
    have hzX : (w2.alloc (.cells #[.int .i64 (n : Int), .slice A2 g.edges.length k2] 41)).heap.size = w2.heap.size + 1 := by simp
    rw [hzX] at o3
    have RD2 := hid (rd_own r2)
    clear q0x q1x q0y q1y p0x p1x r2 b2 HRV b3 bX
    have hgl0 : w.heap.size < w2.heap.size + 1 := by omega
    have hz4 : w2.heap.size + 1 < w3.heap.size := by rw [hz3, hzX]; omega
    go_wp2_with fail
    go_loopw [27] (fun i wr => ∃ k : Nat, k ≤ n ∧ i = .int .i64 k ∧ Hid (wr.ownsRow (w2.heap.size + 1) 3 1 (.slice (some ⟨w2.heap.size + 1, 0, none⟩) n n) n ((fl n fun u => if u < k then -1 else 0).flatMap i64c)) ∧ w3.grownBy wr (some (w2.heap.size + 1))) (fun i _ => n - (intOf i).toNat)
    case atStart => exact ⟨0, by omega, rfl, hid (by rw [show (fl n fun u => if u < 0 then -1 else 0) = List.replicate n 0 by unfold fl; rw [List.eq_replicate_iff]; exact ⟨by simp, by simp⟩]; exact o3), World.grownBy.refl _ _⟩
    case round =>
      obtain ⟨k, hk, rfl, HOW, hgr⟩ := hrel
      by_cases hlt : k < n
      · have hkz : (k : Int) < (n : Int) := by omega
        have how := HOW.out
        have hbk := (how.lt _ rfl).2
        obtain ⟨cv, cf⟩ := own_at how (flat_i64_get (fl_get _ hlt))
        clear how
        go_wp2_with fail
        go_roundw
        case rel =>
          refine ⟨k + 1, by omega, by go_num, hid ?_, gb_store hgr _ _⟩
          have h := (HOW.out.stored k (.int .i64 (-1))).1
          rw [flat_i64_set, fl_set _ _ hlt] at h
          rw [← lb_fill]
          exact h
        case measure => simp [intOf]; omega
      · obtain rfl : k = n := by omega
        have b0B : Below w.heap.size w wr := b03.grown hgr b03.size (fun k hk => by injection hk with hk; omega)
        have b3B : Below (w2.heap.size + 1) w3 wr := (Below.refl _ _).grown hgr (by omega) (fun k hk => by injection hk with hk; omega)
        have q0 := keepy b3B q0 (by show w.heap.size < _; omega)
        have q1 := keepy b3B q1 (by show w.heap.size < _; omega)
        have p0 := keepy b3B p0 (by show w2.heap.size < _; omega)
        have p1 := keepy b3B p1 (by show w2.heap.size < _; omega)
        have HLB : Hid (LbW w.heap.size k (lb (prs g.edges) 0) (w2.heap.size + 1) (w2.heap.size + 1) w wr) := hid ⟨by rw [fl_ext (g := fun u => if u < k then -1 else 0) fun u hu => by rw [if_pos hu, lb_zero]]; exact HOW.out, b0B, q0⟩
        have hzB : w2.heap.size + 1 < wr.heap.size := (HOW.out.lt _ rfl).2
        have hr2B : Rd wr wr.heap.size A2 3 g.edges.length (bk.flatMap Edge.cells) := ((RD2.out).below ((b2X.mono (Nat.le_refl _)).trans (b3B.mono (by omega)))).any (by decide)
        have HH1B := hid (fun V (hV : Below wr.heap.size wr V) => HH1.out V A c (rdb hr (by decide) (bT b0B hV)))
        have HH2B := hid (fun V (hV : Below wr.heap.size wr V) => HH2.out V A2 k2 (rdb hr2B (by decide) hV))
        have HHB : Hid (w2.heap.size + 1 < wr.heap.size ∧ ∀ V, Below wr.heap.size wr V → wr.heap.size ≤ V.heap.size) := hid ⟨hzB, fun V h => h.size⟩
        have HK : Hid (∀ V, Below wr.heap.size wr V → ((fun V => Below wr.heap.size wr V ∧ V.cell? ⟨w.heap.size, 0, none⟩ = some (.int .i64 (k : Int)) ∧ V.cell? ⟨w.heap.size, 1, none⟩ = some (.slice A g.edges.length c) ∧ V.cell? ⟨w2.heap.size, 0, none⟩ = some (.int .i64 (k : Int)) ∧ V.cell? ⟨w2.heap.size, 1, none⟩ = some (.slice A2 g.edges.length k2)) : World → Prop) V) := hid fun V hV => ⟨hV, keepb hV q0, keepb hV q1, keepb hV p0, keepb hV p1⟩
        clear HOW hgr o3 HH1 HH2 b3B hr2B
        go_wp2_with fail
        refine wp_region_F (S := (fun V => Below wr.heap.size wr V ∧ V.cell? ⟨w.heap.size, 0, none⟩ = some (.int .i64 (k : Int)) ∧ V.cell? ⟨w.heap.size, 1, none⟩ = some (.slice A g.edges.length c) ∧ V.cell? ⟨w2.heap.size, 0, none⟩ = some (.int .i64 (k : Int)) ∧ V.cell? ⟨w2.heap.size, 1, none⟩ = some (.slice A2 g.edges.length k2))) [] (by kernel_rfl) (HK.out _ (bD (Below.refl _ _))) (fun hHeld => ?_)
        refine wpAnyF_take [1, 3, 4, 5] (i := 0) (v := ?vg1_1_0) rfl (by kernel_rfl) (by kernel_rfl) (by kernel_rfl) (by kernel_rfl) (fun _ _ _ h => h) (Or.inl ⟨by rfl, ?hyg1_1_0⟩) (by assumption) ?restg1_1_0
        case hyg1_1_0 => (intro w hSw; (try dsimp only at hSw); go_simp; (all_goals with_reducible rfl))
        try simp only [Act.put, List.setIfInBounds_toArray, List.set_cons_zero, List.set_cons_succ, List.getElem_toArray, List.getElem_cons_succ, List.getElem_cons_zero]
        refine wpAnyF_take [3, 4, 5] (i := 2) (v := ?vg1_2_2) rfl (by kernel_rfl) (by kernel_rfl) (by kernel_rfl) (by kernel_rfl) (fun _ _ _ h => h) (Or.inl ⟨by rfl, ?hyg1_2_2⟩) (by assumption) ?restg1_2_2
        case hyg1_2_2 => (intro w hSw; (try dsimp only at hSw); go_simp; (all_goals with_reducible rfl))
        try simp only [Act.put, List.setIfInBounds_toArray, List.set_cons_zero, List.set_cons_succ, List.getElem_toArray, List.getElem_cons_succ, List.getElem_cons_zero]
        refine wpAnyF_one (i := 1) (by kernel_rfl) rfl (fun K hK => ?_)
        go_simp
        go_at_call 38
        refine (HH1B.out _ hHeld.1).mono ?_
        rintro e w4 ⟨A4, m4, rfl, hm4, hh4, hg4, b4⟩
        have HM4 := hid hm4
        have H4B := hid (bT hHeld.1 b4)
        have HH4 := hid hh4
        clear hm4 hh4
        go_wp2_with fail
        refine hK.out _ _ (HK.out _ (bT hHeld.1 b4)) (fun hHeld => ?_)
        clear hK K
        try simp only [Act.put, List.setIfInBounds_toArray, List.set_cons_zero, List.set_cons_succ, List.getElem_toArray, List.getElem_cons_succ, List.getElem_cons_zero]
        refine wpAnyF_one (i := 3) (by kernel_rfl) rfl (fun K hK => ?_)
        go_simp
        go_at_call 38
        refine (HH2B.out _ hHeld.1).mono ?_
        rintro e w5 ⟨A5, m5, rfl, hm5, hh5, hg5, b5⟩
        have HM5 := hid hm5
        have HH5 := hid hh5
        clear hm5 hh5
        go_wp2_with fail
        refine hK.out _ _ (HK.out _ (bT hHeld.1 b5)) (fun hHeld => ?_)
        clear hK K
        try simp only [Act.put, List.setIfInBounds_toArray, List.set_cons_zero, List.set_cons_succ, List.getElem_toArray, List.getElem_cons_succ, List.getElem_cons_zero]
        refine wpAnyF_pure (i := 4) (v := ?vg1_5_4) rfl (by kernel_rfl) (by kernel_rfl) (by kernel_rfl) (fun _ _ _ h => h) (Or.inl ⟨by rfl, ?hyg1_5_4⟩) ?restg1_5_4
        case hyg1_5_4 => (intro w hSw; clear hSw; go_simp; (all_goals with_reducible rfl))
        try simp only [Act.put, List.setIfInBounds_toArray, List.set_cons_zero, List.set_cons_succ, List.getElem_toArray, List.getElem_cons_succ, List.getElem_cons_zero]
        refine wpAnyF_pure (i := 5) (v := ?vg1_6_5) rfl (by kernel_rfl) (by kernel_rfl) (by kernel_rfl) (fun _ _ _ h => h) (Or.inl ⟨by rfl, ?hyg1_6_5⟩) ?restg1_6_5
        case hyg1_6_5 => (intro w hSw; clear hSw; go_simp; (all_goals with_reducible rfl))
        try simp only [Act.put, List.setIfInBounds_toArray, List.set_cons_zero, List.set_cons_succ, List.getElem_toArray, List.getElem_cons_succ, List.getElem_cons_zero]
        refine wpAnyF_done (by kernel_rfl) ?_ _
        go_wp2_with fail
        have BF := hHeld.1
        have HG4 := hid (OwnGrid.less (OwnGrid.below hg4 b5 (Nat.le_refl _)) (base' := w2.heap.size + 1 + 1) (by have := HHB.out.1; have := HHB.out.2 _ (bD (Below.refl _ _)); omega))
        have HG5 := hid (OwnGrid.less hg5 (base' := w2.heap.size + 1 + 1) (by have := HHB.out.1; have := HHB.out.2 _ H4B.out; omega))
        have HLB5 : Hid (LbW w.heap.size k (lb (prs g.edges) 0) (w2.heap.size + 1) (w2.heap.size + 1) w w5) := hid ⟨own_below HLB.out.1 BF (Nat.le_refl _), bT HLB.out.2.1 BF, keepb BF q0⟩
        clear HLB HK hHeld HH1B HH2B q0 q1 p0 p1 b4 b5 RD2
        have hz5 : w2.heap.size + 1 < w5.heap.size := (HLB5.out.1.lt _ rfl).2
        go_loopw [40] (fun i wq => OutS (prs g.edges) w.heap.size k (w2.heap.size + 1) (w2.heap.size + 1) A4 A5 m4 m5 w i wq) (fun i _ => k - (intOf i).toNat)
        case atStart => exact ⟨0, by omega, rfl, HLB5, HG4, HG5⟩
        case round =>
          clear HG4 HG5 HLB5
          obtain ⟨v, hv, rfl, HLV, HG4, HG5⟩ := hrel
          obtain ⟨hown, hbel, q0⟩ := HLV.out
          by_cases hlt : v < k
          · have hvz : (v : Int) < (k : Int) := by omega
            obtain ⟨cv, -⟩ := own_at hown (flat_i64_get (fl_get _ hlt))
            have hzr : w2.heap.size + 1 < wr.heap.size := (hown.lt _ rfl).2
            clear hown
            by_cases hm : lb (prs g.edges) v v = -1
            · have HM := hid hm
              rw [hm] at cv
              clear hm
              have HK : Hid (∀ V, Below wr.heap.size wr V → ((fun V => Below wr.heap.size wr V ∧ V.cell? ⟨w.heap.size, 0, none⟩ = some (.int .i64 (k : Int))) : World → Prop) V) := hid fun V hV => ⟨hV, keepb hV q0⟩
              go_wp2_with fail
              go_upto_region 15 with fail
              go_cut [11, 12] (fun s11 s12 wx => MkS k wr s11 s12 wx)
              case first =>
                refine wp_region_F (S := (fun V => Below wr.heap.size wr V ∧ V.cell? ⟨w.heap.size, 0, none⟩ = some (.int .i64 (k : Int)))) [] (by kernel_rfl) (HK.out _ (bD (Below.refl _ _))) (fun hHeld => ?_)
                refine wpAnyF_pure (i := 0) (v := ?vg2_1_0) rfl (by kernel_rfl) (by kernel_rfl) (by kernel_rfl) (fun _ _ _ h => h) (Or.inl ⟨by rfl, ?hyg2_1_0⟩) ?restg2_1_0
                case hyg2_1_0 => (intro w hSw; clear hSw; go_simp; (all_goals with_reducible rfl))
                try simp only [Act.put, List.setIfInBounds_toArray, List.set_cons_zero, List.set_cons_succ, List.getElem_toArray, List.getElem_cons_succ, List.getElem_cons_zero]
                refine wpAnyF_pure (i := 3) (v := ?vg2_2_3) rfl (by kernel_rfl) (by kernel_rfl) (by kernel_rfl) (fun _ _ _ h => h) (Or.inl ⟨by rfl, ?hyg2_2_3⟩) ?restg2_2_3
                case hyg2_2_3 => (intro w hSw; clear hSw; go_simp; (all_goals with_reducible rfl))
                try simp only [Act.put, List.setIfInBounds_toArray, List.set_cons_zero, List.set_cons_succ, List.getElem_toArray, List.getElem_cons_succ, List.getElem_cons_zero]
                refine wpAnyF_take [2, 6, 7] (i := 1) (v := ?vg2_3_1) rfl (by kernel_rfl) (by kernel_rfl) (by kernel_rfl) (by kernel_rfl) (fun _ _ _ h => h) (Or.inl ⟨by rfl, ?hyg2_3_1⟩) (by assumption) ?restg2_3_1
                case hyg2_3_1 => (intro w hSw; (try dsimp only at hSw); go_simp; (all_goals with_reducible rfl))
                try simp only [Act.put, List.setIfInBounds_toArray, List.set_cons_zero, List.set_cons_succ, List.getElem_toArray, List.getElem_cons_succ, List.getElem_cons_zero]
                refine wpAnyF_take [5, 7] (i := 4) (v := ?vg2_4_4) rfl (by kernel_rfl) (by kernel_rfl) (by kernel_rfl) (by kernel_rfl) (fun _ _ _ h => h) (Or.inl ⟨by rfl, ?hyg2_4_4⟩) (by assumption) ?restg2_4_4
                case hyg2_4_4 => (intro w hSw; (try dsimp only at hSw); go_simp; (all_goals with_reducible rfl))
                try simp only [Act.put, List.setIfInBounds_toArray, List.set_cons_zero, List.set_cons_succ, List.getElem_toArray, List.getElem_cons_succ, List.getElem_cons_zero]
                refine wpAnyF_ready (rs := [2, 5]) (by kernel_rfl) (by simp) ?_
                refine AllReadyF.cons rfl (fun K hK => ?_) ?_
                · refine step_make1 rfl rfl Try.underlying97 inf_bool rfl k rfl rfl (by omega) (by omega) ?_
                  intro v1 o1 b1 z1
                  have Z1 := hid z1
                  clear z1
                  refine hK.out _ _ (HK.out _ (bT hHeld.1 b1)) (fun hHeld => ?_)
                  clear hK K
                  try simp only [Act.put, List.setIfInBounds_toArray, List.set_cons_zero, List.set_cons_succ, List.getElem_toArray, List.getElem_cons_succ, List.getElem_cons_zero]
                  refine wpAnyF_pure (i := 6) (v := ?vg2_6_6) rfl (by kernel_rfl) (by kernel_rfl) (by kernel_rfl) (fun _ _ _ h => h) (Or.inl ⟨by rfl, ?hyg2_6_6⟩) ?restg2_6_6
                  case hyg2_6_6 => (intro w hSw; clear hSw; go_simp; (all_goals with_reducible rfl))
                  try simp only [Act.put, List.setIfInBounds_toArray, List.set_cons_zero, List.set_cons_succ, List.getElem_toArray, List.getElem_cons_succ, List.getElem_cons_zero]
                  refine wpAnyF_one (i := 5) (by kernel_rfl) rfl (fun K hK => ?_)
                  refine step_make1 rfl rfl Try.underlying97 inf_bool rfl k rfl rfl (by omega) (by omega) ?_
                  intro v2 o2 b2 z2
                  clear z2
                  refine hK.out _ _ (HK.out _ (bT hHeld.1 b2)) (fun hHeld => ?_)
                  clear hK K
                  try simp only [Act.put, List.setIfInBounds_toArray, List.set_cons_zero, List.set_cons_succ, List.getElem_toArray, List.getElem_cons_succ, List.getElem_cons_zero]
                  refine wpAnyF_pure (i := 7) (v := ?vg2_8_7) rfl (by kernel_rfl) (by kernel_rfl) (by kernel_rfl) (fun _ _ _ h => h) (Or.inl ⟨by rfl, ?hyg2_8_7⟩) ?restg2_8_7
                  case hyg2_8_7 => (intro w hSw; clear hSw; go_simp; (all_goals with_reducible rfl))
                  try simp only [Act.put, List.setIfInBounds_toArray, List.set_cons_zero, List.set_cons_succ, List.getElem_toArray, List.getElem_cons_succ, List.getElem_cons_zero]
                  refine wpAnyF_done (by kernel_rfl) ?_ _
                  go_wp2_with fail
                  go_meet
                  exact ⟨wr.heap.size, v1.heap.size, rfl, rfl, own_below (base' := wr.heap.size) o1 b2 (Nat.le_refl _), own_more (base' := wr.heap.size) o2 (by rw [Z1.out]; exact Nat.le_succ _), by rw [Z1.out]; exact (Nat.ne_of_lt (Nat.lt_succ_self _)), hHeld.1⟩
                refine AllReadyF.cons rfl (fun K hK => ?_) AllReadyF.nil
                refine step_make1 rfl rfl Try.underlying97 inf_bool rfl k rfl rfl (by omega) (by omega) ?_
                intro v1 o1 b1 z1
                have Z1 := hid z1
                clear z1
                refine hK.out _ _ (HK.out _ (bT hHeld.1 b1)) (fun hHeld => ?_)
                clear hK K
                try simp only [Act.put, List.setIfInBounds_toArray, List.set_cons_zero, List.set_cons_succ, List.getElem_toArray, List.getElem_cons_succ, List.getElem_cons_zero]
                refine wpAnyF_one (i := 2) (by kernel_rfl) rfl (fun K hK => ?_)
                refine step_make1 rfl rfl Try.underlying97 inf_bool rfl k rfl rfl (by omega) (by omega) ?_
                intro v2 o2 b2 z2
                clear z2
                refine hK.out _ _ (HK.out _ (bT hHeld.1 b2)) (fun hHeld => ?_)
                clear hK K
                try simp only [Act.put, List.setIfInBounds_toArray, List.set_cons_zero, List.set_cons_succ, List.getElem_toArray, List.getElem_cons_succ, List.getElem_cons_zero]
                refine wpAnyF_pure (i := 6) (v := ?vg2_10_6) rfl (by kernel_rfl) (by kernel_rfl) (by kernel_rfl) (fun _ _ _ h => h) (Or.inl ⟨by rfl, ?hyg2_10_6⟩) ?restg2_10_6
                case hyg2_10_6 => (intro w hSw; clear hSw; go_simp; (all_goals with_reducible rfl))
                try simp only [Act.put, List.setIfInBounds_toArray, List.set_cons_zero, List.set_cons_succ, List.getElem_toArray, List.getElem_cons_succ, List.getElem_cons_zero]
                refine wpAnyF_pure (i := 7) (v := ?vg2_11_7) rfl (by kernel_rfl) (by kernel_rfl) (by kernel_rfl) (fun _ _ _ h => h) (Or.inl ⟨by rfl, ?hyg2_11_7⟩) ?restg2_11_7
                case hyg2_11_7 => (intro w hSw; clear hSw; go_simp; (all_goals with_reducible rfl))
                try simp only [Act.put, List.setIfInBounds_toArray, List.set_cons_zero, List.set_cons_succ, List.getElem_toArray, List.getElem_cons_succ, List.getElem_cons_zero]
                refine wpAnyF_done (by kernel_rfl) ?_ _
                go_wp2_with fail
                go_meet
                exact ⟨v1.heap.size, wr.heap.size, rfl, rfl, own_more (base' := wr.heap.size) o2 (by rw [Z1.out]; exact Nat.le_succ _), own_below (base' := wr.heap.size) o1 b2 (Nat.le_refl _), by rw [Z1.out]; exact (Nat.ne_of_gt (Nat.lt_succ_self _)), hHeld.1⟩
              case rest =>
                obtain ⟨ga, gb, rfl, rfl, oa, ob, hab, bM⟩ := hcut
                rw [fb_zero] at oa ob
                have hga := (oa.lt _ rfl).1
                have hgb := (ob.lt _ rfl).1
                have HS1 := hid (HSR1.out v hlt _ A4 m4 HM4.out HH4.out HL6.out (Grid.b (hops_grid HG4.out) (by decide) bM) ga k wr.heap.size oa)
                go_wp2_with fail
                refine HS1.out.mono ?_
                rintro e v3 ⟨rfl, oa3, g3⟩
                have ob3 := own_grown ob g3 (fun x hx e => hab (by have h1 : some gb = some x := hx; injection h1 with h1; injection e with e; exact e.trans h1.symm))
                have b3r := bM.grown g3 bM.size (fun x hx => by injection hx with hx; omega)
                have HS2 := hid (HSR2.out v hlt v3 A5 m5 HM5.out HH5.out HL6.out (Grid.b (hops_grid HG5.out) (by decide) b3r) gb k wr.heap.size ob3)
                clear HS1 oa ob
                go_wp2_with fail
                refine HS2.out.mono ?_
                rintro e v4 ⟨rfl, ob4, g4⟩
                have oa4 := own_grown oa3 g4 (fun x hx e => hab (by have h1 : some ga = some x := hx; injection h1 with h1; injection e with e; exact h1.trans e.symm))
                have b4r := b3r.grown g4 b3r.size (fun x hx => by injection hx with hx; omega)
                have HOA := hid oa4
                have HOB := hid ob4
                have HL0 : Hid (LbW w.heap.size k (fun u => if u < 0 then lb (prs g.edges) (v + 1) u else lb (prs g.edges) v u) (w2.heap.size + 1) (w2.heap.size + 1) w v4) := hid ⟨by
                  rw [fl_ext (g := lb (prs g.edges) v) fun u hu => if_neg (by omega)]
                  exact own_below HLV.out.1 b4r (Nat.le_refl _), bT HLV.out.2.1 b4r, keepb b4r q0⟩
                have HG4b := hid (OwnGrid.below HG4.out b4r (Nat.le_refl _))
                have HG5b := hid (OwnGrid.below HG5.out b4r (Nat.le_refl _))
                have hgla : w2.heap.size + 1 ≠ ga := by omega
                have hglb : w2.heap.size + 1 ≠ gb := by omega
                clear HS2 oa3 oa4 ob3 ob4 g3 g4 b3r bM HG4 HG5 HLV HK q0 hbel cv b4r
                go_wp2_with fail
                go_loopw [64] (fun i wq => InS (prs g.edges) v w.heap.size k (w2.heap.size + 1) (w2.heap.size + 1) v4 w i wq) (fun i _ => k - (intOf i).toNat)
                case atStart => exact ⟨0, by omega, rfl, HL0, World.grownBy.refl _ _⟩
                case round =>
                  clear HL0
                  obtain ⟨j, hj, rfl, HLJ, hgj⟩ := hrel
                  by_cases hltj : j < k
                  · have hjz : (j : Int) < (k : Int) := by omega
                    have ca := hgj.cell (own_at HOA.out (fb_getv _ hltj)).1 (fun e => hgla (by injection e with e; exact e.symm))
                    have cb := hgj.cell (own_at HOB.out (fb_getv _ hltj)).1 (fun e => hglb (by injection e with e; exact e.symm))
                    rw [HBK.out] at cb
                    have how := HLJ.out.1
                    obtain ⟨cl, cf⟩ := own_at how (flat_i64_get (fl_get _ hltj))
                    clear how
                    cases ha : rchB (prs g.edges) v j with
                    | false =>
                      have HN := hid (lb_no (k := v) (u := j) (l := prs g.edges) (by unfold com; rw [ha]; rfl))
                      rw [ha] at ca
                      clear ha cb cl
                      go_wp2_with fail
                      go_roundw
                      case rel => exact ⟨j + 1, by omega, by go_num, hid ⟨by rw [lb_keep HN.out]; exact HLJ.out.1, HLJ.out.2⟩, hgj⟩
                      case measure => simp [intOf]; omega
                    | true =>
                      cases hb : rchB (prs g.edges) j v with
                      | false =>
                        have HN := hid (lb_no (k := v) (u := j) (l := prs g.edges) (by unfold com; rw [hb]; simp))
                        rw [ha] at ca
                        rw [hb] at cb
                        clear ha hb cl
                        go_wp2_with fail
                        go_roundw
                        case rel => exact ⟨j + 1, by omega, by go_num, hid ⟨by rw [lb_keep HN.out]; exact HLJ.out.1, HLJ.out.2⟩, hgj⟩
                        case measure => simp [intOf]; omega
                      | true =>
                        have HY := hid (lb_yes (u := j) HM.out (show com (prs g.edges) v j = true by unfold com; rw [ha, hb]; rfl))
                        rw [ha] at ca
                        rw [hb] at cb
                        clear ha hb
                        go_wp2_with fail
                        go_roundw
                        case rel =>
                          refine ⟨j + 1, by omega, by go_num, hid ⟨?_, bS HLJ.out.2.1 (by show w.heap.size ≤ w2.heap.size + 1; omega) _, (World.cell?_setCell_far _ _ _ _ (by show w2.heap.size + 1 ≠ w.heap.size; omega)).trans HLJ.out.2.2⟩, gb_store hgj _ _⟩
                          have h := (HLJ.out.1.stored j (.int .i64 (v : Int))).1
                          rw [flat_i64_set, fl_set _ _ hltj, lb_put HY.out] at h
                          exact h
                        case measure => simp [intOf]; omega
                  · obtain rfl : j = k := by omega
                    have hjz : ¬ ((j : Int) < (j : Int)) := by omega
                    have HLF : Hid (LbW w.heap.size j (lb (prs g.edges) (v + 1)) (w2.heap.size + 1) (w2.heap.size + 1) w wr) := hid ⟨by
                      rw [fl_ext (g := fun u => if u < j then lb (prs g.edges) (v + 1) u else lb (prs g.edges) v u) fun u hu => (if_pos hu).symm]
                      exact HLJ.out.1, HLJ.out.2⟩
                    go_wp2_with fail
                    go_roundw
                    case rel => exact ⟨v + 1, by omega, by go_num, HLF, hid (hops_off HG4b.out hgj (by omega)), hid (hops_off HG5b.out hgj (by omega))⟩
                    case measure => simp [intOf]; omega
            · have HD := hid (lb_done hm)
              have hmb : (lb (prs g.edges) v v != -1) = true := by simpa using hm
              have HM2 := hid hm
              generalize lb (prs g.edges) v v = lv at cv hmb
              clear hm
              go_wp2_with fail
              go_roundw
              case rel => exact ⟨v + 1, by omega, by go_num, hid ⟨by rw [fl_ext (g := lb (prs g.edges) v) fun u _ => HD.out u]; exact HLV.out.1, HLV.out.2⟩, HG4, HG5⟩
              case measure => simp [intOf]; omega
          · obtain rfl : v = k := by omega
            have hvz : ¬ ((v : Int) < (v : Int)) := by omega
            go_wp2_with fail
            go_ret2
            exact ⟨_, _, rfl, own_more hown (by omega), hbel⟩
  · rw [reversedV_bad h0] at HRV
    rw [strongV_bad h0]
    unfold RetG zeroG at HRV
    have h0b : (graphV g != 0) = true := by simpa using h0
    generalize graphV g = gv at HRV h0b h0
    clear h0
    go_enter Try.func27, Try.ntmps27
    go_wp2_with fail
    refine HRV.out.mono ?_
    rintro e w2 ⟨A2, k2, rfl, r2, b2⟩
    go_wp2_with fail
    go_ret2
    exact ⟨none, 0, rfl, World.ownsRow_nil _ _ _ _, bA (bT b0 b2) _⟩
end Go.Proofs.Ytdmakcenfbfpaaa
