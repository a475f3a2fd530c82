/- The statement on rounds.Next. -/
import Derived.Test.YteefemiieidpaaaNxtP
import Derived.Test.YteefemiieidpaaaRndN
import Derived.Test.YteefemiieidpaaaFolW
import Derived.Test.YteefemiieidpaaaRegF
import Derived.Test.YteefemiieidpaaaRunV
import Derived.Deep.DeepCutAuto
namespace Go.Proofs.Yteefemiieidpaaa
open Go.ChangeShapes Go.WideShapes Go.ChangeAt Go.RowKit
set_option linter.unusedVariables false
set_option linter.unusedSimpArgs false
/-- What lies where Next's answer was put. -/
def NxC (WX : World) (zs : State) (er : Int) (s6 s7 : Value) (wx : World) : Prop :=
  ∃ (X : Nat) (VA : Option Addr) (vc : Nat) (MA : Option Addr) (mc : Nat) (m3 : List (ML Int)), s6 = .pointer (some ⟨X, 0, none⟩) ∧ s7 = .int .i64 er ∧ (wx.cell? ⟨X, 0, none⟩ = some (.int .i64 zs.step) ∧ wx.cell? ⟨X, 1, none⟩ = some (.int .i64 zs.phase) ∧ wx.cell? ⟨X, 2, none⟩ = some (.bool zs.fresh) ∧ wx.cell? ⟨X, 3, none⟩ = some (.bool zs.done) ∧ wx.cell? ⟨X, 4, none⟩ = some (.slice VA zs.vals.length vc) ∧ wx.cell? ⟨X, 5, none⟩ = some (.slice MA m3.length mc)) ∧
    lists m3 = lists zs.mail ∧ Rd wx wx.heap.size VA 2 zs.vals.length (zs.vals.flatMap Val.cells) ∧ Grid i64c 1 wx wx.heap.size MA m3 ∧ Below WX.heap.size WX wx
set_option maxRecDepth 100000 in
set_option maxHeartbeats 8000000 in
theorem law_RoundsNexts (w : World) (j : Job) (A : Option Addr) (c : Nat) (hn : I64 j.graph.n) (hf : Flat w w.heap.size 24 3 Edge.cells A c j.graph.edges) (hw : ∀ x ∈ j.graph.edges, x.wf) (hk : I64 j.kind) (hs : I64 j.source)
    (s : State) (B : Option Addr) (d : Nat) (B' : Option Addr) (d' : Nat) (ws : I64 s.step) (wp : I64 s.phase) (hfv : Flat w w.heap.size 16 2 Val.cells B d s.vals) (hwv : ∀ x ∈ s.vals, x.wf) (hfm : Flat w w.heap.size 24 1 ML.cells B' d' s.mail) (hwm : ∀ x ∈ s.mail, x.wf i64c 1 8 I64 w) :
    Calls Try.prog 3 #[.agg #[.int .i64 j.graph.n, .slice A j.graph.edges.length c, .int .i64 j.kind, .int .i64 j.source], .agg #[.int .i64 s.step, .int .i64 s.phase, .bool s.fresh, .bool s.done, .slice B s.vals.length d, .slice B' s.mail.length d']] w fun e w' => e = .returned (.bool true) ∧ Below w.heap.size w w' := by
  have hgr := grid_of hfm hwm
  obtain ⟨f1, f2, f3, f4⟩ := hf
  obtain ⟨v1, v2, v3, v4⟩ := hfv
  obtain ⟨m1, m2, m3, m4⟩ := hfm
  have hz : ∀ x ∈ s.mail, x.l.length * 8 ≤ 140737488355328 := fun x hx => by have := (hwm x hx).2; omega
  clear hw hn hk hs ws wp hwv hwm
  have h24 : j.graph.edges.length * 24 ≤ 140737488355328 := by omega
  have hl : j.graph.edges.length ≤ 9223372036854775807 := by omega
  have hvn : s.vals.length * 16 ≤ 140737488355328 := by omega
  have hmn : s.mail.length * 24 ≤ 140737488355328 := by omega
  have b0 := bA (bA (Below.refl w.heap.size w) (.cells #[.int .i64 j.graph.n, .slice A j.graph.edges.length c, .int .i64 j.kind, .int .i64 j.source] 26)) (.cells #[.int .i64 s.step, .int .i64 s.phase, .bool s.fresh, .bool s.done, .slice B s.vals.length d, .slice B' s.mail.length d'] 30)
  have HC := hid (states_walk s _ B B' d d' (rdb v4 (by decide) b0) hvn (Grid.b hgr (by decide) b0) hmn hz)
  have HJ := hid (jobs_copy j)
  have HNW := hid (next_walk j)
  have HFW := hid (followed_walk j s)
  have HNL := hid (fun m (h : lists m = lists s.mail) => nextP_lists (j := j) h)
  have HSZ := hid (nextP_size (j := j) (s := s) (B := 140737488355328) (by omega) (by omega) (by omega) (fun x hx => by have := hz x hx; omega))
  generalize nextP j s = zz at HFW HNL HSZ
  obtain ⟨zs, er⟩ := zz
  dsimp only at HFW HNL HSZ
  unfold jobVal at HJ
  unfold stCells at HC
  clear f1 f2 f3 v1 v2 v3 m1 m2 m3
  go_enter Try.func3, Try.ntmps3
  go_wp2_with fail
  refine HC.out.mono ?_
  rintro e w1 ⟨A1, c1, B1, k1, m, rfl, hm, o1, g1, b1⟩
  unfold stCells
  have b01 := bT b0 b1
  have HM := hid hm
  have hmz : ∀ x ∈ m, x.l.length * 8 ≤ 140737488355328 := fun x hx => by
    obtain ⟨y, hy, he⟩ := lists_mem hm hx
    rw [← he]; exact hz y hy
  have HML := hid (lists_len hm)
  rw [HML.out]
  have hr1 := rd_own o1
  have hg1 : Grid i64c 1 w1 w1.heap.size B1 m := g1.led
  obtain ⟨WX, hWX⟩ : ∃ WX, WX = w1.alloc (.cells #[.int .i64 s.step, .int .i64 s.phase, .bool s.fresh, .bool s.done, .slice A1 s.vals.length c1, .slice B1 s.mail.length k1] 30) := ⟨_, rfl⟩
  have bX : Below w1.heap.size w1 WX := by rw [hWX]; exact bA (Below.refl w1.heap.size w1) _
  have b0X := bT b01 bX
  have HK : Hid (∀ V, Below WX.heap.size WX V → (V.cell? ⟨w.heap.size, 0, none⟩ = some (.int .i64 j.graph.n) ∧ V.cell? ⟨w.heap.size, 1, none⟩ = some (.slice A j.graph.edges.length c) ∧ V.cell? ⟨w.heap.size, 2, none⟩ = some (.int .i64 j.kind) ∧ V.cell? ⟨w.heap.size, 3, none⟩ = some (.int .i64 j.source)) ∧ (V.cell? ⟨w1.heap.size, 0, none⟩ = some (.int .i64 s.step) ∧ V.cell? ⟨w1.heap.size, 1, none⟩ = some (.int .i64 s.phase) ∧ V.cell? ⟨w1.heap.size, 2, none⟩ = some (.bool s.fresh) ∧ V.cell? ⟨w1.heap.size, 3, none⟩ = some (.bool s.done) ∧ V.cell? ⟨w1.heap.size, 4, none⟩ = some (.slice A1 s.vals.length c1) ∧ V.cell? ⟨w1.heap.size, 5, none⟩ = some (.slice B1 s.mail.length k1)) ∧ (V.cell? ⟨w.heap.size + 1, 0, none⟩ = some (.int .i64 s.step) ∧ V.cell? ⟨w.heap.size + 1, 1, none⟩ = some (.int .i64 s.phase) ∧ V.cell? ⟨w.heap.size + 1, 2, none⟩ = some (.bool s.fresh) ∧ V.cell? ⟨w.heap.size + 1, 3, none⟩ = some (.bool s.done) ∧ V.cell? ⟨w.heap.size + 1, 4, none⟩ = some (.slice B s.vals.length d) ∧ V.cell? ⟨w.heap.size + 1, 5, none⟩ = some (.slice B' s.mail.length d'))) := hid fun V hV => by
    have j0 : w1.cell? ⟨w.heap.size, 0, none⟩ = some (.int .i64 j.graph.n) := keepb b1 (by go_simp)
    have j1 : w1.cell? ⟨w.heap.size, 1, none⟩ = some (.slice A j.graph.edges.length c) := keepb b1 (by go_simp)
    have j2 : w1.cell? ⟨w.heap.size, 2, none⟩ = some (.int .i64 j.kind) := keepb b1 (by go_simp)
    have j3 : w1.cell? ⟨w.heap.size, 3, none⟩ = some (.int .i64 j.source) := keepb b1 (by go_simp)
    have s0 : w1.cell? ⟨w.heap.size + 1, 0, none⟩ = some (.int .i64 s.step) := keepb b1 (by go_simp)
    have s1 : w1.cell? ⟨w.heap.size + 1, 1, none⟩ = some (.int .i64 s.phase) := keepb b1 (by go_simp)
    have s2 : w1.cell? ⟨w.heap.size + 1, 2, none⟩ = some (.bool s.fresh) := keepb b1 (by go_simp)
    have s3 : w1.cell? ⟨w.heap.size + 1, 3, none⟩ = some (.bool s.done) := keepb b1 (by go_simp)
    have s4 : w1.cell? ⟨w.heap.size + 1, 4, none⟩ = some (.slice B s.vals.length d) := keepb b1 (by go_simp)
    have s5 : w1.cell? ⟨w.heap.size + 1, 5, none⟩ = some (.slice B' s.mail.length d') := keepb b1 (by go_simp)
    exact ⟨⟨keepb hV (keepb bX j0), keepb hV (keepb bX j1), keepb hV (keepb bX j2), keepb hV (keepb bX j3)⟩, ⟨keepb hV (by rw [hWX]; go_simp), keepb hV (by rw [hWX]; go_simp), keepb hV (by rw [hWX]; go_simp), keepb hV (by rw [hWX]; go_simp), keepb hV (by rw [hWX]; go_simp), keepb hV (by rw [hWX]; go_simp)⟩, keepb hV (keepb bX s0), keepb hV (keepb bX s1), keepb hV (keepb bX s2), keepb hV (keepb bX s3), keepb hV (keepb bX s4), keepb hV (keepb bX s5)⟩
  have HN2 : Hid (∀ (V : World) (A2 : Option Addr) (k2 : Nat), Below WX.heap.size WX V → Rd V V.heap.size A2 3 j.graph.edges.length (j.graph.edges.flatMap Edge.cells) → Calls Try.prog 7 #[.agg #[.int .i64 j.graph.n, .slice A2 j.graph.edges.length k2, .int .i64 j.kind, .int .i64 j.source], .agg #[.int .i64 s.step, .int .i64 s.phase, .bool s.fresh, .bool s.done, .slice A1 s.vals.length c1, .slice B1 s.mail.length k1]] V (RetSn V zs er)) := hid fun V A2 k2 h hr2 => by
    have h5 := HNW.out { s with mail := m } V A2 A1 B1 k2 c1 k1 hr2 hl (rdb hr1 (by decide) (bT bX h)) hvn (Grid.b hg1 (by decide) (bT bX h)) (by have := HML.out; show m.length * 24 ≤ _; omega) hmz
    dsimp only at h5
    rw [HML.out] at h5
    obtain ⟨h6, m', h7, h8⟩ := HNL.out m HM.out
    rw [h6, h7] at h5
    exact h5.mono fun e v hh => retSn_lists h8 hh
  go_wp2_with fail
  rw [← hWX]
  clear hWX hm o1 g1
  go_upto_region 2 with fail
  go_cut [6, 7] (fun s6 s7 wx => NxC WX zs er s6 s7 wx)
  case first =>
    obtain ⟨⟨j0, j1, j2, j3⟩, ⟨c0, c1', c2, c3, c4, c5⟩, s0, s1, s2, s3, s4, s5⟩ := HK.out _ (Below.refl _ _)
    refine wp_region_F (S := (fun V => Below WX.heap.size WX V ∧ (V.cell? ⟨w.heap.size, 0, none⟩ = some (.int .i64 j.graph.n) ∧ V.cell? ⟨w.heap.size, 1, none⟩ = some (.slice A j.graph.edges.length c) ∧ V.cell? ⟨w.heap.size, 2, none⟩ = some (.int .i64 j.kind) ∧ V.cell? ⟨w.heap.size, 3, none⟩ = some (.int .i64 j.source)) ∧ (V.cell? ⟨w1.heap.size, 0, none⟩ = some (.int .i64 s.step) ∧ V.cell? ⟨w1.heap.size, 1, none⟩ = some (.int .i64 s.phase) ∧ V.cell? ⟨w1.heap.size, 2, none⟩ = some (.bool s.fresh) ∧ V.cell? ⟨w1.heap.size, 3, none⟩ = some (.bool s.done) ∧ V.cell? ⟨w1.heap.size, 4, none⟩ = some (.slice A1 s.vals.length c1) ∧ V.cell? ⟨w1.heap.size, 5, none⟩ = some (.slice B1 s.mail.length k1)))) [8, 9] (by kernel_rfl) ⟨bD (Below.refl _ _), (HK.out _ (bD (Below.refl _ _))).1, (HK.out _ (bD (Below.refl _ _))).2.1⟩ (fun hHeld => ?_)
    refine wpAnyF_take [1, 3, 4, 5, 6, 8, 9] (i := 0) (v := ?vg1_1_0) rfl (by kernel_rfl) (by kernel_rfl) (by kernel_rfl) (by kernel_rfl) (fun _ _ _ h => h) (Or.inl ⟨by rfl, ?hyg1_1_0⟩) (by assumption) ?restg1_1_0
    case hyg1_1_0 => (intro w hSw; (try dsimp only at hSw); go_simp; (all_goals with_reducible rfl))
    try simp only [Act.put, List.setIfInBounds_toArray, List.set_cons_zero, List.set_cons_succ, List.getElem_toArray, List.getElem_cons_succ, List.getElem_cons_zero]
    refine wpAnyF_take [3, 4, 5, 6, 8, 9] (i := 2) (v := ?vg1_2_2) rfl (by kernel_rfl) (by kernel_rfl) (by kernel_rfl) (by kernel_rfl) (fun _ _ _ h => h) (Or.inl ⟨by rfl, ?hyg1_2_2⟩) (by assumption) ?restg1_2_2
    case hyg1_2_2 => (intro w hSw; (try dsimp only at hSw); go_simp; (all_goals with_reducible rfl))
    try simp only [Act.put, List.setIfInBounds_toArray, List.set_cons_zero, List.set_cons_succ, List.getElem_toArray, List.getElem_cons_succ, List.getElem_cons_zero]
    refine wpAnyF_ready (rs := [1, 7]) (by kernel_rfl) (by simp) ?_
    refine AllReadyF.cons rfl (fun K hK => ?_) ?_
    · go_simp
      go_at_call 8
      refine (HJ.out _ A c (rdb f4 (by decide) (bT b0X hHeld.1)) h24).mono ?_
      rintro e2 v2 ⟨A2, k2, rfl, r2, b2⟩
      have HB2 := hid (bT hHeld.1 b2)
      have HR2 := hid r2
      clear r2
      go_wp2_with fail
      refine hK.out _ _ ⟨HB2.out, (HK.out _ HB2.out).1, (HK.out _ HB2.out).2.1⟩ (fun hHeld => ?_)
      clear hK K
      try simp only [Act.put, List.setIfInBounds_toArray, List.set_cons_zero, List.set_cons_succ, List.getElem_toArray, List.getElem_cons_succ, List.getElem_cons_zero]
      refine wpAnyF_ready (rs := [3, 7]) (by kernel_rfl) (by simp) ?_
      refine AllReadyF.cons rfl (fun K hK => ?_) ?_
      · go_simp
        go_at_call 7
        refine (HN2.out _ A2 k2 hHeld.1 (rdb HR2.out (by decide) (Below.refl _ _))).mono ?_
        rintro e3 v3 ⟨VA, vc, MA, mc, m3, rfl, hm3, hv3, hg3, b3⟩
        have HB3 := hid (bT hHeld.1 b3)
        have HM3 := hid hm3
        have HV3 := hid hv3
        have HG3 := hid hg3
        clear hm3 hv3 hg3
        unfold stCells
        go_wp2_with fail
        refine hK.out _ _ ⟨HB3.out, (HK.out _ HB3.out).1, (HK.out _ HB3.out).2.1⟩ (fun hHeld => ?_)
        clear hK K
        try simp only [Act.put, List.setIfInBounds_toArray, List.set_cons_zero, List.set_cons_succ, List.getElem_toArray, List.getElem_cons_succ, List.getElem_cons_zero]
        refine wpAnyF_pure (i := 4) (v := ?vg1_5_4) rfl (by kernel_rfl) (by kernel_rfl) (by kernel_rfl) (fun _ _ _ h => h) (Or.inl ⟨by rfl, ?hyg1_5_4⟩) ?restg1_5_4
        case hyg1_5_4 => (intro w hSw; clear hSw; go_simp; (all_goals with_reducible rfl))
        try simp only [Act.put, List.setIfInBounds_toArray, List.set_cons_zero, List.set_cons_succ, List.getElem_toArray, List.getElem_cons_succ, List.getElem_cons_zero]
        refine wpAnyF_pure (i := 5) (v := ?vg1_6_5) rfl (by kernel_rfl) (by kernel_rfl) (by kernel_rfl) (fun _ _ _ h => h) (Or.inl ⟨by rfl, ?hyg1_6_5⟩) ?restg1_6_5
        case hyg1_6_5 => (intro w hSw; clear hSw; go_simp; (all_goals with_reducible rfl))
        try simp only [Act.put, List.setIfInBounds_toArray, List.set_cons_zero, List.set_cons_succ, List.getElem_toArray, List.getElem_cons_succ, List.getElem_cons_zero]
        refine wpAnyF_pure (i := 6) (v := ?vg1_7_6) rfl (by kernel_rfl) (by kernel_rfl) (by kernel_rfl) (fun _ _ _ h => h) (Or.inl ⟨by rfl, ?hyg1_7_6⟩) ?restg1_7_6
        case hyg1_7_6 => (intro w hSw; clear hSw; go_simp; (all_goals with_reducible rfl))
        try simp only [Act.put, List.setIfInBounds_toArray, List.set_cons_zero, List.set_cons_succ, List.getElem_toArray, List.getElem_cons_succ, List.getElem_cons_zero]
        refine wpAnyF_one (i := 7) (by kernel_rfl) rfl (fun K hK => ?_)
        go_simp
        refine hK.out _ _ ⟨bT hHeld.1 (bA (Below.refl _ _) _), (HK.out _ (bT hHeld.1 (bA (Below.refl _ _) _))).1, (HK.out _ (bT hHeld.1 (bA (Below.refl _ _) _))).2.1⟩ (fun hHeld => ?_)
        clear hK K
        try simp only [Act.put, List.setIfInBounds_toArray, List.set_cons_zero, List.set_cons_succ, List.getElem_toArray, List.getElem_cons_succ, List.getElem_cons_zero]
        refine wpAnyF_oneD (i := 8) (by kernel_rfl) (by kernel_rfl) rfl (fun K hK => ?_)
        go_simp
        refine hK.out _ _ ?_
        clear hK K
        try simp only [Act.put, List.setIfInBounds_toArray, List.set_cons_zero, List.set_cons_succ, List.getElem_toArray, List.getElem_cons_succ, List.getElem_cons_zero]
        refine wpAnyF_pure (i := 9) (v := ?vg1_10_9) rfl (by kernel_rfl) (by kernel_rfl) (by kernel_rfl) (fun _ _ _ h => h) (Or.inl ⟨by rfl, ?hyg1_10_9⟩) ?restg1_10_9
        case hyg1_10_9 => (intro w hSw; clear hSw; go_simp; (all_goals with_reducible rfl))
        try simp only [Act.put, List.setIfInBounds_toArray, List.set_cons_zero, List.set_cons_succ, List.getElem_toArray, List.getElem_cons_succ, List.getElem_cons_zero]
        refine wpAnyF_done (by kernel_rfl) ?_ _
        go_wp2_with fail
        have hro : TObj (v3.alloc (.cells #[.int .i64 zs.step, .int .i64 zs.phase, .bool zs.fresh, .bool zs.done, .slice VA zs.vals.length vc, .slice MA m3.length mc] 30)) (fun _ => 0) 0 v3.heap.size #[.int .i64 zs.step, .int .i64 zs.phase, .bool zs.fresh, .bool zs.done, .slice VA zs.vals.length vc, .slice MA m3.length mc] 30 := ⟨heap_alloc_new v3 _, rfl⟩
        go_meet
        exact ⟨v3.heap.size, VA, vc, MA, mc, m3, rfl, rfl, ⟨hro.cell (i := 0) (v := .int .i64 zs.step) rfl, hro.cell (i := 1) (v := .int .i64 zs.phase) rfl, hro.cell (i := 2) (v := .bool zs.fresh) rfl, hro.cell (i := 3) (v := .bool zs.done) rfl, hro.cell (i := 4) (v := .slice VA zs.vals.length vc) rfl, hro.cell (i := 5) (v := .slice MA m3.length mc) rfl⟩, HM3.out, (HV3.out.alloc _).to, NewGridR.grid (HG3.out.below (bA (Below.refl _ _) _)), bA HB3.out _⟩
      refine AllReadyF.cons rfl (fun K hK => ?_) AllReadyF.nil
      go_simp
      refine hK.out _ _ ⟨bT hHeld.1 (bA (Below.refl _ _) _), (HK.out _ (bT hHeld.1 (bA (Below.refl _ _) _))).1, (HK.out _ (bT hHeld.1 (bA (Below.refl _ _) _))).2.1⟩ (fun hHeld => ?_)
      clear hK K
      try simp only [Act.put, List.setIfInBounds_toArray, List.set_cons_zero, List.set_cons_succ, List.getElem_toArray, List.getElem_cons_succ, List.getElem_cons_zero]
      refine wpAnyF_one (i := 3) (by kernel_rfl) rfl (fun K hK => ?_)
      go_simp
      go_at_call 7
      refine (HN2.out _ A2 k2 hHeld.1 (rdb HR2.out (by decide) (bA (Below.refl _ _) _))).mono ?_
      rintro e3 v3 ⟨VA, vc, MA, mc, m3, rfl, hm3, hv3, hg3, b3⟩
      have HB3 := hid (bT hHeld.1 b3)
      have HM3 := hid hm3
      have HV3 := hid hv3
      have HG3 := hid hg3
      clear hm3 hv3 hg3
      have HZ3 := hid (TObj.below (T := fun _ => 0) (t := 0) (b := v2.heap.size) (cs := #[.int .i64 0, .int .i64 0, .bool false, .bool false, .slice none 0 0, .slice none 0 0]) (e := 30) ⟨heap_alloc_new _ _, rfl⟩ b3)
      have z0 := HZ3.out.cell (i := 0) (v := .int .i64 0) rfl
      have z1 := HZ3.out.cell (i := 1) (v := .int .i64 0) rfl
      have z2 := HZ3.out.cell (i := 2) (v := .bool false) rfl
      have z3 := HZ3.out.cell (i := 3) (v := .bool false) rfl
      have z4 := HZ3.out.cell (i := 4) (v := .slice none 0 0) rfl
      have z5 := HZ3.out.cell (i := 5) (v := .slice none 0 0) rfl
      have zf := HZ3.out.free
      have zl := HZ3.out.lt
      unfold stCells
      go_wp2_with fail
      refine hK.out _ _ ⟨HB3.out, (HK.out _ HB3.out).1, (HK.out _ HB3.out).2.1⟩ (fun hHeld => ?_)
      clear hK K
      try simp only [Act.put, List.setIfInBounds_toArray, List.set_cons_zero, List.set_cons_succ, List.getElem_toArray, List.getElem_cons_succ, List.getElem_cons_zero]
      refine wpAnyF_pure (i := 4) (v := ?vg1_12_4) rfl (by kernel_rfl) (by kernel_rfl) (by kernel_rfl) (fun _ _ _ h => h) (Or.inl ⟨by rfl, ?hyg1_12_4⟩) ?restg1_12_4
      case hyg1_12_4 => (intro w hSw; clear hSw; go_simp; (all_goals with_reducible rfl))
      try simp only [Act.put, List.setIfInBounds_toArray, List.set_cons_zero, List.set_cons_succ, List.getElem_toArray, List.getElem_cons_succ, List.getElem_cons_zero]
      refine wpAnyF_pure (i := 5) (v := ?vg1_13_5) rfl (by kernel_rfl) (by kernel_rfl) (by kernel_rfl) (fun _ _ _ h => h) (Or.inl ⟨by rfl, ?hyg1_13_5⟩) ?restg1_13_5
      case hyg1_13_5 => (intro w hSw; clear hSw; go_simp; (all_goals with_reducible rfl))
      try simp only [Act.put, List.setIfInBounds_toArray, List.set_cons_zero, List.set_cons_succ, List.getElem_toArray, List.getElem_cons_succ, List.getElem_cons_zero]
      refine wpAnyF_pure (i := 6) (v := ?vg1_14_6) rfl (by kernel_rfl) (by kernel_rfl) (by kernel_rfl) (fun _ _ _ h => h) (Or.inl ⟨by rfl, ?hyg1_14_6⟩) ?restg1_14_6
      case hyg1_14_6 => (intro w hSw; clear hSw; go_simp; (all_goals with_reducible rfl))
      try simp only [Act.put, List.setIfInBounds_toArray, List.set_cons_zero, List.set_cons_succ, List.getElem_toArray, List.getElem_cons_succ, List.getElem_cons_zero]
      refine wpAnyF_oneD (i := 8) (by kernel_rfl) (by kernel_rfl) rfl (fun K hK => ?_)
      go_simp
      refine hK.out _ _ ?_
      clear hK K
      try simp only [Act.put, List.setIfInBounds_toArray, List.set_cons_zero, List.set_cons_succ, List.getElem_toArray, List.getElem_cons_succ, List.getElem_cons_zero]
      refine wpAnyF_pure (i := 9) (v := ?vg1_16_9) rfl (by kernel_rfl) (by kernel_rfl) (by kernel_rfl) (fun _ _ _ h => h) (Or.inl ⟨by rfl, ?hyg1_16_9⟩) ?restg1_16_9
      case hyg1_16_9 => (intro w hSw; clear hSw; go_simp; (all_goals with_reducible rfl))
      try simp only [Act.put, List.setIfInBounds_toArray, List.set_cons_zero, List.set_cons_succ, List.getElem_toArray, List.getElem_cons_succ, List.getElem_cons_zero]
      refine wpAnyF_done (by kernel_rfl) ?_ _
      go_wp2_with fail
      obtain ⟨wf, hwf, hro, _, hbf⟩ := store6 (S := fun _ => True) (w1 := v3) HZ3.out Keep.refl trivial HB3.out (HB2.out.size) (.int .i64 zs.step) (.int .i64 zs.phase) (.bool zs.fresh) (.bool zs.done) (.slice VA zs.vals.length vc) (.slice MA m3.length mc)
      have hv9 := part_store6 (b := v2.heap.size) HV3.out (by simp) (.int .i64 zs.step) (.int .i64 zs.phase) (.bool zs.fresh) (.bool zs.done) (.slice VA zs.vals.length vc) (.slice MA m3.length mc)
      have hg9 := grid_store6 (b := v2.heap.size) HG3.out (by simp) (.int .i64 zs.step) (.int .i64 zs.phase) (.bool zs.fresh) (.bool zs.done) (.slice VA zs.vals.length vc) (.slice MA m3.length mc)
      rw [← hwf] at hv9 hg9
      rw [← hwf]
      clear hwf z0 z1 z2 z3 z4 z5
      go_meet
      exact ⟨v2.heap.size, VA, vc, MA, mc, m3, rfl, rfl, ⟨hro.cell (i := 0) (v := .int .i64 zs.step) rfl, hro.cell (i := 1) (v := .int .i64 zs.phase) rfl, hro.cell (i := 2) (v := .bool zs.fresh) rfl, hro.cell (i := 3) (v := .bool zs.done) rfl, hro.cell (i := 4) (v := .slice VA zs.vals.length vc) rfl, hro.cell (i := 5) (v := .slice MA m3.length mc) rfl⟩, HM3.out, hv9.to, hg9.led, hbf⟩
    refine AllReadyF.cons rfl (fun K hK => ?_) AllReadyF.nil
    go_simp
    refine hK.out _ _ ⟨bT hHeld.1 (bA (Below.refl _ _) _), (HK.out _ (bT hHeld.1 (bA (Below.refl _ _) _))).1, (HK.out _ (bT hHeld.1 (bA (Below.refl _ _) _))).2.1⟩ (fun hHeld => ?_)
    clear hK K
    try simp only [Act.put, List.setIfInBounds_toArray, List.set_cons_zero, List.set_cons_succ, List.getElem_toArray, List.getElem_cons_succ, List.getElem_cons_zero]
    refine wpAnyF_one (i := 1) (by kernel_rfl) rfl (fun K hK => ?_)
    go_simp
    go_at_call 8
    refine (HJ.out _ A c (rdb f4 (by decide) (bT b0X hHeld.1)) h24).mono ?_
    rintro e2 v2 ⟨A2, k2, rfl, r2, b2⟩
    have HB2 := hid (bT hHeld.1 b2)
    have HR2 := hid r2
    clear r2
    have HZ2 := hid (TObj.below (T := fun _ => 0) (t := 0) (b := WX.heap.size) (cs := #[.int .i64 0, .int .i64 0, .bool false, .bool false, .slice none 0 0, .slice none 0 0]) (e := 30) (TObj.drew ⟨heap_alloc_new WX _, rfl⟩) b2)
    go_wp2_with fail
    refine hK.out _ _ ⟨HB2.out, (HK.out _ HB2.out).1, (HK.out _ HB2.out).2.1⟩ (fun hHeld => ?_)
    clear hK K
    try simp only [Act.put, List.setIfInBounds_toArray, List.set_cons_zero, List.set_cons_succ, List.getElem_toArray, List.getElem_cons_succ, List.getElem_cons_zero]
    refine wpAnyF_one (i := 3) (by kernel_rfl) rfl (fun K hK => ?_)
    go_simp
    go_at_call 7
    refine (HN2.out _ A2 k2 hHeld.1 (rdb HR2.out (by decide) (Below.refl _ _))).mono ?_
    rintro e3 v3 ⟨VA, vc, MA, mc, m3, rfl, hm3, hv3, hg3, b3⟩
    have HB3 := hid (bT hHeld.1 b3)
    have HM3 := hid hm3
    have HV3 := hid hv3
    have HG3 := hid hg3
    clear hm3 hv3 hg3
    have HZ3 := hid (HZ2.out.below b3)
    have hXb : WX.heap.size < v2.heap.size := HZ2.out.lt
    have z0 := HZ3.out.cell (i := 0) (v := .int .i64 0) rfl
    have z1 := HZ3.out.cell (i := 1) (v := .int .i64 0) rfl
    have z2 := HZ3.out.cell (i := 2) (v := .bool false) rfl
    have z3 := HZ3.out.cell (i := 3) (v := .bool false) rfl
    have z4 := HZ3.out.cell (i := 4) (v := .slice none 0 0) rfl
    have z5 := HZ3.out.cell (i := 5) (v := .slice none 0 0) rfl
    have zf := HZ3.out.free
    have zl := HZ3.out.lt
    unfold stCells
    go_wp2_with fail
    refine hK.out _ _ ⟨HB3.out, (HK.out _ HB3.out).1, (HK.out _ HB3.out).2.1⟩ (fun hHeld => ?_)
    clear hK K
    try simp only [Act.put, List.setIfInBounds_toArray, List.set_cons_zero, List.set_cons_succ, List.getElem_toArray, List.getElem_cons_succ, List.getElem_cons_zero]
    refine wpAnyF_pure (i := 4) (v := ?vg1_19_4) rfl (by kernel_rfl) (by kernel_rfl) (by kernel_rfl) (fun _ _ _ h => h) (Or.inl ⟨by rfl, ?hyg1_19_4⟩) ?restg1_19_4
    case hyg1_19_4 => (intro w hSw; clear hSw; go_simp; (all_goals with_reducible rfl))
    try simp only [Act.put, List.setIfInBounds_toArray, List.set_cons_zero, List.set_cons_succ, List.getElem_toArray, List.getElem_cons_succ, List.getElem_cons_zero]
    refine wpAnyF_pure (i := 5) (v := ?vg1_20_5) rfl (by kernel_rfl) (by kernel_rfl) (by kernel_rfl) (fun _ _ _ h => h) (Or.inl ⟨by rfl, ?hyg1_20_5⟩) ?restg1_20_5
    case hyg1_20_5 => (intro w hSw; clear hSw; go_simp; (all_goals with_reducible rfl))
    try simp only [Act.put, List.setIfInBounds_toArray, List.set_cons_zero, List.set_cons_succ, List.getElem_toArray, List.getElem_cons_succ, List.getElem_cons_zero]
    refine wpAnyF_pure (i := 6) (v := ?vg1_21_6) rfl (by kernel_rfl) (by kernel_rfl) (by kernel_rfl) (fun _ _ _ h => h) (Or.inl ⟨by rfl, ?hyg1_21_6⟩) ?restg1_21_6
    case hyg1_21_6 => (intro w hSw; clear hSw; go_simp; (all_goals with_reducible rfl))
    try simp only [Act.put, List.setIfInBounds_toArray, List.set_cons_zero, List.set_cons_succ, List.getElem_toArray, List.getElem_cons_succ, List.getElem_cons_zero]
    refine wpAnyF_oneD (i := 8) (by kernel_rfl) (by kernel_rfl) rfl (fun K hK => ?_)
    go_simp
    refine hK.out _ _ ?_
    clear hK K
    try simp only [Act.put, List.setIfInBounds_toArray, List.set_cons_zero, List.set_cons_succ, List.getElem_toArray, List.getElem_cons_succ, List.getElem_cons_zero]
    refine wpAnyF_pure (i := 9) (v := ?vg1_23_9) rfl (by kernel_rfl) (by kernel_rfl) (by kernel_rfl) (fun _ _ _ h => h) (Or.inl ⟨by rfl, ?hyg1_23_9⟩) ?restg1_23_9
    case hyg1_23_9 => (intro w hSw; clear hSw; go_simp; (all_goals with_reducible rfl))
    try simp only [Act.put, List.setIfInBounds_toArray, List.set_cons_zero, List.set_cons_succ, List.getElem_toArray, List.getElem_cons_succ, List.getElem_cons_zero]
    refine wpAnyF_done (by kernel_rfl) ?_ _
    go_wp2_with fail
    obtain ⟨wf, hwf, hro, _, hbf⟩ := store6 (S := fun _ => True) (w1 := v3) HZ3.out Keep.refl trivial HB3.out (Nat.le_refl _) (.int .i64 zs.step) (.int .i64 zs.phase) (.bool zs.fresh) (.bool zs.done) (.slice VA zs.vals.length vc) (.slice MA m3.length mc)
    have hv9 := part_store6 (b := WX.heap.size) HV3.out hXb (.int .i64 zs.step) (.int .i64 zs.phase) (.bool zs.fresh) (.bool zs.done) (.slice VA zs.vals.length vc) (.slice MA m3.length mc)
    have hg9 := grid_store6 (b := WX.heap.size) HG3.out hXb (.int .i64 zs.step) (.int .i64 zs.phase) (.bool zs.fresh) (.bool zs.done) (.slice VA zs.vals.length vc) (.slice MA m3.length mc)
    rw [← hwf] at hv9 hg9
    rw [← hwf]
    clear hwf z0 z1 z2 z3 z4 z5
    go_meet
    exact ⟨WX.heap.size, VA, vc, MA, mc, m3, rfl, rfl, ⟨hro.cell (i := 0) (v := .int .i64 zs.step) rfl, hro.cell (i := 1) (v := .int .i64 zs.phase) rfl, hro.cell (i := 2) (v := .bool zs.fresh) rfl, hro.cell (i := 3) (v := .bool zs.done) rfl, hro.cell (i := 4) (v := .slice VA zs.vals.length vc) rfl, hro.cell (i := 5) (v := .slice MA m3.length mc) rfl⟩, HM3.out, hv9.to, hg9.led, hbf⟩
  case rest =>
    obtain ⟨X, VA, vc, MA, mc, m3, rfl, rfl, ⟨x0, x1, x2, x3, x4, x5⟩, hm3, hv3, hg3, bc⟩ := hcut
    obtain ⟨⟨j0, j1, j2, j3⟩, ⟨c0, c1', c2, c3, c4, c5⟩, s0, s1, s2, s3, s4, s5⟩ := HK.out _ bc
    have HM3 := hid hm3
    have HX := hid (show ∀ V, Below wc.heap.size wc V → _ from fun V hV => And.intro (keepb hV x0) (And.intro (keepb hV x1) (And.intro (keepb hV x2) (And.intro (keepb hV x3) (And.intro (keepb hV x4) (keepb hV x5))))))
    have b0c := bT b0X bc
    clear hm3
    go_wp2_with fail
    refine (HFW.out wc A B B' c d d' (rdb f4 (by decide) b0c) hl (rdb v4 (by decide) b0c) hvn (Grid.b hgr (by decide) b0c) hmn hz).mono ?_
    rintro e v4' ⟨A4, c4', B4, k4, m4, rfl, hm4, hv4, hg4, b4⟩
    unfold stCells
    dsimp only
    have HM4 := hid (show lists m4 = lists m3 from hm4.trans HM3.out.symm)
    have HV4 := hid hv4.to
    have HG4 := hid hg4.grid
    clear hm4 hv4 hg4
    have hML3 := lists_len HM3.out
    have hML4 := lists_len HM4.out
    obtain ⟨WY, hWY⟩ : ∃ WY, WY = v4'.alloc (.cells #[.int .i64 zs.step, .int .i64 zs.phase, .bool zs.fresh, .bool zs.done, .slice A4 zs.vals.length c4', .slice B4 m4.length k4] 30) := ⟨_, rfl⟩
    have bY : Below v4'.heap.size v4' WY := by rw [hWY]; exact bA (Below.refl v4'.heap.size v4') _
    have bcY := bT b4 bY
    obtain ⟨x0, x1, x2, x3, x4, x5⟩ := HX.out _ bcY
    have y0 : WY.cell? ⟨v4'.heap.size, 0, none⟩ = some (.int .i64 zs.step) := by rw [hWY]; go_simp
    have y1 : WY.cell? ⟨v4'.heap.size, 1, none⟩ = some (.int .i64 zs.phase) := by rw [hWY]; go_simp
    have y2 : WY.cell? ⟨v4'.heap.size, 2, none⟩ = some (.bool zs.fresh) := by rw [hWY]; go_simp
    have y3 : WY.cell? ⟨v4'.heap.size, 3, none⟩ = some (.bool zs.done) := by rw [hWY]; go_simp
    have y4 : WY.cell? ⟨v4'.heap.size, 4, none⟩ = some (.slice A4 zs.vals.length c4') := by rw [hWY]; go_simp
    have y5 : WY.cell? ⟨v4'.heap.size, 5, none⟩ = some (.slice B4 m4.length k4) := by rw [hWY]; go_simp
    have HYb := hid bcY
    have HSM := hid (sameState_walk { zs with mail := m3 } m4 WY VA A4 MA B4 vc c4' mc k4 HM4.out (rdb hv3 (by decide) bcY) (rdb HV4.out (by decide) bY) HSZ.out.1 (Grid.b hg3 (by decide) bcY) (Grid.b HG4.out (by decide) bY) (by have := HSZ.out.2.1; show m3.length ≤ _; omega) (fun x hx => by
      obtain ⟨y, hy, he⟩ := lists_mem HM3.out hx
      rw [← he]; exact HSZ.out.2.2 y hy))
    unfold stCells at HSM
    dsimp only at HSM
    clear hML3 hML4 b4
    go_upto_region 4 with fail
    rw [← hWY]
    clear hWY
    go_wp2_with fail
    refine HSM.out.mono ?_
    rintro e v5 ⟨rfl, b5⟩
    have bc5 := bT bcY b5
    obtain ⟨⟨j0, j1, j2, j3⟩, ⟨c0, c1', c2, c3, c4, c5⟩, s0, s1, s2, s3, s4, s5⟩ := HK.out _ (bT bc bc5)
    have b05 := bT b0c bc5
    go_wp2_with fail
    have hsm := sameState_walk { s with mail := m } s.mail v5 A1 B B1 B' c1 d k1 d' HM.out.symm (rdb hr1 (by decide) (bT bX (bT bc bc5))) (rdb v4 (by decide) b05) (by show s.vals.length ≤ _; omega) (Grid.b hg1 (by decide) (bT bX (bT bc bc5))) (Grid.b hgr (by decide) b05) (by have := HML.out; show m.length ≤ _; omega) (fun x hx => by have := hmz x hx; omega)
    unfold stCells at hsm
    dsimp only at hsm
    rw [HML.out] at hsm
    refine hsm.mono ?_
    rintro e v6 ⟨rfl, b6⟩
    go_wp2_with fail
    go_ret
    exact ⟨by simp, bT b05 b6⟩
end Go.Proofs.Yteefemiieidpaaa
