/- rounds.Run and the document's RanOut. -/
import Derived.Test.YteefemiieidpaaaRunV
import Derived.Test.YteefemiieidpaaaRndN
import Derived.Test.YteefemiieidpaaaFolW
import Derived.Deep.LoopGhost
namespace Go.Proofs.Yteefemiieidpaaa
open Go.ChangeShapes Go.WideShapes Go.ChangeAt Go.RowKit
set_option linter.unusedVariables false
set_option linter.unusedSimpArgs false
/-- A run under way. -/
def RunR (N X : Nat) (w : World) (j : Job) (jc zc : Array Value) (k : Nat) (v5 : Value) (wr : World) : Prop :=
  ∃ (p : State × Int) (VA : Option Addr) (vc : Nat) (MA : Option Addr) (mc : Nat) (m : List (ML Int)), v5 = .int .i64 p.2 ∧ Hid (leftS j p ≤ k ∧ runF j k p = runV j) ∧ Hid (SmallS p.1) ∧ Hid (lists m = lists p.1.mail) ∧
    Hid (TObj wr (fun b => if b = X then 1 else 0) 1 X #[.int .i64 p.1.step, .int .i64 p.1.phase, .bool p.1.fresh, .bool p.1.done, .slice VA p.1.vals.length vc, .slice MA m.length mc] 30) ∧ Hid ((Part.mk VA 2 p.1.vals.length (p.1.vals.flatMap Val.cells)).ok wr (N + 2) (some X)) ∧ Hid (GridX wr (N + 2) (some X) MA m) ∧
    Hid (TObj wr (fun b => if b = X then 1 else 0) 0 N jc 26) ∧ Hid (TObj wr (fun b => if b = X then 1 else 0) 0 (N + 1) zc 30) ∧ Hid (Below N w wr)
set_option maxRecDepth 100000 in
set_option maxHeartbeats 8000000 in
theorem run_walk (j : Job) (w : World) (A : Option Addr) (c : Nat) (hr : Rd w w.heap.size A 3 j.graph.edges.length (j.graph.edges.flatMap Edge.cells)) (hl : j.graph.edges.length ≤ 9223372036854775807) :
    Calls Try.prog 11 #[.agg #[.int .i64 j.graph.n, .slice A j.graph.edges.length c, .int .i64 j.kind, .int .i64 j.source]] w (RetSn w (runV j).1 (runV j).2) := by
  obtain ⟨W, hW⟩ : ∃ W, W = (w.alloc (.cells #[.int .i64 j.graph.n, .slice A j.graph.edges.length c, .int .i64 j.kind, .int .i64 j.source] 26)).alloc (.cells #[.int .i64 0, .int .i64 0, .bool false, .bool false, .slice none 0 0, .slice none 0 0] 30) := ⟨_, rfl⟩
  have b0 : Below w.heap.size w W := by rw [hW]; exact bA (bA (Below.refl _ _) _) _
  have hW2 : W.heap.size = w.heap.size + 2 := by rw [hW]; simp
  have HOJ : Hid (TObj W (fun _ => 0) 0 w.heap.size #[.int .i64 j.graph.n, .slice A j.graph.edges.length c, .int .i64 j.kind, .int .i64 j.source] 26) := hid (by rw [hW]; exact TObj.alloc ⟨heap_alloc_new w _, rfl⟩ _)
  have HOR : Hid (TObj W (fun _ => 0) 0 (w.heap.size + 1) #[.int .i64 0, .int .i64 0, .bool false, .bool false, .slice none 0 0, .slice none 0 0] 30) := hid ⟨by rw [hW]; have h := heap_alloc_new (w.alloc (.cells #[.int .i64 j.graph.n, .slice A j.graph.edges.length c, .int .i64 j.kind, .int .i64 j.source] 26)) (.cells #[.int .i64 0, .int .i64 0, .bool false, .bool false, .slice none 0 0, .slice none 0 0] 30); simpa using h, rfl⟩
  have HBG := hid ((begin_walkN j W A c (rdb hr (by decide) b0) hl).mono fun e v h => retSn_norm h)
  have HNX := hid (next_walk j)
  have HR := hid hr
  have HP0 : Hid (leftS j (normS (begV j).1, (begV j).2) ≤ 100003 ∧ runF j 100003 (normS (begV j).1, (begV j).2) = runV j) := hid ⟨by have := leftS_le j (normS (begV j).1, (begV j).2); omega, rfl⟩
  have HS0 := hid (small_beg j)
  generalize normS (begV j).1 = s0 at HBG HP0 HS0
  generalize (begV j).2 = er0 at HBG HP0
  obtain ⟨st, ph, fr, dn, vs, ml⟩ := s0
  unfold jobVal at HBG
  have HB0 := hid b0
  have HW2 := hid hW2
  clear hr b0 hW2
  go_enter Try.func11, Try.ntmps11
  go_wp2_with fail
  rw [← hW]
  clear hW
  refine HBG.out.mono ?_
  rintro e1 w1 ⟨VA, vc, MA, mc, m, rfl, hm, hv, hg, b1⟩
  unfold stCells
  dsimp only at hm hv ⊢
  have hsz := b1.size
  have h2 := HW2.out
  obtain ⟨X, hX⟩ : ∃ X, X = w1.heap.size := ⟨_, rfl⟩
  obtain ⟨WX, hWX⟩ : ∃ WX, WX = w1.alloc (.cells #[.int .i64 st, .int .i64 ph, .bool fr, .bool dn, .slice VA vs.length vc, .slice MA m.length mc] 30) := ⟨_, rfl⟩
  have bX : Below w1.heap.size w1 WX := by rw [hWX]; exact bA (Below.refl _ _) _
  have HREL := hid (show RunR w.heap.size X w j #[.int .i64 j.graph.n, .slice A j.graph.edges.length c, .int .i64 j.kind, .int .i64 j.source] #[.int .i64 0, .int .i64 0, .bool false, .bool false, .slice none 0 0, .slice none 0 0] 100003 (.int .i64 er0) WX from ⟨(⟨st, ph, fr, dn, vs, ml⟩, er0), VA, vc, MA, mc, m, rfl, HP0, HS0, hid hm, hid ⟨by rw [hWX, hX]; exact heap_alloc_new w1 _, if_pos rfl⟩, hid (part_ne ((hv.less (by omega)).below bX) hv.to (by rw [hX]; exact Nat.le_refl _)), hid (grid_ne ((hg.less (by omega)).below bX) hg (by rw [hX]; exact Nat.le_refl _)), hid ⟨((HOJ.out.below b1).below bX).blk, if_neg (by omega)⟩, hid ⟨((HOR.out.below b1).below bX).blk, if_neg (by omega)⟩, hid (bT (bT HB0.out b1) bX)⟩)
  have HXN := hid (show w.heap.size + 2 ≤ X by omega)
  go_wp2_with fail
  rw [← hWX, ← hX]
  clear hWX hX hm hv hg b1 bX hsz h2 HOJ HOR HBG HS0 HP0
  go_loopg [5] 100003 (fun k v5 wr => RunR w.heap.size X w j #[.int .i64 j.graph.n, .slice A j.graph.edges.length c, .int .i64 j.kind, .int .i64 j.source] #[.int .i64 0, .int .i64 0, .bool false, .bool false, .slice none 0 0, .slice none 0 0] k v5 wr)
  case atStart => exact HREL.out
  case round =>
    clear HREL
    obtain ⟨⟨⟨st, ph, fr, dn, vs, ml⟩, er⟩, VA, vc, MA, mc, m, rfl, HLT, HS, HM, HX, HV, HG, HJO, HR2, HB⟩ := hrel
    dsimp only at HLT HS HM HX HV
    generalize gk = k at *
    have x0 := HX.out.cell (i := 0) (v := .int .i64 st) rfl
    have x1 := HX.out.cell (i := 1) (v := .int .i64 ph) rfl
    have x2 := HX.out.cell (i := 2) (v := .bool fr) rfl
    have x3 := HX.out.cell (i := 3) (v := .bool dn) rfl
    have x4 := HX.out.cell (i := 4) (v := .slice VA vs.length vc) rfl
    have x5 := HX.out.cell (i := 5) (v := .slice MA m.length mc) rfl
    have t0 := HR2.out.cell (i := 0) (v := .int .i64 0) rfl
    have t1 := HR2.out.cell (i := 1) (v := .int .i64 0) rfl
    have t2 := HR2.out.cell (i := 2) (v := .bool false) rfl
    have t3 := HR2.out.cell (i := 3) (v := .bool false) rfl
    have t4 := HR2.out.cell (i := 4) (v := .slice none 0 0) rfl
    have t5 := HR2.out.cell (i := 5) (v := .slice none 0 0) rfl
    have xf := HX.out.free
    have tf := HR2.out.free
    have hxl := HX.out.lt
    have htl := HR2.out.lt
    by_cases her : er = 0
    · subst her
      have hrun : ∀ (h : dn = false), ((⟨st, ph, fr, dn, vs, ml⟩ : State), (0 : Int)).2 = 0 ∧ ((⟨st, ph, fr, dn, vs, ml⟩ : State), (0 : Int)).1.done = false := fun h => ⟨rfl, h⟩
      cases dn with
      | false =>
        have hk := stepN_less (j := j) (hrun rfl)
        have hlt := HLT.out
        obtain ⟨k, rfl⟩ : ∃ k', k = k' + 1 := ⟨k - 1, by omega⟩
        have HLT2 : Hid (leftS j (stepN j (⟨st, ph, fr, false, vs, ml⟩, 0)) ≤ k ∧ runF j k (stepN j (⟨st, ph, fr, false, vs, ml⟩, 0)) = runV j) := hid ⟨by omega, by have h := hlt.2; unfold runF at h; rw [if_pos (hrun rfl)] at h; exact h⟩
        have HS2 := hid (small_step (j := j) (p := (⟨st, ph, fr, false, vs, ml⟩, 0)) HS.out)
        obtain ⟨hv1, hv2, hv3⟩ := HS.out
        dsimp only at hv1 hv2 hv3
        have hml := lists_len HM.out
        have HNC := hid (HNX.out ⟨st, ph, fr, false, vs, m⟩ wr A VA MA c vc mc (rdb HR.out (by decide) HB.out) hl HV.out.to (by show vs.length * 16 ≤ _; omega) (HG.out.led) (by show m.length * 24 ≤ _; omega) (fun x hx => by
          obtain ⟨y, hy, he⟩ := lists_mem HM.out hx
          have := hv3 y hy
          rw [← he]; omega))
        dsimp only at HNC
        obtain ⟨hn1, m', hn2, hn3⟩ := next_norm (j := j) (p := (⟨st, ph, fr, false, vs, ml⟩, 0)) (m := m) HM.out
        dsimp only at hn1 hn2
        rw [hn1, hn2] at HNC
        have HNC := hid (HNC.out.mono fun e v h => retSn_lists hn3 h)
        have j0 := HJO.out.cell (i := 0) (v := .int .i64 j.graph.n) rfl
        have j1 := HJO.out.cell (i := 1) (v := .slice A j.graph.edges.length c) rfl
        have j2 := HJO.out.cell (i := 2) (v := .int .i64 j.kind) rfl
        have j3 := HJO.out.cell (i := 3) (v := .int .i64 j.source) rfl
        clear hk hlt hn1 hn2 hn3 hv1 hv2 hv3 hml hrun HLT HS HM HNX
        generalize stepN j (⟨st, ph, fr, false, vs, ml⟩, 0) = q at HLT2 HS2 HNC
        obtain ⟨⟨st2, ph2, fr2, dn2, vs2, ml2⟩, er2⟩ := q
        dsimp only at HNC HS2
        go_wp2_with fail
        refine HNC.out.mono ?_
        rintro e2 v2 ⟨VA2, vc2, MA2, mc2, m2, rfl, hm2, hv2, hg2, b2⟩
        unfold stCells
        dsimp only at hm2 hv2 ⊢
        have HM2 := hid hm2
        have HV2 := hid hv2
        have HG2 := hid hg2
        have HX2 := hid (HX.out.below b2)
        have HJO2 := hid (HJO.out.below b2)
        have HR22 := hid (HR2.out.below b2)
        have HB2 := hid (HB.out.trans (b2.mono (by omega)))
        clear hm2 hv2 hg2 b2 x0 x1 x2 x3 x4 x5 t0 t1 t2 t3 t4 t5 xf tf htl j0 j1 j2 j3
        have x0 := HX2.out.cell (i := 0) (v := .int .i64 st) rfl
        have x1 := HX2.out.cell (i := 1) (v := .int .i64 ph) rfl
        have x2 := HX2.out.cell (i := 2) (v := .bool fr) rfl
        have x3 := HX2.out.cell (i := 3) (v := .bool false) rfl
        have x4 := HX2.out.cell (i := 4) (v := .slice VA vs.length vc) rfl
        have x5 := HX2.out.cell (i := 5) (v := .slice MA m.length mc) rfl
        have xf := HX2.out.free
        have hxl2 := HX2.out.lt
        go_wp2_with fail
        obtain ⟨wf, hwf, hro, hkf, hbf⟩ := store6 (S := fun t => t = 1) (w1 := v2) HX2.out Keep.refl rfl HB2.out (by have := HXN.out; omega) (.int .i64 st2) (.int .i64 ph2) (.bool fr2) (.bool dn2) (.slice VA2 vs2.length vc2) (.slice MA2 m2.length mc2)
        have hv9 := part_store6 (b := X) HV2.out hxl (.int .i64 st2) (.int .i64 ph2) (.bool fr2) (.bool dn2) (.slice VA2 vs2.length vc2) (.slice MA2 m2.length mc2)
        have hg9 := grid_store6 (b := X) HG2.out hxl (.int .i64 st2) (.int .i64 ph2) (.bool fr2) (.bool dn2) (.slice VA2 vs2.length vc2) (.slice MA2 m2.length mc2)
        rw [← hwf] at hv9 hg9
        rw [← hwf]
        have HREL := hid (show RunR w.heap.size X w j #[.int .i64 j.graph.n, .slice A j.graph.edges.length c, .int .i64 j.kind, .int .i64 j.source] #[.int .i64 0, .int .i64 0, .bool false, .bool false, .slice none 0 0, .slice none 0 0] k (.int .i64 er2) wf from ⟨(⟨st2, ph2, fr2, dn2, vs2, ml2⟩, er2), VA2, vc2, MA2, mc2, m2, rfl, HLT2, HS2, HM2, hid hro, hid (part_off hv9 hxl (by have := HXN.out; omega)), hid ⟨part_off hg9.1 hxl (by have := HXN.out; omega), fun x hx => part_off (hg9.2 x hx) hxl (by have := HXN.out; omega)⟩, hid (HJO2.out.keep hkf (by decide) Agree.refl), hid (HR22.out.keep hkf (by decide) Agree.refl), hid hbf⟩)
        clear hwf hro hkf hbf hv9 hg9 x0 x1 x2 x3 x4 x5 xf
        go_roundg k
        case measure => omega
        case rel => exact HREL.out
      | true =>
        have hstop : ¬ ((0 : Int) = 0 ∧ true = false) := by simp
        clear hrun
        have hpe := runF_stop (j := j) (p := (⟨st, ph, fr, true, vs, ml⟩, 0)) (by first | exact hstop | simpa using hstop) k
        have HPE := hid (show runV j = (⟨st, ph, fr, true, vs, ml⟩, 0) by rw [← HLT.out.2, hpe])
        clear hpe hstop
        go_wp2_with fail
        obtain ⟨wf, hwf, hro, _, hbf⟩ := store6 (S := fun _ => True) (w1 := wr) HR2.out Keep.refl trivial HB.out (Nat.le_succ _) (.int .i64 st) (.int .i64 ph) (.bool fr) (.bool true) (.slice VA vs.length vc) (.slice MA m.length mc)
        have hv9 := part_store6 (b := w.heap.size + 1) HV.out (Nat.lt_succ_self _) (.int .i64 st) (.int .i64 ph) (.bool fr) (.bool true) (.slice VA vs.length vc) (.slice MA m.length mc)
        have hg9 := grid_store6 (b := w.heap.size + 1) HG.out (Nat.lt_succ_self _) (.int .i64 st) (.int .i64 ph) (.bool fr) (.bool true) (.slice VA vs.length vc) (.slice MA m.length mc)
        rw [← hwf] at hv9 hg9
        rw [← hwf]
        clear hwf x0 x1 x2 x3 x4 x5 t0 t1 t2 t3 t4 t5
        have u0 := hro.cell (i := 0) (v := .int .i64 st) rfl
        have u1 := hro.cell (i := 1) (v := .int .i64 ph) rfl
        have u2 := hro.cell (i := 2) (v := .bool fr) rfl
        have u3 := hro.cell (i := 3) (v := .bool true) rfl
        have u4 := hro.cell (i := 4) (v := .slice VA vs.length vc) rfl
        have u5 := hro.cell (i := 5) (v := .slice MA m.length mc) rfl
        refine bodyPost_ret (v := .tuple #[.agg #[.int .i64 st, .int .i64 ph, .bool fr, .bool true, .slice VA vs.length vc, .slice MA m.length mc], .int .i64 0]) (by simp [results, Try.results11, go_sem, u0, u1, u2, u3, u4, u5]) rfl ?_
        rw [HPE.out]
        exact ⟨VA, vc, MA, mc, m, rfl, HM.out, part_any hv9 (by omega), ⟨part_any hg9.1 (by omega), fun x hx => part_any (hg9.2 x hx) (by omega)⟩, hbf⟩
    · have herb : (er == 0) = false := by simpa using her
      have hstop : ¬ (er = 0 ∧ dn = false) := fun h => her h.1
      clear her
      have hpe := runF_stop (j := j) (p := (⟨st, ph, fr, dn, vs, ml⟩, er)) (by first | exact hstop | simpa using hstop) k
      have HPE := hid (show runV j = (⟨st, ph, fr, dn, vs, ml⟩, er) by rw [← HLT.out.2, hpe])
      clear hpe hstop
      go_wp2_with fail
      obtain ⟨wf, hwf, hro, _, hbf⟩ := store6 (S := fun _ => True) (w1 := wr) HR2.out Keep.refl trivial HB.out (Nat.le_succ _) (.int .i64 st) (.int .i64 ph) (.bool fr) (.bool dn) (.slice VA vs.length vc) (.slice MA m.length mc)
      have hv9 := part_store6 (b := w.heap.size + 1) HV.out (Nat.lt_succ_self _) (.int .i64 st) (.int .i64 ph) (.bool fr) (.bool dn) (.slice VA vs.length vc) (.slice MA m.length mc)
      have hg9 := grid_store6 (b := w.heap.size + 1) HG.out (Nat.lt_succ_self _) (.int .i64 st) (.int .i64 ph) (.bool fr) (.bool dn) (.slice VA vs.length vc) (.slice MA m.length mc)
      rw [← hwf] at hv9 hg9
      rw [← hwf]
      clear hwf x0 x1 x2 x3 x4 x5 t0 t1 t2 t3 t4 t5
      have u0 := hro.cell (i := 0) (v := .int .i64 st) rfl
      have u1 := hro.cell (i := 1) (v := .int .i64 ph) rfl
      have u2 := hro.cell (i := 2) (v := .bool fr) rfl
      have u3 := hro.cell (i := 3) (v := .bool dn) rfl
      have u4 := hro.cell (i := 4) (v := .slice VA vs.length vc) rfl
      have u5 := hro.cell (i := 5) (v := .slice MA m.length mc) rfl
      refine bodyPost_ret (v := .tuple #[.agg #[.int .i64 st, .int .i64 ph, .bool fr, .bool dn, .slice VA vs.length vc, .slice MA m.length mc], .int .i64 er]) (by simp [results, Try.results11, go_sem, u0, u1, u2, u3, u4, u5]) rfl ?_
      rw [HPE.out]
      exact ⟨VA, vc, MA, mc, m, rfl, HM.out, part_any hv9 (by omega), ⟨part_any hg9.1 (by omega), fun x hx => part_any (hg9.2 x hx) (by omega)⟩, hbf⟩
set_option maxRecDepth 100000 in
set_option maxHeartbeats 8000000 in
theorem ranOut_walk (j : Job) (w : World) (A : Option Addr) (c : Nat) (hr : Rd w w.heap.size A 3 j.graph.edges.length (j.graph.edges.flatMap Edge.cells)) (hl : j.graph.edges.length ≤ 9223372036854775807) :
    Calls Try.prog 12 #[.agg #[.int .i64 j.graph.n, .slice A j.graph.edges.length c, .int .i64 j.kind, .int .i64 j.source]] w (RetSn w (runV j).1 (runV j).2) := by
  obtain ⟨W, hW⟩ : ∃ W, W = (w.alloc (.cells #[.int .i64 j.graph.n, .slice A j.graph.edges.length c, .int .i64 j.kind, .int .i64 j.source] 26)).alloc (.cells #[.int .i64 0, .int .i64 0, .bool false, .bool false, .slice none 0 0, .slice none 0 0] 30) := ⟨_, rfl⟩
  have b0 : Below w.heap.size w W := by rw [hW]; exact bA (bA (Below.refl _ _) _) _
  have hW2 : W.heap.size = w.heap.size + 2 := by rw [hW]; simp
  have HOJ : Hid (TObj W (fun _ => 0) 0 w.heap.size #[.int .i64 j.graph.n, .slice A j.graph.edges.length c, .int .i64 j.kind, .int .i64 j.source] 26) := hid (by rw [hW]; exact TObj.alloc ⟨heap_alloc_new w _, rfl⟩ _)
  have HOR : Hid (TObj W (fun _ => 0) 0 (w.heap.size + 1) #[.int .i64 0, .int .i64 0, .bool false, .bool false, .slice none 0 0, .slice none 0 0] 30) := hid ⟨by rw [hW]; have h := heap_alloc_new (w.alloc (.cells #[.int .i64 j.graph.n, .slice A j.graph.edges.length c, .int .i64 j.kind, .int .i64 j.source] 26)) (.cells #[.int .i64 0, .int .i64 0, .bool false, .bool false, .slice none 0 0, .slice none 0 0] 30); simpa using h, rfl⟩
  have HBG := hid ((begun_walkN j W A c (rdb hr (by decide) b0) hl).mono fun e v h => retSn_norm h)
  have HNX := hid (followed_walk j)
  have HR := hid hr
  have HP0 : Hid (leftS j (normS (begV j).1, (begV j).2) ≤ 100003 ∧ runF j 100003 (normS (begV j).1, (begV j).2) = runV j) := hid ⟨by have := leftS_le j (normS (begV j).1, (begV j).2); omega, rfl⟩
  have HS0 := hid (small_beg j)
  generalize normS (begV j).1 = s0 at HBG HP0 HS0
  generalize (begV j).2 = er0 at HBG HP0
  obtain ⟨st, ph, fr, dn, vs, ml⟩ := s0
  unfold jobVal at HBG
  have HB0 := hid b0
  have HW2 := hid hW2
  clear hr b0 hW2
  go_enter Try.func12, Try.ntmps12
  go_wp2_with fail
  rw [← hW]
  clear hW
  refine HBG.out.mono ?_
  rintro e1 w1 ⟨VA, vc, MA, mc, m, rfl, hm, hv, hg, b1⟩
  unfold stCells
  dsimp only at hm hv ⊢
  have hsz := b1.size
  have h2 := HW2.out
  obtain ⟨X, hX⟩ : ∃ X, X = w1.heap.size := ⟨_, rfl⟩
  obtain ⟨WX, hWX⟩ : ∃ WX, WX = w1.alloc (.cells #[.int .i64 st, .int .i64 ph, .bool fr, .bool dn, .slice VA vs.length vc, .slice MA m.length mc] 30) := ⟨_, rfl⟩
  have bX : Below w1.heap.size w1 WX := by rw [hWX]; exact bA (Below.refl _ _) _
  have HREL := hid (show RunR w.heap.size X w j #[.int .i64 j.graph.n, .slice A j.graph.edges.length c, .int .i64 j.kind, .int .i64 j.source] #[.int .i64 0, .int .i64 0, .bool false, .bool false, .slice none 0 0, .slice none 0 0] 100003 (.int .i64 er0) WX from ⟨(⟨st, ph, fr, dn, vs, ml⟩, er0), VA, vc, MA, mc, m, rfl, HP0, HS0, hid hm, hid ⟨by rw [hWX, hX]; exact heap_alloc_new w1 _, if_pos rfl⟩, hid (part_ne ((hv.less (by omega)).below bX) hv.to (by rw [hX]; exact Nat.le_refl _)), hid (grid_ne ((hg.less (by omega)).below bX) hg (by rw [hX]; exact Nat.le_refl _)), hid ⟨((HOJ.out.below b1).below bX).blk, if_neg (by omega)⟩, hid ⟨((HOR.out.below b1).below bX).blk, if_neg (by omega)⟩, hid (bT (bT HB0.out b1) bX)⟩)
  have HXN := hid (show w.heap.size + 2 ≤ X by omega)
  go_wp2_with fail
  rw [← hWX, ← hX]
  clear hWX hX hm hv hg b1 bX hsz h2 HOJ HOR HBG HS0 HP0
  go_loopg [5] 100003 (fun k v5 wr => RunR w.heap.size X w j #[.int .i64 j.graph.n, .slice A j.graph.edges.length c, .int .i64 j.kind, .int .i64 j.source] #[.int .i64 0, .int .i64 0, .bool false, .bool false, .slice none 0 0, .slice none 0 0] k v5 wr)
  case atStart => exact HREL.out
  case round =>
    clear HREL
    obtain ⟨⟨⟨st, ph, fr, dn, vs, ml⟩, er⟩, VA, vc, MA, mc, m, rfl, HLT, HS, HM, HX, HV, HG, HJO, HR2, HB⟩ := hrel
    dsimp only at HLT HS HM HX HV
    generalize gk = k at *
    have x0 := HX.out.cell (i := 0) (v := .int .i64 st) rfl
    have x1 := HX.out.cell (i := 1) (v := .int .i64 ph) rfl
    have x2 := HX.out.cell (i := 2) (v := .bool fr) rfl
    have x3 := HX.out.cell (i := 3) (v := .bool dn) rfl
    have x4 := HX.out.cell (i := 4) (v := .slice VA vs.length vc) rfl
    have x5 := HX.out.cell (i := 5) (v := .slice MA m.length mc) rfl
    have t0 := HR2.out.cell (i := 0) (v := .int .i64 0) rfl
    have t1 := HR2.out.cell (i := 1) (v := .int .i64 0) rfl
    have t2 := HR2.out.cell (i := 2) (v := .bool false) rfl
    have t3 := HR2.out.cell (i := 3) (v := .bool false) rfl
    have t4 := HR2.out.cell (i := 4) (v := .slice none 0 0) rfl
    have t5 := HR2.out.cell (i := 5) (v := .slice none 0 0) rfl
    have xf := HX.out.free
    have tf := HR2.out.free
    have hxl := HX.out.lt
    have htl := HR2.out.lt
    by_cases her : er = 0
    · subst her
      have hrun : ∀ (h : dn = false), ((⟨st, ph, fr, dn, vs, ml⟩ : State), (0 : Int)).2 = 0 ∧ ((⟨st, ph, fr, dn, vs, ml⟩ : State), (0 : Int)).1.done = false := fun h => ⟨rfl, h⟩
      cases dn with
      | false =>
        have hk := stepN_less (j := j) (hrun rfl)
        have hlt := HLT.out
        obtain ⟨k, rfl⟩ : ∃ k', k = k' + 1 := ⟨k - 1, by omega⟩
        have HLT2 : Hid (leftS j (stepN j (⟨st, ph, fr, false, vs, ml⟩, 0)) ≤ k ∧ runF j k (stepN j (⟨st, ph, fr, false, vs, ml⟩, 0)) = runV j) := hid ⟨by omega, by have h := hlt.2; unfold runF at h; rw [if_pos (hrun rfl)] at h; exact h⟩
        have HS2 := hid (small_step (j := j) (p := (⟨st, ph, fr, false, vs, ml⟩, 0)) HS.out)
        obtain ⟨hv1, hv2, hv3⟩ := HS.out
        dsimp only at hv1 hv2 hv3
        have hml := lists_len HM.out
        have HNC := hid (HNX.out ⟨st, ph, fr, false, vs, m⟩ wr A VA MA c vc mc (rdb HR.out (by decide) HB.out) hl HV.out.to (by show vs.length * 16 ≤ _; omega) (HG.out.led) (by show m.length * 24 ≤ _; omega) (fun x hx => by
          obtain ⟨y, hy, he⟩ := lists_mem HM.out hx
          have := hv3 y hy
          rw [← he]; omega))
        dsimp only at HNC
        obtain ⟨hn1, m', hn2, hn3⟩ := next_norm (j := j) (p := (⟨st, ph, fr, false, vs, ml⟩, 0)) (m := m) HM.out
        dsimp only at hn1 hn2
        rw [hn1, hn2] at HNC
        have HNC := hid (HNC.out.mono fun e v h => retSn_lists hn3 h)
        have j0 := HJO.out.cell (i := 0) (v := .int .i64 j.graph.n) rfl
        have j1 := HJO.out.cell (i := 1) (v := .slice A j.graph.edges.length c) rfl
        have j2 := HJO.out.cell (i := 2) (v := .int .i64 j.kind) rfl
        have j3 := HJO.out.cell (i := 3) (v := .int .i64 j.source) rfl
        clear hk hlt hn1 hn2 hn3 hv1 hv2 hv3 hml hrun HLT HS HM HNX
        generalize stepN j (⟨st, ph, fr, false, vs, ml⟩, 0) = q at HLT2 HS2 HNC
        obtain ⟨⟨st2, ph2, fr2, dn2, vs2, ml2⟩, er2⟩ := q
        dsimp only at HNC HS2
        go_wp2_with fail
        refine HNC.out.mono ?_
        rintro e2 v2 ⟨VA2, vc2, MA2, mc2, m2, rfl, hm2, hv2, hg2, b2⟩
        unfold stCells
        dsimp only at hm2 hv2 ⊢
        have HM2 := hid hm2
        have HV2 := hid hv2
        have HG2 := hid hg2
        have HX2 := hid (HX.out.below b2)
        have HJO2 := hid (HJO.out.below b2)
        have HR22 := hid (HR2.out.below b2)
        have HB2 := hid (HB.out.trans (b2.mono (by omega)))
        clear hm2 hv2 hg2 b2 x0 x1 x2 x3 x4 x5 t0 t1 t2 t3 t4 t5 xf tf htl j0 j1 j2 j3
        have x0 := HX2.out.cell (i := 0) (v := .int .i64 st) rfl
        have x1 := HX2.out.cell (i := 1) (v := .int .i64 ph) rfl
        have x2 := HX2.out.cell (i := 2) (v := .bool fr) rfl
        have x3 := HX2.out.cell (i := 3) (v := .bool false) rfl
        have x4 := HX2.out.cell (i := 4) (v := .slice VA vs.length vc) rfl
        have x5 := HX2.out.cell (i := 5) (v := .slice MA m.length mc) rfl
        have xf := HX2.out.free
        have hxl2 := HX2.out.lt
        go_wp2_with fail
        obtain ⟨wf, hwf, hro, hkf, hbf⟩ := store6 (S := fun t => t = 1) (w1 := v2) HX2.out Keep.refl rfl HB2.out (by have := HXN.out; omega) (.int .i64 st2) (.int .i64 ph2) (.bool fr2) (.bool dn2) (.slice VA2 vs2.length vc2) (.slice MA2 m2.length mc2)
        have hv9 := part_store6 (b := X) HV2.out hxl (.int .i64 st2) (.int .i64 ph2) (.bool fr2) (.bool dn2) (.slice VA2 vs2.length vc2) (.slice MA2 m2.length mc2)
        have hg9 := grid_store6 (b := X) HG2.out hxl (.int .i64 st2) (.int .i64 ph2) (.bool fr2) (.bool dn2) (.slice VA2 vs2.length vc2) (.slice MA2 m2.length mc2)
        rw [← hwf] at hv9 hg9
        rw [← hwf]
        have HREL := hid (show RunR w.heap.size X w j #[.int .i64 j.graph.n, .slice A j.graph.edges.length c, .int .i64 j.kind, .int .i64 j.source] #[.int .i64 0, .int .i64 0, .bool false, .bool false, .slice none 0 0, .slice none 0 0] k (.int .i64 er2) wf from ⟨(⟨st2, ph2, fr2, dn2, vs2, ml2⟩, er2), VA2, vc2, MA2, mc2, m2, rfl, HLT2, HS2, HM2, hid hro, hid (part_off hv9 hxl (by have := HXN.out; omega)), hid ⟨part_off hg9.1 hxl (by have := HXN.out; omega), fun x hx => part_off (hg9.2 x hx) hxl (by have := HXN.out; omega)⟩, hid (HJO2.out.keep hkf (by decide) Agree.refl), hid (HR22.out.keep hkf (by decide) Agree.refl), hid hbf⟩)
        clear hwf hro hkf hbf hv9 hg9 x0 x1 x2 x3 x4 x5 xf
        go_roundg k
        case measure => omega
        case rel => exact HREL.out
      | true =>
        have hstop : ¬ ((0 : Int) = 0 ∧ true = false) := by simp
        clear hrun
        have hpe := runF_stop (j := j) (p := (⟨st, ph, fr, true, vs, ml⟩, 0)) (by first | exact hstop | simpa using hstop) k
        have HPE := hid (show runV j = (⟨st, ph, fr, true, vs, ml⟩, 0) by rw [← HLT.out.2, hpe])
        clear hpe hstop
        go_wp2_with fail
        obtain ⟨wf, hwf, hro, _, hbf⟩ := store6 (S := fun _ => True) (w1 := wr) HR2.out Keep.refl trivial HB.out (Nat.le_succ _) (.int .i64 st) (.int .i64 ph) (.bool fr) (.bool true) (.slice VA vs.length vc) (.slice MA m.length mc)
        have hv9 := part_store6 (b := w.heap.size + 1) HV.out (Nat.lt_succ_self _) (.int .i64 st) (.int .i64 ph) (.bool fr) (.bool true) (.slice VA vs.length vc) (.slice MA m.length mc)
        have hg9 := grid_store6 (b := w.heap.size + 1) HG.out (Nat.lt_succ_self _) (.int .i64 st) (.int .i64 ph) (.bool fr) (.bool true) (.slice VA vs.length vc) (.slice MA m.length mc)
        rw [← hwf] at hv9 hg9
        rw [← hwf]
        clear hwf x0 x1 x2 x3 x4 x5 t0 t1 t2 t3 t4 t5
        have u0 := hro.cell (i := 0) (v := .int .i64 st) rfl
        have u1 := hro.cell (i := 1) (v := .int .i64 ph) rfl
        have u2 := hro.cell (i := 2) (v := .bool fr) rfl
        have u3 := hro.cell (i := 3) (v := .bool true) rfl
        have u4 := hro.cell (i := 4) (v := .slice VA vs.length vc) rfl
        have u5 := hro.cell (i := 5) (v := .slice MA m.length mc) rfl
        refine bodyPost_ret (v := .tuple #[.agg #[.int .i64 st, .int .i64 ph, .bool fr, .bool true, .slice VA vs.length vc, .slice MA m.length mc], .int .i64 0]) (by simp [results, Try.results12, go_sem, u0, u1, u2, u3, u4, u5]) rfl ?_
        rw [HPE.out]
        exact ⟨VA, vc, MA, mc, m, rfl, HM.out, part_any hv9 (by omega), ⟨part_any hg9.1 (by omega), fun x hx => part_any (hg9.2 x hx) (by omega)⟩, hbf⟩
    · have herb : (er == 0) = false := by simpa using her
      have hstop : ¬ (er = 0 ∧ dn = false) := fun h => her h.1
      clear her
      have hpe := runF_stop (j := j) (p := (⟨st, ph, fr, dn, vs, ml⟩, er)) (by first | exact hstop | simpa using hstop) k
      have HPE := hid (show runV j = (⟨st, ph, fr, dn, vs, ml⟩, er) by rw [← HLT.out.2, hpe])
      clear hpe hstop
      go_wp2_with fail
      obtain ⟨wf, hwf, hro, _, hbf⟩ := store6 (S := fun _ => True) (w1 := wr) HR2.out Keep.refl trivial HB.out (Nat.le_succ _) (.int .i64 st) (.int .i64 ph) (.bool fr) (.bool dn) (.slice VA vs.length vc) (.slice MA m.length mc)
      have hv9 := part_store6 (b := w.heap.size + 1) HV.out (Nat.lt_succ_self _) (.int .i64 st) (.int .i64 ph) (.bool fr) (.bool dn) (.slice VA vs.length vc) (.slice MA m.length mc)
      have hg9 := grid_store6 (b := w.heap.size + 1) HG.out (Nat.lt_succ_self _) (.int .i64 st) (.int .i64 ph) (.bool fr) (.bool dn) (.slice VA vs.length vc) (.slice MA m.length mc)
      rw [← hwf] at hv9 hg9
      rw [← hwf]
      clear hwf x0 x1 x2 x3 x4 x5 t0 t1 t2 t3 t4 t5
      have u0 := hro.cell (i := 0) (v := .int .i64 st) rfl
      have u1 := hro.cell (i := 1) (v := .int .i64 ph) rfl
      have u2 := hro.cell (i := 2) (v := .bool fr) rfl
      have u3 := hro.cell (i := 3) (v := .bool dn) rfl
      have u4 := hro.cell (i := 4) (v := .slice VA vs.length vc) rfl
      have u5 := hro.cell (i := 5) (v := .slice MA m.length mc) rfl
      refine bodyPost_ret (v := .tuple #[.agg #[.int .i64 st, .int .i64 ph, .bool fr, .bool dn, .slice VA vs.length vc, .slice MA m.length mc], .int .i64 er]) (by simp [results, Try.results12, go_sem, u0, u1, u2, u3, u4, u5]) rfl ?_
      rw [HPE.out]
      exact ⟨VA, vc, MA, mc, m, rfl, HM.out, part_any hv9 (by omega), ⟨part_any hg9.1 (by omega), fun x hx => part_any (hg9.2 x hx) (by omega)⟩, hbf⟩
end Go.Proofs.Yteefemiieidpaaa
