/- LimW, LLim: joined. -/
import Derived.Test.YteefemiieidpaaaRunW
import Derived.Test.YteefemiieidpaaaTask
import Derived.Test.YteefemiieidpaaaTaskC
import Derived.Deep.LoopGhost
/- engine.Limit and the document's LimitOf. -/
namespace Go.Proofs.Yteefemiieidpaaa
open Go.ChangeShapes Go.WideShapes Go.ChangeAt Go.RowKit
set_option linter.unusedVariables false
set_option linter.unusedSimpArgs false
/-- How many rounds are run. -/
noncomputable def cntF (j : Job) : Nat → State × Int → Nat
  | 0, _ => 0
  | n + 1, p => if p.2 = 0 ∧ p.1.done = false then cntF j n (stepN j p) + 1 else 0
noncomputable def cntV (j : Job) : Nat := cntF j 100003 (normS (begV j).1, (begV j).2)
theorem cntF_le (j : Job) : ∀ (n : Nat) (p : State × Int), cntF j n p ≤ n
  | 0, _ => Nat.le_refl _
  | n + 1, p => by
    unfold cntF
    split
    · have := cntF_le j n (stepN j p); omega
    · omega
theorem cntV_le (j : Job) : cntV j ≤ 100003 := cntF_le j _ _
theorem cntF_stop {j : Job} {p : State × Int} (h : ¬ (p.2 = 0 ∧ p.1.done = false)) {n : Nat} : cntF j n p = 0 := by
  cases n with
  | zero => rfl
  | succ n => unfold cntF; rw [if_neg h]
noncomputable def limV (t : Task) : Int × Int := if taskV t ≠ 0 then (0, taskV t) else (((cntV t.job : Nat) + 2) * (t.job.graph.n + (t.job.graph.edges.length : Int) + 12), 0)
theorem mul_in {a b : Int} (h1 : 0 ≤ a) (h2 : a ≤ 1000000) (h3 : 0 ≤ b) (h4 : b ≤ 1000000) : -9223372036854775808 ≤ a * b ∧ a * b ≤ 9223372036854775807 := by
  have h5 : 0 ≤ a * b := Int.mul_nonneg h1 h3
  have h6 : a * b ≤ 1000000 * 1000000 := Int.mul_le_mul h2 h4 h3 (by omega)
  omega
/-- A count under way. -/
def LimR (N X : Nat) (w : World) (j : Job) (tc : Array Value) (k : Nat) (vst ver : Value) (wr : World) : Prop :=
  ∃ (p : State × Int) (VA : Option Addr) (vc : Nat) (MA : Option Addr) (mc : Nat) (m : List (ML Int)) (cnt : Nat), ver = .int .i64 p.2 ∧ vst = .int .i64 (cnt : Nat) ∧ Hid (leftS j p ≤ k ∧ cnt + cntF j k p = cntV j) ∧ Hid (SmallS p.1) ∧ Hid (lists m = lists p.1.mail) ∧
    Hid (TObj wr (fun b => if b = X then 1 else 0) 1 X #[.int .i64 p.1.step, .int .i64 p.1.phase, .bool p.1.fresh, .bool p.1.done, .slice VA p.1.vals.length vc, .slice MA m.length mc] 30) ∧ Hid ((Part.mk VA 2 p.1.vals.length (p.1.vals.flatMap Val.cells)).ok wr (N + 1) (some X)) ∧ Hid (GridX wr (N + 1) (some X) MA m) ∧
    Hid (TObj wr (fun b => if b = X then 1 else 0) 0 N tc 41) ∧ Hid (Below N w wr)
set_option maxRecDepth 100000 in
set_option maxHeartbeats 8000000 in
theorem limit_walk (t : Task) (w : World) (A : Option Addr) (c : Nat) (hr : Rd w w.heap.size A 3 t.job.graph.edges.length (t.job.graph.edges.flatMap Edge.cells)) (hl : t.job.graph.edges.length ≤ 9223372036854775807) :
    Calls Try.prog 13 #[.agg #[.int .i64 t.job.graph.n, .slice A t.job.graph.edges.length c, .int .i64 t.job.kind, .int .i64 t.job.source, .int .i64 t.workers, .int .i64 t.every, .int .i64 t.budget]] w fun e w' => e = .returned (.tuple #[.int .i64 (limV t).1, .int .i64 (limV t).2]) ∧ Below w.heap.size w w' := by
  obtain ⟨W, hW⟩ : ∃ W, W = w.alloc (.cells #[.int .i64 t.job.graph.n, .slice A t.job.graph.edges.length c, .int .i64 t.job.kind, .int .i64 t.job.source, .int .i64 t.workers, .int .i64 t.every, .int .i64 t.budget] 41) := ⟨_, rfl⟩
  have b0 : Below w.heap.size w W := by rw [hW]; exact bA (Below.refl _ _) _
  have hW1 : W.heap.size = w.heap.size + 1 := by rw [hW]; simp
  have HOJ : Hid (TObj W (fun _ => 0) 0 w.heap.size #[.int .i64 t.job.graph.n, .slice A t.job.graph.edges.length c, .int .i64 t.job.kind, .int .i64 t.job.source, .int .i64 t.workers, .int .i64 t.every, .int .i64 t.budget] 41) := hid (by rw [hW]; exact ⟨heap_alloc_new w _, rfl⟩)
  have HCK := hid (taskCheck_walk t W A c (rdb hr (by decide) b0) hl)
  have HBG := hid (fun (V : World) (hV : Below W.heap.size W V) => (begin_walkN t.job V A c (rdb hr (by decide) (bT b0 hV)) hl).mono fun e v h => retSn_norm h)
  have HNX := hid (next_walk t.job)
  have HR := hid hr
  have HB0 := hid b0
  have HW1 := hid hW1
  unfold taskVal at HCK
  unfold jobVal at HBG
  clear hr b0 hW1
  go_enter Try.func13, Try.ntmps13
  go_wp2_with fail
  rw [← hW]
  clear hW
  refine HCK.out.mono ?_
  rintro e0 w0 ⟨rfl, bw0⟩
  have HOJ := hid (HOJ.out.below bw0)
  have HB0 := hid (bT HB0.out bw0)
  have HBG := hid (HBG.out w0 bw0)
  have HW1 := hid (show w.heap.size + 1 ≤ w0.heap.size by have := HW1.out; have := bw0.size; omega)
  clear bw0 HCK
  have j0 := HOJ.out.cell (i := 0) (v := .int .i64 t.job.graph.n) rfl
  have j1 := HOJ.out.cell (i := 1) (v := .slice A t.job.graph.edges.length c) rfl
  have j2 := HOJ.out.cell (i := 2) (v := .int .i64 t.job.kind) rfl
  have j3 := HOJ.out.cell (i := 3) (v := .int .i64 t.job.source) rfl
  by_cases htk : taskV t = 0
  · have HLV := hid (show limV t = (((cntV t.job : Nat) + 2) * (t.job.graph.n + (t.job.graph.edges.length : Int) + 12), 0) by unfold limV; rw [if_neg (by simpa using htk)])
    have htb : (taskV t != 0) = false := by simpa using htk
    have hjb : jobV t.job = 0 := by
      unfold taskV at htk
      by_cases h : jobV t.job = 0
      · exact h
      · rw [if_pos h] at htk; exact htk
    have hn := jobV_n hjb
    have hel : t.job.graph.edges.length ≤ 600 := (jobV_graph hjb).1.2.2
    have HP0 : Hid (leftS t.job (normS (begV t.job).1, (begV t.job).2) ≤ 100003 ∧ 0 + cntF t.job 100003 (normS (begV t.job).1, (begV t.job).2) = cntV t.job) := hid ⟨by have := leftS_le t.job (normS (begV t.job).1, (begV t.job).2); omega, by rw [Nat.zero_add]; rfl⟩
    have HS0 := hid (small_beg t.job)
    generalize normS (begV t.job).1 = s0 at HBG HP0 HS0
    generalize (begV t.job).2 = er0 at HBG HP0
    obtain ⟨st, ph, fr, dn, vs, ml⟩ := s0
    clear htk hjb
    go_wp2_with fail
    refine HBG.out.mono ?_
    rintro e1 w1 ⟨VA, vc, MA, mc, m, rfl, hm, hv, hg, b1⟩
    unfold stCells
    dsimp only at hm hv ⊢
    have hsz := b1.size
    have h2 := HW1.out
    obtain ⟨X, hX⟩ : ∃ X, X = w1.heap.size := ⟨_, rfl⟩
    obtain ⟨WX, hWX⟩ : ∃ WX, WX = w1.alloc (.cells #[.int .i64 st, .int .i64 ph, .bool fr, .bool dn, .slice VA vs.length vc, .slice MA m.length mc] 30) := ⟨_, rfl⟩
    have bX : Below w1.heap.size w1 WX := by rw [hWX]; exact bA (Below.refl _ _) _
    have HREL := hid (show LimR w.heap.size X w t.job #[.int .i64 t.job.graph.n, .slice A t.job.graph.edges.length c, .int .i64 t.job.kind, .int .i64 t.job.source, .int .i64 t.workers, .int .i64 t.every, .int .i64 t.budget] 100003 (.int .i64 (0 : Nat)) (.int .i64 er0) WX from ⟨(⟨st, ph, fr, dn, vs, ml⟩, er0), VA, vc, MA, mc, m, 0, rfl, rfl, HP0, HS0, hid hm, hid ⟨by rw [hWX, hX]; exact heap_alloc_new w1 _, if_pos rfl⟩, hid (part_ne ((hv.less (by omega)).below bX) hv.to (by rw [hX]; exact Nat.le_refl _)), hid (grid_ne ((hg.less (by omega)).below bX) hg (by rw [hX]; exact Nat.le_refl _)), hid ⟨((HOJ.out.below b1).below bX).blk, if_neg (by omega)⟩, hid (bT (bT HB0.out b1) bX)⟩)
    have HXN := hid (show w.heap.size + 1 ≤ X by omega)
    go_wp2_with fail
    rw [← hWX, ← hX]
    clear hWX hX hm hv hg b1 bX hsz h2 HOJ HBG HS0 HP0 j0 j1 j2 j3
    go_loopg [6, 7] 100003 (fun k ver vst wr => LimR w.heap.size X w t.job #[.int .i64 t.job.graph.n, .slice A t.job.graph.edges.length c, .int .i64 t.job.kind, .int .i64 t.job.source, .int .i64 t.workers, .int .i64 t.every, .int .i64 t.budget] k vst ver wr)
    case atStart => exact HREL.out
    case round =>
      clear HREL
      obtain ⟨⟨⟨st, ph, fr, dn, vs, ml⟩, er⟩, VA, vc, MA, mc, m, cnt, rfl, rfl, HLT, HS, HM, HX, HV, HG, HJO, HB⟩ := hrel
      dsimp only at HLT HS HM HX HV
      generalize gk = k at *
      have x0 := HX.out.cell (i := 0) (v := .int .i64 st) rfl
      have x1 := HX.out.cell (i := 1) (v := .int .i64 ph) rfl
      have x2 := HX.out.cell (i := 2) (v := .bool fr) rfl
      have x3 := HX.out.cell (i := 3) (v := .bool dn) rfl
      have x4 := HX.out.cell (i := 4) (v := .slice VA vs.length vc) rfl
      have x5 := HX.out.cell (i := 5) (v := .slice MA m.length mc) rfl
      have xf := HX.out.free
      have hxl := HX.out.lt
      have hjl := HJO.out.lt
      by_cases her : er = 0
      · subst her
        have hrun : ∀ (h : dn = false), ((⟨st, ph, fr, dn, vs, ml⟩ : State), (0 : Int)).2 = 0 ∧ ((⟨st, ph, fr, dn, vs, ml⟩ : State), (0 : Int)).1.done = false := fun h => ⟨rfl, h⟩
        cases dn with
        | false =>
          have hk := stepN_less (j := t.job) (hrun rfl)
          have hlt := HLT.out
          obtain ⟨k, rfl⟩ : ∃ k', k = k' + 1 := ⟨k - 1, by omega⟩
          have hcnt : cnt + 1 + cntF t.job k (stepN t.job (⟨st, ph, fr, false, vs, ml⟩, 0)) = cntV t.job := by
            have h := hlt.2
            unfold cntF at h
            rw [if_pos (hrun rfl)] at h
            omega
          have HLT2 : Hid (leftS t.job (stepN t.job (⟨st, ph, fr, false, vs, ml⟩, 0)) ≤ k ∧ cnt + 1 + cntF t.job k (stepN t.job (⟨st, ph, fr, false, vs, ml⟩, 0)) = cntV t.job) := hid ⟨by omega, hcnt⟩
          have hcv := cntV_le t.job
          have hcl : cnt + 1 ≤ 100003 := by omega
          have hw1 : IntKind.i64.wrap ((cnt : Int) + 1) = (cnt : Int) + 1 := IntWalk.i64_in _ (by omega)
          have HS2 := hid (small_step (j := t.job) (p := (⟨st, ph, fr, false, vs, ml⟩, 0)) HS.out)
          obtain ⟨hv1, hv2, hv3⟩ := HS.out
          dsimp only at hv1 hv2 hv3
          have hml := lists_len HM.out
          have HNC := hid (HNX.out ⟨st, ph, fr, false, vs, m⟩ wr A VA MA c vc mc (rdb HR.out (by decide) HB.out) hl HV.out.to (by show vs.length * 16 ≤ _; omega) (HG.out.led) (by show m.length * 24 ≤ _; omega) (fun x hx => by
            obtain ⟨y, hy, he⟩ := lists_mem HM.out hx
            have := hv3 y hy
            rw [← he]; omega))
          dsimp only at HNC
          obtain ⟨hn1, m', hn2, hn3⟩ := next_norm (j := t.job) (p := (⟨st, ph, fr, false, vs, ml⟩, 0)) (m := m) HM.out
          dsimp only at hn1 hn2
          rw [hn1, hn2] at HNC
          have HNC := hid (HNC.out.mono fun e v h => retSn_lists hn3 h)
          have j0 := HJO.out.cell (i := 0) (v := .int .i64 t.job.graph.n) rfl
          have j1 := HJO.out.cell (i := 1) (v := .slice A t.job.graph.edges.length c) rfl
          have j2 := HJO.out.cell (i := 2) (v := .int .i64 t.job.kind) rfl
          have j3 := HJO.out.cell (i := 3) (v := .int .i64 t.job.source) rfl
          clear hk hlt hcnt hcv hn1 hn2 hn3 hv1 hv2 hv3 hml hrun HLT HS HM HNX
          generalize stepN t.job (⟨st, ph, fr, false, vs, ml⟩, 0) = q at HLT2 HS2 HNC
          obtain ⟨⟨st2, ph2, fr2, dn2, vs2, ml2⟩, er2⟩ := q
          dsimp only at HNC HS2
          go_wp2_with fail
          refine HNC.out.mono ?_
          rintro e2 v2 ⟨VA2, vc2, MA2, mc2, m2, rfl, hm2, hv2, hg2, b2⟩
          unfold stCells
          dsimp only at hm2 hv2 ⊢
          have HM2 := hid hm2
          have HV2 := hid hv2
          have HG2 := hid hg2
          have HX2 := hid (HX.out.below b2)
          have HJO2 := hid (HJO.out.below b2)
          have HB2 := hid (HB.out.trans (b2.mono (by omega)))
          clear hm2 hv2 hg2 b2 x0 x1 x2 x3 x4 x5 xf j0 j1 j2 j3
          have x0 := HX2.out.cell (i := 0) (v := .int .i64 st) rfl
          have x1 := HX2.out.cell (i := 1) (v := .int .i64 ph) rfl
          have x2 := HX2.out.cell (i := 2) (v := .bool fr) rfl
          have x3 := HX2.out.cell (i := 3) (v := .bool false) rfl
          have x4 := HX2.out.cell (i := 4) (v := .slice VA vs.length vc) rfl
          have x5 := HX2.out.cell (i := 5) (v := .slice MA m.length mc) rfl
          have xf := HX2.out.free
          have hxl2 := HX2.out.lt
          go_wp2_with fail
          obtain ⟨wf, hwf, hro, hkf, hbf⟩ := store6 (S := fun t => t = 1) (w1 := v2) HX2.out Keep.refl rfl HB2.out (by have := HXN.out; omega) (.int .i64 st2) (.int .i64 ph2) (.bool fr2) (.bool dn2) (.slice VA2 vs2.length vc2) (.slice MA2 m2.length mc2)
          have hv9 := part_store6 (b := X) HV2.out hxl (.int .i64 st2) (.int .i64 ph2) (.bool fr2) (.bool dn2) (.slice VA2 vs2.length vc2) (.slice MA2 m2.length mc2)
          have hg9 := grid_store6 (b := X) HG2.out hxl (.int .i64 st2) (.int .i64 ph2) (.bool fr2) (.bool dn2) (.slice VA2 vs2.length vc2) (.slice MA2 m2.length mc2)
          rw [← hwf] at hv9 hg9
          rw [← hwf]
          have HREL := hid (show LimR w.heap.size X w t.job #[.int .i64 t.job.graph.n, .slice A t.job.graph.edges.length c, .int .i64 t.job.kind, .int .i64 t.job.source, .int .i64 t.workers, .int .i64 t.every, .int .i64 t.budget] k (.int .i64 ((cnt + 1 : Nat) : Int)) (.int .i64 er2) wf from ⟨(⟨st2, ph2, fr2, dn2, vs2, ml2⟩, er2), VA2, vc2, MA2, mc2, m2, cnt + 1, rfl, rfl, HLT2, HS2, HM2, hid hro, hid (part_off hv9 hxl (by have := HXN.out; omega)), hid ⟨part_off hg9.1 hxl (by have := HXN.out; omega), fun x hx => part_off (hg9.2 x hx) hxl (by have := HXN.out; omega)⟩, hid (HJO2.out.keep hkf (by decide) Agree.refl), hid hbf⟩)
          clear hwf hro hkf hbf hv9 hg9 x0 x1 x2 x3 x4 x5 xf
          go_roundg k
          case measure => omega
          case rel =>
            have h := HREL.out
            rw [show ((cnt + 1 : Nat) : Int) = (cnt : Int) + 1 by omega] at h
            exact h
        | true =>
          have hstop : ¬ ((0 : Int) = 0 ∧ true = false) := by simp
          clear hrun
          have hpe : cnt = cntV t.job := by have h := HLT.out.2; rw [cntF_stop (by first | exact hstop | simpa using hstop)] at h; exact h
          have HPE := hid hpe
          have hc0 := cntV_le t.job
          have hcl : cnt ≤ 100003 := by omega
          have hw1 : IntKind.i64.wrap ((cnt : Int) + 2) = (cnt : Int) + 2 := IntWalk.i64_in _ (by omega)
          have hw2 : IntKind.i64.wrap (t.job.graph.n + (t.job.graph.edges.length : Int)) = t.job.graph.n + (t.job.graph.edges.length : Int) := IntWalk.i64_in _ (by omega)
          have hw3 : IntKind.i64.wrap (t.job.graph.n + (t.job.graph.edges.length : Int) + 12) = t.job.graph.n + (t.job.graph.edges.length : Int) + 12 := IntWalk.i64_in _ (by omega)
          have hw4 : IntKind.i64.wrap (((cnt : Int) + 2) * (t.job.graph.n + (t.job.graph.edges.length : Int) + 12)) = ((cnt : Int) + 2) * (t.job.graph.n + (t.job.graph.edges.length : Int) + 12) := IntWalk.i64_in _ (mul_in (by omega) (by omega) (by omega) (by omega))
          have j0 := HJO.out.cell (i := 0) (v := .int .i64 t.job.graph.n) rfl
          have j1 := HJO.out.cell (i := 1) (v := .slice A t.job.graph.edges.length c) rfl
          clear hpe hstop hc0
          go_wp2_with fail
          go_ret2
          exact ⟨by rw [HLV.out, HPE.out]; rfl, HB.out⟩
      · have herb : (er == 0) = false := by simpa using her
        have hstop : ¬ (er = 0 ∧ dn = false) := fun h => her h.1
        clear her
        have hpe : cnt = cntV t.job := by have h := HLT.out.2; rw [cntF_stop (by first | exact hstop | simpa using hstop)] at h; exact h
        have HPE := hid hpe
        have hc0 := cntV_le t.job
        have hcl : cnt ≤ 100003 := by omega
        have hw1 : IntKind.i64.wrap ((cnt : Int) + 2) = (cnt : Int) + 2 := IntWalk.i64_in _ (by omega)
        have hw2 : IntKind.i64.wrap (t.job.graph.n + (t.job.graph.edges.length : Int)) = t.job.graph.n + (t.job.graph.edges.length : Int) := IntWalk.i64_in _ (by omega)
        have hw3 : IntKind.i64.wrap (t.job.graph.n + (t.job.graph.edges.length : Int) + 12) = t.job.graph.n + (t.job.graph.edges.length : Int) + 12 := IntWalk.i64_in _ (by omega)
        have hw4 : IntKind.i64.wrap (((cnt : Int) + 2) * (t.job.graph.n + (t.job.graph.edges.length : Int) + 12)) = ((cnt : Int) + 2) * (t.job.graph.n + (t.job.graph.edges.length : Int) + 12) := IntWalk.i64_in _ (mul_in (by omega) (by omega) (by omega) (by omega))
        have j0 := HJO.out.cell (i := 0) (v := .int .i64 t.job.graph.n) rfl
        have j1 := HJO.out.cell (i := 1) (v := .slice A t.job.graph.edges.length c) rfl
        clear hpe hstop hc0
        go_wp2_with fail
        go_ret2
        exact ⟨by rw [HLV.out, HPE.out]; rfl, HB.out⟩
  · have HLV := hid (show limV t = (0, taskV t) by unfold limV; rw [if_pos htk])
    have htb : (taskV t != 0) = true := by simpa using htk
    clear htk
    go_wp2_with fail
    go_ret2
    exact ⟨by rw [HLV.out]; rfl, HB0.out⟩
set_option maxRecDepth 100000 in
set_option maxHeartbeats 8000000 in
theorem limitOf_walk (t : Task) (w : World) (A : Option Addr) (c : Nat) (hr : Rd w w.heap.size A 3 t.job.graph.edges.length (t.job.graph.edges.flatMap Edge.cells)) (hl : t.job.graph.edges.length ≤ 9223372036854775807) :
    Calls Try.prog 15 #[.agg #[.int .i64 t.job.graph.n, .slice A t.job.graph.edges.length c, .int .i64 t.job.kind, .int .i64 t.job.source, .int .i64 t.workers, .int .i64 t.every, .int .i64 t.budget]] w fun e w' => e = .returned (.tuple #[.int .i64 (limV t).1, .int .i64 (limV t).2]) ∧ Below w.heap.size w w' := by
  obtain ⟨W, hW⟩ : ∃ W, W = w.alloc (.cells #[.int .i64 t.job.graph.n, .slice A t.job.graph.edges.length c, .int .i64 t.job.kind, .int .i64 t.job.source, .int .i64 t.workers, .int .i64 t.every, .int .i64 t.budget] 41) := ⟨_, rfl⟩
  have b0 : Below w.heap.size w W := by rw [hW]; exact bA (Below.refl _ _) _
  have hW1 : W.heap.size = w.heap.size + 1 := by rw [hW]; simp
  have HOJ : Hid (TObj W (fun _ => 0) 0 w.heap.size #[.int .i64 t.job.graph.n, .slice A t.job.graph.edges.length c, .int .i64 t.job.kind, .int .i64 t.job.source, .int .i64 t.workers, .int .i64 t.every, .int .i64 t.budget] 41) := hid (by rw [hW]; exact ⟨heap_alloc_new w _, rfl⟩)
  have HCK := hid (taskFault_walk t W A c (rdb hr (by decide) b0) hl)
  have HBG := hid (fun (V : World) (hV : Below W.heap.size W V) => (begun_walkN t.job V A c (rdb hr (by decide) (bT b0 hV)) hl).mono fun e v h => retSn_norm h)
  have HNX := hid (followed_walk t.job)
  have HR := hid hr
  have HB0 := hid b0
  have HW1 := hid hW1
  unfold taskVal at HCK
  unfold jobVal at HBG
  clear hr b0 hW1
  go_enter Try.func15, Try.ntmps15
  go_wp2_with fail
  rw [← hW]
  clear hW
  refine HCK.out.mono ?_
  rintro e0 w0 ⟨rfl, bw0⟩
  have HOJ := hid (HOJ.out.below bw0)
  have HB0 := hid (bT HB0.out bw0)
  have HBG := hid (HBG.out w0 bw0)
  have HW1 := hid (show w.heap.size + 1 ≤ w0.heap.size by have := HW1.out; have := bw0.size; omega)
  clear bw0 HCK
  have j0 := HOJ.out.cell (i := 0) (v := .int .i64 t.job.graph.n) rfl
  have j1 := HOJ.out.cell (i := 1) (v := .slice A t.job.graph.edges.length c) rfl
  have j2 := HOJ.out.cell (i := 2) (v := .int .i64 t.job.kind) rfl
  have j3 := HOJ.out.cell (i := 3) (v := .int .i64 t.job.source) rfl
  by_cases htk : taskV t = 0
  · have HLV := hid (show limV t = (((cntV t.job : Nat) + 2) * (t.job.graph.n + (t.job.graph.edges.length : Int) + 12), 0) by unfold limV; rw [if_neg (by simpa using htk)])
    have htb : (taskV t != 0) = false := by simpa using htk
    have hjb : jobV t.job = 0 := by
      unfold taskV at htk
      by_cases h : jobV t.job = 0
      · exact h
      · rw [if_pos h] at htk; exact htk
    have hn := jobV_n hjb
    have hel : t.job.graph.edges.length ≤ 600 := (jobV_graph hjb).1.2.2
    have HP0 : Hid (leftS t.job (normS (begV t.job).1, (begV t.job).2) ≤ 100003 ∧ 0 + cntF t.job 100003 (normS (begV t.job).1, (begV t.job).2) = cntV t.job) := hid ⟨by have := leftS_le t.job (normS (begV t.job).1, (begV t.job).2); omega, by rw [Nat.zero_add]; rfl⟩
    have HS0 := hid (small_beg t.job)
    generalize normS (begV t.job).1 = s0 at HBG HP0 HS0
    generalize (begV t.job).2 = er0 at HBG HP0
    obtain ⟨st, ph, fr, dn, vs, ml⟩ := s0
    clear htk hjb
    go_wp2_with fail
    refine HBG.out.mono ?_
    rintro e1 w1 ⟨VA, vc, MA, mc, m, rfl, hm, hv, hg, b1⟩
    unfold stCells
    dsimp only at hm hv ⊢
    have hsz := b1.size
    have h2 := HW1.out
    obtain ⟨X, hX⟩ : ∃ X, X = w1.heap.size := ⟨_, rfl⟩
    obtain ⟨WX, hWX⟩ : ∃ WX, WX = w1.alloc (.cells #[.int .i64 st, .int .i64 ph, .bool fr, .bool dn, .slice VA vs.length vc, .slice MA m.length mc] 30) := ⟨_, rfl⟩
    have bX : Below w1.heap.size w1 WX := by rw [hWX]; exact bA (Below.refl _ _) _
    have HREL := hid (show LimR w.heap.size X w t.job #[.int .i64 t.job.graph.n, .slice A t.job.graph.edges.length c, .int .i64 t.job.kind, .int .i64 t.job.source, .int .i64 t.workers, .int .i64 t.every, .int .i64 t.budget] 100003 (.int .i64 (0 : Nat)) (.int .i64 er0) WX from ⟨(⟨st, ph, fr, dn, vs, ml⟩, er0), VA, vc, MA, mc, m, 0, rfl, rfl, HP0, HS0, hid hm, hid ⟨by rw [hWX, hX]; exact heap_alloc_new w1 _, if_pos rfl⟩, hid (part_ne ((hv.less (by omega)).below bX) hv.to (by rw [hX]; exact Nat.le_refl _)), hid (grid_ne ((hg.less (by omega)).below bX) hg (by rw [hX]; exact Nat.le_refl _)), hid ⟨((HOJ.out.below b1).below bX).blk, if_neg (by omega)⟩, hid (bT (bT HB0.out b1) bX)⟩)
    have HXN := hid (show w.heap.size + 1 ≤ X by omega)
    go_wp2_with fail
    rw [← hWX, ← hX]
    clear hWX hX hm hv hg b1 bX hsz h2 HOJ HBG HS0 HP0 j0 j1 j2 j3
    go_loopg [5, 7] 100003 (fun k vst ver wr => LimR w.heap.size X w t.job #[.int .i64 t.job.graph.n, .slice A t.job.graph.edges.length c, .int .i64 t.job.kind, .int .i64 t.job.source, .int .i64 t.workers, .int .i64 t.every, .int .i64 t.budget] k vst ver wr)
    case atStart => exact HREL.out
    case round =>
      clear HREL
      obtain ⟨⟨⟨st, ph, fr, dn, vs, ml⟩, er⟩, VA, vc, MA, mc, m, cnt, rfl, rfl, HLT, HS, HM, HX, HV, HG, HJO, HB⟩ := hrel
      dsimp only at HLT HS HM HX HV
      generalize gk = k at *
      have x0 := HX.out.cell (i := 0) (v := .int .i64 st) rfl
      have x1 := HX.out.cell (i := 1) (v := .int .i64 ph) rfl
      have x2 := HX.out.cell (i := 2) (v := .bool fr) rfl
      have x3 := HX.out.cell (i := 3) (v := .bool dn) rfl
      have x4 := HX.out.cell (i := 4) (v := .slice VA vs.length vc) rfl
      have x5 := HX.out.cell (i := 5) (v := .slice MA m.length mc) rfl
      have xf := HX.out.free
      have hxl := HX.out.lt
      have hjl := HJO.out.lt
      by_cases her : er = 0
      · subst her
        have hrun : ∀ (h : dn = false), ((⟨st, ph, fr, dn, vs, ml⟩ : State), (0 : Int)).2 = 0 ∧ ((⟨st, ph, fr, dn, vs, ml⟩ : State), (0 : Int)).1.done = false := fun h => ⟨rfl, h⟩
        cases dn with
        | false =>
          have hk := stepN_less (j := t.job) (hrun rfl)
          have hlt := HLT.out
          obtain ⟨k, rfl⟩ : ∃ k', k = k' + 1 := ⟨k - 1, by omega⟩
          have hcnt : cnt + 1 + cntF t.job k (stepN t.job (⟨st, ph, fr, false, vs, ml⟩, 0)) = cntV t.job := by
            have h := hlt.2
            unfold cntF at h
            rw [if_pos (hrun rfl)] at h
            omega
          have HLT2 : Hid (leftS t.job (stepN t.job (⟨st, ph, fr, false, vs, ml⟩, 0)) ≤ k ∧ cnt + 1 + cntF t.job k (stepN t.job (⟨st, ph, fr, false, vs, ml⟩, 0)) = cntV t.job) := hid ⟨by omega, hcnt⟩
          have hcv := cntV_le t.job
          have hcl : cnt + 1 ≤ 100003 := by omega
          have hw1 : IntKind.i64.wrap ((cnt : Int) + 1) = (cnt : Int) + 1 := IntWalk.i64_in _ (by omega)
          have HS2 := hid (small_step (j := t.job) (p := (⟨st, ph, fr, false, vs, ml⟩, 0)) HS.out)
          obtain ⟨hv1, hv2, hv3⟩ := HS.out
          dsimp only at hv1 hv2 hv3
          have hml := lists_len HM.out
          have HNC := hid (HNX.out ⟨st, ph, fr, false, vs, m⟩ wr A VA MA c vc mc (rdb HR.out (by decide) HB.out) hl HV.out.to (by show vs.length * 16 ≤ _; omega) (HG.out.led) (by show m.length * 24 ≤ _; omega) (fun x hx => by
            obtain ⟨y, hy, he⟩ := lists_mem HM.out hx
            have := hv3 y hy
            rw [← he]; omega))
          dsimp only at HNC
          obtain ⟨hn1, m', hn2, hn3⟩ := next_norm (j := t.job) (p := (⟨st, ph, fr, false, vs, ml⟩, 0)) (m := m) HM.out
          dsimp only at hn1 hn2
          rw [hn1, hn2] at HNC
          have HNC := hid (HNC.out.mono fun e v h => retSn_lists hn3 h)
          have j0 := HJO.out.cell (i := 0) (v := .int .i64 t.job.graph.n) rfl
          have j1 := HJO.out.cell (i := 1) (v := .slice A t.job.graph.edges.length c) rfl
          have j2 := HJO.out.cell (i := 2) (v := .int .i64 t.job.kind) rfl
          have j3 := HJO.out.cell (i := 3) (v := .int .i64 t.job.source) rfl
          clear hk hlt hcnt hcv hn1 hn2 hn3 hv1 hv2 hv3 hml hrun HLT HS HM HNX
          generalize stepN t.job (⟨st, ph, fr, false, vs, ml⟩, 0) = q at HLT2 HS2 HNC
          obtain ⟨⟨st2, ph2, fr2, dn2, vs2, ml2⟩, er2⟩ := q
          dsimp only at HNC HS2
          go_wp2_with fail
          refine HNC.out.mono ?_
          rintro e2 v2 ⟨VA2, vc2, MA2, mc2, m2, rfl, hm2, hv2, hg2, b2⟩
          unfold stCells
          dsimp only at hm2 hv2 ⊢
          have HM2 := hid hm2
          have HV2 := hid hv2
          have HG2 := hid hg2
          have HX2 := hid (HX.out.below b2)
          have HJO2 := hid (HJO.out.below b2)
          have HB2 := hid (HB.out.trans (b2.mono (by omega)))
          clear hm2 hv2 hg2 b2 x0 x1 x2 x3 x4 x5 xf j0 j1 j2 j3
          have x0 := HX2.out.cell (i := 0) (v := .int .i64 st) rfl
          have x1 := HX2.out.cell (i := 1) (v := .int .i64 ph) rfl
          have x2 := HX2.out.cell (i := 2) (v := .bool fr) rfl
          have x3 := HX2.out.cell (i := 3) (v := .bool false) rfl
          have x4 := HX2.out.cell (i := 4) (v := .slice VA vs.length vc) rfl
          have x5 := HX2.out.cell (i := 5) (v := .slice MA m.length mc) rfl
          have xf := HX2.out.free
          have hxl2 := HX2.out.lt
          go_wp2_with fail
          obtain ⟨wf, hwf, hro, hkf, hbf⟩ := store6 (S := fun t => t = 1) (w1 := v2) HX2.out Keep.refl rfl HB2.out (by have := HXN.out; omega) (.int .i64 st2) (.int .i64 ph2) (.bool fr2) (.bool dn2) (.slice VA2 vs2.length vc2) (.slice MA2 m2.length mc2)
          have hv9 := part_store6 (b := X) HV2.out hxl (.int .i64 st2) (.int .i64 ph2) (.bool fr2) (.bool dn2) (.slice VA2 vs2.length vc2) (.slice MA2 m2.length mc2)
          have hg9 := grid_store6 (b := X) HG2.out hxl (.int .i64 st2) (.int .i64 ph2) (.bool fr2) (.bool dn2) (.slice VA2 vs2.length vc2) (.slice MA2 m2.length mc2)
          rw [← hwf] at hv9 hg9
          rw [← hwf]
          have HREL := hid (show LimR w.heap.size X w t.job #[.int .i64 t.job.graph.n, .slice A t.job.graph.edges.length c, .int .i64 t.job.kind, .int .i64 t.job.source, .int .i64 t.workers, .int .i64 t.every, .int .i64 t.budget] k (.int .i64 ((cnt + 1 : Nat) : Int)) (.int .i64 er2) wf from ⟨(⟨st2, ph2, fr2, dn2, vs2, ml2⟩, er2), VA2, vc2, MA2, mc2, m2, cnt + 1, rfl, rfl, HLT2, HS2, HM2, hid hro, hid (part_off hv9 hxl (by have := HXN.out; omega)), hid ⟨part_off hg9.1 hxl (by have := HXN.out; omega), fun x hx => part_off (hg9.2 x hx) hxl (by have := HXN.out; omega)⟩, hid (HJO2.out.keep hkf (by decide) Agree.refl), hid hbf⟩)
          clear hwf hro hkf hbf hv9 hg9 x0 x1 x2 x3 x4 x5 xf
          go_roundg k
          case measure => omega
          case rel =>
            have h := HREL.out
            rw [show ((cnt + 1 : Nat) : Int) = (cnt : Int) + 1 by omega] at h
            exact h
        | true =>
          have hstop : ¬ ((0 : Int) = 0 ∧ true = false) := by simp
          clear hrun
          have hpe : cnt = cntV t.job := by have h := HLT.out.2; rw [cntF_stop (by first | exact hstop | simpa using hstop)] at h; exact h
          have HPE := hid hpe
          have hc0 := cntV_le t.job
          have hcl : cnt ≤ 100003 := by omega
          have hw1 : IntKind.i64.wrap ((cnt : Int) + 2) = (cnt : Int) + 2 := IntWalk.i64_in _ (by omega)
          have hw2 : IntKind.i64.wrap (t.job.graph.n + (t.job.graph.edges.length : Int)) = t.job.graph.n + (t.job.graph.edges.length : Int) := IntWalk.i64_in _ (by omega)
          have hw3 : IntKind.i64.wrap (t.job.graph.n + (t.job.graph.edges.length : Int) + 12) = t.job.graph.n + (t.job.graph.edges.length : Int) + 12 := IntWalk.i64_in _ (by omega)
          have hw4 : IntKind.i64.wrap (((cnt : Int) + 2) * (t.job.graph.n + (t.job.graph.edges.length : Int) + 12)) = ((cnt : Int) + 2) * (t.job.graph.n + (t.job.graph.edges.length : Int) + 12) := IntWalk.i64_in _ (mul_in (by omega) (by omega) (by omega) (by omega))
          have j0 := HJO.out.cell (i := 0) (v := .int .i64 t.job.graph.n) rfl
          have j1 := HJO.out.cell (i := 1) (v := .slice A t.job.graph.edges.length c) rfl
          clear hpe hstop hc0
          go_wp2_with fail
          go_ret2
          exact ⟨by rw [HLV.out, HPE.out]; rfl, HB.out⟩
      · have herb : (er == 0) = false := by simpa using her
        have hstop : ¬ (er = 0 ∧ dn = false) := fun h => her h.1
        clear her
        have hpe : cnt = cntV t.job := by have h := HLT.out.2; rw [cntF_stop (by first | exact hstop | simpa using hstop)] at h; exact h
        have HPE := hid hpe
        have hc0 := cntV_le t.job
        have hcl : cnt ≤ 100003 := by omega
        have hw1 : IntKind.i64.wrap ((cnt : Int) + 2) = (cnt : Int) + 2 := IntWalk.i64_in _ (by omega)
        have hw2 : IntKind.i64.wrap (t.job.graph.n + (t.job.graph.edges.length : Int)) = t.job.graph.n + (t.job.graph.edges.length : Int) := IntWalk.i64_in _ (by omega)
        have hw3 : IntKind.i64.wrap (t.job.graph.n + (t.job.graph.edges.length : Int) + 12) = t.job.graph.n + (t.job.graph.edges.length : Int) + 12 := IntWalk.i64_in _ (by omega)
        have hw4 : IntKind.i64.wrap (((cnt : Int) + 2) * (t.job.graph.n + (t.job.graph.edges.length : Int) + 12)) = ((cnt : Int) + 2) * (t.job.graph.n + (t.job.graph.edges.length : Int) + 12) := IntWalk.i64_in _ (mul_in (by omega) (by omega) (by omega) (by omega))
        have j0 := HJO.out.cell (i := 0) (v := .int .i64 t.job.graph.n) rfl
        have j1 := HJO.out.cell (i := 1) (v := .slice A t.job.graph.edges.length c) rfl
        clear hpe hstop hc0
        go_wp2_with fail
        go_ret2
        exact ⟨by rw [HLV.out, HPE.out]; rfl, HB.out⟩
  · have HLV := hid (show limV t = (0, taskV t) by unfold limV; rw [if_pos htk])
    have htb : (taskV t != 0) = true := by simpa using htk
    clear htk
    go_wp2_with fail
    go_ret2
    exact ⟨by rw [HLV.out]; rfl, HB0.out⟩
end Go.Proofs.Yteefemiieidpaaa

/- The statement on engine.Limit. -/
namespace Go.Proofs.Yteefemiieidpaaa
open Go.ChangeShapes Go.WideShapes Go.ChangeAt Go.RowKit
set_option linter.unusedVariables false
set_option linter.unusedSimpArgs false
set_option maxHeartbeats 1000000 in
theorem law_EngineLimits (w : World) (t : Task) (A : Option Addr) (c : Nat) (hn : I64 t.job.graph.n) (hf : Flat w w.heap.size 24 3 Edge.cells A c t.job.graph.edges) (hw : ∀ x ∈ t.job.graph.edges, x.wf) (hk : I64 t.job.kind) (hs : I64 t.job.source) (h3 : I64 t.workers) (h4 : I64 t.every) (h5 : I64 t.budget) :
    Calls Try.prog 5 #[.agg #[.int .i64 t.job.graph.n, .slice A t.job.graph.edges.length c, .int .i64 t.job.kind, .int .i64 t.job.source, .int .i64 t.workers, .int .i64 t.every, .int .i64 t.budget]] w fun e w' => e = .returned (.bool true) ∧ Below w.heap.size w w' := by
  obtain ⟨f1, f2, f3, f4⟩ := hf
  clear hw hn hk hs h3 h4 h5
  have h24 : t.job.graph.edges.length * 24 ≤ 140737488355328 := by omega
  have hl : t.job.graph.edges.length ≤ 9223372036854775807 := by omega
  have b0 := bA (Below.refl w.heap.size w) (.cells #[.int .i64 t.job.graph.n, .slice A t.job.graph.edges.length c, .int .i64 t.job.kind, .int .i64 t.job.source, .int .i64 t.workers, .int .i64 t.every, .int .i64 t.budget] 41)
  have q0 := hid (tasks_copy t)
  have q1 := hid (limit_walk t)
  have q2 := hid (limitOf_walk t)
  unfold taskVal at q0
  generalize limV t = r at q1 q2
  obtain ⟨r1v, r2v⟩ := r
  dsimp only at q1 q2
  clear f1 f2 f3
  go_enter Try.func5, Try.ntmps5
  go_wp2_with fail
  refine (q0.out _ A c (rdb f4 (by decide) b0) h24).mono ?_
  rintro e w1 ⟨A1, k1, rfl, r1, b1⟩
  obtain ⟨hc1, hf1⟩ := bcell b1
  go_wp2_with fail
  refine (q1.out _ A1 k1 r1 hl).mono ?_
  rintro e w2 ⟨rfl, b2⟩
  obtain ⟨hc2, hf2⟩ := bcell b2
  have hz1 : w.heap.size < w1.heap.size := by have := b1.size; simp at this; omega
  have hz2 : w.heap.size < w2.heap.size := by have := b2.size; omega
  go_wp2_with fail
  refine (q2.out _ A c (rdb f4 (by decide) (bT (bT b0 b1) b2)) hl).mono ?_
  rintro e w3 ⟨rfl, b3⟩
  go_wp2_with fail
  go_ret
  exact ⟨by simp, bT (bT (bT b0 b1) b2) b3⟩
end Go.Proofs.Yteefemiieidpaaa

