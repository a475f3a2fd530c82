/- rounds.Next. -/
import Derived.Test.YteefemiieidpaaaRndI
import Derived.Test.YteefemiieidpaaaLWake
import Derived.Deep.DeepCutAuto
namespace Go.Proofs.Yteefemiieidpaaa
open Go.ChangeShapes Go.WideShapes Go.ChangeAt Go.RowKit
set_option linter.unusedVariables false
set_option linter.unusedSimpArgs false
/-- 'make([]T, n)' as one step of a region that draws. -/
theorem step_mkR {P : Program} {ops : Array Oper} {o : Oper} {a : Act} {w : World} {K : Act → World → Prop} {Q : Exit → Act → World → Prop} {E : Prop} (hgd : o.guard = none) {l c : Operand} {t e : TypeId} {bs : Nat} {z : Value}
    (ho : o.op = .makeSlice t l c) (ht : P.underlying t = some (.slice e)) (hi : (P.info? e).map (fun i => (i.zero, i.size, i.bytes)) = some (some z, 1, bs)) (hz : z.cells = #[z])
    (n : Nat) (hl : a.eval l = .int .i64 (n : Int)) (hc : a.eval c = .int .i64 (n : Int)) (hb : bs * n ≤ 281474976710656) (hn : n ≤ 9223372036854775807)
    (h : ∀ w', w'.ownsRow w.heap.size e 1 (.slice (some ⟨w.heap.size, 0, none⟩) n n) n (List.replicate n z) → Below w.heap.size w w' → w'.heap.size = w.heap.size + 1 → K (a.put o.dst (.slice (some ⟨w.heap.size, 0, none⟩) n n)) w') :
    if Region.wanted o (yielded ops a.tmps) = true then Oper.wp P o a w K Q else E := by
  have hw : Region.wanted o (yielded ops a.tmps) = true := by simp [Region.wanted, hgd]
  rw [if_pos hw]
  obtain ⟨i, h0, h1, h2, h3⟩ := info_parts hi
  have hr := run_make (P := P) w t e i z ht h0 h1 .i64 .i64 n n (by omega) (Int.le_refl _) (by rw [h3]; omega) (by omega)
  simp only [Int.toNat_natCast] at hr
  have ho1 := World.ownsRow_lit (base := w.heap.size) (e := e) (size := 1) w (madeCells z.cells (n * 1)) n (Nat.le_refl _) (by simp [maxLen]; omega) (by rw [size_madeCells])
  rw [hz, toList_madeCells_one, Nat.mul_one] at ho1
  have hfin := h _ ho1 ((Below.refl _ _).alloc (Nat.le_refl _) _) (by simp)
  rw [h2, hz, Nat.mul_one] at hr
  unfold Oper.wp
  simp [execOp, ho, hl, hc, hr, Result.andThen]
  exact hfin
/-- A round begun. -/
def NxR (N : Nat) (w w2 : World) (j : Job) (s : State) (EA : Option Addr) (ec : Nat) (s7 : Value) (wx : World) : Prop :=
  ∃ (R G : Nat) (VA : Option Addr) (vc : Nat), s7 = .pointer (some ⟨R, 0, none⟩) ∧ (∃ T : Tags, RO N R w wx T j EA ec (s.step + 1) s.phase false false VA vc s.vals (some ⟨G, 0, none⟩) s.vals.length (List.replicate s.vals.length ⟨none, 0, []⟩) 0 ∧ ∀ b, b < N + 3 → T b = 0) ∧ Below w2.heap.size w2 wx
/-- A vertex has woken. -/
def WkR (W : World) (y : Val) (sd : Bool) (s10 s11 : Value) (wx : World) : Prop :=
  ∃ XB : Nat, s10 = .pointer (some ⟨XB, 0, none⟩) ∧ s11 = .bool sd ∧ wx.cell? ⟨XB, 0, none⟩ = some (.int .i64 y.a) ∧ wx.cell? ⟨XB, 1, none⟩ = some (.int .i64 y.label) ∧ Below W.heap.size W wx ∧ W.heap.size ≤ XB
/-- The rounds of Next's first loop. -/
def NxL (N R G : Nat) (w : World) (j : Job) (s : State) (EA : Option Addr) (ec : Nat) (VA : Option Addr) (vc : Nat) (jc sc : Array Value) (v54 : Value) (wr : World) : Prop :=
  ∃ (k : Nat) (T : Tags) (m : List (ML Int)) (code : Int) (vs : List Val), k ≤ s.vals.length ∧ v54 = .int .i64 (k : Nat) ∧ Hid (RO N R w wr T j EA ec (s.step + 1) s.phase false false VA vc vs (some ⟨G, 0, none⟩) s.vals.length m code) ∧ Hid (vs = (newVals j s s.vals.length).take k ++ s.vals.drop k) ∧
    Hid ((code, lists m) = pushAll (0, List.replicate s.vals.length []) ((List.range k).flatMap (sayOf j s))) ∧ Hid (∀ z ∈ m, z.l.length ≤ 1200 * k) ∧ Hid (TObj wr T 0 N jc 26) ∧ Hid (TObj wr T 0 (N + 1) sc 30) ∧ Hid (TObj wr T 0 (N + 2) #[.int .i64 0, .int .i64 0, .bool false, .bool false, .slice none 0 0, .slice none 0 0] 30)
/-- The rounds of Next's second loop. -/
def NxM (N R G : Nat) (w : World) (j : Job) (s : State) (EA : Option Addr) (ec : Nat) (VA : Option Addr) (vc : Nat) (L : List (List Int)) (v13 v123 : Value) (wr : World) : Prop :=
  ∃ (k : Nat) (T : Tags) (m : List (ML Int)), k ≤ s.vals.length ∧ v123 = .int .i64 (k : Nat) ∧ v13 = .bool (anyM (L.take k)) ∧ Hid (RO N R w wr T j EA ec (s.step + 1) s.phase false false VA vc (newVals j s s.vals.length) (some ⟨G, 0, none⟩) s.vals.length m 0) ∧ Hid (lists m = (L.take k).map srtI ++ L.drop k) ∧
    Hid (TObj wr T 0 (N + 2) #[.int .i64 0, .int .i64 0, .bool false, .bool false, .slice none 0 0, .slice none 0 0] 30)
theorem madeP_bad {j : Job} {s : State} {n : Nat} {code : Int} {L : List (List Int)} (h : (code, L) = pushAll (0, List.replicate n []) (fullSays j s n)) (hc : code ≠ 0) : madeP j s n = (zeroS, code) := by
  unfold madeP; rw [← h, if_pos hc]
theorem madeP_ok {j : Job} {s : State} {n : Nat} {L : List (List Int)} (h : (0, L) = pushAll (0, List.replicate n []) (fullSays j s n)) :
    madeP j s n = (⟨s.step + 1, (if anyM L = true then (s.phase, false, false) else quietV j.kind s.phase (newVals j s n)).1, (if anyM L = true then (s.phase, false, false) else quietV j.kind s.phase (newVals j s n)).2.1, (if anyM L = true then (s.phase, false, false) else quietV j.kind s.phase (newVals j s n)).2.2, newVals j s n, L.map fun l => ⟨none, 0, srtI l⟩⟩, 0) := by
  unfold madeP; rw [← h, if_neg (by simp)]
  dsimp only
  rw [anyM_all]
  cases anyM L <;> simp
set_option maxRecDepth 100000 in
set_option maxHeartbeats 8000000 in
theorem next_walk (j : Job) (s : State) (w : World) (A B C : Option Addr) (c d e : Nat) (hr : Rd w w.heap.size A 3 j.graph.edges.length (j.graph.edges.flatMap Edge.cells)) (hl : j.graph.edges.length ≤ 9223372036854775807)
    (h1 : Rd w w.heap.size B 2 s.vals.length (s.vals.flatMap Val.cells)) (hn : s.vals.length * 16 ≤ 140737488355328) (g1 : Grid i64c 1 w w.heap.size C s.mail) (hg : s.mail.length * 24 ≤ 140737488355328) (hz : ∀ x ∈ s.mail, x.l.length * 8 ≤ 140737488355328) :
    Calls Try.prog 7 #[.agg #[.int .i64 j.graph.n, .slice A j.graph.edges.length c, .int .i64 j.kind, .int .i64 j.source], .agg #[.int .i64 s.step, .int .i64 s.phase, .bool s.fresh, .bool s.done, .slice B s.vals.length d, .slice C s.mail.length e]] w (RetSn w (nextP j s).1 (nextP j s).2) := by
  obtain ⟨W, hW⟩ : ∃ W, W = ((w.alloc (.cells #[.int .i64 j.graph.n, .slice A j.graph.edges.length c, .int .i64 j.kind, .int .i64 j.source] 26)).alloc (.cells #[.int .i64 s.step, .int .i64 s.phase, .bool s.fresh, .bool s.done, .slice B s.vals.length d, .slice C s.mail.length e] 30)).alloc (.cells #[.int .i64 0, .int .i64 0, .bool false, .bool false, .slice none 0 0, .slice none 0 0] 30) := ⟨_, rfl⟩
  have HB0 := hid (show Below w.heap.size w W by rw [hW]; exact bA (bA (bA (Below.refl _ _) _) _) _)
  have HW3 := hid (show W.heap.size = w.heap.size + 3 by rw [hW]; simp)
  have HOJ : Hid (TObj W (fun _ => 0) 0 w.heap.size #[.int .i64 j.graph.n, .slice A j.graph.edges.length c, .int .i64 j.kind, .int .i64 j.source] 26) := hid (by rw [hW]; exact TObj.alloc (TObj.alloc ⟨heap_alloc_new w _, rfl⟩ _) _)
  have HOS : Hid (TObj W (fun _ => 0) 0 (w.heap.size + 1) #[.int .i64 s.step, .int .i64 s.phase, .bool s.fresh, .bool s.done, .slice B s.vals.length d, .slice C s.mail.length e] 30) := hid (by rw [hW]; exact TObj.alloc ⟨by have h := heap_alloc_new (w.alloc (.cells #[.int .i64 j.graph.n, .slice A j.graph.edges.length c, .int .i64 j.kind, .int .i64 j.source] 26)) (.cells #[.int .i64 s.step, .int .i64 s.phase, .bool s.fresh, .bool s.done, .slice B s.vals.length d, .slice C s.mail.length e] 30); simpa using h, rfl⟩ _)
  have HRES : Hid (TObj W (fun _ => 0) 0 (w.heap.size + 2) #[.int .i64 0, .int .i64 0, .bool false, .bool false, .slice none 0 0, .slice none 0 0] 30) := hid ⟨by rw [hW]; have h := heap_alloc_new ((w.alloc (.cells #[.int .i64 j.graph.n, .slice A j.graph.edges.length c, .int .i64 j.kind, .int .i64 j.source] 26)).alloc (.cells #[.int .i64 s.step, .int .i64 s.phase, .bool s.fresh, .bool s.done, .slice B s.vals.length d, .slice C s.mail.length e] 30)) (.cells #[.int .i64 0, .int .i64 0, .bool false, .bool false, .slice none 0 0, .slice none 0 0] 30); simpa using h, rfl⟩
  have HCK := hid (jobCheck_walk j W A c (rdb hr (by decide) HB0.out) hl)
  have HR := hid hr
  have HR1 := hid h1
  have HG1 := hid g1
  have HZ := hid hz
  have HNJ := hid (nextP_job (j := j) (s := s))
  have HNS := hid (nextP_state (j := j) (s := s))
  have HND := hid (nextP_done (j := j) (s := s))
  have HNF := hid (nextP_full (j := j) (s := s))
  have HNM := hid (nextP_made (j := j) (s := s))
  unfold jobVal at HCK
  clear hr h1 g1 hz
  go_enter Try.func7, Try.ntmps7
  generalize hBP : bodyPost Try.prog Try.f7 (RetSn w (nextP j s).1 (nextP j s).2) = BP
  have HPQ : Hid (∀ (pv : _) (a : Act) (v : World), BP (.panic pv) a v → ∀ b : Act, a.defers = b.defers → BP (.panic pv) b v) := hid fun pv a v h b hd => by
    rw [← hBP] at h ⊢
    exact ⟨hd ▸ h.1, h.2⟩
  have HBP := hid hBP
  clear hBP
  let BPX := bodyPost Try.prog Try.f7 (RetSn w (nextP j s).1 (nextP j s).2)
  go_wp2_with fail
  rw [← hW]
  clear hW
  refine HCK.out.mono ?_
  rintro e1 w1 ⟨rfl, b1⟩
  have HOJ := hid (HOJ.out.below b1)
  have HOS := hid (HOS.out.below b1)
  have HRES := hid (HRES.out.below b1)
  have HB1 := hid (bT HB0.out b1)
  have HW31 := hid (show w.heap.size + 3 ≤ w1.heap.size by have := HW3.out; have := b1.size; omega)
  clear b1 HB0 HW3 HCK
  have r0 := HRES.out.cell (i := 0) rfl
  have r1 := HRES.out.cell (i := 1) rfl
  have r2 := HRES.out.cell (i := 2) rfl
  have r3 := HRES.out.cell (i := 3) rfl
  have r4 := HRES.out.cell (i := 4) rfl
  have r5 := HRES.out.cell (i := 5) rfl
  have rf := HRES.out.free
  have hrl := HRES.out.lt
  have j0 := HOJ.out.cell (i := 0) rfl
  have j1 := HOJ.out.cell (i := 1) rfl
  have j2 := HOJ.out.cell (i := 2) rfl
  have j3 := HOJ.out.cell (i := 3) rfl
  have s0 := HOS.out.cell (i := 0) rfl
  have s1 := HOS.out.cell (i := 1) rfl
  have s2 := HOS.out.cell (i := 2) rfl
  have s3 := HOS.out.cell (i := 3) rfl
  have s4 := HOS.out.cell (i := 4) rfl
  have s5 := HOS.out.cell (i := 5) rfl
  by_cases hj : jobV j = 0
  · have HJ := hid hj
    have hjb : (jobV j == 0) = true := by simpa using hj
    have hjb2 : (jobV j != 0) = false := by simpa using hj
    have HMY := hid (may_walk j hj s w1 A B C c d e (rdb HR1.out (by decide) HB1.out) (Grid.b HG1.out (by decide) HB1.out) (fun x hx => by have := HZ.out x hx; omega))
    unfold jobC stCells at HMY
    clear hj
    go_wp2_with fail
    refine HMY.out.mono ?_
    rintro e2 w2 ⟨rfl, b2⟩
    have HOJ := hid (HOJ.out.below b2)
    have HOS := hid (HOS.out.below b2)
    have HRES := hid (HRES.out.below b2)
    have HB2 := hid (bT HB1.out b2)
    have HW32 := hid (Nat.le_trans HW31.out b2.size)
    clear b2 HMY r0 r1 r2 r3 r4 r5 rf hrl j0 j1 j2 j3 s0 s1 s2 s3 s4 s5
    have r0 := HRES.out.cell (i := 0) rfl
    have r1 := HRES.out.cell (i := 1) rfl
    have r2 := HRES.out.cell (i := 2) rfl
    have r3 := HRES.out.cell (i := 3) rfl
    have r4 := HRES.out.cell (i := 4) rfl
    have r5 := HRES.out.cell (i := 5) rfl
    have rf := HRES.out.free
    have hrl := HRES.out.lt
    have s0 := HOS.out.cell (i := 0) rfl
    have s1 := HOS.out.cell (i := 1) rfl
    have s2 := HOS.out.cell (i := 2) rfl
    have s3 := HOS.out.cell (i := 3) rfl
    have s4 := HOS.out.cell (i := 4) rfl
    have s5 := HOS.out.cell (i := 5) rfl
    cases hs : stB j s with
    | false =>
      have HNV := hid (HNS.out HJ.out hs)
      clear hs
      go_wp2_with fail
      rw [← HBP.out]
      refine bodyPost_ret (v := .tuple #[.agg #[.int .i64 0, .int .i64 0, .bool false, .bool false, .slice none 0 0, .slice none 0 0], .int .i64 9]) (by simp [results, Try.results7, go_sem, *]) rfl ?_
      rw [HNV.out]
      refine retSn_zero0 ?_
      repeat (with_reducible first | refine bD ?_ | refine bS ?_ (by simp <;> omega) _)
      exact HB2.out
    | true =>
      have HST := hid (stB_ok hs)
      cases hd : s.done with
      | true =>
        have HNV := hid (HND.out HJ.out hs hd)
        rw [hd] at s3
        have HCL := hid (cloneSt_walk s w2 B C d e (rdb HR1.out (by decide) HB2.out) hn (Grid.b HG1.out (by decide) HB2.out) hg HZ.out)
        unfold stCells at HCL
        dsimp only at HCL
        rw [hd] at HCL
        have HDN := hid hd
        clear hs hd
        go_wp2_with fail
        refine HCL.out.mono ?_
        rintro e3 w3 ⟨VA, vc, MA, mc, m, rfl, hm, hv, hgd, b3⟩
        have HRES := hid (HRES.out.below b3)
        have HB3 := hid (bT HB2.out b3)
        have HM := hid hm
        have HV := hid hv
        have HGD := hid hgd
        clear hm hv hgd b3 r0 r1 r2 r3 r4 r5 rf hrl
        have r0 := HRES.out.cell (i := 0) rfl
        have r1 := HRES.out.cell (i := 1) rfl
        have r2 := HRES.out.cell (i := 2) rfl
        have r3 := HRES.out.cell (i := 3) rfl
        have r4 := HRES.out.cell (i := 4) rfl
        have r5 := HRES.out.cell (i := 5) rfl
        have rf := HRES.out.free
        have hrl := HRES.out.lt
        go_wp2_with fail
        rw [← HBP.out]
        refine bodyPost_ret (v := .tuple #[.agg #[.int .i64 s.step, .int .i64 s.phase, .bool s.fresh, .bool true, .slice VA s.vals.length vc, .slice MA m.length mc], .int .i64 0]) (by simp [results, Try.results7, go_sem, *]) rfl ?_
        rw [HNV.out]
        refine ⟨VA, vc, MA, mc, m, by unfold stCells; rw [HDN.out], HM.out, ?_, NewGridR.less (B := w2.heap.size) ?_ (by have := HW32.out; omega), ?_⟩
        · refine Part.ok.less (B := w2.heap.size) (g := none) (p := ⟨VA, 2, s.vals.length, s.vals.flatMap Val.cells⟩) ?_ (by have := HW32.out; omega)
          repeat (with_reducible refine Part.ok.store ?_ (by simp; have := HW32.out; omega) _)
          exact HV.out
        · repeat (with_reducible refine NewGridR.store ?_ (by simp; have := HW32.out; omega) _)
          exact HGD.out
        · repeat (with_reducible refine bS ?_ (by simp <;> omega) _)
          exact HB3.out
      | false =>
        by_cases hst : s.step = 100000
        · have HNV := hid (HNF.out HJ.out hs hd hst)
          have hstb : (s.step == 100000) = true := by simpa using hst
          rw [hd] at s3
          clear hs hd hst
          go_wp2_with fail
          rw [← HBP.out]
          refine bodyPost_ret (v := .tuple #[.agg #[.int .i64 0, .int .i64 0, .bool false, .bool false, .slice none 0 0, .slice none 0 0], .int .i64 10]) (by simp [results, Try.results7, go_sem, *]) rfl ?_
          rw [HNV.out]
          refine retSn_zero0 ?_
          repeat (with_reducible first | refine bD ?_ | refine bS ?_ (by simp <;> omega) _)
          exact HB2.out
        · have HNV := hid (HNM.out HJ.out hs hd hst)
          have hstb : (s.step == 100000) = false := by simpa using hst
          have hso := HST.out
          have hn0 := jobV_n HJ.out
          have hnl : (s.vals.length : Int) = j.graph.n := hso.2.2.1
          have hml : (s.mail.length : Int) = j.graph.n := hso.2.2.2.1
          have hv200 : s.vals.length ≤ 200 := by omega
          have hsp : 0 ≤ s.step ∧ s.step ≤ 99999 := by have := hso.1; omega
          have HJN := hid hnl.symm
          have HMLN := hid (show s.mail.length = s.vals.length by omega)
          have hgr := jobV_graph HJ.out
          have hel : j.graph.edges.length ≤ 600 := hgr.1.2.2
          have HE := hid (show ∀ e ∈ j.graph.edges, (0 ≤ e.src ∧ e.src < s.vals.length ∧ 0 ≤ e.dst ∧ e.dst < s.vals.length) ∧ 0 ≤ e.wt ∧ e.wt ≤ 1099511627776 from fun e he => by have := hgr.2 e he; unfold edgeOk at this; omega)
          have j0 := HOJ.out.cell (i := 0) rfl
          have j1 := HOJ.out.cell (i := 1) rfl
          have j2 := HOJ.out.cell (i := 2) rfl
          have j3 := HOJ.out.cell (i := 3) rfl
          rw [← hnl] at j0
          rw [hd] at s3
          have HCL := hid (fun (V : World) (hV : Below w2.heap.size w2 V) => cloneVals_walk s.vals B s.vals.length d V.heap.size V (rdb HR1.out (by decide) (bT HB2.out hV)) hn)
          have HK : Hid (∀ V, Below w2.heap.size w2 V → ((fun V => Below w2.heap.size w2 V ∧ (V.cell? ⟨w.heap.size, 0, none⟩ = some (.int .i64 (s.vals.length : Nat)) ∧ V.cell? ⟨w.heap.size, 1, none⟩ = some (.slice A j.graph.edges.length c) ∧ V.cell? ⟨w.heap.size, 2, none⟩ = some (.int .i64 j.kind) ∧ V.cell? ⟨w.heap.size, 3, none⟩ = some (.int .i64 j.source)) ∧ V.cell? ⟨w.heap.size + 1, 0, none⟩ = some (.int .i64 s.step) ∧ V.cell? ⟨w.heap.size + 1, 1, none⟩ = some (.int .i64 s.phase) ∧ V.cell? ⟨w.heap.size + 1, 4, none⟩ = some (.slice B s.vals.length d)) : World → Prop) V) := hid fun V hV => ⟨hV, ⟨keepb hV j0, keepb hV j1, keepb hV j2, keepb hV j3⟩, keepb hV s0, keepb hV s1, keepb hV s4⟩
          have HDN := hid hd
          have hw1 : IntKind.i64.wrap (s.step + 1) = s.step + 1 := IntWalk.i64_in _ (by omega)
          clear hs hd hst hso hnl hml hgr
          go_wp2_with fail
          go_upto_region 10 with fail
          go_cut [7] (fun s7 wx => NxR w.heap.size w w2 j s A c s7 wx)
          case first =>
            refine wp_region_F (S := (fun V => Below w2.heap.size w2 V ∧ (V.cell? ⟨w.heap.size, 0, none⟩ = some (.int .i64 (s.vals.length : Nat)) ∧ V.cell? ⟨w.heap.size, 1, none⟩ = some (.slice A j.graph.edges.length c) ∧ V.cell? ⟨w.heap.size, 2, none⟩ = some (.int .i64 j.kind) ∧ V.cell? ⟨w.heap.size, 3, none⟩ = some (.int .i64 j.source)) ∧ V.cell? ⟨w.heap.size + 1, 0, none⟩ = some (.int .i64 s.step) ∧ V.cell? ⟨w.heap.size + 1, 1, none⟩ = some (.int .i64 s.phase) ∧ V.cell? ⟨w.heap.size + 1, 4, none⟩ = some (.slice B s.vals.length d))) [15] (by kernel_rfl) (HK.out _ (bD (Below.refl _ _))) (fun hHeld => ?_)
            refine wpAnyF_pure (i := 1) (v := ?vg1_1_1) rfl (by kernel_rfl) (by kernel_rfl) (by kernel_rfl) (fun _ _ _ h => HPQ.out _ _ _ h _ rfl) (Or.inl ⟨by rfl, ?hyg1_1_1⟩) ?restg1_1_1
            case hyg1_1_1 => (intro w hSw; clear hSw; go_simp; (all_goals with_reducible rfl))
            try simp only [Act.put, List.setIfInBounds_toArray, List.set_cons_zero, List.set_cons_succ, List.getElem_toArray, List.getElem_cons_succ, List.getElem_cons_zero]
            refine wpAnyF_pure (i := 4) (v := ?vg1_2_4) rfl (by kernel_rfl) (by kernel_rfl) (by kernel_rfl) (fun _ _ _ h => HPQ.out _ _ _ h _ rfl) (Or.inl ⟨by rfl, ?hyg1_2_4⟩) ?restg1_2_4
            case hyg1_2_4 => (intro w hSw; clear hSw; go_simp; (all_goals with_reducible rfl))
            try simp only [Act.put, List.setIfInBounds_toArray, List.set_cons_zero, List.set_cons_succ, List.getElem_toArray, List.getElem_cons_succ, List.getElem_cons_zero]
            refine wpAnyF_pure (i := 6) (v := ?vg1_3_6) rfl (by kernel_rfl) (by kernel_rfl) (by kernel_rfl) (fun _ _ _ h => HPQ.out _ _ _ h _ rfl) (Or.inl ⟨by rfl, ?hyg1_3_6⟩) ?restg1_3_6
            case hyg1_3_6 => (intro w hSw; clear hSw; go_simp; (all_goals with_reducible rfl))
            try simp only [Act.put, List.setIfInBounds_toArray, List.set_cons_zero, List.set_cons_succ, List.getElem_toArray, List.getElem_cons_succ, List.getElem_cons_zero]
            refine wpAnyF_pure (i := 9) (v := ?vg1_4_9) rfl (by kernel_rfl) (by kernel_rfl) (by kernel_rfl) (fun _ _ _ h => HPQ.out _ _ _ h _ rfl) (Or.inl ⟨by rfl, ?hyg1_4_9⟩) ?restg1_4_9
            case hyg1_4_9 => (intro w hSw; clear hSw; go_simp; (all_goals with_reducible rfl))
            try simp only [Act.put, List.setIfInBounds_toArray, List.set_cons_zero, List.set_cons_succ, List.getElem_toArray, List.getElem_cons_succ, List.getElem_cons_zero]
            refine wpAnyF_pure (i := 10) (v := ?vg1_5_10) rfl (by kernel_rfl) (by kernel_rfl) (by kernel_rfl) (fun _ _ _ h => HPQ.out _ _ _ h _ rfl) (Or.inl ⟨by rfl, ?hyg1_5_10⟩) ?restg1_5_10
            case hyg1_5_10 => (intro w hSw; clear hSw; go_simp; (all_goals with_reducible rfl))
            try simp only [Act.put, List.setIfInBounds_toArray, List.set_cons_zero, List.set_cons_succ, List.getElem_toArray, List.getElem_cons_succ, List.getElem_cons_zero]
            refine wpAnyF_take [14, 15, 16] (i := 0) (v := ?vg1_6_0) rfl (by kernel_rfl) (by kernel_rfl) (by kernel_rfl) (by kernel_rfl) (fun _ _ _ h => HPQ.out _ _ _ h _ rfl) (Or.inl ⟨by rfl, ?hyg1_6_0⟩) (by assumption) ?restg1_6_0
            case hyg1_6_0 => (intro w hSw; (try dsimp only at hSw); go_simp; (all_goals with_reducible rfl))
            try simp only [Act.put, List.setIfInBounds_toArray, List.set_cons_zero, List.set_cons_succ, List.getElem_toArray, List.getElem_cons_succ, List.getElem_cons_zero]
            refine wpAnyF_take [3, 13, 14, 15, 16] (i := 2) (v := ?vg1_7_2) rfl (by kernel_rfl) (by kernel_rfl) (by kernel_rfl) (by kernel_rfl) (fun _ _ _ h => HPQ.out _ _ _ h _ rfl) (Or.inl ⟨by rfl, ?hyg1_7_2⟩) (by assumption) ?restg1_7_2
            case hyg1_7_2 => (intro w hSw; (try dsimp only at hSw); go_simp; (all_goals with_reducible rfl))
            try simp only [Act.put, List.setIfInBounds_toArray, List.set_cons_zero, List.set_cons_succ, List.getElem_toArray, List.getElem_cons_succ, List.getElem_cons_zero]
            refine wpAnyF_pure (i := 3) (v := ?vg1_8_3) rfl (by kernel_rfl) (by kernel_rfl) (by kernel_rfl) (fun _ _ _ h => HPQ.out _ _ _ h _ rfl) (Or.inl ⟨by rfl, ?hyg1_8_3⟩) ?restg1_8_3
            case hyg1_8_3 => (intro w hSw; clear hSw; go_simp; (all_goals with_reducible rfl))
            try simp only [Act.put, List.setIfInBounds_toArray, List.set_cons_zero, List.set_cons_succ, List.getElem_toArray, List.getElem_cons_succ, List.getElem_cons_zero]
            refine wpAnyF_take [13, 14, 15, 16] (i := 5) (v := ?vg1_9_5) rfl (by kernel_rfl) (by kernel_rfl) (by kernel_rfl) (by kernel_rfl) (fun _ _ _ h => HPQ.out _ _ _ h _ rfl) (Or.inl ⟨by rfl, ?hyg1_9_5⟩) (by assumption) ?restg1_9_5
            case hyg1_9_5 => (intro w hSw; (try dsimp only at hSw); go_simp; (all_goals with_reducible rfl))
            try simp only [Act.put, List.setIfInBounds_toArray, List.set_cons_zero, List.set_cons_succ, List.getElem_toArray, List.getElem_cons_succ, List.getElem_cons_zero]
            refine wpAnyF_take [8, 13, 14, 15, 16] (i := 7) (v := ?vg1_10_7) rfl (by kernel_rfl) (by kernel_rfl) (by kernel_rfl) (by kernel_rfl) (fun _ _ _ h => HPQ.out _ _ _ h _ rfl) (Or.inl ⟨by rfl, ?hyg1_10_7⟩) (by assumption) ?restg1_10_7
            case hyg1_10_7 => (intro w hSw; (try dsimp only at hSw); go_simp; (all_goals with_reducible rfl))
            try simp only [Act.put, List.setIfInBounds_toArray, List.set_cons_zero, List.set_cons_succ, List.getElem_toArray, List.getElem_cons_succ, List.getElem_cons_zero]
            refine wpAnyF_take [12, 13, 14, 15, 16] (i := 11) (v := ?vg1_11_11) rfl (by kernel_rfl) (by kernel_rfl) (by kernel_rfl) (by kernel_rfl) (fun _ _ _ h => HPQ.out _ _ _ h _ rfl) (Or.inl ⟨by rfl, ?hyg1_11_11⟩) (by assumption) ?restg1_11_11
            case hyg1_11_11 => (intro w hSw; (try dsimp only at hSw); go_simp; (all_goals with_reducible rfl))
            try simp only [Act.put, List.setIfInBounds_toArray, List.set_cons_zero, List.set_cons_succ, List.getElem_toArray, List.getElem_cons_succ, List.getElem_cons_zero]
            refine wpAnyF_ready (rs := [8, 12]) (by kernel_rfl) (by simp) ?_
            refine AllReadyF.cons rfl (fun K hK => ?_) ?_
            · go_simp
              go_at_call 20
              refine (HCL.out _ hHeld.1).mono ?_
              rintro e8 v8 ⟨VA, vc, rfl, ov, b8⟩
              have HOV := hid ov
              have HB8 := hid b8
              clear ov
              go_wp2_with fail
              refine hK.out _ _ (HK.out _ (bT hHeld.1 b8)) (fun hHeld => ?_)
              clear hK K
              try simp only [Act.put, List.setIfInBounds_toArray, List.set_cons_zero, List.set_cons_succ, List.getElem_toArray, List.getElem_cons_succ, List.getElem_cons_zero]
              refine wpAnyF_one (i := 12) (by kernel_rfl) rfl (fun K hK => ?_)
              refine step_mkR rfl rfl Try.underlying28 inf_ints rfl s.vals.length rfl rfl (by omega) (by omega) ?_
              intro v12 om b12 z12
              have HOM := hid om
              have HZ12 := hid z12
              have HB12 := hid b12
              clear z12 om
              refine hK.out _ _ (HK.out _ (bT hHeld.1 b12)) (fun hHeld => ?_)
              clear hK K
              try simp only [Act.put, List.setIfInBounds_toArray, List.set_cons_zero, List.set_cons_succ, List.getElem_toArray, List.getElem_cons_succ, List.getElem_cons_zero]
              refine wpAnyF_pure (i := 13) (v := ?vg1_14_13) rfl (by kernel_rfl) (by kernel_rfl) (by kernel_rfl) (fun _ _ _ h => HPQ.out _ _ _ h _ rfl) (Or.inl ⟨by rfl, ?hyg1_14_13⟩) ?restg1_14_13
              case hyg1_14_13 => (intro w hSw; clear hSw; go_simp; (all_goals with_reducible rfl))
              try simp only [Act.put, List.setIfInBounds_toArray, List.set_cons_zero, List.set_cons_succ, List.getElem_toArray, List.getElem_cons_succ, List.getElem_cons_zero]
              refine wpAnyF_pure (i := 14) (v := ?vg1_15_14) rfl (by kernel_rfl) (by kernel_rfl) (by kernel_rfl) (fun _ _ _ h => HPQ.out _ _ _ h _ rfl) (Or.inl ⟨by rfl, ?hyg1_15_14⟩) ?restg1_15_14
              case hyg1_15_14 => (intro w hSw; clear hSw; go_simp; (all_goals with_reducible rfl))
              try simp only [Act.put, List.setIfInBounds_toArray, List.set_cons_zero, List.set_cons_succ, List.getElem_toArray, List.getElem_cons_succ, List.getElem_cons_zero]
              refine wpAnyF_oneD (i := 15) (by kernel_rfl) (by kernel_rfl) rfl (fun K hK => ?_)
              go_simp
              refine hK.out _ _ ?_
              clear hK K
              try simp only [Act.put, List.setIfInBounds_toArray, List.set_cons_zero, List.set_cons_succ, List.getElem_toArray, List.getElem_cons_succ, List.getElem_cons_zero]
              refine wpAnyF_pure (i := 16) (v := ?vg1_17_16) rfl (by kernel_rfl) (by kernel_rfl) (by kernel_rfl) (fun _ _ _ h => HPQ.out _ _ _ h _ rfl) (Or.inl ⟨by rfl, ?hyg1_17_16⟩) ?restg1_17_16
              case hyg1_17_16 => (intro w hSw; clear hSw; go_simp; (all_goals with_reducible rfl))
              try simp only [Act.put, List.setIfInBounds_toArray, List.set_cons_zero, List.set_cons_succ, List.getElem_toArray, List.getElem_cons_succ, List.getElem_cons_zero]
              refine wpAnyF_done (by kernel_rfl) ?_ _
              go_wp2_with fail
              go_meet
              exact ⟨v12.heap.size, v8.heap.size, VA, vc, rfl, RO.init (N := w.heap.size) (by rw [HJN.out]; exact heap_alloc_new v12 _) ((own_below (base' := w2.heap.size) HOV.out HB12.out (Nat.le_refl _)).alloc _) (HOM.out.alloc _) (by have := HZ12.out; omega) (fun k hk => by have h9 : w2.heap.size ≤ k ∧ k < v8.heap.size := HOV.out.lt k hk; have := HZ12.out; have := HW32.out; omega) (by have := HZ12.out; have := HB8.out.size; have := HW32.out; simp at *; omega) (by have := HB8.out.size; have := HW32.out; simp at *; omega) (HR.out.below (HB2.out.trans ((hHeld.1.alloc hHeld.1.size _).mono (by have := HW32.out; omega)))) (HB2.out.trans ((hHeld.1.alloc hHeld.1.size _).mono (by have := HW32.out; omega))), hHeld.1.alloc hHeld.1.size _⟩
            refine AllReadyF.cons rfl (fun K hK => ?_) AllReadyF.nil
            refine step_mkR rfl rfl Try.underlying28 inf_ints rfl s.vals.length rfl rfl (by omega) (by omega) ?_
            intro v12 om b12 z12
            have HOM := hid om
            have HZ12 := hid z12
            have HB12 := hid b12
            clear z12 om
            refine hK.out _ _ (HK.out _ (bT hHeld.1 b12)) (fun hHeld => ?_)
            clear hK K
            try simp only [Act.put, List.setIfInBounds_toArray, List.set_cons_zero, List.set_cons_succ, List.getElem_toArray, List.getElem_cons_succ, List.getElem_cons_zero]
            refine wpAnyF_one (i := 8) (by kernel_rfl) rfl (fun K hK => ?_)
            go_simp
            go_at_call 20
            refine (HCL.out _ hHeld.1).mono ?_
            rintro e8 v8 ⟨VA, vc, rfl, ov, b8⟩
            have HOV := hid ov
            have HB8 := hid b8
            clear ov
            go_wp2_with fail
            refine hK.out _ _ (HK.out _ (bT hHeld.1 b8)) (fun hHeld => ?_)
            clear hK K
            try simp only [Act.put, List.setIfInBounds_toArray, List.set_cons_zero, List.set_cons_succ, List.getElem_toArray, List.getElem_cons_succ, List.getElem_cons_zero]
            refine wpAnyF_pure (i := 13) (v := ?vg1_19_13) rfl (by kernel_rfl) (by kernel_rfl) (by kernel_rfl) (fun _ _ _ h => HPQ.out _ _ _ h _ rfl) (Or.inl ⟨by rfl, ?hyg1_19_13⟩) ?restg1_19_13
            case hyg1_19_13 => (intro w hSw; clear hSw; go_simp; (all_goals with_reducible rfl))
            try simp only [Act.put, List.setIfInBounds_toArray, List.set_cons_zero, List.set_cons_succ, List.getElem_toArray, List.getElem_cons_succ, List.getElem_cons_zero]
            refine wpAnyF_pure (i := 14) (v := ?vg1_20_14) rfl (by kernel_rfl) (by kernel_rfl) (by kernel_rfl) (fun _ _ _ h => HPQ.out _ _ _ h _ rfl) (Or.inl ⟨by rfl, ?hyg1_20_14⟩) ?restg1_20_14
            case hyg1_20_14 => (intro w hSw; clear hSw; go_simp; (all_goals with_reducible rfl))
            try simp only [Act.put, List.setIfInBounds_toArray, List.set_cons_zero, List.set_cons_succ, List.getElem_toArray, List.getElem_cons_succ, List.getElem_cons_zero]
            refine wpAnyF_oneD (i := 15) (by kernel_rfl) (by kernel_rfl) rfl (fun K hK => ?_)
            go_simp
            refine hK.out _ _ ?_
            clear hK K
            try simp only [Act.put, List.setIfInBounds_toArray, List.set_cons_zero, List.set_cons_succ, List.getElem_toArray, List.getElem_cons_succ, List.getElem_cons_zero]
            refine wpAnyF_pure (i := 16) (v := ?vg1_22_16) rfl (by kernel_rfl) (by kernel_rfl) (by kernel_rfl) (fun _ _ _ h => HPQ.out _ _ _ h _ rfl) (Or.inl ⟨by rfl, ?hyg1_22_16⟩) ?restg1_22_16
            case hyg1_22_16 => (intro w hSw; clear hSw; go_simp; (all_goals with_reducible rfl))
            try simp only [Act.put, List.setIfInBounds_toArray, List.set_cons_zero, List.set_cons_succ, List.getElem_toArray, List.getElem_cons_succ, List.getElem_cons_zero]
            refine wpAnyF_done (by kernel_rfl) ?_ _
            go_wp2_with fail
            go_meet
            exact ⟨v8.heap.size, w2.heap.size, VA, vc, rfl, RO.init (N := w.heap.size) (by rw [HJN.out]; exact heap_alloc_new v8 _) (HOV.out.alloc _) ((own_below (base' := w2.heap.size) HOM.out HB8.out (Nat.le_refl _)).alloc _) (by have := HZ12.out; have := HB8.out.size; simp at *; omega) (fun k hk => by have := HOV.out.lt k hk; have := HZ12.out; have := HW32.out; simp at *; omega) (by have := HZ12.out; have := HB8.out.size; have := HW32.out; simp at *; omega) (by have := HW32.out; omega) (HR.out.below (HB2.out.trans ((hHeld.1.alloc hHeld.1.size _).mono (by have := HW32.out; omega)))) (HB2.out.trans ((hHeld.1.alloc hHeld.1.size _).mono (by have := HW32.out; omega))), hHeld.1.alloc hHeld.1.size _⟩
          case rest =>
            obtain ⟨R, G, VA, vc, rfl, ⟨T, hRO, hT0⟩, hbx⟩ := hcut
            have HOJ := hid (show TObj wc T 0 w.heap.size _ 26 from ⟨(HOJ.out.below hbx).blk, hT0 _ (by omega)⟩)
            have HOS := hid (show TObj wc T 0 (w.heap.size + 1) (#[.int .i64 s.step, .int .i64 s.phase, .bool s.fresh, .bool false, .slice B s.vals.length d, .slice C s.mail.length e]) 30 from by
              have h := (HOS.out.below hbx).blk
              rw [HDN.out] at h
              exact ⟨h, hT0 _ (by omega)⟩)
            have HRES := hid (show TObj wc T 0 (w.heap.size + 2) _ 30 from ⟨(HRES.out.below hbx).blk, hT0 _ (by omega)⟩)
            have HRO := hid hRO
            clear hRO hT0 hbx HCL HK
            clear r0 r1 r2 r3 r4 r5 rf hrl j0 j1 j2 j3 s0 s1 s2 s3 s4 s5
            have s4 := HOS.out.cell (i := 4) rfl
            go_wp2_with fail
            go_loopw [54] (fun v54 wr => NxL w.heap.size R G w j s A c VA vc (#[.int .i64 j.graph.n, .slice A j.graph.edges.length c, .int .i64 j.kind, .int .i64 j.source]) (#[.int .i64 s.step, .int .i64 s.phase, .bool s.fresh, .bool false, .slice B s.vals.length d, .slice C s.mail.length e]) v54 wr) (fun v54 _ => s.vals.length - (intOf v54).toNat)
            case atStart => exact ⟨0, T, _, 0, s.vals, Nat.zero_le _, rfl, HRO, hid (by simp), hid (by unfold lists; simp [pushAll]), hid (fun z hz => by obtain rfl := (List.mem_replicate.1 hz).2; simp), HOJ, HOS, HRES⟩
            case round =>
              clear HRO HOJ HOS HRES s4
              obtain ⟨k, T, m, code, vs, hk, rfl, HRO, HVS, HPA, HKK, HOJ, HOS, HRES⟩ := hrel
              by_cases hlt : k < s.vals.length
              · obtain ⟨x, hx⟩ : ∃ x, s.vals[k]? = some x := ⟨_, List.getElem?_eq_getElem hlt⟩
                obtain ⟨r, hr⟩ : ∃ r, s.mail[k]? = some r := ⟨_, List.getElem?_eq_getElem (by rw [HMLN.out]; exact hlt)⟩
                obtain ⟨bb, bo, hBA, hbbl, c0, c1⟩ := vcells (HR1.out.below HRO.out.bl) rfl hx
                obtain ⟨cb, co, hCA, hcbl, d0⟩ := ml_cell (HG1.out.1.below HRO.out.bl) rfl hr
                subst hBA hCA
                have hrow := Rd.below (Grid.data HG1.out (List.mem_of_getElem? hr)) HRO.out.bl
                have hkz : (k : Int) < (s.vals.length : Int) := by omega
                have hkm : (k : Int) < (s.mail.length : Int) := by have := HMLN.out; omega
                have hNs := HRO.out.size
                have hbw : bb < wr.heap.size := by omega
                have hcw : cb < wr.heap.size := by omega
                have HWF := hid (wakeV_fine HJ.out HST.out hx hr)
                have HWA : Hid (wakeAt j s k = if s.fresh = true ∨ 0 < r.l.length then ((wakeV j.kind k j.source x s.phase s.fresh r.l).1, (wakeV j.kind k j.source x s.phase s.fresh r.l).2.1) else (x, false)) := hid (by unfold wakeAt; rw [hx, hr])
                have HXA := hid (vs_at (j := j) hx)
                have HWOK := hid (wakeAt_ok HJ.out HST.out k)
                have hrz := HZ.out r (List.mem_of_getElem? hr)
                -- the box of the old value
                have HO4 := hid (HRO.out.alloc (.cells #[.int .i64 x.a, .int .i64 x.label] 50))
                have HJ4 := hid (HOJ.out.keep (S := fun _ => False) (Keep.refl.alloc (.cells #[.int .i64 x.a, .int .i64 x.label] 50)) (fun h => h) (agree_upd (t := 0) (Nat.le_refl _)))
                have HS4 := hid (HOS.out.keep (S := fun _ => False) (Keep.refl.alloc (.cells #[.int .i64 x.a, .int .i64 x.label] 50)) (fun h => h) (agree_upd (t := 0) (Nat.le_refl _)))
                have HE4 := hid (HRES.out.keep (S := fun _ => False) (Keep.refl.alloc (.cells #[.int .i64 x.a, .int .i64 x.label] 50)) (fun h => h) (agree_upd (t := 0) (Nat.le_refl _)))
                have HX4 := hid (TObj.new wr T 0 #[.int .i64 x.a, .int .i64 x.label] 50)
                obtain ⟨W4, hW4⟩ : ∃ W4, W4 = wr.alloc (.cells #[.int .i64 x.a, .int .i64 x.label] 50) := ⟨_, rfl⟩
                rw [← hW4] at HO4 HJ4 HS4 HE4 HX4
                have HBW4 := hid (show Below wr.heap.size wr W4 by rw [hW4]; exact bA (Below.refl _ _) _)
                have s2o := HOS.out.cell (i := 2) rfl
                have s5o := HOS.out.cell (i := 5) rfl
                have hN1 : w.heap.size + 1 < wr.heap.size := HOS.out.lt
                by_cases hsk : s.fresh = false ∧ r.l.length = 0
                · have hW := HWA.out
                  rw [if_neg (by rw [hsk.1]; simp [hsk.2])] at hW
                  have HREL := hid (show NxL w.heap.size R G w j s A c VA vc (#[.int .i64 j.graph.n, .slice A j.graph.edges.length c, .int .i64 j.kind, .int .i64 j.source]) (#[.int .i64 s.step, .int .i64 s.phase, .bool s.fresh, .bool false, .slice (some ⟨bb, bo, none⟩) s.vals.length d, .slice (some ⟨cb, co, none⟩) s.mail.length e]) (.int .i64 ((k + 1 : Nat) : Int)) W4 from ⟨k + 1, _, m, code, vs, by omega, rfl, HO4, hid (by rw [HVS.out, ← vs_step hlt, hW]; exact (set_same HXA.out).symm), hid (by rw [says_step, show sayOf j s k = [] by unfold sayOf; rw [hW]; rfl, List.append_nil]; exact HPA.out), hid (fun z hz => by have := HKK.out z hz; omega), HJ4, HS4, HE4⟩)
                  have hrb : ((r.l.length : Int) == 0) = true := by simp [hsk.2]
                  rw [hsk.1] at s2o
                  clear hx hr hsk hW
                  go_wp2_with fail
                  rw [← hW4]
                  clear hW4
                  go_roundw
                  case rel =>
                    have h := HREL.out
                    rw [show ((k + 1 : Nat) : Int) = (k : Int) + 1 by omega] at h
                    exact h
                  case measure => simp [intOf]; omega
                · have hW := HWA.out
                  rw [if_pos (by
                    rcases Nat.eq_zero_or_pos r.l.length with h0 | h0
                    · left; cases hf : s.fresh with
                      | true => rfl
                      | false => exact absurd ⟨hf, h0⟩ hsk
                    · exact .inr h0)] at hW
                  have HWK := hid (fun (V : World) (hV : Below W4.heap.size W4 V) => wake_walk j.kind k j.source x s.phase s.fresh r.l V r.A r.c (rdb hrow (by decide) (Below.trans (HBW4.out.mono (Nat.le_of_lt hNs)) (hV.mono (by have := HBW4.out.size; omega)))) hrz)
                  have HWE := hid hW
                  generalize wakeV j.kind k j.source x s.phase s.fresh r.l = z at *
                  obtain ⟨y, sd, er⟩ := z
                  have HWE2 := hid (show wakeAt j s k = (y, sd) from HWE.out)
                  have j2 := HJ4.out.cell (i := 2) rfl
                  have j3 := HJ4.out.cell (i := 3) rfl
                  have x0 := HX4.out.cell (i := 0) rfl
                  have x1 := HX4.out.cell (i := 1) rfl
                  have s1 := HS4.out.cell (i := 1) rfl
                  have s2 := HS4.out.cell (i := 2) rfl
                  have s5 := HS4.out.cell (i := 5) rfl
                  have d0o := d0
                  have d0 := keepb HBW4.out d0
                  clear hx hr hW hrow
                  cases hf : s.fresh with
                  | true =>
                    rw [hf] at s2 s2o HWK
                    have HF := hid hf
                    clear hf hsk
                    have HK : Hid (∀ V, Below W4.heap.size W4 V → ((fun V => Below W4.heap.size W4 V ∧ (V.cell? ⟨w.heap.size, 2, none⟩ = some (.int .i64 j.kind) ∧ V.cell? ⟨w.heap.size, 3, none⟩ = some (.int .i64 j.source)) ∧ (V.cell? ⟨wr.heap.size, 0, none⟩ = some (.int .i64 x.a) ∧ V.cell? ⟨wr.heap.size, 1, none⟩ = some (.int .i64 x.label)) ∧ (V.cell? ⟨w.heap.size + 1, 1, none⟩ = some (.int .i64 s.phase) ∧ V.cell? ⟨w.heap.size + 1, 2, none⟩ = some (.bool true) ∧ V.cell? ⟨w.heap.size + 1, 5, none⟩ = some (.slice (some ⟨cb, co, none⟩) s.mail.length e)) ∧ V.cell? ⟨cb, co + k, none⟩ = some (.slice r.A r.l.length r.c)) : World → Prop) V) := hid fun V hV => ⟨hV, ⟨keepb hV j2, keepb hV j3⟩, ⟨keepb hV x0, keepb hV x1⟩, ⟨keepb hV s1, keepb hV s2, keepb hV s5⟩, keepb hV d0⟩
                    go_wp2_with fail
                    rw [← hW4]
                    clear hW4 j2 j3 x0 x1 s1 s2 s5 d0
                    go_upto_region 15 with fail
                    go_cut [10, 11] (fun s10 s11 wx => WkR W4 y sd s10 s11 wx)
                    case first =>
                      refine wp_region_F (S := (fun V => Below W4.heap.size W4 V ∧ (V.cell? ⟨w.heap.size, 2, none⟩ = some (.int .i64 j.kind) ∧ V.cell? ⟨w.heap.size, 3, none⟩ = some (.int .i64 j.source)) ∧ (V.cell? ⟨wr.heap.size, 0, none⟩ = some (.int .i64 x.a) ∧ V.cell? ⟨wr.heap.size, 1, none⟩ = some (.int .i64 x.label)) ∧ (V.cell? ⟨w.heap.size + 1, 1, none⟩ = some (.int .i64 s.phase) ∧ V.cell? ⟨w.heap.size + 1, 2, none⟩ = some (.bool true) ∧ V.cell? ⟨w.heap.size + 1, 5, none⟩ = some (.slice (some ⟨cb, co, none⟩) s.mail.length e)) ∧ V.cell? ⟨cb, co + k, none⟩ = some (.slice r.A r.l.length r.c))) [21] (by kernel_rfl) (HK.out _ (bD (Below.refl _ _))) (fun hHeld => ?_)
                      refine wpAnyF_pure (i := 0) (v := ?vg2_1_0) rfl (by kernel_rfl) (by kernel_rfl) (by kernel_rfl) (fun _ _ _ h => HPQ.out _ _ _ h _ rfl) (Or.inl ⟨by rfl, ?hyg2_1_0⟩) ?restg2_1_0
                      case hyg2_1_0 => (intro w hSw; clear hSw; go_simp; (all_goals with_reducible rfl))
                      try simp only [Act.put, List.setIfInBounds_toArray, List.set_cons_zero, List.set_cons_succ, List.getElem_toArray, List.getElem_cons_succ, List.getElem_cons_zero]
                      refine wpAnyF_pure (i := 2) (v := ?vg2_2_2) rfl (by kernel_rfl) (by kernel_rfl) (by kernel_rfl) (fun _ _ _ h => HPQ.out _ _ _ h _ rfl) (Or.inl ⟨by rfl, ?hyg2_2_2⟩) ?restg2_2_2
                      case hyg2_2_2 => (intro w hSw; clear hSw; go_simp; (all_goals with_reducible rfl))
                      try simp only [Act.put, List.setIfInBounds_toArray, List.set_cons_zero, List.set_cons_succ, List.getElem_toArray, List.getElem_cons_succ, List.getElem_cons_zero]
                      refine wpAnyF_pure (i := 3) (v := ?vg2_3_3) rfl (by kernel_rfl) (by kernel_rfl) (by kernel_rfl) (fun _ _ _ h => HPQ.out _ _ _ h _ rfl) (Or.inl ⟨by rfl, ?hyg2_3_3⟩) ?restg2_3_3
                      case hyg2_3_3 => (intro w hSw; clear hSw; go_simp; (all_goals with_reducible rfl))
                      try simp only [Act.put, List.setIfInBounds_toArray, List.set_cons_zero, List.set_cons_succ, List.getElem_toArray, List.getElem_cons_succ, List.getElem_cons_zero]
                      refine wpAnyF_pure (i := 6) (v := ?vg2_4_6) rfl (by kernel_rfl) (by kernel_rfl) (by kernel_rfl) (fun _ _ _ h => HPQ.out _ _ _ h _ rfl) (Or.inl ⟨by rfl, ?hyg2_4_6⟩) ?restg2_4_6
                      case hyg2_4_6 => (intro w hSw; clear hSw; go_simp; (all_goals with_reducible rfl))
                      try simp only [Act.put, List.setIfInBounds_toArray, List.set_cons_zero, List.set_cons_succ, List.getElem_toArray, List.getElem_cons_succ, List.getElem_cons_zero]
                      refine wpAnyF_pure (i := 8) (v := ?vg2_5_8) rfl (by kernel_rfl) (by kernel_rfl) (by kernel_rfl) (fun _ _ _ h => HPQ.out _ _ _ h _ rfl) (Or.inl ⟨by rfl, ?hyg2_5_8⟩) ?restg2_5_8
                      case hyg2_5_8 => (intro w hSw; clear hSw; go_simp; (all_goals with_reducible rfl))
                      try simp only [Act.put, List.setIfInBounds_toArray, List.set_cons_zero, List.set_cons_succ, List.getElem_toArray, List.getElem_cons_succ, List.getElem_cons_zero]
                      refine wpAnyF_pure (i := 10) (v := ?vg2_6_10) rfl (by kernel_rfl) (by kernel_rfl) (by kernel_rfl) (fun _ _ _ h => HPQ.out _ _ _ h _ rfl) (Or.inl ⟨by rfl, ?hyg2_6_10⟩) ?restg2_6_10
                      case hyg2_6_10 => (intro w hSw; clear hSw; go_simp; (all_goals with_reducible rfl))
                      try simp only [Act.put, List.setIfInBounds_toArray, List.set_cons_zero, List.set_cons_succ, List.getElem_toArray, List.getElem_cons_succ, List.getElem_cons_zero]
                      refine wpAnyF_pure (i := 12) (v := ?vg2_7_12) rfl (by kernel_rfl) (by kernel_rfl) (by kernel_rfl) (fun _ _ _ h => HPQ.out _ _ _ h _ rfl) (Or.inl ⟨by rfl, ?hyg2_7_12⟩) ?restg2_7_12
                      case hyg2_7_12 => (intro w hSw; clear hSw; go_simp; (all_goals with_reducible rfl))
                      try simp only [Act.put, List.setIfInBounds_toArray, List.set_cons_zero, List.set_cons_succ, List.getElem_toArray, List.getElem_cons_succ, List.getElem_cons_zero]
                      refine wpAnyF_take [15, 16, 17, 18, 19, 21, 22, 23] (i := 1) (v := ?vg2_8_1) rfl (by kernel_rfl) (by kernel_rfl) (by kernel_rfl) (by kernel_rfl) (fun _ _ _ h => HPQ.out _ _ _ h _ rfl) (Or.inl ⟨by rfl, ?hyg2_8_1⟩) (by assumption) ?restg2_8_1
                      case hyg2_8_1 => (intro w hSw; (try dsimp only at hSw); go_simp; (all_goals with_reducible rfl))
                      try simp only [Act.put, List.setIfInBounds_toArray, List.set_cons_zero, List.set_cons_succ, List.getElem_toArray, List.getElem_cons_succ, List.getElem_cons_zero]
                      refine wpAnyF_take [15, 16, 17, 18, 19, 21, 22, 23] (i := 4) (v := ?vg2_9_4) rfl (by kernel_rfl) (by kernel_rfl) (by kernel_rfl) (by kernel_rfl) (fun _ _ _ h => HPQ.out _ _ _ h _ rfl) (Or.inl ⟨by rfl, ?hyg2_9_4⟩) (by assumption) ?restg2_9_4
                      case hyg2_9_4 => (intro w hSw; (try dsimp only at hSw); go_simp; (all_goals with_reducible rfl))
                      try simp only [Act.put, List.setIfInBounds_toArray, List.set_cons_zero, List.set_cons_succ, List.getElem_toArray, List.getElem_cons_succ, List.getElem_cons_zero]
                      refine wpAnyF_take [15, 16, 17, 18, 19, 21, 22, 23] (i := 5) (v := ?vg2_10_5) rfl (by kernel_rfl) (by kernel_rfl) (by kernel_rfl) (by kernel_rfl) (fun _ _ _ h => HPQ.out _ _ _ h _ rfl) (Or.inl ⟨by rfl, ?hyg2_10_5⟩) (by assumption) ?restg2_10_5
                      case hyg2_10_5 => (intro w hSw; (try dsimp only at hSw); go_simp; (all_goals with_reducible rfl))
                      try simp only [Act.put, List.setIfInBounds_toArray, List.set_cons_zero, List.set_cons_succ, List.getElem_toArray, List.getElem_cons_succ, List.getElem_cons_zero]
                      refine wpAnyF_take [15, 16, 17, 18, 19, 21, 22, 23] (i := 7) (v := ?vg2_11_7) rfl (by kernel_rfl) (by kernel_rfl) (by kernel_rfl) (by kernel_rfl) (fun _ _ _ h => HPQ.out _ _ _ h _ rfl) (Or.inl ⟨by rfl, ?hyg2_11_7⟩) (by assumption) ?restg2_11_7
                      case hyg2_11_7 => (intro w hSw; (try dsimp only at hSw); go_simp; (all_goals with_reducible rfl))
                      try simp only [Act.put, List.setIfInBounds_toArray, List.set_cons_zero, List.set_cons_succ, List.getElem_toArray, List.getElem_cons_succ, List.getElem_cons_zero]
                      refine wpAnyF_take [15, 16, 17, 18, 19, 21, 22, 23] (i := 9) (v := ?vg2_12_9) rfl (by kernel_rfl) (by kernel_rfl) (by kernel_rfl) (by kernel_rfl) (fun _ _ _ h => HPQ.out _ _ _ h _ rfl) (Or.inl ⟨by rfl, ?hyg2_12_9⟩) (by assumption) ?restg2_12_9
                      case hyg2_12_9 => (intro w hSw; (try dsimp only at hSw); go_simp; (all_goals with_reducible rfl))
                      try simp only [Act.put, List.setIfInBounds_toArray, List.set_cons_zero, List.set_cons_succ, List.getElem_toArray, List.getElem_cons_succ, List.getElem_cons_zero]
                      refine wpAnyF_take [13, 14, 15, 16, 17, 18, 19, 21, 22, 23] (i := 11) (v := ?vg2_13_11) rfl (by kernel_rfl) (by kernel_rfl) (by kernel_rfl) (by kernel_rfl) (fun _ _ _ h => HPQ.out _ _ _ h _ rfl) (Or.inl ⟨by rfl, ?hyg2_13_11⟩) (by assumption) ?restg2_13_11
                      case hyg2_13_11 => (intro w hSw; (try dsimp only at hSw); go_simp; (all_goals with_reducible rfl))
                      try simp only [Act.put, List.setIfInBounds_toArray, List.set_cons_zero, List.set_cons_succ, List.getElem_toArray, List.getElem_cons_succ, List.getElem_cons_zero]
                      refine wpAnyF_pure (i := 13) (v := ?vg2_14_13) rfl (by kernel_rfl) (by kernel_rfl) (by kernel_rfl) (fun _ _ _ h => HPQ.out _ _ _ h _ rfl) (Or.inl ⟨by rfl, ?hyg2_14_13⟩) ?restg2_14_13
                      case hyg2_14_13 => (intro w hSw; clear hSw; go_simp; (all_goals with_reducible rfl))
                      try simp only [Act.put, List.setIfInBounds_toArray, List.set_cons_zero, List.set_cons_succ, List.getElem_toArray, List.getElem_cons_succ, List.getElem_cons_zero]
                      refine wpAnyF_take [15, 16, 17, 18, 19, 21, 22, 23] (i := 14) (v := ?vg2_15_14) rfl (by kernel_rfl) (by kernel_rfl) (by kernel_rfl) (by kernel_rfl) (fun _ _ _ h => HPQ.out _ _ _ h _ rfl) (Or.inl ⟨by rfl, ?hyg2_15_14⟩) (by assumption) ?restg2_15_14
                      case hyg2_15_14 => (intro w hSw; (try dsimp only at hSw); go_simp; (all_goals with_reducible rfl))
                      try simp only [Act.put, List.setIfInBounds_toArray, List.set_cons_zero, List.set_cons_succ, List.getElem_toArray, List.getElem_cons_succ, List.getElem_cons_zero]
                      refine wpAnyF_ready (rs := [15, 20]) (by kernel_rfl) (by simp) ?_
                      refine AllReadyF.cons rfl (fun K hK => ?_) ?_
                      · go_simp
                        go_at_call 21
                        refine (HWK.out _ hHeld.1).mono ?_
                        rintro e9 v9 ⟨rfl, b9⟩
                        have HB9 := hid (bT hHeld.1 b9)
                        go_wp2_with fail
                        refine hK.out _ _ (HK.out _ HB9.out) (fun hHeld => ?_)
                        clear hK K
                        try simp only [Act.put, List.setIfInBounds_toArray, List.set_cons_zero, List.set_cons_succ, List.getElem_toArray, List.getElem_cons_succ, List.getElem_cons_zero]
                        refine wpAnyF_pure (i := 16) (v := ?vg2_17_16) rfl (by kernel_rfl) (by kernel_rfl) (by kernel_rfl) (fun _ _ _ h => HPQ.out _ _ _ h _ rfl) (Or.inl ⟨by rfl, ?hyg2_17_16⟩) ?restg2_17_16
                        case hyg2_17_16 => (intro w hSw; clear hSw; go_simp; (all_goals with_reducible rfl))
                        try simp only [Act.put, List.setIfInBounds_toArray, List.set_cons_zero, List.set_cons_succ, List.getElem_toArray, List.getElem_cons_succ, List.getElem_cons_zero]
                        refine wpAnyF_pure (i := 17) (v := ?vg2_18_17) rfl (by kernel_rfl) (by kernel_rfl) (by kernel_rfl) (fun _ _ _ h => HPQ.out _ _ _ h _ rfl) (Or.inl ⟨by rfl, ?hyg2_18_17⟩) ?restg2_18_17
                        case hyg2_18_17 => (intro w hSw; clear hSw; go_simp; (all_goals with_reducible rfl))
                        try simp only [Act.put, List.setIfInBounds_toArray, List.set_cons_zero, List.set_cons_succ, List.getElem_toArray, List.getElem_cons_succ, List.getElem_cons_zero]
                        refine wpAnyF_pure (i := 18) (v := ?vg2_19_18) rfl (by kernel_rfl) (by kernel_rfl) (by kernel_rfl) (fun _ _ _ h => HPQ.out _ _ _ h _ rfl) (Or.inl ⟨by rfl, ?hyg2_19_18⟩) ?restg2_19_18
                        case hyg2_19_18 => (intro w hSw; clear hSw; go_simp; (all_goals with_reducible rfl))
                        try simp only [Act.put, List.setIfInBounds_toArray, List.set_cons_zero, List.set_cons_succ, List.getElem_toArray, List.getElem_cons_succ, List.getElem_cons_zero]
                        refine wpAnyF_pure (i := 19) (v := ?vg2_20_19) rfl (by kernel_rfl) (by kernel_rfl) (by kernel_rfl) (fun _ _ _ h => HPQ.out _ _ _ h _ rfl) (Or.inl ⟨by rfl, ?hyg2_20_19⟩) ?restg2_20_19
                        case hyg2_20_19 => (intro w hSw; clear hSw; go_simp; (all_goals with_reducible rfl))
                        try simp only [Act.put, List.setIfInBounds_toArray, List.set_cons_zero, List.set_cons_succ, List.getElem_toArray, List.getElem_cons_succ, List.getElem_cons_zero]
                        refine wpAnyF_one (i := 20) (by kernel_rfl) rfl (fun K hK => ?_)
                        go_simp
                        refine hK.out _ _ (HK.out _ (bT hHeld.1 (bA (Below.refl _ _) _))) (fun hHeld => ?_)
                        clear hK K
                        try simp only [Act.put, List.setIfInBounds_toArray, List.set_cons_zero, List.set_cons_succ, List.getElem_toArray, List.getElem_cons_succ, List.getElem_cons_zero]
                        refine wpAnyF_oneD (i := 21) (by kernel_rfl) (by kernel_rfl) rfl (fun K hK => ?_)
                        go_simp
                        refine hK.out _ _ ?_
                        clear hK K
                        try simp only [Act.put, List.setIfInBounds_toArray, List.set_cons_zero, List.set_cons_succ, List.getElem_toArray, List.getElem_cons_succ, List.getElem_cons_zero]
                        refine wpAnyF_pure (i := 22) (v := ?vg2_23_22) rfl (by kernel_rfl) (by kernel_rfl) (by kernel_rfl) (fun _ _ _ h => HPQ.out _ _ _ h _ rfl) (Or.inl ⟨by rfl, ?hyg2_23_22⟩) ?restg2_23_22
                        case hyg2_23_22 => (intro w hSw; clear hSw; go_simp; (all_goals with_reducible rfl))
                        try simp only [Act.put, List.setIfInBounds_toArray, List.set_cons_zero, List.set_cons_succ, List.getElem_toArray, List.getElem_cons_succ, List.getElem_cons_zero]
                        refine wpAnyF_pure (i := 23) (v := ?vg2_24_23) rfl (by kernel_rfl) (by kernel_rfl) (by kernel_rfl) (fun _ _ _ h => HPQ.out _ _ _ h _ rfl) (Or.inl ⟨by rfl, ?hyg2_24_23⟩) ?restg2_24_23
                        case hyg2_24_23 => (intro w hSw; clear hSw; go_simp; (all_goals with_reducible rfl))
                        try simp only [Act.put, List.setIfInBounds_toArray, List.set_cons_zero, List.set_cons_succ, List.getElem_toArray, List.getElem_cons_succ, List.getElem_cons_zero]
                        refine wpAnyF_done (by kernel_rfl) ?_ _
                        go_wp2_with fail
                        go_meet
                        exact ⟨v9.heap.size, rfl, rfl, by go_simp, by go_simp, HB9.out.alloc HB9.out.size _, HB9.out.size⟩
                      refine AllReadyF.cons rfl (fun K hK => ?_) AllReadyF.nil
                      go_simp
                      refine hK.out _ _ (HK.out _ (bT hHeld.1 (bA (Below.refl _ _) _))) (fun hHeld => ?_)
                      clear hK K
                      try simp only [Act.put, List.setIfInBounds_toArray, List.set_cons_zero, List.set_cons_succ, List.getElem_toArray, List.getElem_cons_succ, List.getElem_cons_zero]
                      refine wpAnyF_one (i := 15) (by kernel_rfl) rfl (fun K hK => ?_)
                      go_simp
                      go_at_call 21
                      refine (HWK.out _ hHeld.1).mono ?_
                      rintro e9 v9 ⟨rfl, b9⟩
                      have HB9 := hid (bT hHeld.1 b9)
                      have z0 : v9.cell? ⟨W4.heap.size, 0, none⟩ = some (.int .i64 0) := keepb b9 (by go_simp)
                      have z1 : v9.cell? ⟨W4.heap.size, 1, none⟩ = some (.int .i64 0) := keepb b9 (by go_simp)
                      have zf : ∀ o, v9.frozen? ⟨W4.heap.size, o, none⟩ = false := fun o => keepf b9 (by go_simp) (by simp)
                      have zl : W4.heap.size < v9.heap.size := World.block_lt_of_cell? _ _ z0
                      go_wp2_with fail
                      refine hK.out _ _ (HK.out _ HB9.out) (fun hHeld => ?_)
                      clear hK K
                      try simp only [Act.put, List.setIfInBounds_toArray, List.set_cons_zero, List.set_cons_succ, List.getElem_toArray, List.getElem_cons_succ, List.getElem_cons_zero]
                      refine wpAnyF_pure (i := 16) (v := ?vg2_26_16) rfl (by kernel_rfl) (by kernel_rfl) (by kernel_rfl) (fun _ _ _ h => HPQ.out _ _ _ h _ rfl) (Or.inl ⟨by rfl, ?hyg2_26_16⟩) ?restg2_26_16
                      case hyg2_26_16 => (intro w hSw; clear hSw; go_simp; (all_goals with_reducible rfl))
                      try simp only [Act.put, List.setIfInBounds_toArray, List.set_cons_zero, List.set_cons_succ, List.getElem_toArray, List.getElem_cons_succ, List.getElem_cons_zero]
                      refine wpAnyF_pure (i := 17) (v := ?vg2_27_17) rfl (by kernel_rfl) (by kernel_rfl) (by kernel_rfl) (fun _ _ _ h => HPQ.out _ _ _ h _ rfl) (Or.inl ⟨by rfl, ?hyg2_27_17⟩) ?restg2_27_17
                      case hyg2_27_17 => (intro w hSw; clear hSw; go_simp; (all_goals with_reducible rfl))
                      try simp only [Act.put, List.setIfInBounds_toArray, List.set_cons_zero, List.set_cons_succ, List.getElem_toArray, List.getElem_cons_succ, List.getElem_cons_zero]
                      refine wpAnyF_pure (i := 18) (v := ?vg2_28_18) rfl (by kernel_rfl) (by kernel_rfl) (by kernel_rfl) (fun _ _ _ h => HPQ.out _ _ _ h _ rfl) (Or.inl ⟨by rfl, ?hyg2_28_18⟩) ?restg2_28_18
                      case hyg2_28_18 => (intro w hSw; clear hSw; go_simp; (all_goals with_reducible rfl))
                      try simp only [Act.put, List.setIfInBounds_toArray, List.set_cons_zero, List.set_cons_succ, List.getElem_toArray, List.getElem_cons_succ, List.getElem_cons_zero]
                      refine wpAnyF_pure (i := 19) (v := ?vg2_29_19) rfl (by kernel_rfl) (by kernel_rfl) (by kernel_rfl) (fun _ _ _ h => HPQ.out _ _ _ h _ rfl) (Or.inl ⟨by rfl, ?hyg2_29_19⟩) ?restg2_29_19
                      case hyg2_29_19 => (intro w hSw; clear hSw; go_simp; (all_goals with_reducible rfl))
                      try simp only [Act.put, List.setIfInBounds_toArray, List.set_cons_zero, List.set_cons_succ, List.getElem_toArray, List.getElem_cons_succ, List.getElem_cons_zero]
                      refine wpAnyF_oneD (i := 21) (by kernel_rfl) (by kernel_rfl) rfl (fun K hK => ?_)
                      go_simp
                      refine hK.out _ _ ?_
                      clear hK K
                      try simp only [Act.put, List.setIfInBounds_toArray, List.set_cons_zero, List.set_cons_succ, List.getElem_toArray, List.getElem_cons_succ, List.getElem_cons_zero]
                      refine wpAnyF_pure (i := 22) (v := ?vg2_31_22) rfl (by kernel_rfl) (by kernel_rfl) (by kernel_rfl) (fun _ _ _ h => HPQ.out _ _ _ h _ rfl) (Or.inl ⟨by rfl, ?hyg2_31_22⟩) ?restg2_31_22
                      case hyg2_31_22 => (intro w hSw; clear hSw; go_simp; (all_goals with_reducible rfl))
                      try simp only [Act.put, List.setIfInBounds_toArray, List.set_cons_zero, List.set_cons_succ, List.getElem_toArray, List.getElem_cons_succ, List.getElem_cons_zero]
                      refine wpAnyF_pure (i := 23) (v := ?vg2_32_23) rfl (by kernel_rfl) (by kernel_rfl) (by kernel_rfl) (fun _ _ _ h => HPQ.out _ _ _ h _ rfl) (Or.inl ⟨by rfl, ?hyg2_32_23⟩) ?restg2_32_23
                      case hyg2_32_23 => (intro w hSw; clear hSw; go_simp; (all_goals with_reducible rfl))
                      try simp only [Act.put, List.setIfInBounds_toArray, List.set_cons_zero, List.set_cons_succ, List.getElem_toArray, List.getElem_cons_succ, List.getElem_cons_zero]
                      refine wpAnyF_done (by kernel_rfl) ?_ _
                      go_wp2_with fail
                      go_meet
                      exact ⟨W4.heap.size, rfl, rfl, by go_simp, by go_simp, (HB9.out.setCell (Nat.le_refl _) _).setCell (Nat.le_refl _) _, Nat.le_refl _⟩

                    case rest =>
                      obtain ⟨XB, rfl, rfl, hy0, hy1, hb4, hXB⟩ := hcut
                      have HO5 := hid (HO4.out.below hb4 (T' := upd wr.heap.size T 0) Agree.refl)
                      have HJ5 := hid (HJ4.out.below hb4)
                      have HS5 := hid (HS4.out.below hb4)
                      have HE5 := hid (HE4.out.below hb4)
                      have hW4s : wr.heap.size < W4.heap.size := HX4.out.lt
                      have hXT : upd wr.heap.size T 0 XB = 0 := upd_new (by omega)
                      have hvl : vs.length = s.vals.length := by rw [HVS.out, List.length_append, List.length_take, newVals_len, List.length_drop]; omega
                      have hml : m.length = s.vals.length := by
                        have h1 := congrArg (fun z => z.2.length) HPA.out
                        dsimp only at h1
                        rw [pushAll_len] at h1
                        simpa [lists] using h1
                      obtain ⟨g, hVA, hgl, hgt, hgc, hgf⟩ := HO5.out.vals.head (by omega)
                      subst hVA
                      have hkv : k < vs.length := by omega
                      have hkvz : (k : Int) < (vs.length : Int) := by omega
                      have hXg : XB ≠ g := fun e => by rw [e, hgt] at hXT; cases hXT
                      have HSET := hid (HO5.out.setVal hkv y)
                      have hfl := (flatMap_get (l := vs) (cells := Val.cells) (sz := 2) (fun _ _ => rfl)).2 k x
                      have g0 := hgc _ _ (hfl 0 _ (by rw [HVS.out]; exact HXA.out) rfl)
                      have g1 := hgc _ _ (hfl 1 _ (by rw [HVS.out]; exact HXA.out) rfl)
                      rw [Nat.add_zero] at g0
                      have v8 := HO5.out.obj.cell (i := 8) rfl
                      have s1 := HS5.out.cell (i := 1) rfl
                      have hNx : w.heap.size + 1 ≠ g := fun e => by have := HS5.out.tag; rw [e, hgt] at this; cases this
                      have HVS2 := hid (show vs.set k y = (newVals j s s.vals.length).take (k + 1) ++ s.vals.drop (k + 1) by rw [HVS.out, ← vs_step hlt, HWE2.out])
                      have HML := hid hml
                      have HXG := hid hXg
                      have HNX := hid hNx
                      have hxl : XB < wc.heap.size := World.block_lt_of_cell? _ _ hy0
                      have HY0 := hid (cellR (V := wc.setCell ⟨g, k * 2, none⟩ (.int .i64 y.a)) (o' := k * 2 + 1) (v := .int .i64 y.label) (cellR (o' := k * 2) (v := .int .i64 y.a) hy0 (.inl hXg)) (.inl hXg))
                      have HY1 := hid (cellR (V := wc.setCell ⟨g, k * 2, none⟩ (.int .i64 y.a)) (o' := k * 2 + 1) (v := .int .i64 y.label) (cellR (o' := k * 2) (v := .int .i64 y.a) hy1 (.inl hXg)) (.inl hXg))
                      have HJ6 := hid ((HJ5.out.keep HSET.out.2 (by omega) Agree.refl).drew)
                      have HS6 := hid ((HS5.out.keep HSET.out.2 (by omega) Agree.refl).drew)
                      have HE6 := hid ((HE5.out.keep HSET.out.2 (by omega) Agree.refl).drew)
                      clear hb4 hfl hvl hXT hXg hNx s1
                      go_wp2_with fail
                      refine wp_region_F (S := (fun V => V.cell? ⟨R, 8, none⟩ = some (.slice (some ⟨g, 0, none⟩) vs.length vc) ∧ V.cell? ⟨XB, 0, none⟩ = some (.int .i64 y.a) ∧ V.cell? ⟨XB, 1, none⟩ = some (.int .i64 y.label))) [8] (by kernel_rfl) ⟨v8, hy0, hy1⟩ (fun hHeld => ?_)
                      refine wpAnyF_pure (i := 0) (v := ?vg3_1_0) rfl (by kernel_rfl) (by kernel_rfl) (by kernel_rfl) (fun _ _ _ h => HPQ.out _ _ _ h _ rfl) (Or.inl ⟨by rfl, ?hyg3_1_0⟩) ?restg3_1_0
                      case hyg3_1_0 => (intro w hSw; clear hSw; go_simp; (all_goals with_reducible rfl))
                      try simp only [Act.put, List.setIfInBounds_toArray, List.set_cons_zero, List.set_cons_succ, List.getElem_toArray, List.getElem_cons_succ, List.getElem_cons_zero]
                      refine wpAnyF_pure (i := 1) (v := ?vg3_2_1) rfl (by kernel_rfl) (by kernel_rfl) (by kernel_rfl) (fun _ _ _ h => HPQ.out _ _ _ h _ rfl) (Or.inl ⟨by rfl, ?hyg3_2_1⟩) ?restg3_2_1
                      case hyg3_2_1 => (intro w hSw; clear hSw; go_simp; (all_goals with_reducible rfl))
                      try simp only [Act.put, List.setIfInBounds_toArray, List.set_cons_zero, List.set_cons_succ, List.getElem_toArray, List.getElem_cons_succ, List.getElem_cons_zero]
                      refine wpAnyF_pure (i := 2) (v := ?vg3_3_2) rfl (by kernel_rfl) (by kernel_rfl) (by kernel_rfl) (fun _ _ _ h => HPQ.out _ _ _ h _ rfl) (Or.inl ⟨by rfl, ?hyg3_3_2⟩) ?restg3_3_2
                      case hyg3_3_2 => (intro w hSw; clear hSw; go_simp; (all_goals with_reducible rfl))
                      try simp only [Act.put, List.setIfInBounds_toArray, List.set_cons_zero, List.set_cons_succ, List.getElem_toArray, List.getElem_cons_succ, List.getElem_cons_zero]
                      refine wpAnyF_pure (i := 3) (v := ?vg3_4_3) rfl (by kernel_rfl) (by kernel_rfl) (by kernel_rfl) (fun _ _ _ h => HPQ.out _ _ _ h _ rfl) (Or.inl ⟨by rfl, ?hyg3_4_3⟩) ?restg3_4_3
                      case hyg3_4_3 => (intro w hSw; clear hSw; go_simp; (all_goals with_reducible rfl))
                      try simp only [Act.put, List.setIfInBounds_toArray, List.set_cons_zero, List.set_cons_succ, List.getElem_toArray, List.getElem_cons_succ, List.getElem_cons_zero]
                      refine wpAnyF_pure (i := 5) (v := ?vg3_5_5) rfl (by kernel_rfl) (by kernel_rfl) (by kernel_rfl) (fun _ _ _ h => HPQ.out _ _ _ h _ rfl) (Or.inl ⟨by rfl, ?hyg3_5_5⟩) ?restg3_5_5
                      case hyg3_5_5 => (intro w hSw; clear hSw; go_simp; (all_goals with_reducible rfl))
                      try simp only [Act.put, List.setIfInBounds_toArray, List.set_cons_zero, List.set_cons_succ, List.getElem_toArray, List.getElem_cons_succ, List.getElem_cons_zero]
                      refine wpAnyF_take [7, 8] (i := 4) (v := ?vg3_6_4) rfl (by kernel_rfl) (by kernel_rfl) (by kernel_rfl) (by kernel_rfl) (fun _ _ _ h => HPQ.out _ _ _ h _ rfl) (Or.inl ⟨by rfl, ?hyg3_6_4⟩) (by assumption) ?restg3_6_4
                      case hyg3_6_4 => (intro w hSw; (try dsimp only at hSw); go_simp; (all_goals with_reducible rfl))
                      try simp only [Act.put, List.setIfInBounds_toArray, List.set_cons_zero, List.set_cons_succ, List.getElem_toArray, List.getElem_cons_succ, List.getElem_cons_zero]
                      refine wpAnyF_take [7, 8] (i := 6) (v := ?vg3_7_6) rfl (by kernel_rfl) (by kernel_rfl) (by kernel_rfl) (by kernel_rfl) (fun _ _ _ h => HPQ.out _ _ _ h _ rfl) (Or.inl ⟨by rfl, ?hyg3_7_6⟩) (by assumption) ?restg3_7_6
                      case hyg3_7_6 => (intro w hSw; (try dsimp only at hSw); go_simp; (all_goals with_reducible rfl))
                      try simp only [Act.put, List.setIfInBounds_toArray, List.set_cons_zero, List.set_cons_succ, List.getElem_toArray, List.getElem_cons_succ, List.getElem_cons_zero]
                      refine wpAnyF_pure (i := 7) (v := ?vg3_8_7) rfl (by kernel_rfl) (by kernel_rfl) (by kernel_rfl) (fun _ _ _ h => HPQ.out _ _ _ h _ rfl) (Or.inl ⟨by rfl, ?hyg3_8_7⟩) ?restg3_8_7
                      case hyg3_8_7 => (intro w hSw; clear hSw; go_simp; (all_goals with_reducible rfl))
                      try simp only [Act.put, List.setIfInBounds_toArray, List.set_cons_zero, List.set_cons_succ, List.getElem_toArray, List.getElem_cons_succ, List.getElem_cons_zero]
                      refine wpAnyF_oneD (i := 8) (by kernel_rfl) (by kernel_rfl) rfl (fun K hK => ?_)
                      go_simp
                      refine hK.out _ _ ?_
                      clear hK K
                      try simp only [Act.put, List.setIfInBounds_toArray, List.set_cons_zero, List.set_cons_succ, List.getElem_toArray, List.getElem_cons_succ, List.getElem_cons_zero]
                      refine wpAnyF_done (by kernel_rfl) ?_ _
                      have HO6 := hid HSET.out.1.drew
                      have s1 := HS6.out.cell (i := 1) rfl
                      have y0 := HY0.out
                      have y1 := HY1.out
                      clear v8 g0 g1 hgc hgf hy0 hy1
                      cases sd with
                      | false =>
                        have HREL := hid (show NxL w.heap.size R G w j s A c (some ⟨g, 0, none⟩) vc (#[.int .i64 j.graph.n, .slice A j.graph.edges.length c, .int .i64 j.kind, .int .i64 j.source]) (#[.int .i64 s.step, .int .i64 s.phase, .bool s.fresh, .bool false, .slice (some ⟨bb, bo, none⟩) s.vals.length d, .slice (some ⟨cb, co, none⟩) s.mail.length e]) (.int .i64 ((k + 1 : Nat) : Int)) _ from ⟨k + 1, _, m, code, vs.set k y, by omega, rfl, HO6, HVS2, hid (by rw [says_step, show sayOf j s k = [] by unfold sayOf; rw [HWE2.out]; rfl, List.append_nil]; exact HPA.out), hid (fun z hz => by have := HKK.out z hz; omega), HJ6, HS6, HE6⟩)
                        go_wp2_with fail
                        go_roundw
                        case rel =>
                          have h := HREL.out
                          rw [HF.out] at h
                          rw [show ((k + 1 : Nat) : Int) = (k : Int) + 1 by omega] at h
                          exact h
                        case measure => simp [intOf]; omega
                      | true =>
                        have hy := HWOK.out
                        rw [HWE2.out] at hy
                        have HSAYR := hid (say_round HO6.out s.vals.length HJN.out HE.out hel HML.out (1200 * k) HKK.out (by omega) (k : Int) y (valOk_wf hy.1) s.phase)
                        clear hy
                        go_wp2_with fail
                        refine HSAYR.out.mono ?_
                        rintro e7 w7 ⟨rfl, T7, m7, code7, hRO7, hPA7, hKE7, hAG7, hKK7⟩
                        have HREL := hid (show NxL w.heap.size R G w j s A c (some ⟨g, 0, none⟩) vc (#[.int .i64 j.graph.n, .slice A j.graph.edges.length c, .int .i64 j.kind, .int .i64 j.source]) (#[.int .i64 s.step, .int .i64 s.phase, .bool s.fresh, .bool false, .slice (some ⟨bb, bo, none⟩) s.vals.length d, .slice (some ⟨cb, co, none⟩) s.mail.length e]) (.int .i64 ((k + 1 : Nat) : Int)) w7 from ⟨k + 1, T7, m7, code7, vs.set k y, by omega, rfl, hid hRO7, HVS2, hid (by
                            rw [says_step, pushAll_append, ← HPA.out, hPA7]
                            congr 1
                            unfold sayOf; rw [HWE2.out]; rfl), hid (fun z hz => by have := hKK7 z hz; omega), hid (HJ6.out.keep hKE7 (by omega) hAG7), hid (HS6.out.keep hKE7 (by omega) hAG7), hid (HE6.out.keep hKE7 (by omega) hAG7)⟩)
                        clear hRO7 hPA7 hKE7 hAG7 hKK7
                        go_wp2_with fail
                        go_roundw
                        case rel =>
                          have h := HREL.out
                          rw [HF.out] at h
                          rw [show ((k + 1 : Nat) : Int) = (k : Int) + 1 by omega] at h
                          exact h
                        case measure => simp [intOf]; omega
                  | false =>
                    have hrb : ((r.l.length : Int) == 0) = false := by
                      have : ¬ r.l.length = 0 := fun h => hsk ⟨hf, h⟩
                      simpa using this
                    rw [hf] at s2 s2o HWK
                    have HF := hid hf
                    clear hf hsk
                    have HK : Hid (∀ V, Below W4.heap.size W4 V → ((fun V => Below W4.heap.size W4 V ∧ (V.cell? ⟨w.heap.size, 2, none⟩ = some (.int .i64 j.kind) ∧ V.cell? ⟨w.heap.size, 3, none⟩ = some (.int .i64 j.source)) ∧ (V.cell? ⟨wr.heap.size, 0, none⟩ = some (.int .i64 x.a) ∧ V.cell? ⟨wr.heap.size, 1, none⟩ = some (.int .i64 x.label)) ∧ (V.cell? ⟨w.heap.size + 1, 1, none⟩ = some (.int .i64 s.phase) ∧ V.cell? ⟨w.heap.size + 1, 2, none⟩ = some (.bool false) ∧ V.cell? ⟨w.heap.size + 1, 5, none⟩ = some (.slice (some ⟨cb, co, none⟩) s.mail.length e)) ∧ V.cell? ⟨cb, co + k, none⟩ = some (.slice r.A r.l.length r.c)) : World → Prop) V) := hid fun V hV => ⟨hV, ⟨keepb hV j2, keepb hV j3⟩, ⟨keepb hV x0, keepb hV x1⟩, ⟨keepb hV s1, keepb hV s2, keepb hV s5⟩, keepb hV d0⟩
                    go_wp2_with fail
                    rw [← hW4]
                    clear hW4 j2 j3 x0 x1 s1 s2 s5 d0
                    go_upto_region 15 with fail
                    go_cut [10, 11] (fun s10 s11 wx => WkR W4 y sd s10 s11 wx)
                    case first =>
                      refine wp_region_F (S := (fun V => Below W4.heap.size W4 V ∧ (V.cell? ⟨w.heap.size, 2, none⟩ = some (.int .i64 j.kind) ∧ V.cell? ⟨w.heap.size, 3, none⟩ = some (.int .i64 j.source)) ∧ (V.cell? ⟨wr.heap.size, 0, none⟩ = some (.int .i64 x.a) ∧ V.cell? ⟨wr.heap.size, 1, none⟩ = some (.int .i64 x.label)) ∧ (V.cell? ⟨w.heap.size + 1, 1, none⟩ = some (.int .i64 s.phase) ∧ V.cell? ⟨w.heap.size + 1, 2, none⟩ = some (.bool false) ∧ V.cell? ⟨w.heap.size + 1, 5, none⟩ = some (.slice (some ⟨cb, co, none⟩) s.mail.length e)) ∧ V.cell? ⟨cb, co + k, none⟩ = some (.slice r.A r.l.length r.c))) [21] (by kernel_rfl) (HK.out _ (bD (Below.refl _ _))) (fun hHeld => ?_)
                      refine wpAnyF_pure (i := 0) (v := ?vg4_1_0) rfl (by kernel_rfl) (by kernel_rfl) (by kernel_rfl) (fun _ _ _ h => HPQ.out _ _ _ h _ rfl) (Or.inl ⟨by rfl, ?hyg4_1_0⟩) ?restg4_1_0
                      case hyg4_1_0 => (intro w hSw; clear hSw; go_simp; (all_goals with_reducible rfl))
                      try simp only [Act.put, List.setIfInBounds_toArray, List.set_cons_zero, List.set_cons_succ, List.getElem_toArray, List.getElem_cons_succ, List.getElem_cons_zero]
                      refine wpAnyF_pure (i := 2) (v := ?vg4_2_2) rfl (by kernel_rfl) (by kernel_rfl) (by kernel_rfl) (fun _ _ _ h => HPQ.out _ _ _ h _ rfl) (Or.inl ⟨by rfl, ?hyg4_2_2⟩) ?restg4_2_2
                      case hyg4_2_2 => (intro w hSw; clear hSw; go_simp; (all_goals with_reducible rfl))
                      try simp only [Act.put, List.setIfInBounds_toArray, List.set_cons_zero, List.set_cons_succ, List.getElem_toArray, List.getElem_cons_succ, List.getElem_cons_zero]
                      refine wpAnyF_pure (i := 3) (v := ?vg4_3_3) rfl (by kernel_rfl) (by kernel_rfl) (by kernel_rfl) (fun _ _ _ h => HPQ.out _ _ _ h _ rfl) (Or.inl ⟨by rfl, ?hyg4_3_3⟩) ?restg4_3_3
                      case hyg4_3_3 => (intro w hSw; clear hSw; go_simp; (all_goals with_reducible rfl))
                      try simp only [Act.put, List.setIfInBounds_toArray, List.set_cons_zero, List.set_cons_succ, List.getElem_toArray, List.getElem_cons_succ, List.getElem_cons_zero]
                      refine wpAnyF_pure (i := 6) (v := ?vg4_4_6) rfl (by kernel_rfl) (by kernel_rfl) (by kernel_rfl) (fun _ _ _ h => HPQ.out _ _ _ h _ rfl) (Or.inl ⟨by rfl, ?hyg4_4_6⟩) ?restg4_4_6
                      case hyg4_4_6 => (intro w hSw; clear hSw; go_simp; (all_goals with_reducible rfl))
                      try simp only [Act.put, List.setIfInBounds_toArray, List.set_cons_zero, List.set_cons_succ, List.getElem_toArray, List.getElem_cons_succ, List.getElem_cons_zero]
                      refine wpAnyF_pure (i := 8) (v := ?vg4_5_8) rfl (by kernel_rfl) (by kernel_rfl) (by kernel_rfl) (fun _ _ _ h => HPQ.out _ _ _ h _ rfl) (Or.inl ⟨by rfl, ?hyg4_5_8⟩) ?restg4_5_8
                      case hyg4_5_8 => (intro w hSw; clear hSw; go_simp; (all_goals with_reducible rfl))
                      try simp only [Act.put, List.setIfInBounds_toArray, List.set_cons_zero, List.set_cons_succ, List.getElem_toArray, List.getElem_cons_succ, List.getElem_cons_zero]
                      refine wpAnyF_pure (i := 10) (v := ?vg4_6_10) rfl (by kernel_rfl) (by kernel_rfl) (by kernel_rfl) (fun _ _ _ h => HPQ.out _ _ _ h _ rfl) (Or.inl ⟨by rfl, ?hyg4_6_10⟩) ?restg4_6_10
                      case hyg4_6_10 => (intro w hSw; clear hSw; go_simp; (all_goals with_reducible rfl))
                      try simp only [Act.put, List.setIfInBounds_toArray, List.set_cons_zero, List.set_cons_succ, List.getElem_toArray, List.getElem_cons_succ, List.getElem_cons_zero]
                      refine wpAnyF_pure (i := 12) (v := ?vg4_7_12) rfl (by kernel_rfl) (by kernel_rfl) (by kernel_rfl) (fun _ _ _ h => HPQ.out _ _ _ h _ rfl) (Or.inl ⟨by rfl, ?hyg4_7_12⟩) ?restg4_7_12
                      case hyg4_7_12 => (intro w hSw; clear hSw; go_simp; (all_goals with_reducible rfl))
                      try simp only [Act.put, List.setIfInBounds_toArray, List.set_cons_zero, List.set_cons_succ, List.getElem_toArray, List.getElem_cons_succ, List.getElem_cons_zero]
                      refine wpAnyF_take [15, 16, 17, 18, 19, 21, 22, 23] (i := 1) (v := ?vg4_8_1) rfl (by kernel_rfl) (by kernel_rfl) (by kernel_rfl) (by kernel_rfl) (fun _ _ _ h => HPQ.out _ _ _ h _ rfl) (Or.inl ⟨by rfl, ?hyg4_8_1⟩) (by assumption) ?restg4_8_1
                      case hyg4_8_1 => (intro w hSw; (try dsimp only at hSw); go_simp; (all_goals with_reducible rfl))
                      try simp only [Act.put, List.setIfInBounds_toArray, List.set_cons_zero, List.set_cons_succ, List.getElem_toArray, List.getElem_cons_succ, List.getElem_cons_zero]
                      refine wpAnyF_take [15, 16, 17, 18, 19, 21, 22, 23] (i := 4) (v := ?vg4_9_4) rfl (by kernel_rfl) (by kernel_rfl) (by kernel_rfl) (by kernel_rfl) (fun _ _ _ h => HPQ.out _ _ _ h _ rfl) (Or.inl ⟨by rfl, ?hyg4_9_4⟩) (by assumption) ?restg4_9_4
                      case hyg4_9_4 => (intro w hSw; (try dsimp only at hSw); go_simp; (all_goals with_reducible rfl))
                      try simp only [Act.put, List.setIfInBounds_toArray, List.set_cons_zero, List.set_cons_succ, List.getElem_toArray, List.getElem_cons_succ, List.getElem_cons_zero]
                      refine wpAnyF_take [15, 16, 17, 18, 19, 21, 22, 23] (i := 5) (v := ?vg4_10_5) rfl (by kernel_rfl) (by kernel_rfl) (by kernel_rfl) (by kernel_rfl) (fun _ _ _ h => HPQ.out _ _ _ h _ rfl) (Or.inl ⟨by rfl, ?hyg4_10_5⟩) (by assumption) ?restg4_10_5
                      case hyg4_10_5 => (intro w hSw; (try dsimp only at hSw); go_simp; (all_goals with_reducible rfl))
                      try simp only [Act.put, List.setIfInBounds_toArray, List.set_cons_zero, List.set_cons_succ, List.getElem_toArray, List.getElem_cons_succ, List.getElem_cons_zero]
                      refine wpAnyF_take [15, 16, 17, 18, 19, 21, 22, 23] (i := 7) (v := ?vg4_11_7) rfl (by kernel_rfl) (by kernel_rfl) (by kernel_rfl) (by kernel_rfl) (fun _ _ _ h => HPQ.out _ _ _ h _ rfl) (Or.inl ⟨by rfl, ?hyg4_11_7⟩) (by assumption) ?restg4_11_7
                      case hyg4_11_7 => (intro w hSw; (try dsimp only at hSw); go_simp; (all_goals with_reducible rfl))
                      try simp only [Act.put, List.setIfInBounds_toArray, List.set_cons_zero, List.set_cons_succ, List.getElem_toArray, List.getElem_cons_succ, List.getElem_cons_zero]
                      refine wpAnyF_take [15, 16, 17, 18, 19, 21, 22, 23] (i := 9) (v := ?vg4_12_9) rfl (by kernel_rfl) (by kernel_rfl) (by kernel_rfl) (by kernel_rfl) (fun _ _ _ h => HPQ.out _ _ _ h _ rfl) (Or.inl ⟨by rfl, ?hyg4_12_9⟩) (by assumption) ?restg4_12_9
                      case hyg4_12_9 => (intro w hSw; (try dsimp only at hSw); go_simp; (all_goals with_reducible rfl))
                      try simp only [Act.put, List.setIfInBounds_toArray, List.set_cons_zero, List.set_cons_succ, List.getElem_toArray, List.getElem_cons_succ, List.getElem_cons_zero]
                      refine wpAnyF_take [13, 14, 15, 16, 17, 18, 19, 21, 22, 23] (i := 11) (v := ?vg4_13_11) rfl (by kernel_rfl) (by kernel_rfl) (by kernel_rfl) (by kernel_rfl) (fun _ _ _ h => HPQ.out _ _ _ h _ rfl) (Or.inl ⟨by rfl, ?hyg4_13_11⟩) (by assumption) ?restg4_13_11
                      case hyg4_13_11 => (intro w hSw; (try dsimp only at hSw); go_simp; (all_goals with_reducible rfl))
                      try simp only [Act.put, List.setIfInBounds_toArray, List.set_cons_zero, List.set_cons_succ, List.getElem_toArray, List.getElem_cons_succ, List.getElem_cons_zero]
                      refine wpAnyF_pure (i := 13) (v := ?vg4_14_13) rfl (by kernel_rfl) (by kernel_rfl) (by kernel_rfl) (fun _ _ _ h => HPQ.out _ _ _ h _ rfl) (Or.inl ⟨by rfl, ?hyg4_14_13⟩) ?restg4_14_13
                      case hyg4_14_13 => (intro w hSw; clear hSw; go_simp; (all_goals with_reducible rfl))
                      try simp only [Act.put, List.setIfInBounds_toArray, List.set_cons_zero, List.set_cons_succ, List.getElem_toArray, List.getElem_cons_succ, List.getElem_cons_zero]
                      refine wpAnyF_take [15, 16, 17, 18, 19, 21, 22, 23] (i := 14) (v := ?vg4_15_14) rfl (by kernel_rfl) (by kernel_rfl) (by kernel_rfl) (by kernel_rfl) (fun _ _ _ h => HPQ.out _ _ _ h _ rfl) (Or.inl ⟨by rfl, ?hyg4_15_14⟩) (by assumption) ?restg4_15_14
                      case hyg4_15_14 => (intro w hSw; (try dsimp only at hSw); go_simp; (all_goals with_reducible rfl))
                      try simp only [Act.put, List.setIfInBounds_toArray, List.set_cons_zero, List.set_cons_succ, List.getElem_toArray, List.getElem_cons_succ, List.getElem_cons_zero]
                      refine wpAnyF_ready (rs := [15, 20]) (by kernel_rfl) (by simp) ?_
                      refine AllReadyF.cons rfl (fun K hK => ?_) ?_
                      · go_simp
                        go_at_call 21
                        refine (HWK.out _ hHeld.1).mono ?_
                        rintro e9 v9 ⟨rfl, b9⟩
                        have HB9 := hid (bT hHeld.1 b9)
                        go_wp2_with fail
                        refine hK.out _ _ (HK.out _ HB9.out) (fun hHeld => ?_)
                        clear hK K
                        try simp only [Act.put, List.setIfInBounds_toArray, List.set_cons_zero, List.set_cons_succ, List.getElem_toArray, List.getElem_cons_succ, List.getElem_cons_zero]
                        refine wpAnyF_pure (i := 16) (v := ?vg4_17_16) rfl (by kernel_rfl) (by kernel_rfl) (by kernel_rfl) (fun _ _ _ h => HPQ.out _ _ _ h _ rfl) (Or.inl ⟨by rfl, ?hyg4_17_16⟩) ?restg4_17_16
                        case hyg4_17_16 => (intro w hSw; clear hSw; go_simp; (all_goals with_reducible rfl))
                        try simp only [Act.put, List.setIfInBounds_toArray, List.set_cons_zero, List.set_cons_succ, List.getElem_toArray, List.getElem_cons_succ, List.getElem_cons_zero]
                        refine wpAnyF_pure (i := 17) (v := ?vg4_18_17) rfl (by kernel_rfl) (by kernel_rfl) (by kernel_rfl) (fun _ _ _ h => HPQ.out _ _ _ h _ rfl) (Or.inl ⟨by rfl, ?hyg4_18_17⟩) ?restg4_18_17
                        case hyg4_18_17 => (intro w hSw; clear hSw; go_simp; (all_goals with_reducible rfl))
                        try simp only [Act.put, List.setIfInBounds_toArray, List.set_cons_zero, List.set_cons_succ, List.getElem_toArray, List.getElem_cons_succ, List.getElem_cons_zero]
                        refine wpAnyF_pure (i := 18) (v := ?vg4_19_18) rfl (by kernel_rfl) (by kernel_rfl) (by kernel_rfl) (fun _ _ _ h => HPQ.out _ _ _ h _ rfl) (Or.inl ⟨by rfl, ?hyg4_19_18⟩) ?restg4_19_18
                        case hyg4_19_18 => (intro w hSw; clear hSw; go_simp; (all_goals with_reducible rfl))
                        try simp only [Act.put, List.setIfInBounds_toArray, List.set_cons_zero, List.set_cons_succ, List.getElem_toArray, List.getElem_cons_succ, List.getElem_cons_zero]
                        refine wpAnyF_pure (i := 19) (v := ?vg4_20_19) rfl (by kernel_rfl) (by kernel_rfl) (by kernel_rfl) (fun _ _ _ h => HPQ.out _ _ _ h _ rfl) (Or.inl ⟨by rfl, ?hyg4_20_19⟩) ?restg4_20_19
                        case hyg4_20_19 => (intro w hSw; clear hSw; go_simp; (all_goals with_reducible rfl))
                        try simp only [Act.put, List.setIfInBounds_toArray, List.set_cons_zero, List.set_cons_succ, List.getElem_toArray, List.getElem_cons_succ, List.getElem_cons_zero]
                        refine wpAnyF_one (i := 20) (by kernel_rfl) rfl (fun K hK => ?_)
                        go_simp
                        refine hK.out _ _ (HK.out _ (bT hHeld.1 (bA (Below.refl _ _) _))) (fun hHeld => ?_)
                        clear hK K
                        try simp only [Act.put, List.setIfInBounds_toArray, List.set_cons_zero, List.set_cons_succ, List.getElem_toArray, List.getElem_cons_succ, List.getElem_cons_zero]
                        refine wpAnyF_oneD (i := 21) (by kernel_rfl) (by kernel_rfl) rfl (fun K hK => ?_)
                        go_simp
                        refine hK.out _ _ ?_
                        clear hK K
                        try simp only [Act.put, List.setIfInBounds_toArray, List.set_cons_zero, List.set_cons_succ, List.getElem_toArray, List.getElem_cons_succ, List.getElem_cons_zero]
                        refine wpAnyF_pure (i := 22) (v := ?vg4_23_22) rfl (by kernel_rfl) (by kernel_rfl) (by kernel_rfl) (fun _ _ _ h => HPQ.out _ _ _ h _ rfl) (Or.inl ⟨by rfl, ?hyg4_23_22⟩) ?restg4_23_22
                        case hyg4_23_22 => (intro w hSw; clear hSw; go_simp; (all_goals with_reducible rfl))
                        try simp only [Act.put, List.setIfInBounds_toArray, List.set_cons_zero, List.set_cons_succ, List.getElem_toArray, List.getElem_cons_succ, List.getElem_cons_zero]
                        refine wpAnyF_pure (i := 23) (v := ?vg4_24_23) rfl (by kernel_rfl) (by kernel_rfl) (by kernel_rfl) (fun _ _ _ h => HPQ.out _ _ _ h _ rfl) (Or.inl ⟨by rfl, ?hyg4_24_23⟩) ?restg4_24_23
                        case hyg4_24_23 => (intro w hSw; clear hSw; go_simp; (all_goals with_reducible rfl))
                        try simp only [Act.put, List.setIfInBounds_toArray, List.set_cons_zero, List.set_cons_succ, List.getElem_toArray, List.getElem_cons_succ, List.getElem_cons_zero]
                        refine wpAnyF_done (by kernel_rfl) ?_ _
                        go_wp2_with fail
                        go_meet
                        exact ⟨v9.heap.size, rfl, rfl, by go_simp, by go_simp, HB9.out.alloc HB9.out.size _, HB9.out.size⟩
                      refine AllReadyF.cons rfl (fun K hK => ?_) AllReadyF.nil
                      go_simp
                      refine hK.out _ _ (HK.out _ (bT hHeld.1 (bA (Below.refl _ _) _))) (fun hHeld => ?_)
                      clear hK K
                      try simp only [Act.put, List.setIfInBounds_toArray, List.set_cons_zero, List.set_cons_succ, List.getElem_toArray, List.getElem_cons_succ, List.getElem_cons_zero]
                      refine wpAnyF_one (i := 15) (by kernel_rfl) rfl (fun K hK => ?_)
                      go_simp
                      go_at_call 21
                      refine (HWK.out _ hHeld.1).mono ?_
                      rintro e9 v9 ⟨rfl, b9⟩
                      have HB9 := hid (bT hHeld.1 b9)
                      have z0 : v9.cell? ⟨W4.heap.size, 0, none⟩ = some (.int .i64 0) := keepb b9 (by go_simp)
                      have z1 : v9.cell? ⟨W4.heap.size, 1, none⟩ = some (.int .i64 0) := keepb b9 (by go_simp)
                      have zf : ∀ o, v9.frozen? ⟨W4.heap.size, o, none⟩ = false := fun o => keepf b9 (by go_simp) (by simp)
                      have zl : W4.heap.size < v9.heap.size := World.block_lt_of_cell? _ _ z0
                      go_wp2_with fail
                      refine hK.out _ _ (HK.out _ HB9.out) (fun hHeld => ?_)
                      clear hK K
                      try simp only [Act.put, List.setIfInBounds_toArray, List.set_cons_zero, List.set_cons_succ, List.getElem_toArray, List.getElem_cons_succ, List.getElem_cons_zero]
                      refine wpAnyF_pure (i := 16) (v := ?vg4_26_16) rfl (by kernel_rfl) (by kernel_rfl) (by kernel_rfl) (fun _ _ _ h => HPQ.out _ _ _ h _ rfl) (Or.inl ⟨by rfl, ?hyg4_26_16⟩) ?restg4_26_16
                      case hyg4_26_16 => (intro w hSw; clear hSw; go_simp; (all_goals with_reducible rfl))
                      try simp only [Act.put, List.setIfInBounds_toArray, List.set_cons_zero, List.set_cons_succ, List.getElem_toArray, List.getElem_cons_succ, List.getElem_cons_zero]
                      refine wpAnyF_pure (i := 17) (v := ?vg4_27_17) rfl (by kernel_rfl) (by kernel_rfl) (by kernel_rfl) (fun _ _ _ h => HPQ.out _ _ _ h _ rfl) (Or.inl ⟨by rfl, ?hyg4_27_17⟩) ?restg4_27_17
                      case hyg4_27_17 => (intro w hSw; clear hSw; go_simp; (all_goals with_reducible rfl))
                      try simp only [Act.put, List.setIfInBounds_toArray, List.set_cons_zero, List.set_cons_succ, List.getElem_toArray, List.getElem_cons_succ, List.getElem_cons_zero]
                      refine wpAnyF_pure (i := 18) (v := ?vg4_28_18) rfl (by kernel_rfl) (by kernel_rfl) (by kernel_rfl) (fun _ _ _ h => HPQ.out _ _ _ h _ rfl) (Or.inl ⟨by rfl, ?hyg4_28_18⟩) ?restg4_28_18
                      case hyg4_28_18 => (intro w hSw; clear hSw; go_simp; (all_goals with_reducible rfl))
                      try simp only [Act.put, List.setIfInBounds_toArray, List.set_cons_zero, List.set_cons_succ, List.getElem_toArray, List.getElem_cons_succ, List.getElem_cons_zero]
                      refine wpAnyF_pure (i := 19) (v := ?vg4_29_19) rfl (by kernel_rfl) (by kernel_rfl) (by kernel_rfl) (fun _ _ _ h => HPQ.out _ _ _ h _ rfl) (Or.inl ⟨by rfl, ?hyg4_29_19⟩) ?restg4_29_19
                      case hyg4_29_19 => (intro w hSw; clear hSw; go_simp; (all_goals with_reducible rfl))
                      try simp only [Act.put, List.setIfInBounds_toArray, List.set_cons_zero, List.set_cons_succ, List.getElem_toArray, List.getElem_cons_succ, List.getElem_cons_zero]
                      refine wpAnyF_oneD (i := 21) (by kernel_rfl) (by kernel_rfl) rfl (fun K hK => ?_)
                      go_simp
                      refine hK.out _ _ ?_
                      clear hK K
                      try simp only [Act.put, List.setIfInBounds_toArray, List.set_cons_zero, List.set_cons_succ, List.getElem_toArray, List.getElem_cons_succ, List.getElem_cons_zero]
                      refine wpAnyF_pure (i := 22) (v := ?vg4_31_22) rfl (by kernel_rfl) (by kernel_rfl) (by kernel_rfl) (fun _ _ _ h => HPQ.out _ _ _ h _ rfl) (Or.inl ⟨by rfl, ?hyg4_31_22⟩) ?restg4_31_22
                      case hyg4_31_22 => (intro w hSw; clear hSw; go_simp; (all_goals with_reducible rfl))
                      try simp only [Act.put, List.setIfInBounds_toArray, List.set_cons_zero, List.set_cons_succ, List.getElem_toArray, List.getElem_cons_succ, List.getElem_cons_zero]
                      refine wpAnyF_pure (i := 23) (v := ?vg4_32_23) rfl (by kernel_rfl) (by kernel_rfl) (by kernel_rfl) (fun _ _ _ h => HPQ.out _ _ _ h _ rfl) (Or.inl ⟨by rfl, ?hyg4_32_23⟩) ?restg4_32_23
                      case hyg4_32_23 => (intro w hSw; clear hSw; go_simp; (all_goals with_reducible rfl))
                      try simp only [Act.put, List.setIfInBounds_toArray, List.set_cons_zero, List.set_cons_succ, List.getElem_toArray, List.getElem_cons_succ, List.getElem_cons_zero]
                      refine wpAnyF_done (by kernel_rfl) ?_ _
                      go_wp2_with fail
                      go_meet
                      exact ⟨W4.heap.size, rfl, rfl, by go_simp, by go_simp, (HB9.out.setCell (Nat.le_refl _) _).setCell (Nat.le_refl _) _, Nat.le_refl _⟩

                    case rest =>
                      obtain ⟨XB, rfl, rfl, hy0, hy1, hb4, hXB⟩ := hcut
                      have HO5 := hid (HO4.out.below hb4 (T' := upd wr.heap.size T 0) Agree.refl)
                      have HJ5 := hid (HJ4.out.below hb4)
                      have HS5 := hid (HS4.out.below hb4)
                      have HE5 := hid (HE4.out.below hb4)
                      have hW4s : wr.heap.size < W4.heap.size := HX4.out.lt
                      have hXT : upd wr.heap.size T 0 XB = 0 := upd_new (by omega)
                      have hvl : vs.length = s.vals.length := by rw [HVS.out, List.length_append, List.length_take, newVals_len, List.length_drop]; omega
                      have hml : m.length = s.vals.length := by
                        have h1 := congrArg (fun z => z.2.length) HPA.out
                        dsimp only at h1
                        rw [pushAll_len] at h1
                        simpa [lists] using h1
                      obtain ⟨g, hVA, hgl, hgt, hgc, hgf⟩ := HO5.out.vals.head (by omega)
                      subst hVA
                      have hkv : k < vs.length := by omega
                      have hkvz : (k : Int) < (vs.length : Int) := by omega
                      have hXg : XB ≠ g := fun e => by rw [e, hgt] at hXT; cases hXT
                      have HSET := hid (HO5.out.setVal hkv y)
                      have hfl := (flatMap_get (l := vs) (cells := Val.cells) (sz := 2) (fun _ _ => rfl)).2 k x
                      have g0 := hgc _ _ (hfl 0 _ (by rw [HVS.out]; exact HXA.out) rfl)
                      have g1 := hgc _ _ (hfl 1 _ (by rw [HVS.out]; exact HXA.out) rfl)
                      rw [Nat.add_zero] at g0
                      have v8 := HO5.out.obj.cell (i := 8) rfl
                      have s1 := HS5.out.cell (i := 1) rfl
                      have hNx : w.heap.size + 1 ≠ g := fun e => by have := HS5.out.tag; rw [e, hgt] at this; cases this
                      have HVS2 := hid (show vs.set k y = (newVals j s s.vals.length).take (k + 1) ++ s.vals.drop (k + 1) by rw [HVS.out, ← vs_step hlt, HWE2.out])
                      have HML := hid hml
                      have HXG := hid hXg
                      have HNX := hid hNx
                      have hxl : XB < wc.heap.size := World.block_lt_of_cell? _ _ hy0
                      have HY0 := hid (cellR (V := wc.setCell ⟨g, k * 2, none⟩ (.int .i64 y.a)) (o' := k * 2 + 1) (v := .int .i64 y.label) (cellR (o' := k * 2) (v := .int .i64 y.a) hy0 (.inl hXg)) (.inl hXg))
                      have HY1 := hid (cellR (V := wc.setCell ⟨g, k * 2, none⟩ (.int .i64 y.a)) (o' := k * 2 + 1) (v := .int .i64 y.label) (cellR (o' := k * 2) (v := .int .i64 y.a) hy1 (.inl hXg)) (.inl hXg))
                      have HJ6 := hid ((HJ5.out.keep HSET.out.2 (by omega) Agree.refl).drew)
                      have HS6 := hid ((HS5.out.keep HSET.out.2 (by omega) Agree.refl).drew)
                      have HE6 := hid ((HE5.out.keep HSET.out.2 (by omega) Agree.refl).drew)
                      clear hb4 hfl hvl hXT hXg hNx s1
                      go_wp2_with fail
                      refine wp_region_F (S := (fun V => V.cell? ⟨R, 8, none⟩ = some (.slice (some ⟨g, 0, none⟩) vs.length vc) ∧ V.cell? ⟨XB, 0, none⟩ = some (.int .i64 y.a) ∧ V.cell? ⟨XB, 1, none⟩ = some (.int .i64 y.label))) [8] (by kernel_rfl) ⟨v8, hy0, hy1⟩ (fun hHeld => ?_)
                      refine wpAnyF_pure (i := 0) (v := ?vg5_1_0) rfl (by kernel_rfl) (by kernel_rfl) (by kernel_rfl) (fun _ _ _ h => HPQ.out _ _ _ h _ rfl) (Or.inl ⟨by rfl, ?hyg5_1_0⟩) ?restg5_1_0
                      case hyg5_1_0 => (intro w hSw; clear hSw; go_simp; (all_goals with_reducible rfl))
                      try simp only [Act.put, List.setIfInBounds_toArray, List.set_cons_zero, List.set_cons_succ, List.getElem_toArray, List.getElem_cons_succ, List.getElem_cons_zero]
                      refine wpAnyF_pure (i := 1) (v := ?vg5_2_1) rfl (by kernel_rfl) (by kernel_rfl) (by kernel_rfl) (fun _ _ _ h => HPQ.out _ _ _ h _ rfl) (Or.inl ⟨by rfl, ?hyg5_2_1⟩) ?restg5_2_1
                      case hyg5_2_1 => (intro w hSw; clear hSw; go_simp; (all_goals with_reducible rfl))
                      try simp only [Act.put, List.setIfInBounds_toArray, List.set_cons_zero, List.set_cons_succ, List.getElem_toArray, List.getElem_cons_succ, List.getElem_cons_zero]
                      refine wpAnyF_pure (i := 2) (v := ?vg5_3_2) rfl (by kernel_rfl) (by kernel_rfl) (by kernel_rfl) (fun _ _ _ h => HPQ.out _ _ _ h _ rfl) (Or.inl ⟨by rfl, ?hyg5_3_2⟩) ?restg5_3_2
                      case hyg5_3_2 => (intro w hSw; clear hSw; go_simp; (all_goals with_reducible rfl))
                      try simp only [Act.put, List.setIfInBounds_toArray, List.set_cons_zero, List.set_cons_succ, List.getElem_toArray, List.getElem_cons_succ, List.getElem_cons_zero]
                      refine wpAnyF_pure (i := 3) (v := ?vg5_4_3) rfl (by kernel_rfl) (by kernel_rfl) (by kernel_rfl) (fun _ _ _ h => HPQ.out _ _ _ h _ rfl) (Or.inl ⟨by rfl, ?hyg5_4_3⟩) ?restg5_4_3
                      case hyg5_4_3 => (intro w hSw; clear hSw; go_simp; (all_goals with_reducible rfl))
                      try simp only [Act.put, List.setIfInBounds_toArray, List.set_cons_zero, List.set_cons_succ, List.getElem_toArray, List.getElem_cons_succ, List.getElem_cons_zero]
                      refine wpAnyF_pure (i := 5) (v := ?vg5_5_5) rfl (by kernel_rfl) (by kernel_rfl) (by kernel_rfl) (fun _ _ _ h => HPQ.out _ _ _ h _ rfl) (Or.inl ⟨by rfl, ?hyg5_5_5⟩) ?restg5_5_5
                      case hyg5_5_5 => (intro w hSw; clear hSw; go_simp; (all_goals with_reducible rfl))
                      try simp only [Act.put, List.setIfInBounds_toArray, List.set_cons_zero, List.set_cons_succ, List.getElem_toArray, List.getElem_cons_succ, List.getElem_cons_zero]
                      refine wpAnyF_take [7, 8] (i := 4) (v := ?vg5_6_4) rfl (by kernel_rfl) (by kernel_rfl) (by kernel_rfl) (by kernel_rfl) (fun _ _ _ h => HPQ.out _ _ _ h _ rfl) (Or.inl ⟨by rfl, ?hyg5_6_4⟩) (by assumption) ?restg5_6_4
                      case hyg5_6_4 => (intro w hSw; (try dsimp only at hSw); go_simp; (all_goals with_reducible rfl))
                      try simp only [Act.put, List.setIfInBounds_toArray, List.set_cons_zero, List.set_cons_succ, List.getElem_toArray, List.getElem_cons_succ, List.getElem_cons_zero]
                      refine wpAnyF_take [7, 8] (i := 6) (v := ?vg5_7_6) rfl (by kernel_rfl) (by kernel_rfl) (by kernel_rfl) (by kernel_rfl) (fun _ _ _ h => HPQ.out _ _ _ h _ rfl) (Or.inl ⟨by rfl, ?hyg5_7_6⟩) (by assumption) ?restg5_7_6
                      case hyg5_7_6 => (intro w hSw; (try dsimp only at hSw); go_simp; (all_goals with_reducible rfl))
                      try simp only [Act.put, List.setIfInBounds_toArray, List.set_cons_zero, List.set_cons_succ, List.getElem_toArray, List.getElem_cons_succ, List.getElem_cons_zero]
                      refine wpAnyF_pure (i := 7) (v := ?vg5_8_7) rfl (by kernel_rfl) (by kernel_rfl) (by kernel_rfl) (fun _ _ _ h => HPQ.out _ _ _ h _ rfl) (Or.inl ⟨by rfl, ?hyg5_8_7⟩) ?restg5_8_7
                      case hyg5_8_7 => (intro w hSw; clear hSw; go_simp; (all_goals with_reducible rfl))
                      try simp only [Act.put, List.setIfInBounds_toArray, List.set_cons_zero, List.set_cons_succ, List.getElem_toArray, List.getElem_cons_succ, List.getElem_cons_zero]
                      refine wpAnyF_oneD (i := 8) (by kernel_rfl) (by kernel_rfl) rfl (fun K hK => ?_)
                      go_simp
                      refine hK.out _ _ ?_
                      clear hK K
                      try simp only [Act.put, List.setIfInBounds_toArray, List.set_cons_zero, List.set_cons_succ, List.getElem_toArray, List.getElem_cons_succ, List.getElem_cons_zero]
                      refine wpAnyF_done (by kernel_rfl) ?_ _
                      have HO6 := hid HSET.out.1.drew
                      have s1 := HS6.out.cell (i := 1) rfl
                      have y0 := HY0.out
                      have y1 := HY1.out
                      clear v8 g0 g1 hgc hgf hy0 hy1
                      cases sd with
                      | false =>
                        have HREL := hid (show NxL w.heap.size R G w j s A c (some ⟨g, 0, none⟩) vc (#[.int .i64 j.graph.n, .slice A j.graph.edges.length c, .int .i64 j.kind, .int .i64 j.source]) (#[.int .i64 s.step, .int .i64 s.phase, .bool s.fresh, .bool false, .slice (some ⟨bb, bo, none⟩) s.vals.length d, .slice (some ⟨cb, co, none⟩) s.mail.length e]) (.int .i64 ((k + 1 : Nat) : Int)) _ from ⟨k + 1, _, m, code, vs.set k y, by omega, rfl, HO6, HVS2, hid (by rw [says_step, show sayOf j s k = [] by unfold sayOf; rw [HWE2.out]; rfl, List.append_nil]; exact HPA.out), hid (fun z hz => by have := HKK.out z hz; omega), HJ6, HS6, HE6⟩)
                        go_wp2_with fail
                        go_roundw
                        case rel =>
                          have h := HREL.out
                          rw [HF.out] at h
                          rw [show ((k + 1 : Nat) : Int) = (k : Int) + 1 by omega] at h
                          exact h
                        case measure => simp [intOf]; omega
                      | true =>
                        have hy := HWOK.out
                        rw [HWE2.out] at hy
                        have HSAYR := hid (say_round HO6.out s.vals.length HJN.out HE.out hel HML.out (1200 * k) HKK.out (by omega) (k : Int) y (valOk_wf hy.1) s.phase)
                        clear hy
                        go_wp2_with fail
                        refine HSAYR.out.mono ?_
                        rintro e7 w7 ⟨rfl, T7, m7, code7, hRO7, hPA7, hKE7, hAG7, hKK7⟩
                        have HREL := hid (show NxL w.heap.size R G w j s A c (some ⟨g, 0, none⟩) vc (#[.int .i64 j.graph.n, .slice A j.graph.edges.length c, .int .i64 j.kind, .int .i64 j.source]) (#[.int .i64 s.step, .int .i64 s.phase, .bool s.fresh, .bool false, .slice (some ⟨bb, bo, none⟩) s.vals.length d, .slice (some ⟨cb, co, none⟩) s.mail.length e]) (.int .i64 ((k + 1 : Nat) : Int)) w7 from ⟨k + 1, T7, m7, code7, vs.set k y, by omega, rfl, hid hRO7, HVS2, hid (by
                            rw [says_step, pushAll_append, ← HPA.out, hPA7]
                            congr 1
                            unfold sayOf; rw [HWE2.out]; rfl), hid (fun z hz => by have := hKK7 z hz; omega), hid (HJ6.out.keep hKE7 (by omega) hAG7), hid (HS6.out.keep hKE7 (by omega) hAG7), hid (HE6.out.keep hKE7 (by omega) hAG7)⟩)
                        clear hRO7 hPA7 hKE7 hAG7 hKK7
                        go_wp2_with fail
                        go_roundw
                        case rel =>
                          have h := HREL.out
                          rw [HF.out] at h
                          rw [show ((k + 1 : Nat) : Int) = (k : Int) + 1 by omega] at h
                          exact h
                        case measure => simp [intOf]; omega
              · obtain rfl : k = s.vals.length := by omega
                have hvs : vs = newVals j s s.vals.length := by
                  have h2 := newVals_len j s s.vals.length
                  rw [HVS.out, List.drop_length, List.append_nil]
                  exact List.take_of_length_le (by omega)
                have HPF := hid (show (code, lists m) = pushAll (0, List.replicate s.vals.length []) (fullSays j s s.vals.length) from HPA.out)
                have hml : m.length = s.vals.length := by
                  have h1 := congrArg (fun z => z.2.length) HPA.out
                  dsimp only at h1
                  rw [pushAll_len] at h1
                  simpa [lists] using h1
                have HROA := hid (hvs ▸ HRO.out)
                have c10 := HRO.out.obj.cell (i := 10) rfl
                have r0 := HRES.out.cell (i := 0) rfl
                have r1 := HRES.out.cell (i := 1) rfl
                have r2 := HRES.out.cell (i := 2) rfl
                have r3 := HRES.out.cell (i := 3) rfl
                have r4 := HRES.out.cell (i := 4) rfl
                have r5 := HRES.out.cell (i := 5) rfl
                have rf := HRES.out.free
                have hrl := HRES.out.lt
                by_cases hc : code = 0
                · subst hc
                  have HMD := hid (madeP_ok HPF.out)
                  have c9 := HRO.out.obj.cell (i := 9) rfl
                  rw [hml] at c9
                  have HML := hid hml
                  have HVL := hid (newVals_len j s s.vals.length)
                  have hL : ∃ L, L = lists m := ⟨_, rfl⟩
                  obtain ⟨L, hL⟩ := hL
                  rw [← hL] at HMD
                  have HLM := hid hL
                  have HKL := hid (show ∀ l ∈ L, l.length ≤ 240000 from fun l hl2 => by
                    rw [HLM.out] at hl2
                    obtain ⟨z, hz, rfl⟩ := List.mem_map.1 hl2
                    have := HKK.out z hz; omega)
                  clear hml hvs r0 r1 r2 r3 r4 r5 rf hrl hL HOJ HOS
                  go_wp2_with fail
                  go_loopw [13, 123] (fun v13 v123 wr => NxM w.heap.size R G w j s A c VA vc L v13 v123 wr) (fun _ v123 _ => s.vals.length - (intOf v123).toNat)
                  case atStart => exact ⟨0, T, m, Nat.zero_le _, rfl, rfl, HROA, hid (by rw [← HLM.out]; simp), HRES⟩
                  case round =>
                    clear HROA HRO HRES HKK c9 c10
                    obtain ⟨k, T2, m2, hk2, rfl, rfl, HRO2, HLS, HRES2⟩ := hrel
                    have HML2 := hid (show m2.length = s.vals.length by
                      have h1 := congrArg List.length HLS.out
                      have h2 := congrArg List.length HLM.out
                      have h3 := HML.out
                      simp only [lists, List.length_map, List.length_append, List.length_take, List.length_drop] at h1 h2
                      omega)
                    by_cases hlt : k < s.vals.length
                    · obtain ⟨x, hx⟩ : ∃ x, m2[k]? = some x := ⟨_, List.getElem?_eq_getElem (by rw [HML2.out]; exact hlt)⟩
                      have hst2 := srt_step HLS.out hx
                      have hxl := HKL.out x.l (List.mem_of_getElem? hst2.1)
                      have HSS := hid hst2.2
                      have hfl : (m2.flatMap ML.cells)[k]? = some (.slice x.A x.l.length x.c) := by
                        have h9 := (flatMap_get (l := m2) (cells := ML.cells) (sz := 1) (fun _ _ => rfl)).2 k x 0 _ hx rfl
                        simpa using h9
                      have gk := (own_at HRO2.out.mail.1 hfl).1
                      have hkz : (k : Int) < (s.vals.length : Int) := by omega
                      have HSO := hid (sortI_walk (HRO2.out.rows k x hx).1 rfl (by omega))
                      have HX := hid hx
                      have HAN := hid (anyM_take hst2.1)
                      have hGl : G < wr.heap.size := World.block_lt_of_cell? _ _ gk
                      clear hx hst2 hfl
                      go_wp2_with fail
                      refine HSO.out.mono ?_
                      rintro e5 w5 ⟨rfl, o5, g5⟩
                      have HRS := hid (HRO2.out.sorted HX.out (srtI_len x.l) o5 g5)
                      have HRE := hid (HRES2.out.keep HRS.out.2 (by omega) Agree.refl)
                      clear o5 g5
                      have HREL : Hid (∀ v, v = .bool (anyM (L.take (k + 1))) → NxM w.heap.size R G w j s A c VA vc L v (.int .i64 ((k + 1 : Nat) : Int)) w5) := hid (fun v hv => ⟨k + 1, T2, _, by omega, rfl, hv, hid HRS.out.1, HSS, HRE⟩)
                      cases ha : anyM (L.take k) with
                      | true =>
                        rw [ha] at HAN
                        go_wp2_with fail
                        go_roundw
                        case rel =>
                          have h := HREL.out (.bool true) (by rw [HAN.out]; rfl)
                          rw [show ((k + 1 : Nat) : Int) = (k : Int) + 1 by omega] at h
                          exact h
                        case measure => simp [intOf]; omega
                      | false =>
                        rw [ha] at HAN
                        cases hd0 : decide (0 < x.l.length) with
                        | true =>
                          rw [hd0] at HAN
                          have hdz : decide ((0 : Int) < (x.l.length : Int)) = true := by simp at hd0 ⊢; omega
                          go_wp2_with fail
                          go_roundw
                          case rel =>
                            have h := HREL.out (.bool true) (by rw [HAN.out]; rfl)
                            rw [show ((k + 1 : Nat) : Int) = (k : Int) + 1 by omega] at h
                            exact h
                          case measure => simp [intOf]; omega
                        | false =>
                          rw [hd0] at HAN
                          have hdz : decide ((0 : Int) < (x.l.length : Int)) = false := by simp at hd0 ⊢; omega
                          go_wp2_with fail
                          go_roundw
                          case rel =>
                            have h := HREL.out (.bool false) (by rw [HAN.out]; rfl)
                            rw [show ((k + 1 : Nat) : Int) = (k : Int) + 1 by omega] at h
                            exact h
                          case measure => simp [intOf]; omega
                    · obtain rfl : k = s.vals.length := by omega
                      have hLl : L.length = s.vals.length := by rw [HLM.out]; unfold lists; rw [List.length_map]; exact HML.out
                      have HLS := hid (show lists m2 = L.map srtI by rw [HLS.out, ← hLl, List.take_length, List.drop_length, List.append_nil])
                      have htk : L.take s.vals.length = L := by rw [← hLl, List.take_length]
                      rw [htk]
                      have HTK := hid htk
                      clear hLl htk
                      cases ha : anyM L with
                      | true =>
                        have HA := hid ha
                        clear ha
                        have HROF := hid (HRO2.out)
                        have HRESF := hid (HRES2.out)
                        have f4 := HROF.out.obj.cell (i := 4) rfl
                        have f5 := HROF.out.obj.cell (i := 5) rfl
                        have f6 := HROF.out.obj.cell (i := 6) rfl
                        have f7 := HROF.out.obj.cell (i := 7) rfl
                        have f8 := HROF.out.obj.cell (i := 8) rfl
                        have f9 := HROF.out.obj.cell (i := 9) rfl
                        rw [HVL.out] at f8
                        rw [HML2.out] at f9
                        have r0 := HRESF.out.cell (i := 0) rfl
                        have r1 := HRESF.out.cell (i := 1) rfl
                        have r2 := HRESF.out.cell (i := 2) rfl
                        have r3 := HRESF.out.cell (i := 3) rfl
                        have r4 := HRESF.out.cell (i := 4) rfl
                        have r5 := HRESF.out.cell (i := 5) rfl
                        have rf := HRESF.out.free
                        have hrl := HRESF.out.lt
                        have hRl := HROF.out.obj.lt
                        have hN2 := HRESF.out.tag
                        have hkf := ((((((Keep.refl (S := fun x => x = 0) (T := T2) (w := wr)).setCell (p := ⟨w.heap.size + 2, 0, none⟩) (fun _ => hN2) (.int .i64 (s.step + 1))).setCell (p := ⟨w.heap.size + 2, 1, none⟩) (fun _ => hN2) (.int .i64 s.phase)).setCell (p := ⟨w.heap.size + 2, 2, none⟩) (fun _ => hN2) (.bool false)).setCell (p := ⟨w.heap.size + 2, 3, none⟩) (fun _ => hN2) (.bool false)).setCell (p := ⟨w.heap.size + 2, 4, none⟩) (fun _ => hN2) (.slice VA s.vals.length vc)).setCell (p := ⟨w.heap.size + 2, 5, none⟩) (fun _ => hN2) (.slice (some ⟨G, 0, none⟩) s.vals.length s.vals.length)
                        have HRT := hid (HROF.out.retN hkf)
                        have HBF := hid (show Below w.heap.size w _ from bS (p := ⟨w.heap.size + 2, 5, none⟩) (bS (p := ⟨w.heap.size + 2, 4, none⟩) (bS (p := ⟨w.heap.size + 2, 3, none⟩) (bS (p := ⟨w.heap.size + 2, 2, none⟩) (bS (p := ⟨w.heap.size + 2, 1, none⟩) (bS (p := ⟨w.heap.size + 2, 0, none⟩) HROF.out.bl (Nat.le_add_right _ _) (.int .i64 (s.step + 1))) (Nat.le_add_right _ _) (.int .i64 s.phase)) (Nat.le_add_right _ _) (.bool false)) (Nat.le_add_right _ _) (.bool false)) (Nat.le_add_right _ _) (.slice VA s.vals.length vc)) (Nat.le_add_right _ _) (.slice (some ⟨G, 0, none⟩) s.vals.length s.vals.length))
                        clear hkf
                        go_wp2_with fail
                        rw [← HBP.out]
                        refine bodyPost_ret (v := .tuple #[.agg #[.int .i64 (s.step + 1), .int .i64 s.phase, .bool false, .bool false, .slice VA s.vals.length vc, .slice (some ⟨G, 0, none⟩) s.vals.length s.vals.length], .int .i64 0]) (by simp [results, Try.results7, go_sem, *]) rfl ?_
                        have hrt1 := HRT.out.1
                        have hrt2 := HRT.out.2
                        have hbf := HBF.out
                        rw [HVL.out] at hrt1
                        generalize ((((((World.setCell wr ⟨w.heap.size + 2, 0, none⟩ (.int .i64 (s.step + 1))).setCell ⟨w.heap.size + 2, 1, none⟩ (.int .i64 s.phase)).setCell ⟨w.heap.size + 2, 2, none⟩ (.bool false)).setCell ⟨w.heap.size + 2, 3, none⟩ (.bool false)).setCell ⟨w.heap.size + 2, 4, none⟩ (.slice VA s.vals.length vc)).setCell ⟨w.heap.size + 2, 5, none⟩ (.slice (some ⟨G, 0, none⟩) s.vals.length s.vals.length)) = wf at *
                        rw [HNV.out, HMD.out]
                        refine ⟨VA, vc, some ⟨G, 0, none⟩, s.vals.length, m2, ?_, ?_, ?_, hrt2, hbf⟩
                        · unfold stCells
                          dsimp only
                          rw [if_pos HA.out, HVL.out, HML2.out]
                          try rfl
                        · rw [HLS.out]; unfold lists; rw [List.map_map]; rfl
                        · dsimp only
                          rw [HVL.out]; exact hrt1
                      | false =>
                        have HA := hid ha
                        clear ha
                        have HQ := hid (quiet_round HRO2.out (by rw [HVL.out]; exact hv200))
                        have hqe : ∃ q, q = quietV j.kind s.phase (newVals j s s.vals.length) := ⟨_, rfl⟩
                        obtain ⟨⟨qp, qf, qd⟩, hqe⟩ := hqe
                        rw [← hqe] at HQ HMD
                        dsimp only at HQ
                        have HQE := hid hqe
                        clear hqe
                        go_wp2_with fail
                        refine HQ.out.mono ?_
                        rintro e6 w6 ⟨rfl, hq1, hq2⟩
                        have HROF := hid (hq1)
                        have HRESF := hid (HRES2.out.keep hq2 (by omega) Agree.refl)
                        have f4 := HROF.out.obj.cell (i := 4) rfl
                        have f5 := HROF.out.obj.cell (i := 5) rfl
                        have f6 := HROF.out.obj.cell (i := 6) rfl
                        have f7 := HROF.out.obj.cell (i := 7) rfl
                        have f8 := HROF.out.obj.cell (i := 8) rfl
                        have f9 := HROF.out.obj.cell (i := 9) rfl
                        rw [HVL.out] at f8
                        rw [HML2.out] at f9
                        have r0 := HRESF.out.cell (i := 0) rfl
                        have r1 := HRESF.out.cell (i := 1) rfl
                        have r2 := HRESF.out.cell (i := 2) rfl
                        have r3 := HRESF.out.cell (i := 3) rfl
                        have r4 := HRESF.out.cell (i := 4) rfl
                        have r5 := HRESF.out.cell (i := 5) rfl
                        have rf := HRESF.out.free
                        have hrl := HRESF.out.lt
                        have hRl := HROF.out.obj.lt
                        have hN2 := HRESF.out.tag
                        have hkf := ((((((Keep.refl (S := fun x => x = 0) (T := T2) (w := w6)).setCell (p := ⟨w.heap.size + 2, 0, none⟩) (fun _ => hN2) (.int .i64 (s.step + 1))).setCell (p := ⟨w.heap.size + 2, 1, none⟩) (fun _ => hN2) (.int .i64 qp)).setCell (p := ⟨w.heap.size + 2, 2, none⟩) (fun _ => hN2) (.bool qf)).setCell (p := ⟨w.heap.size + 2, 3, none⟩) (fun _ => hN2) (.bool qd)).setCell (p := ⟨w.heap.size + 2, 4, none⟩) (fun _ => hN2) (.slice VA s.vals.length vc)).setCell (p := ⟨w.heap.size + 2, 5, none⟩) (fun _ => hN2) (.slice (some ⟨G, 0, none⟩) s.vals.length s.vals.length)
                        have HRT := hid (HROF.out.retN hkf)
                        have HBF := hid (show Below w.heap.size w _ from bS (p := ⟨w.heap.size + 2, 5, none⟩) (bS (p := ⟨w.heap.size + 2, 4, none⟩) (bS (p := ⟨w.heap.size + 2, 3, none⟩) (bS (p := ⟨w.heap.size + 2, 2, none⟩) (bS (p := ⟨w.heap.size + 2, 1, none⟩) (bS (p := ⟨w.heap.size + 2, 0, none⟩) HROF.out.bl (Nat.le_add_right _ _) (.int .i64 (s.step + 1))) (Nat.le_add_right _ _) (.int .i64 qp)) (Nat.le_add_right _ _) (.bool qf)) (Nat.le_add_right _ _) (.bool qd)) (Nat.le_add_right _ _) (.slice VA s.vals.length vc)) (Nat.le_add_right _ _) (.slice (some ⟨G, 0, none⟩) s.vals.length s.vals.length))
                        clear hkf
                        go_wp2_with fail
                        rw [← HBP.out]
                        refine bodyPost_ret (v := .tuple #[.agg #[.int .i64 (s.step + 1), .int .i64 qp, .bool qf, .bool qd, .slice VA s.vals.length vc, .slice (some ⟨G, 0, none⟩) s.vals.length s.vals.length], .int .i64 0]) (by simp [results, Try.results7, go_sem, *]) rfl ?_
                        have hrt1 := HRT.out.1
                        have hrt2 := HRT.out.2
                        have hbf := HBF.out
                        rw [HVL.out] at hrt1
                        generalize ((((((World.setCell w6 ⟨w.heap.size + 2, 0, none⟩ (.int .i64 (s.step + 1))).setCell ⟨w.heap.size + 2, 1, none⟩ (.int .i64 qp)).setCell ⟨w.heap.size + 2, 2, none⟩ (.bool qf)).setCell ⟨w.heap.size + 2, 3, none⟩ (.bool qd)).setCell ⟨w.heap.size + 2, 4, none⟩ (.slice VA s.vals.length vc)).setCell ⟨w.heap.size + 2, 5, none⟩ (.slice (some ⟨G, 0, none⟩) s.vals.length s.vals.length)) = wf at *
                        rw [HNV.out, HMD.out]
                        refine ⟨VA, vc, some ⟨G, 0, none⟩, s.vals.length, m2, ?_, ?_, ?_, hrt2, hbf⟩
                        · unfold stCells
                          dsimp only
                          rw [if_neg (by rw [HA.out]; decide), HVL.out, HML2.out]
                          try rfl
                        · rw [HLS.out]; unfold lists; rw [List.map_map]; rfl
                        · dsimp only
                          rw [HVL.out]; exact hrt1
                · have hcb : (code == 0) = false := by simpa using hc
                  have hcb2 : (code != 0) = true := by simpa using hc
                  have HMD := hid (madeP_bad HPF.out hc)
                  have HBL := hid HRO.out.bl
                  clear hc hvs hml
                  go_wp2_with fail
                  go_region
                  all_goals
                    go_wp2_with fail
                    rw [← HBP.out]
                    refine bodyPost_ret (v := .tuple #[.agg #[.int .i64 0, .int .i64 0, .bool false, .bool false, .slice none 0 0, .slice none 0 0], .int .i64 code]) (by simp [results, Try.results7, go_sem, *]) rfl ?_
                    rw [HNV.out, HMD.out]
                    refine retSn_zero0 ?_
                    repeat (with_reducible first | refine bD ?_ | refine bS ?_ (by simp <;> omega) _)
                    exact HBL.out
  · have HNV := hid (HNJ.out hj)
    have hjb : (jobV j == 0) = false := by simpa using hj
    have hjb2 : (jobV j != 0) = true := by simpa using hj
    clear hj
    go_wp2_with fail
    rw [← HBP.out]
    refine bodyPost_ret (v := .tuple #[.agg #[.int .i64 0, .int .i64 0, .bool false, .bool false, .slice none 0 0, .slice none 0 0], .int .i64 (jobV j)]) (by simp [results, Try.results7, go_sem, *]) rfl ?_
    rw [HNV.out]
    refine retSn_zero0 ?_
    repeat (with_reducible first | refine bD ?_ | refine bS ?_ (by simp <;> omega) _)
    exact HB1.out
end Go.Proofs.Yteefemiieidpaaa
