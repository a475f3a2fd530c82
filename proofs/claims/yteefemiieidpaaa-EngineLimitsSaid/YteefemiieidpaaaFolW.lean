/- pacelineref.Followed. -/
import Derived.Test.YteefemiieidpaaaFolI
import Derived.Test.YteefemiieidpaaaAnsR
import Derived.Test.YteefemiieidpaaaWakeR
import Derived.Test.YteefemiieidpaaaStCopy

import Derived.Deep.DeepCutAuto
namespace Go.Proofs.Yteefemiieidpaaa
open Go.ChangeShapes Go.WideShapes Go.ChangeAt Go.RowKit
set_option linter.unusedVariables false
set_option linter.unusedSimpArgs false
theorem one_val (y : Val) : ∀ u ∈ (#[.int .i64 y.a, .int .i64 y.label] : Array Value).toList, u.oneCell' = true := by
  intro u hu
  simp at hu
  rcases hu with rfl | rfl <;> rfl
theorem lbl_push (vs : List Val) (y : Val) : lblAll (vs ++ [y]) = (lblAll vs && lblB y) := by unfold lblAll; rw [List.all_append]; simp
theorem lbl_low {k : Int} {y : Val} (h : valOk k y) : decide (y.label < 0) = !lblB y := by
  have h2 := h.2
  unfold lblB
  by_cases e : y.label = -1
  · simp [e]
  · have : ¬ y.label < 0 := by omega
    simp [e, this]
/-- Who says, as far as is known. -/
def SaidTo (j : Job) (s : State) (n k : Nat) (bs : List Bool) : Prop := bs.length = n ∧ ∀ v < n, bs[v]? = some (if v < k then (wakeAt j s v).2 else false)
theorem said_put {j : Job} {s : State} {n k : Nat} {bs : List Bool} {b : Bool} (h : SaidTo j s n k bs) (hk : k < n) (hb : (wakeAt j s k).2 = b) : SaidTo j s n (k + 1) (bs.set k b) := by
  refine ⟨by rw [List.length_set]; exact h.1, fun v hv => ?_⟩
  by_cases e : v = k
  · subst e
    rw [List.getElem?_set_self (by rw [h.1]; exact hk), if_pos (by omega), hb]
  · rw [List.getElem?_set_ne (by omega), h.2 v hv]
    by_cases h1 : v < k
    · rw [if_pos h1, if_pos (by omega)]
    · rw [if_neg h1, if_neg (by omega)]
theorem said_skip {j : Job} {s : State} {n k : Nat} {bs : List Bool} (h : SaidTo j s n k bs) (hk : k < n) (hb : (wakeAt j s k).2 = false) : SaidTo j s n (k + 1) bs := by
  refine ⟨h.1, fun v hv => ?_⟩
  rw [h.2 v hv]
  by_cases e : v = k
  · subst e; rw [if_neg (by omega), if_pos (by omega), hb]
  · by_cases h1 : v < k
    · rw [if_pos h1, if_pos (by omega)]
    · rw [if_neg h1, if_neg (by omega)]
theorem said_all {j : Job} {s : State} {n : Nat} {bs : List Bool} (h : SaidTo j s n n bs) : bs.length = n ∧ ∀ v < n, bs[v]? = some (wakeAt j s v).2 := ⟨h.1, fun v hv => by rw [h.2 v hv, if_pos hv]⟩
def totM (m : List (ML Int)) : Nat := (m.map fun x => x.l.length).sum
theorem totM_push (m : List (ML Int)) (x : ML Int) : totM (m ++ [x]) = totM m + x.l.length := by unfold totM; simp
theorem lists_push (m : List (ML Int)) (x : ML Int) : lists (m ++ [x]) = lists m ++ [x.l] := by unfold lists; simp
theorem any_totL : ∀ m : List (ML Int), anyM (lists m) = true ↔ 0 < totM m
  | [] => by simp [anyM, lists, totM]
  | x :: m => by
    have h := any_totL m
    unfold anyM lists totM at h ⊢
    simp only [List.map_cons, List.any_cons, List.sum_cons, Bool.or_eq_true, decide_eq_true_eq]
    rw [h]; omega
theorem any_tot {j : Job} {s : State} {m : List (ML Int)} {tot : Nat} (h : lists m = (List.range s.vals.length).map fun u => docRow j s u j.graph.edges) (ht : tot = totM m) : anyM (docRows j s) = true ↔ 0 < tot := by
  unfold docRows; rw [← h, ht]; exact any_totL m
/-- The first loop's rounds. -/
def FlL (N R G : Nat) (w : World) (j : Job) (s : State) (jc sc zc : Array Value) (v10 v11 : Value) (wr : World) : Prop :=
  ∃ (k : Nat) (T : Tags) (VA : Option Addr) (vc : Nat) (vs : List Val) (bs : List Bool) (op : Bool), k ≤ s.vals.length ∧ v10 = .bool op ∧ v11 = .int .i64 (k : Nat) ∧ Hid (FO N R G w wr T jc sc zc (s.step + 1) s.phase VA vc vs none 0 [] bs) ∧ Hid (vs = (newVals j s s.vals.length).take k) ∧ Hid (SaidTo j s s.vals.length k bs) ∧ Hid (op = !lblAll vs)
/-- The second loop's. -/
def FlM (N R G : Nat) (w : World) (j : Job) (s : State) (jc sc zc : Array Value) (VA : Option Addr) (vc : Nat) (bs : List Bool) (v16 v17 : Value) (wr : World) : Prop :=
  ∃ (u : Nat) (T : Tags) (MA : Option Addr) (mc : Nat) (m : List (ML Int)) (tot : Nat), u ≤ s.vals.length ∧ v17 = .int .i64 (u : Nat) ∧ v16 = .int .i64 (tot : Nat) ∧ Hid (FO N R G w wr T jc sc zc (s.step + 1) s.phase VA vc (newVals j s s.vals.length) MA mc m bs) ∧ Hid (lists m = (List.range u).map fun u => docRow j s u j.graph.edges) ∧ Hid (tot = totM m ∧ tot ≤ 1200 * u) ∧
    Hid (∀ u2 < u, ∀ e ∈ j.graph.edges, (waysV j.kind s.phase).1 = true → e.dst = (u2 : Int) → (wakeAt j s e.src.toNat).2 = true → (sayV j.kind (wakeAt j s e.src.toNat).1 s.phase e.wt).2 = 0)
/-- The third loop's. -/
def FlE (W : World) (j : Job) (s : State) (u : Nat) (v18 v19 : Value) (wq : World) : Prop :=
  ∃ (i : Nat) (A : Option Addr) (c : Nat) (l : List Int), i ≤ j.graph.edges.length ∧ v19 = .int .i64 (i : Nat) ∧ v18 = .slice A l.length c ∧ Hid (wq.ownsRow W.heap.size 3 1 (.slice A l.length c) l.length (l.flatMap i64c)) ∧ Hid (l = docRow j s u (j.graph.edges.take i)) ∧ Hid (Below W.heap.size W wq) ∧
    Hid (∀ e ∈ j.graph.edges.take i, (waysV j.kind s.phase).1 = true → e.dst = (u : Int) → (wakeAt j s e.src.toNat).2 = true → (sayV j.kind (wakeAt j s e.src.toNat).1 s.phase e.wt).2 = 0)
def SaR (W wc : World) (j : Job) (s : State) (p : Nat) (wt : Int) (b1 : Bool) (l : List Int) (v : Value) (wx : World) : Prop :=
  ∃ (A1 : Option Addr) (c1 : Nat) (l1 : List Int), v = .slice A1 l1.length c1 ∧ Hid (l1 = if b1 = true then insN (sayV j.kind (wakeAt j s p).1 s.phase wt).1 l else l) ∧ Hid (wx.ownsRow W.heap.size 3 1 (.slice A1 l1.length c1) l1.length (l1.flatMap i64c)) ∧ Hid (Below wc.heap.size wc wx) ∧ Hid (b1 = true → (sayV j.kind (wakeAt j s p).1 s.phase wt).2 = 0)
theorem flE_next {W V : World} {j : Job} {s : State} {u i p q : Nat} {wt : Int} {l l2 : List Int} {ot it b1 b2 : Bool} {A2 : Option Addr} {c2 : Nat} (hil : i < j.graph.edges.length) (hl : l = docRow j s u (j.graph.edges.take i)) (hstep : docRow j s u (j.graph.edges.take (i + 1)) = (edgeBag j s u ⟨(p : Int), (q : Int), wt⟩).foldl (fun l n => insN n l) (docRow j s u (j.graph.edges.take i)))
    (htak : j.graph.edges.take (i + 1) = j.graph.edges.take i ++ [⟨(p : Int), (q : Int), wt⟩]) (hot : ot = (waysV j.kind s.phase).1) (hit : it = (waysV j.kind s.phase).2.1) (hb1 : b1 = decide (ot = true ∧ q = u ∧ (wakeAt j s p).2 = true)) (hb2 : b2 = decide (it = true ∧ p = u ∧ (wakeAt j s q).2 = true))
    (herr : b1 = true → (sayV j.kind (wakeAt j s p).1 s.phase wt).2 = 0) (hni : ∀ e ∈ j.graph.edges.take i, (waysV j.kind s.phase).1 = true → e.dst = (u : Int) → (wakeAt j s e.src.toNat).2 = true → (sayV j.kind (wakeAt j s e.src.toNat).1 s.phase e.wt).2 = 0)
    (h2 : l2 = if b2 = true then insN (sayV j.kind (wakeAt j s q).1 s.phase wt).1 (if b1 = true then insN (sayV j.kind (wakeAt j s p).1 s.phase wt).1 l else l) else (if b1 = true then insN (sayV j.kind (wakeAt j s p).1 s.phase wt).1 l else l))
    (ho : V.ownsRow W.heap.size 3 1 (.slice A2 l2.length c2) l2.length (l2.flatMap i64c)) (hV : Below W.heap.size W V) : FlE W j s u (.slice A2 l2.length c2) (.int .i64 ((i + 1 : Nat) : Int)) V := by
  refine ⟨i + 1, A2, c2, l2, by omega, rfl, rfl, hid ho, hid ?_, hid hV, hid fun e he h3 h4 h5 => ?_⟩
  · rw [hstep, h2, ← hl]
    unfold edgeBag
    dsimp only
    rw [Int.toNat_natCast, Int.toNat_natCast, ← hot, ← hit]
    have e1 : (ot = true ∧ (q : Int) = (u : Int) ∧ (wakeAt j s p).2 = true) ↔ b1 = true := by rw [hb1, decide_eq_true_eq]; exact ⟨fun h => ⟨h.1, by omega, h.2.2⟩, fun h => ⟨h.1, by omega, h.2.2⟩⟩
    have e2 : (it = true ∧ (p : Int) = (u : Int) ∧ (wakeAt j s q).2 = true) ↔ b2 = true := by rw [hb2, decide_eq_true_eq]; exact ⟨fun h => ⟨h.1, by omega, h.2.2⟩, fun h => ⟨h.1, by omega, h.2.2⟩⟩
    simp only [e1, e2]
    cases b1 <;> cases b2 <;> rfl
  · rw [htak] at he
    rcases List.mem_append.1 he with he | he
    · exact hni e he h3 h4 h5
    · obtain rfl := List.mem_singleton.1 he
      dsimp only at h4 h5 ⊢
      rw [Int.toNat_natCast] at h5 ⊢
      exact herr (by rw [hb1, decide_eq_true_eq]; exact ⟨hot.trans h3, by omega, h5⟩)
set_option maxRecDepth 100000 in
set_option maxHeartbeats 32000000 in
theorem followed_walk (j : Job) (s : State) (w : World) (A B C : Option Addr) (c d e : Nat) (hr : Rd w w.heap.size A 3 j.graph.edges.length (j.graph.edges.flatMap Edge.cells)) (hl : j.graph.edges.length ≤ 9223372036854775807)
    (h1 : Rd w w.heap.size B 2 s.vals.length (s.vals.flatMap Val.cells)) (hn : s.vals.length * 16 ≤ 140737488355328) (g1 : Grid i64c 1 w w.heap.size C s.mail) (hg : s.mail.length * 24 ≤ 140737488355328) (hz : ∀ x ∈ s.mail, x.l.length * 8 ≤ 140737488355328) :
    Calls Try.prog 9 #[.agg #[.int .i64 j.graph.n, .slice A j.graph.edges.length c, .int .i64 j.kind, .int .i64 j.source], .agg #[.int .i64 s.step, .int .i64 s.phase, .bool s.fresh, .bool s.done, .slice B s.vals.length d, .slice C s.mail.length e]] w (RetSn w (nextP j s).1 (nextP j s).2) := by
  obtain ⟨W, hW⟩ : ∃ W, W = ((w.alloc (.cells #[.int .i64 j.graph.n, .slice A j.graph.edges.length c, .int .i64 j.kind, .int .i64 j.source] 26)).alloc (.cells #[.int .i64 s.step, .int .i64 s.phase, .bool s.fresh, .bool s.done, .slice B s.vals.length d, .slice C s.mail.length e] 30)).alloc (.cells #[.int .i64 0, .int .i64 0, .bool false, .bool false, .slice none 0 0, .slice none 0 0] 30) := ⟨_, rfl⟩
  have HB0 := hid (show Below w.heap.size w W by rw [hW]; exact bA (bA (bA (Below.refl _ _) _) _) _)
  have HW3 := hid (show W.heap.size = w.heap.size + 3 by rw [hW]; simp)
  have HOJ : Hid (TObj W (fun _ => 0) 0 w.heap.size #[.int .i64 j.graph.n, .slice A j.graph.edges.length c, .int .i64 j.kind, .int .i64 j.source] 26) := hid (by rw [hW]; exact TObj.alloc (TObj.alloc ⟨heap_alloc_new w _, rfl⟩ _) _)
  have HOS : Hid (TObj W (fun _ => 0) 0 (w.heap.size + 1) #[.int .i64 s.step, .int .i64 s.phase, .bool s.fresh, .bool s.done, .slice B s.vals.length d, .slice C s.mail.length e] 30) := hid (by rw [hW]; exact TObj.alloc ⟨by have h := heap_alloc_new (w.alloc (.cells #[.int .i64 j.graph.n, .slice A j.graph.edges.length c, .int .i64 j.kind, .int .i64 j.source] 26)) (.cells #[.int .i64 s.step, .int .i64 s.phase, .bool s.fresh, .bool s.done, .slice B s.vals.length d, .slice C s.mail.length e] 30); simpa using h, rfl⟩ _)
  have HRES : Hid (TObj W (fun _ => 0) 0 (w.heap.size + 2) #[.int .i64 0, .int .i64 0, .bool false, .bool false, .slice none 0 0, .slice none 0 0] 30) := hid ⟨by rw [hW]; have h := heap_alloc_new ((w.alloc (.cells #[.int .i64 j.graph.n, .slice A j.graph.edges.length c, .int .i64 j.kind, .int .i64 j.source] 26)).alloc (.cells #[.int .i64 s.step, .int .i64 s.phase, .bool s.fresh, .bool s.done, .slice B s.vals.length d, .slice C s.mail.length e] 30)) (.cells #[.int .i64 0, .int .i64 0, .bool false, .bool false, .slice none 0 0, .slice none 0 0] 30); simpa using h, rfl⟩
  have HCK := hid (jobFault_walk j W A c (rdb hr (by decide) HB0.out) hl)
  have HR := hid hr
  have HR1 := hid h1
  have HG1 := hid g1
  have HZ := hid hz
  have HNJ := hid (nextP_job (j := j) (s := s))
  have HNS := hid (nextP_state (j := j) (s := s))
  have HND := hid (nextP_done (j := j) (s := s))
  have HNF := hid (nextP_full (j := j) (s := s))
  have HNM := hid (nextP_made (j := j) (s := s))
  unfold jobVal at HCK
  clear hr h1 g1 hz
  go_enter Try.func9, Try.ntmps9
  generalize hBP : bodyPost Try.prog Try.f9 (RetSn w (nextP j s).1 (nextP j s).2) = BP
  have HPQ : Hid (∀ (pv : _) (a : Act) (v : World), BP (.panic pv) a v → ∀ b : Act, a.defers = b.defers → BP (.panic pv) b v) := hid fun pv a v h b hd => by
    rw [← hBP] at h ⊢
    exact ⟨hd ▸ h.1, h.2⟩
  have HBP := hid hBP
  clear hBP
  let BPX := bodyPost Try.prog Try.f9 (RetSn w (nextP j s).1 (nextP j s).2)
  go_wp2_with fail
  rw [← hW]
  clear hW
  refine HCK.out.mono ?_
  rintro e1 w1 ⟨rfl, b1⟩
  have HOJ := hid (HOJ.out.below b1)
  have HOS := hid (HOS.out.below b1)
  have HRES := hid (HRES.out.below b1)
  have HB1 := hid (bT HB0.out b1)
  have HW31 := hid (show w.heap.size + 3 ≤ w1.heap.size by have := HW3.out; have := b1.size; omega)
  clear b1 HB0 HW3 HCK
  have r0 := HRES.out.cell (i := 0) rfl
  have r1 := HRES.out.cell (i := 1) rfl
  have r2 := HRES.out.cell (i := 2) rfl
  have r3 := HRES.out.cell (i := 3) rfl
  have r4 := HRES.out.cell (i := 4) rfl
  have r5 := HRES.out.cell (i := 5) rfl
  have rf := HRES.out.free
  have hrl := HRES.out.lt
  have j0 := HOJ.out.cell (i := 0) rfl
  have j1 := HOJ.out.cell (i := 1) rfl
  have j2 := HOJ.out.cell (i := 2) rfl
  have j3 := HOJ.out.cell (i := 3) rfl
  have s0 := HOS.out.cell (i := 0) rfl
  have s1 := HOS.out.cell (i := 1) rfl
  have s2 := HOS.out.cell (i := 2) rfl
  have s3 := HOS.out.cell (i := 3) rfl
  have s4 := HOS.out.cell (i := 4) rfl
  have s5 := HOS.out.cell (i := 5) rfl
  by_cases hj : jobV j = 0
  · have HJ := hid hj
    have hjb : (jobV j == 0) = true := by simpa using hj
    have hjb2 : (jobV j != 0) = false := by simpa using hj
    have HMY := hid (stateMay_walk j hj s w1 A B C c d e (rdb HR1.out (by decide) HB1.out) (Grid.b HG1.out (by decide) HB1.out) (fun x hx => by have := HZ.out x hx; omega))
    unfold jobC stCells at HMY
    clear hj
    go_wp2_with fail
    refine HMY.out.mono ?_
    rintro e2 w2 ⟨rfl, b2⟩
    have HOJ := hid (HOJ.out.below b2)
    have HOS := hid (HOS.out.below b2)
    have HRES := hid (HRES.out.below b2)
    have HB2 := hid (bT HB1.out b2)
    have HW32 := hid (Nat.le_trans HW31.out b2.size)
    clear b2 HMY r0 r1 r2 r3 r4 r5 rf hrl j0 j1 j2 j3 s0 s1 s2 s3 s4 s5
    have r0 := HRES.out.cell (i := 0) rfl
    have r1 := HRES.out.cell (i := 1) rfl
    have r2 := HRES.out.cell (i := 2) rfl
    have r3 := HRES.out.cell (i := 3) rfl
    have r4 := HRES.out.cell (i := 4) rfl
    have r5 := HRES.out.cell (i := 5) rfl
    have rf := HRES.out.free
    have hrl := HRES.out.lt
    have s0 := HOS.out.cell (i := 0) rfl
    have s1 := HOS.out.cell (i := 1) rfl
    have s2 := HOS.out.cell (i := 2) rfl
    have s3 := HOS.out.cell (i := 3) rfl
    have s4 := HOS.out.cell (i := 4) rfl
    have s5 := HOS.out.cell (i := 5) rfl
    cases hs : stB j s with
    | false =>
      have HNV := hid (HNS.out HJ.out hs)
      clear hs
      go_wp2_with fail
      rw [← HBP.out]
      refine bodyPost_ret (v := .tuple #[.agg #[.int .i64 0, .int .i64 0, .bool false, .bool false, .slice none 0 0, .slice none 0 0], .int .i64 9]) (by simp [results, Try.results9, go_sem, *]) rfl ?_
      rw [HNV.out]
      refine retSn_zero0 ?_
      repeat (with_reducible first | refine bD ?_ | refine bS ?_ (by simp <;> omega) _)
      exact HB2.out
    | true =>
      have HST := hid (stB_ok hs)
      cases hd : s.done with
      | true =>
        have HNV := hid (HND.out HJ.out hs hd)
        rw [hd] at s3
        have HCL := hid (stateCopy_walk s w2 B C d e (rdb HR1.out (by decide) HB2.out) hn (Grid.b HG1.out (by decide) HB2.out) hg HZ.out)
        unfold stCells at HCL
        rw [hd] at HCL
        have HDN := hid hd
        clear hs hd
        go_wp2_with fail
        refine HCL.out.mono ?_
        rintro e3 w3 ⟨VA, vc, MA, mc, m, rfl, hm, hv, hgd, b3⟩
        unfold stCells
        dsimp only
        rw [HDN.out]
        have HRES := hid (HRES.out.below b3)
        have HB3 := hid (bT HB2.out b3)
        have HM := hid hm
        have HV := hid hv
        have HGD := hid hgd
        clear hm hv hgd b3 r0 r1 r2 r3 r4 r5 rf hrl
        have r0 := HRES.out.cell (i := 0) rfl
        have r1 := HRES.out.cell (i := 1) rfl
        have r2 := HRES.out.cell (i := 2) rfl
        have r3 := HRES.out.cell (i := 3) rfl
        have r4 := HRES.out.cell (i := 4) rfl
        have r5 := HRES.out.cell (i := 5) rfl
        have rf := HRES.out.free
        have hrl := HRES.out.lt
        go_wp2_with fail
        rw [← HBP.out]
        refine bodyPost_ret (v := .tuple #[.agg #[.int .i64 s.step, .int .i64 s.phase, .bool s.fresh, .bool true, .slice VA s.vals.length vc, .slice MA m.length mc], .int .i64 0]) (by simp [results, Try.results9, go_sem, *]) rfl ?_
        rw [HNV.out]
        refine ⟨VA, vc, MA, mc, m, by unfold stCells; simp [HDN.out], HM.out, ?_, ?_, ?_⟩
        · refine Part.ok.less (B := w2.heap.size) (own_part (A := VA) (sz := 2) (n := s.vals.length) (xs := s.vals.flatMap Val.cells) (e := 50) (c := vc) ?_) (by have := HW32.out; omega)
          repeat (with_reducible refine ownsRow_setCell_below ?_ (by simp; have := HW32.out; omega) _)
          exact HV.out
        · refine NewGridR.less (B := w2.heap.size) (heaped_new (e := 53) (c := mc) ?_) (by have := HW32.out; omega)
          repeat (with_reducible refine Heaped.store ?_ (by simp; have := HW32.out; omega) _)
          exact HGD.out
        · repeat (with_reducible refine bS ?_ (by simp <;> omega) _)
          exact HB3.out
      | false =>
        by_cases hst : s.step = 100000
        · have HNV := hid (HNF.out HJ.out hs hd hst)
          have hstb : (s.step == 100000) = true := by simpa using hst
          have hsge : (100000 : Int) ≤ s.step := by omega
          rw [hd] at s3
          clear hs hd hst
          go_wp2_with fail
          rw [← HBP.out]
          refine bodyPost_ret (v := .tuple #[.agg #[.int .i64 0, .int .i64 0, .bool false, .bool false, .slice none 0 0, .slice none 0 0], .int .i64 10]) (by simp [results, Try.results9, go_sem, *]) rfl ?_
          rw [HNV.out]
          refine retSn_zero0 ?_
          repeat (with_reducible first | refine bD ?_ | refine bS ?_ (by simp <;> omega) _)
          exact HB2.out
        · have HNV := hid (HNM.out HJ.out hs hd hst)
          have hso := HST.out
          have hn0 := jobV_n HJ.out
          have hnl : (s.vals.length : Int) = j.graph.n := hso.2.2.1
          have hml : (s.mail.length : Int) = j.graph.n := hso.2.2.2.1
          have hv200 : s.vals.length ≤ 200 := by omega
          have hsp : 0 ≤ s.step ∧ s.step ≤ 99999 := by have := hso.1; omega
          have hsge : ¬ (100000 : Int) ≤ s.step := by omega
          have HJN := hid hnl.symm
          have HMLN := hid (show s.mail.length = s.vals.length by omega)
          have hgr := jobV_graph HJ.out
          have hel : j.graph.edges.length ≤ 600 := hgr.1.2.2
          have HEO := hid hgr.2
          have HE := hid (show ∀ e ∈ j.graph.edges, (0 ≤ e.src ∧ e.src < s.vals.length ∧ 0 ≤ e.dst ∧ e.dst < s.vals.length) ∧ 0 ≤ e.wt ∧ e.wt ≤ 1099511627776 from fun e he => by have := hgr.2 e he; unfold edgeOk at this; omega)
          have j0 := HOJ.out.cell (i := 0) rfl
          have j1 := HOJ.out.cell (i := 1) rfl
          have j2 := HOJ.out.cell (i := 2) rfl
          have j3 := HOJ.out.cell (i := 3) rfl
          rw [← hnl] at j0
          rw [hd] at s3
          have HOJN : Hid (TObj w2 (fun _ => 0) 0 w.heap.size #[.int .i64 (s.vals.length : Nat), .slice A j.graph.edges.length c, .int .i64 j.kind, .int .i64 j.source] 26) := hid (by rw [← HJN.out]; exact HOJ.out)
          have HOSN : Hid (TObj w2 (fun _ => 0) 0 (w.heap.size + 1) #[.int .i64 s.step, .int .i64 s.phase, .bool s.fresh, .bool false, .slice B s.vals.length d, .slice C s.mail.length e] 30) := hid (by have h := HOS.out; rw [hd] at h; exact h)
          have hw1 : IntKind.i64.wrap (s.step + 1) = s.step + 1 := IntWalk.i64_in _ (by omega)
          clear hs hd hst hso hnl hml hgr
          go_wp2_with (refine wp_make1 rfl rfl Try.underlying59 inf_bool rfl s.vals.length rfl rfl (by omega) (by omega) ?_; intro w3 o3 b3 hz3)
          obtain ⟨R, hR⟩ : ∃ R, R = w2.heap.size := ⟨_, rfl⟩
          obtain ⟨G, hG⟩ : ∃ G, G = w2.heap.size + 1 := ⟨_, rfl⟩
          obtain ⟨T0, HFO0⟩ : ∃ T0 : Tags, Hid (FO w.heap.size R G w w3 T0 #[.int .i64 (s.vals.length : Nat), .slice A j.graph.edges.length c, .int .i64 j.kind, .int .i64 j.source] #[.int .i64 s.step, .int .i64 s.phase, .bool s.fresh, .bool false, .slice B s.vals.length d, .slice C s.mail.length e] #[.int .i64 0, .int .i64 0, .bool false, .bool false, .slice none 0 0, .slice none 0 0] (s.step + 1) s.phase none 0 [] none 0 [] (List.replicate s.vals.length false)) := by
            have hbb := bT (bA (Below.refl w2.heap.size w2) (.cells #[.int .i64 (s.step + 1), .int .i64 s.phase, .bool false, .bool false, .slice none 0 0, .slice none 0 0] 30)) b3
            have h9 := FO.init (N := w.heap.size) (R := R) (G := G) (w := w) (wr := w3) (jc := #[.int .i64 (s.vals.length : Nat), .slice A j.graph.edges.length c, .int .i64 j.kind, .int .i64 j.source]) (sc := #[.int .i64 s.step, .int .i64 s.phase, .bool s.fresh, .bool false, .slice B s.vals.length d, .slice C s.mail.length e]) (zc := #[.int .i64 0, .int .i64 0, .bool false, .bool false, .slice none 0 0, .slice none 0 0]) (st := s.step + 1) (ph := s.phase) (j := j) (n := s.vals.length) (by rw [hR, b3.block _ (by simp)]; exact heap_alloc_new w2 _) (by have h := own_more (base' := w.heap.size + 3) o3 (by simp; have := HW32.out; omega); rw [hG]; simpa using h) (by omega) (by have := HW32.out; omega) (HOJN.out.below hbb) (HOSN.out.below hbb) (HRES.out.below hbb) (bT HB2.out hbb)
            exact ⟨h9.choose, hid h9.choose_spec⟩
          rw [← hG, ← hR]
          have HREQ := hid hR
          have HGEQ := hid hG
          clear hR hG
          clear o3 b3 hz3 r0 r1 r2 r3 r4 r5 rf hrl j0 j1 j2 j3 s0 s1 s2 s3 s4 s5 HOJ HOS HRES HOJN HOSN
          go_loopw [10, 11] (fun v10 v11 wr => FlL w.heap.size R G w j s #[.int .i64 (s.vals.length : Nat), .slice A j.graph.edges.length c, .int .i64 j.kind, .int .i64 j.source] #[.int .i64 s.step, .int .i64 s.phase, .bool s.fresh, .bool false, .slice B s.vals.length d, .slice C s.mail.length e] #[.int .i64 0, .int .i64 0, .bool false, .bool false, .slice none 0 0, .slice none 0 0] v10 v11 wr) (fun _ v11 _ => s.vals.length - (intOf v11).toNat)
          case atStart => exact ⟨0, T0, none, 0, [], List.replicate s.vals.length false, false, Nat.zero_le _, rfl, rfl, HFO0, hid rfl, hid ⟨by simp, fun v hv => by rw [List.getElem?_replicate, if_pos hv, if_neg (by omega)]⟩, hid rfl⟩
          case round =>
            clear HFO0
            obtain ⟨k, T, VA, vc, vs, bs, op, hk, rfl, rfl, HFO, HVS, HBS, HOP⟩ := hrel
            by_cases hlt : k < s.vals.length
            · obtain ⟨x, hx⟩ : ∃ x, s.vals[k]? = some x := ⟨_, List.getElem?_eq_getElem hlt⟩
              obtain ⟨r, hr⟩ : ∃ r, s.mail[k]? = some r := ⟨_, List.getElem?_eq_getElem (by rw [HMLN.out]; exact hlt)⟩
              obtain ⟨bb, bo, hBA, hbbl, c0, c1⟩ := vcells (HR1.out.below HFO.out.bl) rfl hx
              obtain ⟨cb, co, hCA, hcbl, d0⟩ := ml_cell (HG1.out.1.below HFO.out.bl) rfl hr
              subst hBA hCA
              have hrow := Rd.below (Grid.data HG1.out (List.mem_of_getElem? hr)) HFO.out.bl
              have hkz : (k : Int) < (s.vals.length : Int) := by omega
              have hkm : (k : Int) < (s.mail.length : Int) := by have := HMLN.out; omega
              have hNs := HFO.out.size
              have hbw : bb < wr.heap.size := by omega
              have hcw : cb < wr.heap.size := by omega
              have HWA : Hid (wakeAt j s k = if s.fresh = true ∨ 0 < r.l.length then ((wakeV j.kind k j.source x s.phase s.fresh r.l).1, (wakeV j.kind k j.source x s.phase s.fresh r.l).2.1) else (x, false)) := hid (by unfold wakeAt; rw [hx, hr])
              have HWOK := hid (wakeAt_ok HJ.out HST.out k)
              have hrz := HZ.out r (List.mem_of_getElem? hr)
              have hvl : vs.length = k := by rw [HVS.out, List.length_take, newVals_len]; omega
              have hn1 : (vs.length + 1) * 16 ≤ 140737488355328 := by omega
              have hbl := HBS.out.1
              have hkbs : (k : Int) < (bs.length : Int) := by omega
              have HVL := hid hvl
              have HBL := hid hbl
              clear hvl hbl
              have HYT0 := hid (show (newVals j s s.vals.length).take (k + 1) = vs ++ [(wakeAt j s k).1] by rw [take_nextV (newVals_at hlt), ← HVS.out])
              -- the value's box
              have HF4 := hid (HFO.out.below (bA (Below.refl _ _) (.cells #[.int .i64 x.a, .int .i64 x.label] 50)) (T' := upd wr.heap.size T 5) (agree_upd (Nat.le_refl _)))
              have HX4 := hid (TObj.new wr T 5 #[.int .i64 x.a, .int .i64 x.label] 50)
              obtain ⟨W4, hW4⟩ : ∃ W4, W4 = wr.alloc (.cells #[.int .i64 x.a, .int .i64 x.label] 50) := ⟨_, rfl⟩
              rw [← hW4] at HF4 HX4
              have HBW4 := hid (show Below wr.heap.size wr W4 by rw [hW4]; exact bA (Below.refl _ _) _)
              have s2o := HFO.out.sto.cell (i := 2) rfl
              have s4o := HFO.out.sto.cell (i := 4) rfl
              have s5o := HFO.out.sto.cell (i := 5) rfl
              have hN1 : w.heap.size + 1 < wr.heap.size := HFO.out.sto.lt
              by_cases hsk : s.fresh = false ∧ r.l.length = 0
              · have hW := HWA.out
                rw [if_neg (by rw [hsk.1]; simp [hsk.2])] at hW
                obtain ⟨y, hy⟩ : ∃ y, y = x := ⟨_, rfl⟩
                rw [hW] at HYT0 HWOK
                rw [← hy] at HYT0 HWOK
                have HYT := hid HYT0.out.symm
                have HFT := HF4
                have HXT := HX4
                rw [← hy] at HXT
                have HLB := hid (lbl_low HWOK.out.1)
                have HBT := hid (said_skip HBS.out hlt (by rw [hW]) : SaidTo j s s.vals.length (k + 1) bs)
                have hrb : ((r.l.length : Int) == 0) = true := by simp [hsk.2]
                have hrp : (decide ((0 : Int) < (r.l.length : Int))) = false := by simp [hsk.2]
                rw [hsk.1] at s2o
                have hr0 := hsk.2
                have s2w := HF4.out.sto.cell (i := 2) rfl
                have s5w := HF4.out.sto.cell (i := 5) rfl
                rw [hsk.1] at s2w
                have d0w := keepb HBW4.out d0
                clear hx hr hsk hW hy
                go_upto_region 20 with fail
                rw [← hW4]
                clear hW4 s2o s4o s5o s2w s5w d0w c0 c1 d0
                have r4 := HFT.out.obj.cell (i := 4) rfl
                have rf := HFT.out.obj.free
                have x0 := HXT.out.cell (i := 0) (v := .int .i64 y.a) rfl
                have x1 := HXT.out.cell (i := 1) (v := .int .i64 y.label) rfl
                have hRl := HFT.out.obj.lt
                have hXl := HXT.out.lt
                have hXR : wr.heap.size ≠ R := fun h => by have h1 := HXT.out.tag; have h2 := HFT.out.obj.tag; rw [← h, h1] at h2; omega
                cases op with
                | true =>
                  go_wp2_with (at_builtin; refine wp_appT _ rfl rfl el_vals rfl ((HFT.out.below (bA (Below.refl _ _) _) Agree.refl).vals) rfl (rd_newAt _ _ _ 2 1 _ (by simp) rfl) (one_val y) hn1 ?_; intro A5 c5 w5 o5 k5; have HP5 := hid (FO.pushVal (x := y) HFT.out (agree_upd (by simp)) o5 ((Keep.below (bA (Below.refl _ _) _)).trans k5 Agree.refl)); have x1 := ((HXT.out.alloc _).keep k5 (by omega) Agree.refl).cell (i := 1) (v := .int .i64 y.label) rfl; have rf := ((HFT.out.below (bA (Below.refl _ _) _) Agree.refl).obj.keep k5 (by omega) Agree.refl).free; have r4 := ((HFT.out.below (bA (Below.refl _ _) _) Agree.refl).obj.keep k5 (by omega) Agree.refl).cell (i := 4) rfl; have hRl := ((HFT.out.below (bA (Below.refl _ _) _) Agree.refl).obj.keep k5 (by omega) Agree.refl).lt; have x1s := cellR (v := .slice A5 (vs.length + 1) c5) (b' := R) (o' := 4) x1 (.inl hXR); clear o5 k5)
                  go_roundw
                  case rel => exact ⟨k + 1, _, A5, c5, vs ++ [y], _, true, by omega, rfl, by go_num, HP5, hid HYT.out, HBT, hid (by have h := HOP.out; rw [lbl_push]; revert h; cases lblAll vs <;> simp)⟩
                  case measure => simp [intOf]; omega
                | false =>
                  go_wp2_with (at_builtin; refine wp_appT _ rfl rfl el_vals rfl ((HFT.out.below (bA (Below.refl _ _) _) Agree.refl).vals) rfl (rd_newAt _ _ _ 2 1 _ (by simp) rfl) (one_val y) hn1 ?_; intro A5 c5 w5 o5 k5; have HP5 := hid (FO.pushVal (x := y) HFT.out (agree_upd (by simp)) o5 ((Keep.below (bA (Below.refl _ _) _)).trans k5 Agree.refl)); have x1 := ((HXT.out.alloc _).keep k5 (by omega) Agree.refl).cell (i := 1) (v := .int .i64 y.label) rfl; have rf := ((HFT.out.below (bA (Below.refl _ _) _) Agree.refl).obj.keep k5 (by omega) Agree.refl).free; have r4 := ((HFT.out.below (bA (Below.refl _ _) _) Agree.refl).obj.keep k5 (by omega) Agree.refl).cell (i := 4) rfl; have hRl := ((HFT.out.below (bA (Below.refl _ _) _) Agree.refl).obj.keep k5 (by omega) Agree.refl).lt; have x1s := cellR (v := .slice A5 (vs.length + 1) c5) (b' := R) (o' := 4) x1 (.inl hXR); clear o5 k5)
                  go_roundw
                  case rel => exact ⟨k + 1, _, A5, c5, vs ++ [y], _, _, by omega, rfl, by go_num, HP5, hid HYT.out, HBT, hid (by have h := HOP.out; rw [lbl_push, HLB.out]; revert h; cases lblAll vs <;> simp)⟩
                  case measure => simp [intOf]; omega
              · have hW := HWA.out
                rw [if_pos (by
                  rcases Nat.eq_zero_or_pos r.l.length with h0 | h0
                  · left; cases hf : s.fresh with
                    | true => rfl
                    | false => exact absurd ⟨hf, h0⟩ hsk
                  · exact .inr h0)] at hW
                have HWK := hid (fun (V : World) (hV : Below W4.heap.size W4 V) => woken_walk j.kind k j.source x s.phase s.fresh r.l V r.A r.c (rdb hrow (by decide) (Below.trans (HBW4.out.mono (by omega)) (hV.mono (by have := HBW4.out.size; omega)))) hrz)
                have HWE := hid hW
                generalize wakeV j.kind k j.source x s.phase s.fresh r.l = z at *
                obtain ⟨y, sd, er⟩ := z
                have HWE2 := hid (show wakeAt j s k = (y, sd) from HWE.out)
                rw [HWE2.out] at HYT0 HWOK
                have HYT := hid HYT0.out.symm
                have HLB := hid (lbl_low HWOK.out.1)
                have j1 := HF4.out.jobo.cell (i := 1) rfl
                have j2 := HF4.out.jobo.cell (i := 2) rfl
                have j3 := HF4.out.jobo.cell (i := 3) rfl
                have x0 := HX4.out.cell (i := 0) rfl
                have x1 := HX4.out.cell (i := 1) rfl
                have s1 := HF4.out.sto.cell (i := 1) rfl
                have s2 := HF4.out.sto.cell (i := 2) rfl
                have s4 := HF4.out.sto.cell (i := 4) rfl
                have s5 := HF4.out.sto.cell (i := 5) rfl
                have hgk : (bs.map Value.bool)[k]? = some (.bool (bs[k]'(by have := HBL.out; omega))) := by rw [List.getElem?_map, List.getElem?_eq_getElem (by have := HBL.out; omega)]; rfl
                have gk := (own_at HF4.out.said.1 hgk).1
                have gf : ∀ o, W4.frozen? ⟨G, o, none⟩ = false := (HF4.out.said.head (by have := HBL.out; omega)).elim fun g hg => by
                  obtain ⟨e1, _, _, _, h5⟩ := hg
                  injection e1 with e1
                  injection e1 with e1
                  subst e1
                  exact h5
                have hGX : G ≠ wr.heap.size := fun h => by have h1 := HF4.out.said.2 G rfl; rw [h, upd_new (Nat.le_refl _)] at h1; cases h1
                have d0o := d0
                have c0o := c0
                have c1o := c1
                have d0 := keepb HBW4.out d0
                have c0 := keepb HBW4.out c0
                have c1 := keepb HBW4.out c1
                clear hx hr hW hrow hgk
                cases hf : s.fresh with
                | true =>
                  rw [hf] at s2 s2o HWK
                  have HF := hid hf
                  clear hf hsk
                  have HK : Hid (∀ V, Below W4.heap.size W4 V → ((fun V => Below W4.heap.size W4 V ∧ (V.cell? ⟨w.heap.size, 1, none⟩ = some (.slice A j.graph.edges.length c) ∧ V.cell? ⟨w.heap.size, 2, none⟩ = some (.int .i64 j.kind) ∧ V.cell? ⟨w.heap.size, 3, none⟩ = some (.int .i64 j.source)) ∧ (V.cell? ⟨bb, bo + k * 2, none⟩ = some (.int .i64 x.a) ∧ V.cell? ⟨bb, bo + k * 2 + 1, none⟩ = some (.int .i64 x.label)) ∧ (V.cell? ⟨w.heap.size + 1, 1, none⟩ = some (.int .i64 s.phase) ∧ V.cell? ⟨w.heap.size + 1, 2, none⟩ = some (.bool true) ∧ V.cell? ⟨w.heap.size + 1, 4, none⟩ = some (.slice (some ⟨bb, bo, none⟩) s.vals.length d) ∧ V.cell? ⟨w.heap.size + 1, 5, none⟩ = some (.slice (some ⟨cb, co, none⟩) s.mail.length e)) ∧ V.cell? ⟨cb, co + k, none⟩ = some (.slice r.A r.l.length r.c)) : World → Prop) V) := hid fun V hV => ⟨hV, ⟨keepb hV j1, keepb hV j2, keepb hV j3⟩, ⟨keepb hV c0, keepb hV c1⟩, ⟨keepb hV s1, keepb hV s2, keepb hV s4, keepb hV s5⟩, keepb hV d0⟩
                  go_wp2_with fail
                  rw [← hW4]
                  clear hW4
                  refine wp_region_F (S := (fun V => Below W4.heap.size W4 V ∧ (V.cell? ⟨w.heap.size, 1, none⟩ = some (.slice A j.graph.edges.length c) ∧ V.cell? ⟨w.heap.size, 2, none⟩ = some (.int .i64 j.kind) ∧ V.cell? ⟨w.heap.size, 3, none⟩ = some (.int .i64 j.source)) ∧ (V.cell? ⟨bb, bo + k * 2, none⟩ = some (.int .i64 x.a) ∧ V.cell? ⟨bb, bo + k * 2 + 1, none⟩ = some (.int .i64 x.label)) ∧ (V.cell? ⟨w.heap.size + 1, 1, none⟩ = some (.int .i64 s.phase) ∧ V.cell? ⟨w.heap.size + 1, 2, none⟩ = some (.bool true) ∧ V.cell? ⟨w.heap.size + 1, 4, none⟩ = some (.slice (some ⟨bb, bo, none⟩) s.vals.length d) ∧ V.cell? ⟨w.heap.size + 1, 5, none⟩ = some (.slice (some ⟨cb, co, none⟩) s.mail.length e)) ∧ V.cell? ⟨cb, co + k, none⟩ = some (.slice r.A r.l.length r.c))) [26, 28] (by kernel_rfl) (HK.out _ (bD (Below.refl _ _))) (fun hHeld => ?_)
                  refine wpAnyF_pure (i := 0) (v := ?vg3_1_0) rfl (by kernel_rfl) (by kernel_rfl) (by kernel_rfl) (fun _ _ _ h => HPQ.out _ _ _ h _ rfl) (Or.inl ⟨by rfl, ?hyg3_1_0⟩) ?restg3_1_0
                  case hyg3_1_0 => (intro w hSw; clear hSw; go_simp; (all_goals with_reducible rfl))
                  try simp only [Act.put, List.setIfInBounds_toArray, List.set_cons_zero, List.set_cons_succ, List.getElem_toArray, List.getElem_cons_succ, List.getElem_cons_zero]
                  refine wpAnyF_pure (i := 1) (v := ?vg3_2_1) rfl (by kernel_rfl) (by kernel_rfl) (by kernel_rfl) (fun _ _ _ h => HPQ.out _ _ _ h _ rfl) (Or.inl ⟨by rfl, ?hyg3_2_1⟩) ?restg3_2_1
                  case hyg3_2_1 => (intro w hSw; clear hSw; go_simp; (all_goals with_reducible rfl))
                  try simp only [Act.put, List.setIfInBounds_toArray, List.set_cons_zero, List.set_cons_succ, List.getElem_toArray, List.getElem_cons_succ, List.getElem_cons_zero]
                  refine wpAnyF_pure (i := 2) (v := ?vg3_3_2) rfl (by kernel_rfl) (by kernel_rfl) (by kernel_rfl) (fun _ _ _ h => HPQ.out _ _ _ h _ rfl) (Or.inl ⟨by rfl, ?hyg3_3_2⟩) ?restg3_3_2
                  case hyg3_3_2 => (intro w hSw; clear hSw; go_simp; (all_goals with_reducible rfl))
                  try simp only [Act.put, List.setIfInBounds_toArray, List.set_cons_zero, List.set_cons_succ, List.getElem_toArray, List.getElem_cons_succ, List.getElem_cons_zero]
                  refine wpAnyF_pure (i := 4) (v := ?vg3_4_4) rfl (by kernel_rfl) (by kernel_rfl) (by kernel_rfl) (fun _ _ _ h => HPQ.out _ _ _ h _ rfl) (Or.inl ⟨by rfl, ?hyg3_4_4⟩) ?restg3_4_4
                  case hyg3_4_4 => (intro w hSw; clear hSw; go_simp; (all_goals with_reducible rfl))
                  try simp only [Act.put, List.setIfInBounds_toArray, List.set_cons_zero, List.set_cons_succ, List.getElem_toArray, List.getElem_cons_succ, List.getElem_cons_zero]
                  refine wpAnyF_pure (i := 5) (v := ?vg3_5_5) rfl (by kernel_rfl) (by kernel_rfl) (by kernel_rfl) (fun _ _ _ h => HPQ.out _ _ _ h _ rfl) (Or.inl ⟨by rfl, ?hyg3_5_5⟩) ?restg3_5_5
                  case hyg3_5_5 => (intro w hSw; clear hSw; go_simp; (all_goals with_reducible rfl))
                  try simp only [Act.put, List.setIfInBounds_toArray, List.set_cons_zero, List.set_cons_succ, List.getElem_toArray, List.getElem_cons_succ, List.getElem_cons_zero]
                  refine wpAnyF_pure (i := 7) (v := ?vg3_6_7) rfl (by kernel_rfl) (by kernel_rfl) (by kernel_rfl) (fun _ _ _ h => HPQ.out _ _ _ h _ rfl) (Or.inl ⟨by rfl, ?hyg3_6_7⟩) ?restg3_6_7
                  case hyg3_6_7 => (intro w hSw; clear hSw; go_simp; (all_goals with_reducible rfl))
                  try simp only [Act.put, List.setIfInBounds_toArray, List.set_cons_zero, List.set_cons_succ, List.getElem_toArray, List.getElem_cons_succ, List.getElem_cons_zero]
                  refine wpAnyF_pure (i := 9) (v := ?vg3_7_9) rfl (by kernel_rfl) (by kernel_rfl) (by kernel_rfl) (fun _ _ _ h => HPQ.out _ _ _ h _ rfl) (Or.inl ⟨by rfl, ?hyg3_7_9⟩) ?restg3_7_9
                  case hyg3_7_9 => (intro w hSw; clear hSw; go_simp; (all_goals with_reducible rfl))
                  try simp only [Act.put, List.setIfInBounds_toArray, List.set_cons_zero, List.set_cons_succ, List.getElem_toArray, List.getElem_cons_succ, List.getElem_cons_zero]
                  refine wpAnyF_pure (i := 12) (v := ?vg3_8_12) rfl (by kernel_rfl) (by kernel_rfl) (by kernel_rfl) (fun _ _ _ h => HPQ.out _ _ _ h _ rfl) (Or.inl ⟨by rfl, ?hyg3_8_12⟩) ?restg3_8_12
                  case hyg3_8_12 => (intro w hSw; clear hSw; go_simp; (all_goals with_reducible rfl))
                  try simp only [Act.put, List.setIfInBounds_toArray, List.set_cons_zero, List.set_cons_succ, List.getElem_toArray, List.getElem_cons_succ, List.getElem_cons_zero]
                  refine wpAnyF_pure (i := 14) (v := ?vg3_9_14) rfl (by kernel_rfl) (by kernel_rfl) (by kernel_rfl) (fun _ _ _ h => HPQ.out _ _ _ h _ rfl) (Or.inl ⟨by rfl, ?hyg3_9_14⟩) ?restg3_9_14
                  case hyg3_9_14 => (intro w hSw; clear hSw; go_simp; (all_goals with_reducible rfl))
                  try simp only [Act.put, List.setIfInBounds_toArray, List.set_cons_zero, List.set_cons_succ, List.getElem_toArray, List.getElem_cons_succ, List.getElem_cons_zero]
                  refine wpAnyF_pure (i := 16) (v := ?vg3_10_16) rfl (by kernel_rfl) (by kernel_rfl) (by kernel_rfl) (fun _ _ _ h => HPQ.out _ _ _ h _ rfl) (Or.inl ⟨by rfl, ?hyg3_10_16⟩) ?restg3_10_16
                  case hyg3_10_16 => (intro w hSw; clear hSw; go_simp; (all_goals with_reducible rfl))
                  try simp only [Act.put, List.setIfInBounds_toArray, List.set_cons_zero, List.set_cons_succ, List.getElem_toArray, List.getElem_cons_succ, List.getElem_cons_zero]
                  refine wpAnyF_pure (i := 18) (v := ?vg3_11_18) rfl (by kernel_rfl) (by kernel_rfl) (by kernel_rfl) (fun _ _ _ h => HPQ.out _ _ _ h _ rfl) (Or.inl ⟨by rfl, ?hyg3_11_18⟩) ?restg3_11_18
                  case hyg3_11_18 => (intro w hSw; clear hSw; go_simp; (all_goals with_reducible rfl))
                  try simp only [Act.put, List.setIfInBounds_toArray, List.set_cons_zero, List.set_cons_succ, List.getElem_toArray, List.getElem_cons_succ, List.getElem_cons_zero]
                  refine wpAnyF_take [21, 22, 23, 24, 25, 26, 27, 28] (i := 3) (v := ?vg3_12_3) rfl (by kernel_rfl) (by kernel_rfl) (by kernel_rfl) (by kernel_rfl) (fun _ _ _ h => HPQ.out _ _ _ h _ rfl) (Or.inl ⟨by rfl, ?hyg3_12_3⟩) (by assumption) ?restg3_12_3
                  case hyg3_12_3 => (intro w hSw; (try dsimp only at hSw); go_simp; (all_goals with_reducible rfl))
                  try simp only [Act.put, List.setIfInBounds_toArray, List.set_cons_zero, List.set_cons_succ, List.getElem_toArray, List.getElem_cons_succ, List.getElem_cons_zero]
                  refine wpAnyF_take [21, 22, 23, 24, 25, 26, 27, 28] (i := 6) (v := ?vg3_13_6) rfl (by kernel_rfl) (by kernel_rfl) (by kernel_rfl) (by kernel_rfl) (fun _ _ _ h => HPQ.out _ _ _ h _ rfl) (Or.inl ⟨by rfl, ?hyg3_13_6⟩) (by assumption) ?restg3_13_6
                  case hyg3_13_6 => (intro w hSw; (try dsimp only at hSw); go_simp; (all_goals with_reducible rfl))
                  try simp only [Act.put, List.setIfInBounds_toArray, List.set_cons_zero, List.set_cons_succ, List.getElem_toArray, List.getElem_cons_succ, List.getElem_cons_zero]
                  refine wpAnyF_take [10, 11, 21, 22, 23, 24, 25, 26, 27, 28] (i := 8) (v := ?vg3_14_8) rfl (by kernel_rfl) (by kernel_rfl) (by kernel_rfl) (by kernel_rfl) (fun _ _ _ h => HPQ.out _ _ _ h _ rfl) (Or.inl ⟨by rfl, ?hyg3_14_8⟩) (by assumption) ?restg3_14_8
                  case hyg3_14_8 => (intro w hSw; (try dsimp only at hSw); go_simp; (all_goals with_reducible rfl))
                  try simp only [Act.put, List.setIfInBounds_toArray, List.set_cons_zero, List.set_cons_succ, List.getElem_toArray, List.getElem_cons_succ, List.getElem_cons_zero]
                  refine wpAnyF_pure (i := 10) (v := ?vg3_15_10) rfl (by kernel_rfl) (by kernel_rfl) (by kernel_rfl) (fun _ _ _ h => HPQ.out _ _ _ h _ rfl) (Or.inl ⟨by rfl, ?hyg3_15_10⟩) ?restg3_15_10
                  case hyg3_15_10 => (intro w hSw; clear hSw; go_simp; (all_goals with_reducible rfl))
                  try simp only [Act.put, List.setIfInBounds_toArray, List.set_cons_zero, List.set_cons_succ, List.getElem_toArray, List.getElem_cons_succ, List.getElem_cons_zero]
                  refine wpAnyF_take [21, 22, 23, 24, 25, 26, 27, 28] (i := 11) (v := ?vg3_16_11) rfl (by kernel_rfl) (by kernel_rfl) (by kernel_rfl) (by kernel_rfl) (fun _ _ _ h => HPQ.out _ _ _ h _ rfl) (Or.inl ⟨by rfl, ?hyg3_16_11⟩) (by assumption) ?restg3_16_11
                  case hyg3_16_11 => (intro w hSw; (try dsimp only at hSw); go_simp; (all_goals with_reducible rfl))
                  try simp only [Act.put, List.setIfInBounds_toArray, List.set_cons_zero, List.set_cons_succ, List.getElem_toArray, List.getElem_cons_succ, List.getElem_cons_zero]
                  refine wpAnyF_take [21, 22, 23, 24, 25, 26, 27, 28] (i := 13) (v := ?vg3_17_13) rfl (by kernel_rfl) (by kernel_rfl) (by kernel_rfl) (by kernel_rfl) (fun _ _ _ h => HPQ.out _ _ _ h _ rfl) (Or.inl ⟨by rfl, ?hyg3_17_13⟩) (by assumption) ?restg3_17_13
                  case hyg3_17_13 => (intro w hSw; (try dsimp only at hSw); go_simp; (all_goals with_reducible rfl))
                  try simp only [Act.put, List.setIfInBounds_toArray, List.set_cons_zero, List.set_cons_succ, List.getElem_toArray, List.getElem_cons_succ, List.getElem_cons_zero]
                  refine wpAnyF_take [21, 22, 23, 24, 25, 26, 27, 28] (i := 15) (v := ?vg3_18_15) rfl (by kernel_rfl) (by kernel_rfl) (by kernel_rfl) (by kernel_rfl) (fun _ _ _ h => HPQ.out _ _ _ h _ rfl) (Or.inl ⟨by rfl, ?hyg3_18_15⟩) (by assumption) ?restg3_18_15
                  case hyg3_18_15 => (intro w hSw; (try dsimp only at hSw); go_simp; (all_goals with_reducible rfl))
                  try simp only [Act.put, List.setIfInBounds_toArray, List.set_cons_zero, List.set_cons_succ, List.getElem_toArray, List.getElem_cons_succ, List.getElem_cons_zero]
                  refine wpAnyF_take [19, 20, 21, 22, 23, 24, 25, 26, 27, 28] (i := 17) (v := ?vg3_19_17) rfl (by kernel_rfl) (by kernel_rfl) (by kernel_rfl) (by kernel_rfl) (fun _ _ _ h => HPQ.out _ _ _ h _ rfl) (Or.inl ⟨by rfl, ?hyg3_19_17⟩) (by assumption) ?restg3_19_17
                  case hyg3_19_17 => (intro w hSw; (try dsimp only at hSw); go_simp; (all_goals with_reducible rfl))
                  try simp only [Act.put, List.setIfInBounds_toArray, List.set_cons_zero, List.set_cons_succ, List.getElem_toArray, List.getElem_cons_succ, List.getElem_cons_zero]
                  refine wpAnyF_pure (i := 19) (v := ?vg3_20_19) rfl (by kernel_rfl) (by kernel_rfl) (by kernel_rfl) (fun _ _ _ h => HPQ.out _ _ _ h _ rfl) (Or.inl ⟨by rfl, ?hyg3_20_19⟩) ?restg3_20_19
                  case hyg3_20_19 => (intro w hSw; clear hSw; go_simp; (all_goals with_reducible rfl))
                  try simp only [Act.put, List.setIfInBounds_toArray, List.set_cons_zero, List.set_cons_succ, List.getElem_toArray, List.getElem_cons_succ, List.getElem_cons_zero]
                  refine wpAnyF_take [21, 22, 23, 24, 25, 26, 27, 28] (i := 20) (v := ?vg3_21_20) rfl (by kernel_rfl) (by kernel_rfl) (by kernel_rfl) (by kernel_rfl) (fun _ _ _ h => HPQ.out _ _ _ h _ rfl) (Or.inl ⟨by rfl, ?hyg3_21_20⟩) (by assumption) ?restg3_21_20
                  case hyg3_21_20 => (intro w hSw; (try dsimp only at hSw); go_simp; (all_goals with_reducible rfl))
                  try simp only [Act.put, List.setIfInBounds_toArray, List.set_cons_zero, List.set_cons_succ, List.getElem_toArray, List.getElem_cons_succ, List.getElem_cons_zero]
                  refine wpAnyF_one (i := 21) (by kernel_rfl) rfl (fun K hK => ?_)
                  go_simp
                  go_at_call 28
                  refine (HWK.out _ hHeld.1).mono ?_
                  rintro e9 v9 ⟨rfl, b9⟩
                  have HB9 := hid (bT hHeld.1 b9)
                  have z0 := keepb HB9.out x0
                  have z1 := keepb HB9.out x1
                  have zf : ∀ o, v9.frozen? ⟨wr.heap.size, o, none⟩ = false := fun o => keepf HB9.out (HX4.out.free o) HX4.out.lt
                  have zl : wr.heap.size < v9.heap.size := World.block_lt_of_cell? _ _ z0
                  have zg := keepb HB9.out gk
                  have zGl : G < W4.heap.size := World.block_lt_of_cell? _ _ gk
                  have zgf : ∀ o, v9.frozen? ⟨G, o, none⟩ = false := fun o => keepf HB9.out (gf o) zGl
                  have zgl : G < v9.heap.size := World.block_lt_of_cell? _ _ zg
                  have zg2 := cellR (V := v9.setCell ⟨wr.heap.size, 0, none⟩ (.int .i64 y.a)) (b' := wr.heap.size) (o' := 1) (v := .int .i64 y.label) (cellR (b' := wr.heap.size) (o' := 0) (v := .int .i64 y.a) zg (.inl hGX)) (.inl hGX)
                  go_wp2_with fail
                  refine hK.out _ _ (HK.out _ HB9.out) (fun hHeld => ?_)
                  clear hK K
                  try simp only [Act.put, List.setIfInBounds_toArray, List.set_cons_zero, List.set_cons_succ, List.getElem_toArray, List.getElem_cons_succ, List.getElem_cons_zero]
                  refine wpAnyF_pure (i := 22) (v := ?vg3_23_22) rfl (by kernel_rfl) (by kernel_rfl) (by kernel_rfl) (fun _ _ _ h => HPQ.out _ _ _ h _ rfl) (Or.inl ⟨by rfl, ?hyg3_23_22⟩) ?restg3_23_22
                  case hyg3_23_22 => (intro w hSw; clear hSw; go_simp; (all_goals with_reducible rfl))
                  try simp only [Act.put, List.setIfInBounds_toArray, List.set_cons_zero, List.set_cons_succ, List.getElem_toArray, List.getElem_cons_succ, List.getElem_cons_zero]
                  refine wpAnyF_pure (i := 23) (v := ?vg3_24_23) rfl (by kernel_rfl) (by kernel_rfl) (by kernel_rfl) (fun _ _ _ h => HPQ.out _ _ _ h _ rfl) (Or.inl ⟨by rfl, ?hyg3_24_23⟩) ?restg3_24_23
                  case hyg3_24_23 => (intro w hSw; clear hSw; go_simp; (all_goals with_reducible rfl))
                  try simp only [Act.put, List.setIfInBounds_toArray, List.set_cons_zero, List.set_cons_succ, List.getElem_toArray, List.getElem_cons_succ, List.getElem_cons_zero]
                  refine wpAnyF_pure (i := 24) (v := ?vg3_25_24) rfl (by kernel_rfl) (by kernel_rfl) (by kernel_rfl) (fun _ _ _ h => HPQ.out _ _ _ h _ rfl) (Or.inl ⟨by rfl, ?hyg3_25_24⟩) ?restg3_25_24
                  case hyg3_25_24 => (intro w hSw; clear hSw; go_simp; (all_goals with_reducible rfl))
                  try simp only [Act.put, List.setIfInBounds_toArray, List.set_cons_zero, List.set_cons_succ, List.getElem_toArray, List.getElem_cons_succ, List.getElem_cons_zero]
                  refine wpAnyF_pure (i := 25) (v := ?vg3_26_25) rfl (by kernel_rfl) (by kernel_rfl) (by kernel_rfl) (fun _ _ _ h => HPQ.out _ _ _ h _ rfl) (Or.inl ⟨by rfl, ?hyg3_26_25⟩) ?restg3_26_25
                  case hyg3_26_25 => (intro w hSw; clear hSw; go_simp; (all_goals with_reducible rfl))
                  try simp only [Act.put, List.setIfInBounds_toArray, List.set_cons_zero, List.set_cons_succ, List.getElem_toArray, List.getElem_cons_succ, List.getElem_cons_zero]
                  refine wpAnyF_oneD (i := 26) (by kernel_rfl) (by kernel_rfl) rfl (fun K hK => ?_)
                  go_simp
                  refine hK.out _ _ ?_
                  clear hK K
                  try simp only [Act.put, List.setIfInBounds_toArray, List.set_cons_zero, List.set_cons_succ, List.getElem_toArray, List.getElem_cons_succ, List.getElem_cons_zero]
                  refine wpAnyF_pure (i := 27) (v := ?vg3_28_27) rfl (by kernel_rfl) (by kernel_rfl) (by kernel_rfl) (fun _ _ _ h => HPQ.out _ _ _ h _ rfl) (Or.inl ⟨by rfl, ?hyg3_28_27⟩) ?restg3_28_27
                  case hyg3_28_27 => (intro w hSw; clear hSw; go_simp; (all_goals with_reducible rfl))
                  try simp only [Act.put, List.setIfInBounds_toArray, List.set_cons_zero, List.set_cons_succ, List.getElem_toArray, List.getElem_cons_succ, List.getElem_cons_zero]
                  refine wpAnyF_oneD (i := 28) (by kernel_rfl) (by kernel_rfl) rfl (fun K hK => ?_)
                  go_simp
                  refine hK.out _ _ ?_
                  clear hK K
                  try simp only [Act.put, List.setIfInBounds_toArray, List.set_cons_zero, List.set_cons_succ, List.getElem_toArray, List.getElem_cons_succ, List.getElem_cons_zero]
                  refine wpAnyF_done (by kernel_rfl) ?_ _
                  have HXT := hid (((HX4.out.below HB9.out).store 0 (.int .i64 y.a)).store 1 (.int .i64 y.label))
                  have hk5 : Keep (fun t => t = 5) (upd wr.heap.size T 5) v9 ((v9.setCell ⟨wr.heap.size, 0, none⟩ (.int .i64 y.a)).setCell ⟨wr.heap.size, 1, none⟩ (.int .i64 y.label)) := ((Keep.refl (S := fun t => t = 5) (T := upd wr.heap.size T 5) (w := v9)).setCell (p := ⟨wr.heap.size, 0, none⟩) (fun _ => upd_new (Nat.le_refl _)) _).setCell (p := ⟨wr.heap.size, 1, none⟩) (fun _ => upd_new (Nat.le_refl _)) _
                  have HSS := hid (((HF4.out.below HB9.out Agree.refl).keep hk5 (by omega) Agree.refl).setSaid k sd)
                  have HFT := hid HSS.out.1
                  have HXT := hid (HXT.out.keep HSS.out.2 (by omega) Agree.refl)
                  have HBT := hid (said_put HBS.out hlt (by rw [HWE2.out]) : SaidTo j s s.vals.length (k + 1) (bs.set k sd))
                  clear j1 j2 j3 c0 c1 s1 s2 s4 s5 d0 x0 x1 gk gf z0 z1 zf zl zg zgf zgl zg2 zGl hk5 HSS
                  have r4 := HFT.out.obj.cell (i := 4) rfl
                  have rf := HFT.out.obj.free
                  have x0 := HXT.out.cell (i := 0) (v := .int .i64 y.a) rfl
                  have x1 := HXT.out.cell (i := 1) (v := .int .i64 y.label) rfl
                  have hRl := HFT.out.obj.lt
                  have hXl := HXT.out.lt
                  have hXR : wr.heap.size ≠ R := fun h => by have h1 := HXT.out.tag; have h2 := HFT.out.obj.tag; rw [← h, h1] at h2; omega
                  cases op with
                  | true =>
                    go_wp2_with (at_builtin; refine wp_appT _ rfl rfl el_vals rfl ((HFT.out.below (bA (Below.refl _ _) _) Agree.refl).vals) rfl (rd_newAt _ _ _ 2 1 _ (by simp) rfl) (one_val y) hn1 ?_; intro A5 c5 w5 o5 k5; have HP5 := hid (FO.pushVal (x := y) HFT.out (agree_upd (by simp)) o5 ((Keep.below (bA (Below.refl _ _) _)).trans k5 Agree.refl)); have x1 := ((HXT.out.alloc _).keep k5 (by omega) Agree.refl).cell (i := 1) (v := .int .i64 y.label) rfl; have rf := ((HFT.out.below (bA (Below.refl _ _) _) Agree.refl).obj.keep k5 (by omega) Agree.refl).free; have r4 := ((HFT.out.below (bA (Below.refl _ _) _) Agree.refl).obj.keep k5 (by omega) Agree.refl).cell (i := 4) rfl; have hRl := ((HFT.out.below (bA (Below.refl _ _) _) Agree.refl).obj.keep k5 (by omega) Agree.refl).lt; have x1s := cellR (v := .slice A5 (vs.length + 1) c5) (b' := R) (o' := 4) x1 (.inl hXR); clear o5 k5)
                    go_roundw
                    case rel => exact ⟨k + 1, _, A5, c5, vs ++ [y], _, true, by omega, rfl, by go_num, hid (by have h := HP5.out; rw [HF.out] at h; exact h), hid HYT.out, HBT, hid (by have h := HOP.out; rw [lbl_push]; revert h; cases lblAll vs <;> simp)⟩
                    case measure => simp [intOf]; omega
                  | false =>
                    go_wp2_with (at_builtin; refine wp_appT _ rfl rfl el_vals rfl ((HFT.out.below (bA (Below.refl _ _) _) Agree.refl).vals) rfl (rd_newAt _ _ _ 2 1 _ (by simp) rfl) (one_val y) hn1 ?_; intro A5 c5 w5 o5 k5; have HP5 := hid (FO.pushVal (x := y) HFT.out (agree_upd (by simp)) o5 ((Keep.below (bA (Below.refl _ _) _)).trans k5 Agree.refl)); have x1 := ((HXT.out.alloc _).keep k5 (by omega) Agree.refl).cell (i := 1) (v := .int .i64 y.label) rfl; have rf := ((HFT.out.below (bA (Below.refl _ _) _) Agree.refl).obj.keep k5 (by omega) Agree.refl).free; have r4 := ((HFT.out.below (bA (Below.refl _ _) _) Agree.refl).obj.keep k5 (by omega) Agree.refl).cell (i := 4) rfl; have hRl := ((HFT.out.below (bA (Below.refl _ _) _) Agree.refl).obj.keep k5 (by omega) Agree.refl).lt; have x1s := cellR (v := .slice A5 (vs.length + 1) c5) (b' := R) (o' := 4) x1 (.inl hXR); clear o5 k5)
                    go_roundw
                    case rel => exact ⟨k + 1, _, A5, c5, vs ++ [y], _, _, by omega, rfl, by go_num, hid (by have h := HP5.out; rw [HF.out] at h; exact h), hid HYT.out, HBT, hid (by have h := HOP.out; rw [lbl_push, HLB.out]; revert h; cases lblAll vs <;> simp)⟩
                    case measure => simp [intOf]; omega
                | false =>
                  have hrb : ((r.l.length : Int) == 0) = false := by
                    have : ¬ r.l.length = 0 := fun h => hsk ⟨hf, h⟩
                    simpa using this
                  have hrp : (decide ((0 : Int) < (r.l.length : Int))) = true := by
                    have : ¬ r.l.length = 0 := fun h => hsk ⟨hf, h⟩
                    simp; omega
                  have hrp2 : 0 < r.l.length := by have : ¬ r.l.length = 0 := fun h => hsk ⟨hf, h⟩; omega
                  rw [hf] at s2 s2o HWK
                  have HF := hid hf
                  clear hf hsk
                  have HK : Hid (∀ V, Below W4.heap.size W4 V → ((fun V => Below W4.heap.size W4 V ∧ (V.cell? ⟨w.heap.size, 1, none⟩ = some (.slice A j.graph.edges.length c) ∧ V.cell? ⟨w.heap.size, 2, none⟩ = some (.int .i64 j.kind) ∧ V.cell? ⟨w.heap.size, 3, none⟩ = some (.int .i64 j.source)) ∧ (V.cell? ⟨bb, bo + k * 2, none⟩ = some (.int .i64 x.a) ∧ V.cell? ⟨bb, bo + k * 2 + 1, none⟩ = some (.int .i64 x.label)) ∧ (V.cell? ⟨w.heap.size + 1, 1, none⟩ = some (.int .i64 s.phase) ∧ V.cell? ⟨w.heap.size + 1, 2, none⟩ = some (.bool false) ∧ V.cell? ⟨w.heap.size + 1, 4, none⟩ = some (.slice (some ⟨bb, bo, none⟩) s.vals.length d) ∧ V.cell? ⟨w.heap.size + 1, 5, none⟩ = some (.slice (some ⟨cb, co, none⟩) s.mail.length e)) ∧ V.cell? ⟨cb, co + k, none⟩ = some (.slice r.A r.l.length r.c)) : World → Prop) V) := hid fun V hV => ⟨hV, ⟨keepb hV j1, keepb hV j2, keepb hV j3⟩, ⟨keepb hV c0, keepb hV c1⟩, ⟨keepb hV s1, keepb hV s2, keepb hV s4, keepb hV s5⟩, keepb hV d0⟩
                  go_wp2_with fail
                  rw [← hW4]
                  clear hW4
                  refine wp_region_F (S := (fun V => Below W4.heap.size W4 V ∧ (V.cell? ⟨w.heap.size, 1, none⟩ = some (.slice A j.graph.edges.length c) ∧ V.cell? ⟨w.heap.size, 2, none⟩ = some (.int .i64 j.kind) ∧ V.cell? ⟨w.heap.size, 3, none⟩ = some (.int .i64 j.source)) ∧ (V.cell? ⟨bb, bo + k * 2, none⟩ = some (.int .i64 x.a) ∧ V.cell? ⟨bb, bo + k * 2 + 1, none⟩ = some (.int .i64 x.label)) ∧ (V.cell? ⟨w.heap.size + 1, 1, none⟩ = some (.int .i64 s.phase) ∧ V.cell? ⟨w.heap.size + 1, 2, none⟩ = some (.bool false) ∧ V.cell? ⟨w.heap.size + 1, 4, none⟩ = some (.slice (some ⟨bb, bo, none⟩) s.vals.length d) ∧ V.cell? ⟨w.heap.size + 1, 5, none⟩ = some (.slice (some ⟨cb, co, none⟩) s.mail.length e)) ∧ V.cell? ⟨cb, co + k, none⟩ = some (.slice r.A r.l.length r.c))) [26, 28] (by kernel_rfl) (HK.out _ (bD (Below.refl _ _))) (fun hHeld => ?_)
                  refine wpAnyF_pure (i := 0) (v := ?vg4_1_0) rfl (by kernel_rfl) (by kernel_rfl) (by kernel_rfl) (fun _ _ _ h => HPQ.out _ _ _ h _ rfl) (Or.inl ⟨by rfl, ?hyg4_1_0⟩) ?restg4_1_0
                  case hyg4_1_0 => (intro w hSw; clear hSw; go_simp; (all_goals with_reducible rfl))
                  try simp only [Act.put, List.setIfInBounds_toArray, List.set_cons_zero, List.set_cons_succ, List.getElem_toArray, List.getElem_cons_succ, List.getElem_cons_zero]
                  refine wpAnyF_pure (i := 1) (v := ?vg4_2_1) rfl (by kernel_rfl) (by kernel_rfl) (by kernel_rfl) (fun _ _ _ h => HPQ.out _ _ _ h _ rfl) (Or.inl ⟨by rfl, ?hyg4_2_1⟩) ?restg4_2_1
                  case hyg4_2_1 => (intro w hSw; clear hSw; go_simp; (all_goals with_reducible rfl))
                  try simp only [Act.put, List.setIfInBounds_toArray, List.set_cons_zero, List.set_cons_succ, List.getElem_toArray, List.getElem_cons_succ, List.getElem_cons_zero]
                  refine wpAnyF_pure (i := 2) (v := ?vg4_3_2) rfl (by kernel_rfl) (by kernel_rfl) (by kernel_rfl) (fun _ _ _ h => HPQ.out _ _ _ h _ rfl) (Or.inl ⟨by rfl, ?hyg4_3_2⟩) ?restg4_3_2
                  case hyg4_3_2 => (intro w hSw; clear hSw; go_simp; (all_goals with_reducible rfl))
                  try simp only [Act.put, List.setIfInBounds_toArray, List.set_cons_zero, List.set_cons_succ, List.getElem_toArray, List.getElem_cons_succ, List.getElem_cons_zero]
                  refine wpAnyF_pure (i := 4) (v := ?vg4_4_4) rfl (by kernel_rfl) (by kernel_rfl) (by kernel_rfl) (fun _ _ _ h => HPQ.out _ _ _ h _ rfl) (Or.inl ⟨by rfl, ?hyg4_4_4⟩) ?restg4_4_4
                  case hyg4_4_4 => (intro w hSw; clear hSw; go_simp; (all_goals with_reducible rfl))
                  try simp only [Act.put, List.setIfInBounds_toArray, List.set_cons_zero, List.set_cons_succ, List.getElem_toArray, List.getElem_cons_succ, List.getElem_cons_zero]
                  refine wpAnyF_pure (i := 5) (v := ?vg4_5_5) rfl (by kernel_rfl) (by kernel_rfl) (by kernel_rfl) (fun _ _ _ h => HPQ.out _ _ _ h _ rfl) (Or.inl ⟨by rfl, ?hyg4_5_5⟩) ?restg4_5_5
                  case hyg4_5_5 => (intro w hSw; clear hSw; go_simp; (all_goals with_reducible rfl))
                  try simp only [Act.put, List.setIfInBounds_toArray, List.set_cons_zero, List.set_cons_succ, List.getElem_toArray, List.getElem_cons_succ, List.getElem_cons_zero]
                  refine wpAnyF_pure (i := 7) (v := ?vg4_6_7) rfl (by kernel_rfl) (by kernel_rfl) (by kernel_rfl) (fun _ _ _ h => HPQ.out _ _ _ h _ rfl) (Or.inl ⟨by rfl, ?hyg4_6_7⟩) ?restg4_6_7
                  case hyg4_6_7 => (intro w hSw; clear hSw; go_simp; (all_goals with_reducible rfl))
                  try simp only [Act.put, List.setIfInBounds_toArray, List.set_cons_zero, List.set_cons_succ, List.getElem_toArray, List.getElem_cons_succ, List.getElem_cons_zero]
                  refine wpAnyF_pure (i := 9) (v := ?vg4_7_9) rfl (by kernel_rfl) (by kernel_rfl) (by kernel_rfl) (fun _ _ _ h => HPQ.out _ _ _ h _ rfl) (Or.inl ⟨by rfl, ?hyg4_7_9⟩) ?restg4_7_9
                  case hyg4_7_9 => (intro w hSw; clear hSw; go_simp; (all_goals with_reducible rfl))
                  try simp only [Act.put, List.setIfInBounds_toArray, List.set_cons_zero, List.set_cons_succ, List.getElem_toArray, List.getElem_cons_succ, List.getElem_cons_zero]
                  refine wpAnyF_pure (i := 12) (v := ?vg4_8_12) rfl (by kernel_rfl) (by kernel_rfl) (by kernel_rfl) (fun _ _ _ h => HPQ.out _ _ _ h _ rfl) (Or.inl ⟨by rfl, ?hyg4_8_12⟩) ?restg4_8_12
                  case hyg4_8_12 => (intro w hSw; clear hSw; go_simp; (all_goals with_reducible rfl))
                  try simp only [Act.put, List.setIfInBounds_toArray, List.set_cons_zero, List.set_cons_succ, List.getElem_toArray, List.getElem_cons_succ, List.getElem_cons_zero]
                  refine wpAnyF_pure (i := 14) (v := ?vg4_9_14) rfl (by kernel_rfl) (by kernel_rfl) (by kernel_rfl) (fun _ _ _ h => HPQ.out _ _ _ h _ rfl) (Or.inl ⟨by rfl, ?hyg4_9_14⟩) ?restg4_9_14
                  case hyg4_9_14 => (intro w hSw; clear hSw; go_simp; (all_goals with_reducible rfl))
                  try simp only [Act.put, List.setIfInBounds_toArray, List.set_cons_zero, List.set_cons_succ, List.getElem_toArray, List.getElem_cons_succ, List.getElem_cons_zero]
                  refine wpAnyF_pure (i := 16) (v := ?vg4_10_16) rfl (by kernel_rfl) (by kernel_rfl) (by kernel_rfl) (fun _ _ _ h => HPQ.out _ _ _ h _ rfl) (Or.inl ⟨by rfl, ?hyg4_10_16⟩) ?restg4_10_16
                  case hyg4_10_16 => (intro w hSw; clear hSw; go_simp; (all_goals with_reducible rfl))
                  try simp only [Act.put, List.setIfInBounds_toArray, List.set_cons_zero, List.set_cons_succ, List.getElem_toArray, List.getElem_cons_succ, List.getElem_cons_zero]
                  refine wpAnyF_pure (i := 18) (v := ?vg4_11_18) rfl (by kernel_rfl) (by kernel_rfl) (by kernel_rfl) (fun _ _ _ h => HPQ.out _ _ _ h _ rfl) (Or.inl ⟨by rfl, ?hyg4_11_18⟩) ?restg4_11_18
                  case hyg4_11_18 => (intro w hSw; clear hSw; go_simp; (all_goals with_reducible rfl))
                  try simp only [Act.put, List.setIfInBounds_toArray, List.set_cons_zero, List.set_cons_succ, List.getElem_toArray, List.getElem_cons_succ, List.getElem_cons_zero]
                  refine wpAnyF_take [21, 22, 23, 24, 25, 26, 27, 28] (i := 3) (v := ?vg4_12_3) rfl (by kernel_rfl) (by kernel_rfl) (by kernel_rfl) (by kernel_rfl) (fun _ _ _ h => HPQ.out _ _ _ h _ rfl) (Or.inl ⟨by rfl, ?hyg4_12_3⟩) (by assumption) ?restg4_12_3
                  case hyg4_12_3 => (intro w hSw; (try dsimp only at hSw); go_simp; (all_goals with_reducible rfl))
                  try simp only [Act.put, List.setIfInBounds_toArray, List.set_cons_zero, List.set_cons_succ, List.getElem_toArray, List.getElem_cons_succ, List.getElem_cons_zero]
                  refine wpAnyF_take [21, 22, 23, 24, 25, 26, 27, 28] (i := 6) (v := ?vg4_13_6) rfl (by kernel_rfl) (by kernel_rfl) (by kernel_rfl) (by kernel_rfl) (fun _ _ _ h => HPQ.out _ _ _ h _ rfl) (Or.inl ⟨by rfl, ?hyg4_13_6⟩) (by assumption) ?restg4_13_6
                  case hyg4_13_6 => (intro w hSw; (try dsimp only at hSw); go_simp; (all_goals with_reducible rfl))
                  try simp only [Act.put, List.setIfInBounds_toArray, List.set_cons_zero, List.set_cons_succ, List.getElem_toArray, List.getElem_cons_succ, List.getElem_cons_zero]
                  refine wpAnyF_take [10, 11, 21, 22, 23, 24, 25, 26, 27, 28] (i := 8) (v := ?vg4_14_8) rfl (by kernel_rfl) (by kernel_rfl) (by kernel_rfl) (by kernel_rfl) (fun _ _ _ h => HPQ.out _ _ _ h _ rfl) (Or.inl ⟨by rfl, ?hyg4_14_8⟩) (by assumption) ?restg4_14_8
                  case hyg4_14_8 => (intro w hSw; (try dsimp only at hSw); go_simp; (all_goals with_reducible rfl))
                  try simp only [Act.put, List.setIfInBounds_toArray, List.set_cons_zero, List.set_cons_succ, List.getElem_toArray, List.getElem_cons_succ, List.getElem_cons_zero]
                  refine wpAnyF_pure (i := 10) (v := ?vg4_15_10) rfl (by kernel_rfl) (by kernel_rfl) (by kernel_rfl) (fun _ _ _ h => HPQ.out _ _ _ h _ rfl) (Or.inl ⟨by rfl, ?hyg4_15_10⟩) ?restg4_15_10
                  case hyg4_15_10 => (intro w hSw; clear hSw; go_simp; (all_goals with_reducible rfl))
                  try simp only [Act.put, List.setIfInBounds_toArray, List.set_cons_zero, List.set_cons_succ, List.getElem_toArray, List.getElem_cons_succ, List.getElem_cons_zero]
                  refine wpAnyF_take [21, 22, 23, 24, 25, 26, 27, 28] (i := 11) (v := ?vg4_16_11) rfl (by kernel_rfl) (by kernel_rfl) (by kernel_rfl) (by kernel_rfl) (fun _ _ _ h => HPQ.out _ _ _ h _ rfl) (Or.inl ⟨by rfl, ?hyg4_16_11⟩) (by assumption) ?restg4_16_11
                  case hyg4_16_11 => (intro w hSw; (try dsimp only at hSw); go_simp; (all_goals with_reducible rfl))
                  try simp only [Act.put, List.setIfInBounds_toArray, List.set_cons_zero, List.set_cons_succ, List.getElem_toArray, List.getElem_cons_succ, List.getElem_cons_zero]
                  refine wpAnyF_take [21, 22, 23, 24, 25, 26, 27, 28] (i := 13) (v := ?vg4_17_13) rfl (by kernel_rfl) (by kernel_rfl) (by kernel_rfl) (by kernel_rfl) (fun _ _ _ h => HPQ.out _ _ _ h _ rfl) (Or.inl ⟨by rfl, ?hyg4_17_13⟩) (by assumption) ?restg4_17_13
                  case hyg4_17_13 => (intro w hSw; (try dsimp only at hSw); go_simp; (all_goals with_reducible rfl))
                  try simp only [Act.put, List.setIfInBounds_toArray, List.set_cons_zero, List.set_cons_succ, List.getElem_toArray, List.getElem_cons_succ, List.getElem_cons_zero]
                  refine wpAnyF_take [21, 22, 23, 24, 25, 26, 27, 28] (i := 15) (v := ?vg4_18_15) rfl (by kernel_rfl) (by kernel_rfl) (by kernel_rfl) (by kernel_rfl) (fun _ _ _ h => HPQ.out _ _ _ h _ rfl) (Or.inl ⟨by rfl, ?hyg4_18_15⟩) (by assumption) ?restg4_18_15
                  case hyg4_18_15 => (intro w hSw; (try dsimp only at hSw); go_simp; (all_goals with_reducible rfl))
                  try simp only [Act.put, List.setIfInBounds_toArray, List.set_cons_zero, List.set_cons_succ, List.getElem_toArray, List.getElem_cons_succ, List.getElem_cons_zero]
                  refine wpAnyF_take [19, 20, 21, 22, 23, 24, 25, 26, 27, 28] (i := 17) (v := ?vg4_19_17) rfl (by kernel_rfl) (by kernel_rfl) (by kernel_rfl) (by kernel_rfl) (fun _ _ _ h => HPQ.out _ _ _ h _ rfl) (Or.inl ⟨by rfl, ?hyg4_19_17⟩) (by assumption) ?restg4_19_17
                  case hyg4_19_17 => (intro w hSw; (try dsimp only at hSw); go_simp; (all_goals with_reducible rfl))
                  try simp only [Act.put, List.setIfInBounds_toArray, List.set_cons_zero, List.set_cons_succ, List.getElem_toArray, List.getElem_cons_succ, List.getElem_cons_zero]
                  refine wpAnyF_pure (i := 19) (v := ?vg4_20_19) rfl (by kernel_rfl) (by kernel_rfl) (by kernel_rfl) (fun _ _ _ h => HPQ.out _ _ _ h _ rfl) (Or.inl ⟨by rfl, ?hyg4_20_19⟩) ?restg4_20_19
                  case hyg4_20_19 => (intro w hSw; clear hSw; go_simp; (all_goals with_reducible rfl))
                  try simp only [Act.put, List.setIfInBounds_toArray, List.set_cons_zero, List.set_cons_succ, List.getElem_toArray, List.getElem_cons_succ, List.getElem_cons_zero]
                  refine wpAnyF_take [21, 22, 23, 24, 25, 26, 27, 28] (i := 20) (v := ?vg4_21_20) rfl (by kernel_rfl) (by kernel_rfl) (by kernel_rfl) (by kernel_rfl) (fun _ _ _ h => HPQ.out _ _ _ h _ rfl) (Or.inl ⟨by rfl, ?hyg4_21_20⟩) (by assumption) ?restg4_21_20
                  case hyg4_21_20 => (intro w hSw; (try dsimp only at hSw); go_simp; (all_goals with_reducible rfl))
                  try simp only [Act.put, List.setIfInBounds_toArray, List.set_cons_zero, List.set_cons_succ, List.getElem_toArray, List.getElem_cons_succ, List.getElem_cons_zero]
                  refine wpAnyF_one (i := 21) (by kernel_rfl) rfl (fun K hK => ?_)
                  go_simp
                  go_at_call 28
                  refine (HWK.out _ hHeld.1).mono ?_
                  rintro e9 v9 ⟨rfl, b9⟩
                  have HB9 := hid (bT hHeld.1 b9)
                  have z0 := keepb HB9.out x0
                  have z1 := keepb HB9.out x1
                  have zf : ∀ o, v9.frozen? ⟨wr.heap.size, o, none⟩ = false := fun o => keepf HB9.out (HX4.out.free o) HX4.out.lt
                  have zl : wr.heap.size < v9.heap.size := World.block_lt_of_cell? _ _ z0
                  have zg := keepb HB9.out gk
                  have zGl : G < W4.heap.size := World.block_lt_of_cell? _ _ gk
                  have zgf : ∀ o, v9.frozen? ⟨G, o, none⟩ = false := fun o => keepf HB9.out (gf o) zGl
                  have zgl : G < v9.heap.size := World.block_lt_of_cell? _ _ zg
                  have zg2 := cellR (V := v9.setCell ⟨wr.heap.size, 0, none⟩ (.int .i64 y.a)) (b' := wr.heap.size) (o' := 1) (v := .int .i64 y.label) (cellR (b' := wr.heap.size) (o' := 0) (v := .int .i64 y.a) zg (.inl hGX)) (.inl hGX)
                  go_wp2_with fail
                  refine hK.out _ _ (HK.out _ HB9.out) (fun hHeld => ?_)
                  clear hK K
                  try simp only [Act.put, List.setIfInBounds_toArray, List.set_cons_zero, List.set_cons_succ, List.getElem_toArray, List.getElem_cons_succ, List.getElem_cons_zero]
                  refine wpAnyF_pure (i := 22) (v := ?vg4_23_22) rfl (by kernel_rfl) (by kernel_rfl) (by kernel_rfl) (fun _ _ _ h => HPQ.out _ _ _ h _ rfl) (Or.inl ⟨by rfl, ?hyg4_23_22⟩) ?restg4_23_22
                  case hyg4_23_22 => (intro w hSw; clear hSw; go_simp; (all_goals with_reducible rfl))
                  try simp only [Act.put, List.setIfInBounds_toArray, List.set_cons_zero, List.set_cons_succ, List.getElem_toArray, List.getElem_cons_succ, List.getElem_cons_zero]
                  refine wpAnyF_pure (i := 23) (v := ?vg4_24_23) rfl (by kernel_rfl) (by kernel_rfl) (by kernel_rfl) (fun _ _ _ h => HPQ.out _ _ _ h _ rfl) (Or.inl ⟨by rfl, ?hyg4_24_23⟩) ?restg4_24_23
                  case hyg4_24_23 => (intro w hSw; clear hSw; go_simp; (all_goals with_reducible rfl))
                  try simp only [Act.put, List.setIfInBounds_toArray, List.set_cons_zero, List.set_cons_succ, List.getElem_toArray, List.getElem_cons_succ, List.getElem_cons_zero]
                  refine wpAnyF_pure (i := 24) (v := ?vg4_25_24) rfl (by kernel_rfl) (by kernel_rfl) (by kernel_rfl) (fun _ _ _ h => HPQ.out _ _ _ h _ rfl) (Or.inl ⟨by rfl, ?hyg4_25_24⟩) ?restg4_25_24
                  case hyg4_25_24 => (intro w hSw; clear hSw; go_simp; (all_goals with_reducible rfl))
                  try simp only [Act.put, List.setIfInBounds_toArray, List.set_cons_zero, List.set_cons_succ, List.getElem_toArray, List.getElem_cons_succ, List.getElem_cons_zero]
                  refine wpAnyF_pure (i := 25) (v := ?vg4_26_25) rfl (by kernel_rfl) (by kernel_rfl) (by kernel_rfl) (fun _ _ _ h => HPQ.out _ _ _ h _ rfl) (Or.inl ⟨by rfl, ?hyg4_26_25⟩) ?restg4_26_25
                  case hyg4_26_25 => (intro w hSw; clear hSw; go_simp; (all_goals with_reducible rfl))
                  try simp only [Act.put, List.setIfInBounds_toArray, List.set_cons_zero, List.set_cons_succ, List.getElem_toArray, List.getElem_cons_succ, List.getElem_cons_zero]
                  refine wpAnyF_oneD (i := 26) (by kernel_rfl) (by kernel_rfl) rfl (fun K hK => ?_)
                  go_simp
                  refine hK.out _ _ ?_
                  clear hK K
                  try simp only [Act.put, List.setIfInBounds_toArray, List.set_cons_zero, List.set_cons_succ, List.getElem_toArray, List.getElem_cons_succ, List.getElem_cons_zero]
                  refine wpAnyF_pure (i := 27) (v := ?vg4_28_27) rfl (by kernel_rfl) (by kernel_rfl) (by kernel_rfl) (fun _ _ _ h => HPQ.out _ _ _ h _ rfl) (Or.inl ⟨by rfl, ?hyg4_28_27⟩) ?restg4_28_27
                  case hyg4_28_27 => (intro w hSw; clear hSw; go_simp; (all_goals with_reducible rfl))
                  try simp only [Act.put, List.setIfInBounds_toArray, List.set_cons_zero, List.set_cons_succ, List.getElem_toArray, List.getElem_cons_succ, List.getElem_cons_zero]
                  refine wpAnyF_oneD (i := 28) (by kernel_rfl) (by kernel_rfl) rfl (fun K hK => ?_)
                  go_simp
                  refine hK.out _ _ ?_
                  clear hK K
                  try simp only [Act.put, List.setIfInBounds_toArray, List.set_cons_zero, List.set_cons_succ, List.getElem_toArray, List.getElem_cons_succ, List.getElem_cons_zero]
                  refine wpAnyF_done (by kernel_rfl) ?_ _
                  have HXT := hid (((HX4.out.below HB9.out).store 0 (.int .i64 y.a)).store 1 (.int .i64 y.label))
                  have hk5 : Keep (fun t => t = 5) (upd wr.heap.size T 5) v9 ((v9.setCell ⟨wr.heap.size, 0, none⟩ (.int .i64 y.a)).setCell ⟨wr.heap.size, 1, none⟩ (.int .i64 y.label)) := ((Keep.refl (S := fun t => t = 5) (T := upd wr.heap.size T 5) (w := v9)).setCell (p := ⟨wr.heap.size, 0, none⟩) (fun _ => upd_new (Nat.le_refl _)) _).setCell (p := ⟨wr.heap.size, 1, none⟩) (fun _ => upd_new (Nat.le_refl _)) _
                  have HSS := hid (((HF4.out.below HB9.out Agree.refl).keep hk5 (by omega) Agree.refl).setSaid k sd)
                  have HFT := hid HSS.out.1
                  have HXT := hid (HXT.out.keep HSS.out.2 (by omega) Agree.refl)
                  have HBT := hid (said_put HBS.out hlt (by rw [HWE2.out]) : SaidTo j s s.vals.length (k + 1) (bs.set k sd))
                  clear j1 j2 j3 c0 c1 s1 s2 s4 s5 d0 x0 x1 gk gf z0 z1 zf zl zg zgf zgl zg2 zGl hk5 HSS
                  have r4 := HFT.out.obj.cell (i := 4) rfl
                  have rf := HFT.out.obj.free
                  have x0 := HXT.out.cell (i := 0) (v := .int .i64 y.a) rfl
                  have x1 := HXT.out.cell (i := 1) (v := .int .i64 y.label) rfl
                  have hRl := HFT.out.obj.lt
                  have hXl := HXT.out.lt
                  have hXR : wr.heap.size ≠ R := fun h => by have h1 := HXT.out.tag; have h2 := HFT.out.obj.tag; rw [← h, h1] at h2; omega
                  cases op with
                  | true =>
                    go_wp2_with (at_builtin; refine wp_appT _ rfl rfl el_vals rfl ((HFT.out.below (bA (Below.refl _ _) _) Agree.refl).vals) rfl (rd_newAt _ _ _ 2 1 _ (by simp) rfl) (one_val y) hn1 ?_; intro A5 c5 w5 o5 k5; have HP5 := hid (FO.pushVal (x := y) HFT.out (agree_upd (by simp)) o5 ((Keep.below (bA (Below.refl _ _) _)).trans k5 Agree.refl)); have x1 := ((HXT.out.alloc _).keep k5 (by omega) Agree.refl).cell (i := 1) (v := .int .i64 y.label) rfl; have rf := ((HFT.out.below (bA (Below.refl _ _) _) Agree.refl).obj.keep k5 (by omega) Agree.refl).free; have r4 := ((HFT.out.below (bA (Below.refl _ _) _) Agree.refl).obj.keep k5 (by omega) Agree.refl).cell (i := 4) rfl; have hRl := ((HFT.out.below (bA (Below.refl _ _) _) Agree.refl).obj.keep k5 (by omega) Agree.refl).lt; have x1s := cellR (v := .slice A5 (vs.length + 1) c5) (b' := R) (o' := 4) x1 (.inl hXR); clear o5 k5)
                    go_roundw
                    case rel => exact ⟨k + 1, _, A5, c5, vs ++ [y], _, true, by omega, rfl, by go_num, hid (by have h := HP5.out; rw [HF.out] at h; exact h), hid HYT.out, HBT, hid (by have h := HOP.out; rw [lbl_push]; revert h; cases lblAll vs <;> simp)⟩
                    case measure => simp [intOf]; omega
                  | false =>
                    go_wp2_with (at_builtin; refine wp_appT _ rfl rfl el_vals rfl ((HFT.out.below (bA (Below.refl _ _) _) Agree.refl).vals) rfl (rd_newAt _ _ _ 2 1 _ (by simp) rfl) (one_val y) hn1 ?_; intro A5 c5 w5 o5 k5; have HP5 := hid (FO.pushVal (x := y) HFT.out (agree_upd (by simp)) o5 ((Keep.below (bA (Below.refl _ _) _)).trans k5 Agree.refl)); have x1 := ((HXT.out.alloc _).keep k5 (by omega) Agree.refl).cell (i := 1) (v := .int .i64 y.label) rfl; have rf := ((HFT.out.below (bA (Below.refl _ _) _) Agree.refl).obj.keep k5 (by omega) Agree.refl).free; have r4 := ((HFT.out.below (bA (Below.refl _ _) _) Agree.refl).obj.keep k5 (by omega) Agree.refl).cell (i := 4) rfl; have hRl := ((HFT.out.below (bA (Below.refl _ _) _) Agree.refl).obj.keep k5 (by omega) Agree.refl).lt; have x1s := cellR (v := .slice A5 (vs.length + 1) c5) (b' := R) (o' := 4) x1 (.inl hXR); clear o5 k5)
                    go_roundw
                    case rel => exact ⟨k + 1, _, A5, c5, vs ++ [y], _, _, by omega, rfl, by go_num, hid (by have h := HP5.out; rw [HF.out] at h; exact h), hid HYT.out, HBT, hid (by have h := HOP.out; rw [lbl_push, HLB.out]; revert h; cases lblAll vs <;> simp)⟩
                    case measure => simp [intOf]; omega
            · obtain rfl : k = s.vals.length := by omega
              have hvs : vs = newVals j s s.vals.length := by
                rw [HVS.out]
                exact List.take_of_length_le (by rw [newVals_len]; omega)
              subst hvs
              have HFO1 := HFO
              have HWY := hid (waysOf_walk j.kind s.phase wr)
              have hob := HOP.out
              have j2 := HFO.out.jobo.cell (i := 2) rfl
              have s1 := HFO.out.sto.cell (i := 1) rfl
              have hNs := HFO.out.size
              obtain ⟨ot, hot⟩ : ∃ b, b = (waysV j.kind s.phase).1 := ⟨_, rfl⟩
              obtain ⟨it, hit⟩ : ∃ b, b = (waysV j.kind s.phase).2.1 := ⟨_, rfl⟩
              rw [← hot, ← hit] at HWY
              have HOT := hid hot
              have HIT := hid hit
              have HSB := hid (said_all HBS.out)
              clear hot hit hob hk hlt HBS HVS
              go_wp2_with fail
              refine HWY.out.mono ?_
              rintro e4 w4 ⟨rfl, rfl⟩
              clear j2 s1
              go_wp2_with fail
              go_loopw [16, 17, 18] (fun v16 v17 v18 wr => FlM w.heap.size R G w j s (#[.int .i64 (s.vals.length : Nat), .slice A j.graph.edges.length c, .int .i64 j.kind, .int .i64 j.source]) (#[.int .i64 s.step, .int .i64 s.phase, .bool s.fresh, .bool false, .slice B s.vals.length d, .slice C s.mail.length e]) (#[.int .i64 0, .int .i64 0, .bool false, .bool false, .slice none 0 0, .slice none 0 0]) VA vc bs v16 v17 wr) (fun _ v17 _ _ => s.vals.length - (intOf v17).toNat)
              case atStart => exact ⟨0, T, none, 0, [], 0, Nat.zero_le _, rfl, rfl, HFO1, hid rfl, hid ⟨rfl, Nat.zero_le _⟩, hid (fun u hu => absurd hu (by omega))⟩
              case round =>
                clear HFO HFO1 HWY hNs
                obtain ⟨u, T, MA, mc, m, tot, hu, rfl, rfl, HFO, HLM, HTO, HNE⟩ := hrel
                by_cases hlt : u < s.vals.length
                · have huz : (u : Int) < (s.vals.length : Int) := by omega
                  have hW : ∃ W, W = wr := ⟨_, rfl⟩
                  obtain ⟨W, hW⟩ := hW
                  go_wp2_with fail
                  go_loopw [18, 19] (fun v18 v19 wq => FlE W j s u v18 v19 wq) (fun _ v19 _ => j.graph.edges.length - (intOf v19).toNat)
                  case atStart => exact ⟨0, none, 0, [], Nat.zero_le _, rfl, rfl, hid (World.ownsRow_nil _ _ _ _), hid rfl, hid (by rw [hW]; exact Below.refl _ _), hid (fun e he => by cases he)⟩
                  case round =>
                    subst hW
                    obtain ⟨i, A3, c3, l, hi, rfl, rfl, HOW, HL, HBW, HNI⟩ := hrel
                    have HFQ := hid (HFO.out.below HBW.out (T' := T) Agree.refl)
                    have hWs := HBW.out.size
                    have hNs := HFQ.out.size
                    have j1 := HFQ.out.jobo.cell (i := 1) rfl
                    by_cases hil : i < j.graph.edges.length
                    · obtain ⟨ed, hed⟩ : ∃ ed, j.graph.edges[i]? = some ed := ⟨_, List.getElem?_eq_getElem hil⟩
                      have hmem := List.mem_of_getElem? hed
                      have hev := HE.out ed hmem
                      obtain ⟨es, et, wt⟩ := ed
                      dsimp only at hev
                      obtain ⟨p, rfl⟩ := Int.eq_ofNat_of_zero_le hev.1.1
                      obtain ⟨q, rfl⟩ := Int.eq_ofNat_of_zero_le hev.1.2.2.1
                      have hpn : p < s.vals.length := by omega
                      have hqn : q < s.vals.length := by omega
                      obtain ⟨eb, eo, hEA, hebl, a0, a1, a2⟩ := edge_cellsR (HR.out.below HFQ.out.bl) rfl hed
                      subst hEA
                      have hebw : eb < wr.heap.size := by omega
                      have hiz : (i : Int) < (j.graph.edges.length : Int) := by omega
                      have HMEM := hid hmem
                      have HSTEP := hid (docRow_step (j := j) (s := s) (u := u) hed)
                      have HTAK := hid (take_nextV hed)
                      have hsp := HSB.out.2 p hpn
                      have hsq := HSB.out.2 q hqn
                      have hbl := HSB.out.1
                      obtain ⟨W5, hW5⟩ : ∃ W5, W5 = wr.alloc (.cells #[.int .i64 (p : Int), .int .i64 (q : Int), .int .i64 wt] 63) := ⟨_, rfl⟩
                      have HB5 := hid (show Below wr.heap.size wr W5 by rw [hW5]; exact bA (Below.refl _ _) _)
                      have HF5 := hid (HFQ.out.below HB5.out (T' := T) Agree.refl)
                      have HO5 := hid (own_below HOW.out HB5.out (Nat.le_refl _))
                      have e0 : W5.cell? ⟨wr.heap.size, 0, none⟩ = some (.int .i64 (p : Int)) := by rw [hW5]; go_simp
                      have e1 : W5.cell? ⟨wr.heap.size, 1, none⟩ = some (.int .i64 (q : Int)) := by rw [hW5]; go_simp
                      have e2 : W5.cell? ⟨wr.heap.size, 2, none⟩ = some (.int .i64 wt) := by rw [hW5]; go_simp
                      have hE5 : wr.heap.size < W5.heap.size := World.block_lt_of_cell? _ _ e0
                      have hgp : (bs.map Value.bool)[p]? = some (.bool (wakeAt j s p).2) := by rw [List.getElem?_map, hsp]; rfl
                      have hgq : (bs.map Value.bool)[q]? = some (.bool (wakeAt j s q).2) := by rw [List.getElem?_map, hsq]; rfl
                      have gp := (own_at HF5.out.said.1 hgp).1
                      have gq := (own_at HF5.out.said.1 hgq).1
                      have hpz : (p : Int) < (bs.length : Int) := by omega
                      have hqz : (q : Int) < (bs.length : Int) := by omega
                      have HBL := hid hbl
                      clear hbl
                      have hqu : ((q : Int) == (u : Int)) = decide (q = u) := by by_cases h : q = u <;> simp [h] <;> omega
                      have hpu : ((p : Int) == (u : Int)) = decide (p = u) := by by_cases h : p = u <;> simp [h] <;> omega
                      obtain ⟨b1, hb1⟩ : ∃ b, b = decide (ot = true ∧ q = u ∧ (wakeAt j s p).2 = true) := ⟨_, rfl⟩
                      obtain ⟨b2, hb2⟩ : ∃ b, b = decide (it = true ∧ p = u ∧ (wakeAt j s q).2 = true) := ⟨_, rfl⟩
                      have HB1 := hid hb1
                      have HB2 := hid hb2
                      clear hb1 hb2 hed hmem hgp hgq hsp hsq
                      go_upto_region 32 with fail
                      rw [← hW5]
                      clear hW5
                      go_cut [156] (fun v wx => v = .bool b1 ∧ wx = W5)
                      case first =>
                        cases ot with
                        | false =>
                          have hbb : b1 = false := by rw [HB1.out]; simp
                          go_wp2_with fail
                          go_meet
                          exact ⟨by rw [hbb], rfl⟩
                        | true =>
                          by_cases hc : q = u
                          · have hbb : b1 = (wakeAt j s p).2 := by rw [HB1.out]; cases (wakeAt j s p).2 <;> simp [hc]
                            have hqu2 : ((q : Int) == (u : Int)) = true := by rw [hqu, hc]; simp
                            go_wp2_with fail
                            go_meet
                            exact ⟨by rw [hbb], rfl⟩
                          · have hbb : b1 = false := by rw [HB1.out]; simp [hc]
                            have hqu2 : ((q : Int) == (u : Int)) = false := by rw [hqu]; simp [hc]
                            go_wp2_with fail
                            go_meet
                            exact ⟨by rw [hbb], rfl⟩
                      case rest =>
                        obtain ⟨rfl, hwc⟩ := hcut
                        replace hwc := hwc.symm
                        subst hwc
                        have hnv := HF5.out.vals
                        obtain ⟨g, hVA, hgl, hgt, hgc, hgfz⟩ := hnv.head (by rw [newVals_len]; omega)
                        subst hVA
                        have hfl := (flatMap_get (l := newVals j s s.vals.length) (cells := Val.cells) (sz := 2) (fun _ _ => rfl)).2
                        have j2 := HF5.out.jobo.cell (i := 2) rfl
                        have s1 := HF5.out.sto.cell (i := 1) rfl
                        have rr4 := HF5.out.obj.cell (i := 4) rfl
                        have hnz : (p : Int) < ((newVals j s s.vals.length).length : Int) := by rw [newVals_len]; omega
                        have hnq : (q : Int) < ((newVals j s s.vals.length).length : Int) := by rw [newVals_len]; omega
                        have hll : (l.length + 2) * 8 ≤ 140737488355000 := by
                          have h1 := docRow_len j s u (j.graph.edges.take i)
                          rw [← HL.out] at h1
                          have h2 : (j.graph.edges.take i).length ≤ 600 := by rw [List.length_take]; omega
                          omega
                        go_upto_if 156 with fail
                        go_cut [18] (fun v wx => SaR W W5 j s p wt b1 l v wx)
                        case first =>
                          cases b1 with
                          | false =>
                            go_wp2_with fail
                            go_meet
                            exact ⟨A3, c3, l, rfl, hid (by simp), HO5, hid (Below.refl _ _), hid (fun h => by cases h)⟩
                          | true =>
                            have hb := of_decide_eq_true HB1.out.symm
                            have hwk := wakeAt_ok HJ.out HST.out p
                            have HSD := hid (said_walk j.kind (wakeAt j s p).1 s.phase wt (valOk_wf hwk.1) ⟨by omega, by omega⟩)
                            have g0 := hgc _ _ (hfl p _ 0 _ (newVals_at hpn) rfl)
                            have g1 := hgc _ _ (hfl p _ 1 _ (newVals_at hpn) rfl)
                            rw [Nat.add_zero] at g0
                            have HER := hid (madeP_err HJ.out HST.out HEO.out HMEM.out (by rw [← HOT.out]; exact hb.1) (by show (wakeAt j s ((p : Int)).toNat).2 = true; rw [Int.toNat_natCast]; exact hb.2.2))
                            dsimp only at HER
                            rw [Int.toNat_natCast] at HER
                            have HNB := hid (fun (V : World) (hV : Below W5.heap.size W5 V) => numberIn_walk l (sayV j.kind (wakeAt j s p).1 s.phase wt).1 V A3 c3 (rd_own (own_below HO5.out hV (Nat.le_refl _))) (by omega))
                            obtain ⟨y, hy⟩ : ∃ y, y = (wakeAt j s p).1 := ⟨_, rfl⟩
                            rw [← hy] at g0 g1 HSD HER HNB
                            have HY := hid hy.symm
                            clear hy
                            have HSAR := hid (show ∀ v wx A1 c1, v = .slice A1 (l.length + 1) c1 → wx.ownsRow W.heap.size 3 1 (.slice A1 (l.length + 1) c1) (l.length + 1) ((insN (sayV j.kind y s.phase wt).1 l).flatMap i64c) → Below W5.heap.size W5 wx → (sayV j.kind y s.phase wt).2 = 0 → SaR W W5 j s p wt true l v wx from fun v wx A1 c1 h1 h2 h3 h0 => ⟨A1, c1, insN (sayV j.kind y s.phase wt).1 l, by rw [h1, insN_len], hid (by rw [HY.out, if_pos rfl]), hid (by rw [insN_len]; exact h2), hid h3, hid (fun _ => by rw [HY.out]; exact h0)⟩)
                            generalize sayV j.kind y s.phase wt = z at HSD HER HNB HSAR
                            obtain ⟨sy, er⟩ := z
                            dsimp only at HSAR HER HNB
                            clear hgc hfl hb hwk gp gq j1
                            have HK : Hid (∀ V, Below W5.heap.size W5 V → ((fun V => Below W5.heap.size W5 V ∧ (V.cell? ⟨w.heap.size, 2, none⟩ = some (.int .i64 j.kind) ∧ V.cell? ⟨w.heap.size + 1, 1, none⟩ = some (.int .i64 s.phase)) ∧ V.cell? ⟨R, 4, none⟩ = some (.slice (some ⟨g, 0, none⟩) (newVals j s s.vals.length).length vc) ∧ (V.cell? ⟨wr.heap.size, 0, none⟩ = some (.int .i64 (p : Nat)) ∧ V.cell? ⟨wr.heap.size, 2, none⟩ = some (.int .i64 wt)) ∧ V.cell? ⟨g, p * 2, none⟩ = some (.int .i64 y.a) ∧ V.cell? ⟨g, p * 2 + 1, none⟩ = some (.int .i64 y.label)) : World → Prop) V) := hid fun V hV => ⟨hV, ⟨keepb hV j2, keepb hV s1⟩, keepb hV rr4, ⟨keepb hV e0, keepb hV e2⟩, keepb hV g0, keepb hV g1⟩
                            go_wp2_with fail
                            refine wp_region_F (S := (fun V => Below W5.heap.size W5 V ∧ (V.cell? ⟨w.heap.size, 2, none⟩ = some (.int .i64 j.kind) ∧ V.cell? ⟨w.heap.size + 1, 1, none⟩ = some (.int .i64 s.phase)) ∧ V.cell? ⟨R, 4, none⟩ = some (.slice (some ⟨g, 0, none⟩) (newVals j s s.vals.length).length vc) ∧ (V.cell? ⟨wr.heap.size, 0, none⟩ = some (.int .i64 (p : Nat)) ∧ V.cell? ⟨wr.heap.size, 2, none⟩ = some (.int .i64 wt)) ∧ V.cell? ⟨g, p * 2, none⟩ = some (.int .i64 y.a) ∧ V.cell? ⟨g, p * 2 + 1, none⟩ = some (.int .i64 y.label))) [] (by kernel_rfl) (HK.out _ (bD (Below.refl _ _))) (fun hHeld => ?_)
                            refine wpAnyF_pure (i := 0) (v := ?vg1_1_0) rfl (by kernel_rfl) (by kernel_rfl) (by kernel_rfl) (fun _ _ _ h => HPQ.out _ _ _ h _ rfl) (Or.inl ⟨by rfl, ?hyg1_1_0⟩) ?restg1_1_0
                            case hyg1_1_0 => (intro w hSw; clear hSw; go_simp; (all_goals with_reducible rfl))
                            try simp only [Act.put, List.setIfInBounds_toArray, List.set_cons_zero, List.set_cons_succ, List.getElem_toArray, List.getElem_cons_succ, List.getElem_cons_zero]
                            refine wpAnyF_pure (i := 2) (v := ?vg1_2_2) rfl (by kernel_rfl) (by kernel_rfl) (by kernel_rfl) (fun _ _ _ h => HPQ.out _ _ _ h _ rfl) (Or.inl ⟨by rfl, ?hyg1_2_2⟩) ?restg1_2_2
                            case hyg1_2_2 => (intro w hSw; clear hSw; go_simp; (all_goals with_reducible rfl))
                            try simp only [Act.put, List.setIfInBounds_toArray, List.set_cons_zero, List.set_cons_succ, List.getElem_toArray, List.getElem_cons_succ, List.getElem_cons_zero]
                            refine wpAnyF_pure (i := 4) (v := ?vg1_3_4) rfl (by kernel_rfl) (by kernel_rfl) (by kernel_rfl) (fun _ _ _ h => HPQ.out _ _ _ h _ rfl) (Or.inl ⟨by rfl, ?hyg1_3_4⟩) ?restg1_3_4
                            case hyg1_3_4 => (intro w hSw; clear hSw; go_simp; (all_goals with_reducible rfl))
                            try simp only [Act.put, List.setIfInBounds_toArray, List.set_cons_zero, List.set_cons_succ, List.getElem_toArray, List.getElem_cons_succ, List.getElem_cons_zero]
                            refine wpAnyF_pure (i := 8) (v := ?vg1_4_8) rfl (by kernel_rfl) (by kernel_rfl) (by kernel_rfl) (fun _ _ _ h => HPQ.out _ _ _ h _ rfl) (Or.inl ⟨by rfl, ?hyg1_4_8⟩) ?restg1_4_8
                            case hyg1_4_8 => (intro w hSw; clear hSw; go_simp; (all_goals with_reducible rfl))
                            try simp only [Act.put, List.setIfInBounds_toArray, List.set_cons_zero, List.set_cons_succ, List.getElem_toArray, List.getElem_cons_succ, List.getElem_cons_zero]
                            refine wpAnyF_pure (i := 10) (v := ?vg1_5_10) rfl (by kernel_rfl) (by kernel_rfl) (by kernel_rfl) (fun _ _ _ h => HPQ.out _ _ _ h _ rfl) (Or.inl ⟨by rfl, ?hyg1_5_10⟩) ?restg1_5_10
                            case hyg1_5_10 => (intro w hSw; clear hSw; go_simp; (all_goals with_reducible rfl))
                            try simp only [Act.put, List.setIfInBounds_toArray, List.set_cons_zero, List.set_cons_succ, List.getElem_toArray, List.getElem_cons_succ, List.getElem_cons_zero]
                            refine wpAnyF_take [12, 13, 14, 15, 16, 17] (i := 1) (v := ?vg1_6_1) rfl (by kernel_rfl) (by kernel_rfl) (by kernel_rfl) (by kernel_rfl) (fun _ _ _ h => HPQ.out _ _ _ h _ rfl) (Or.inl ⟨by rfl, ?hyg1_6_1⟩) (by assumption) ?restg1_6_1
                            case hyg1_6_1 => (intro w hSw; (try dsimp only at hSw); go_simp; (all_goals with_reducible rfl))
                            try simp only [Act.put, List.setIfInBounds_toArray, List.set_cons_zero, List.set_cons_succ, List.getElem_toArray, List.getElem_cons_succ, List.getElem_cons_zero]
                            refine wpAnyF_take [6, 7, 12, 13, 14, 15, 16, 17] (i := 3) (v := ?vg1_7_3) rfl (by kernel_rfl) (by kernel_rfl) (by kernel_rfl) (by kernel_rfl) (fun _ _ _ h => HPQ.out _ _ _ h _ rfl) (Or.inl ⟨by rfl, ?hyg1_7_3⟩) (by assumption) ?restg1_7_3
                            case hyg1_7_3 => (intro w hSw; (try dsimp only at hSw); go_simp; (all_goals with_reducible rfl))
                            try simp only [Act.put, List.setIfInBounds_toArray, List.set_cons_zero, List.set_cons_succ, List.getElem_toArray, List.getElem_cons_succ, List.getElem_cons_zero]
                            refine wpAnyF_take [6, 7, 12, 13, 14, 15, 16, 17] (i := 5) (v := ?vg1_8_5) rfl (by kernel_rfl) (by kernel_rfl) (by kernel_rfl) (by kernel_rfl) (fun _ _ _ h => HPQ.out _ _ _ h _ rfl) (Or.inl ⟨by rfl, ?hyg1_8_5⟩) (by assumption) ?restg1_8_5
                            case hyg1_8_5 => (intro w hSw; (try dsimp only at hSw); go_simp; (all_goals with_reducible rfl))
                            try simp only [Act.put, List.setIfInBounds_toArray, List.set_cons_zero, List.set_cons_succ, List.getElem_toArray, List.getElem_cons_succ, List.getElem_cons_zero]
                            refine wpAnyF_pure (i := 6) (v := ?vg1_9_6) rfl (by kernel_rfl) (by kernel_rfl) (by kernel_rfl) (fun _ _ _ h => HPQ.out _ _ _ h _ rfl) (Or.inl ⟨by rfl, ?hyg1_9_6⟩) ?restg1_9_6
                            case hyg1_9_6 => (intro w hSw; clear hSw; go_simp; (all_goals with_reducible rfl))
                            try simp only [Act.put, List.setIfInBounds_toArray, List.set_cons_zero, List.set_cons_succ, List.getElem_toArray, List.getElem_cons_succ, List.getElem_cons_zero]
                            refine wpAnyF_take [12, 13, 14, 15, 16, 17] (i := 7) (v := ?vg1_10_7) rfl (by kernel_rfl) (by kernel_rfl) (by kernel_rfl) (by kernel_rfl) (fun _ _ _ h => HPQ.out _ _ _ h _ rfl) (Or.inl ⟨by rfl, ?hyg1_10_7⟩) (by assumption) ?restg1_10_7
                            case hyg1_10_7 => (intro w hSw; (try dsimp only at hSw); go_simp; (all_goals with_reducible rfl))
                            try simp only [Act.put, List.setIfInBounds_toArray, List.set_cons_zero, List.set_cons_succ, List.getElem_toArray, List.getElem_cons_succ, List.getElem_cons_zero]
                            refine wpAnyF_take [12, 13, 14, 15, 16, 17] (i := 9) (v := ?vg1_11_9) rfl (by kernel_rfl) (by kernel_rfl) (by kernel_rfl) (by kernel_rfl) (fun _ _ _ h => HPQ.out _ _ _ h _ rfl) (Or.inl ⟨by rfl, ?hyg1_11_9⟩) (by assumption) ?restg1_11_9
                            case hyg1_11_9 => (intro w hSw; (try dsimp only at hSw); go_simp; (all_goals with_reducible rfl))
                            try simp only [Act.put, List.setIfInBounds_toArray, List.set_cons_zero, List.set_cons_succ, List.getElem_toArray, List.getElem_cons_succ, List.getElem_cons_zero]
                            refine wpAnyF_take [12, 13, 14, 15, 16, 17] (i := 11) (v := ?vg1_12_11) rfl (by kernel_rfl) (by kernel_rfl) (by kernel_rfl) (by kernel_rfl) (fun _ _ _ h => HPQ.out _ _ _ h _ rfl) (Or.inl ⟨by rfl, ?hyg1_12_11⟩) (by assumption) ?restg1_12_11
                            case hyg1_12_11 => (intro w hSw; (try dsimp only at hSw); go_simp; (all_goals with_reducible rfl))
                            try simp only [Act.put, List.setIfInBounds_toArray, List.set_cons_zero, List.set_cons_succ, List.getElem_toArray, List.getElem_cons_succ, List.getElem_cons_zero]
                            refine wpAnyF_one (i := 12) (by kernel_rfl) rfl (fun K hK => ?_)
                            go_simp
                            go_at_call 30
                            refine (HSD.out _).mono ?_
                            rintro e9 v9 ⟨rfl, b9⟩
                            have HB9 := hid (bT hHeld.1 b9)
                            go_wp2_with fail
                            refine hK.out _ _ (HK.out _ HB9.out) (fun hHeld => ?_)
                            clear hK K
                            try simp only [Act.put, List.setIfInBounds_toArray, List.set_cons_zero, List.set_cons_succ, List.getElem_toArray, List.getElem_cons_succ, List.getElem_cons_zero]
                            refine wpAnyF_pure (i := 13) (v := ?vg1_14_13) rfl (by kernel_rfl) (by kernel_rfl) (by kernel_rfl) (fun _ _ _ h => HPQ.out _ _ _ h _ rfl) (Or.inl ⟨by rfl, ?hyg1_14_13⟩) ?restg1_14_13
                            case hyg1_14_13 => (intro w hSw; clear hSw; go_simp; (all_goals with_reducible rfl))
                            try simp only [Act.put, List.setIfInBounds_toArray, List.set_cons_zero, List.set_cons_succ, List.getElem_toArray, List.getElem_cons_succ, List.getElem_cons_zero]
                            refine wpAnyF_pure (i := 14) (v := ?vg1_15_14) rfl (by kernel_rfl) (by kernel_rfl) (by kernel_rfl) (fun _ _ _ h => HPQ.out _ _ _ h _ rfl) (Or.inl ⟨by rfl, ?hyg1_15_14⟩) ?restg1_15_14
                            case hyg1_15_14 => (intro w hSw; clear hSw; go_simp; (all_goals with_reducible rfl))
                            try simp only [Act.put, List.setIfInBounds_toArray, List.set_cons_zero, List.set_cons_succ, List.getElem_toArray, List.getElem_cons_succ, List.getElem_cons_zero]
                            refine wpAnyF_pure (i := 15) (v := ?vg1_16_15) rfl (by kernel_rfl) (by kernel_rfl) (by kernel_rfl) (fun _ _ _ h => HPQ.out _ _ _ h _ rfl) (Or.inl ⟨by rfl, ?hyg1_16_15⟩) ?restg1_16_15
                            case hyg1_16_15 => (intro w hSw; clear hSw; go_simp; (all_goals with_reducible rfl))
                            try simp only [Act.put, List.setIfInBounds_toArray, List.set_cons_zero, List.set_cons_succ, List.getElem_toArray, List.getElem_cons_succ, List.getElem_cons_zero]
                            refine wpAnyF_pure (i := 16) (v := ?vg1_17_16) rfl (by kernel_rfl) (by kernel_rfl) (by kernel_rfl) (fun _ _ _ h => HPQ.out _ _ _ h _ rfl) (Or.inl ⟨by rfl, ?hyg1_17_16⟩) ?restg1_17_16
                            case hyg1_17_16 => (intro w hSw; clear hSw; go_simp; (all_goals with_reducible rfl))
                            try simp only [Act.put, List.setIfInBounds_toArray, List.set_cons_zero, List.set_cons_succ, List.getElem_toArray, List.getElem_cons_succ, List.getElem_cons_zero]
                            refine wpAnyF_pure (i := 17) (v := ?vg1_18_17) rfl (by kernel_rfl) (by kernel_rfl) (by kernel_rfl) (fun _ _ _ h => HPQ.out _ _ _ h _ rfl) (Or.inl ⟨by rfl, ?hyg1_18_17⟩) ?restg1_18_17
                            case hyg1_18_17 => (intro w hSw; clear hSw; go_simp; (all_goals with_reducible rfl))
                            try simp only [Act.put, List.setIfInBounds_toArray, List.set_cons_zero, List.set_cons_succ, List.getElem_toArray, List.getElem_cons_succ, List.getElem_cons_zero]
                            refine wpAnyF_done (by kernel_rfl) ?_ _
                            by_cases her : er = 0
                            · subst her
                              go_wp2_with fail
                              refine (HNB.out _ HB9.out).mono ?_
                              rintro e10 v10 ⟨A1, c1, rfl, o10, b10⟩
                              go_wp2_with fail
                              go_meet
                              exact HSAR.out _ _ A1 c1 rfl (own_more o10 (by have := HB9.out.size; have := HB5.out.size; omega)) (bT HB9.out b10) (by simp)
                            · have hern : (er != 0) = true := by simpa using her
                              have HNV := hid (HNV.out.trans (HER.out her))
                              have HRES := hid (HF5.out.reso.below HB9.out)
                              clear HK
                              have r0 := HRES.out.cell (i := 0) rfl
                              have r1 := HRES.out.cell (i := 1) rfl
                              have r2 := HRES.out.cell (i := 2) rfl
                              have r3 := HRES.out.cell (i := 3) rfl
                              have r4 := HRES.out.cell (i := 4) rfl
                              have r5 := HRES.out.cell (i := 5) rfl
                              have rf := HRES.out.free
                              have hrl := HRES.out.lt
                              go_wp2_with fail
                              rw [← HBP.out]
                              refine bodyPost_ret (v := .tuple #[.agg #[.int .i64 0, .int .i64 0, .bool false, .bool false, .slice none 0 0, .slice none 0 0], .int .i64 er]) (by simp [results, Try.results9, go_sem, *]) rfl ?_
                              rw [HNV.out]
                              refine retSn_zero0 ?_
                              repeat (with_reducible first | refine bD ?_ | refine bS ?_ (by simp <;> omega) _)
                              exact (HF5.out.bl.trans ((HB9.out).mono (by omega)))
                        case rest =>
                          obtain ⟨A1, c1, l1, rfl, HL1, HO6, hb6h, herr⟩ := hcut
                          have hb6 := hb6h.out
                          clear hb6h
                          obtain ⟨WC, hWC⟩ : ∃ x, x = wc := ⟨_, rfl⟩
                          subst hWC
                          have HF6 := hid (HF5.out.below hb6 (T' := T) Agree.refl)
                          have HHE := hid herr.out
                          have gp := keepb hb6 gp
                          have gq := keepb hb6 gq
                          have e0 := keepb hb6 e0
                          have e1 := keepb hb6 e1
                          have e2 := keepb hb6 e2
                          have j2 := keepb hb6 j2
                          have s1 := keepb hb6 s1
                          have rr4 := keepb hb6 rr4
                          have hE6 : wr.heap.size < WC.heap.size := Nat.lt_of_lt_of_le hE5 hb6.size
                          have HB6 := hid hb6
                          clear herr hb6
                          go_upto_region 37 with fail
                          go_cut [193] (fun v wx => v = .bool b2 ∧ wx = WC)
                          case first =>
                            cases it with
                            | false =>
                              have hbb : b2 = false := by rw [HB2.out]; simp
                              go_wp2_with fail
                              go_meet
                              exact ⟨by rw [hbb], rfl⟩
                            | true =>
                              by_cases hc : p = u
                              · have hbb : b2 = (wakeAt j s q).2 := by rw [HB2.out]; cases (wakeAt j s q).2 <;> simp [hc]
                                have hpu2 : ((p : Int) == (u : Int)) = true := by rw [hpu, hc]; simp
                                go_wp2_with fail
                                go_meet
                                exact ⟨by rw [hbb], rfl⟩
                              · have hbb : b2 = false := by rw [HB2.out]; simp [hc]
                                have hpu2 : ((p : Int) == (u : Int)) = false := by rw [hpu]; simp [hc]
                                go_wp2_with fail
                                go_meet
                                exact ⟨by rw [hbb], rfl⟩
                          case rest =>
                            obtain ⟨rfl, hwc⟩ := hcut
                            replace hwc := hwc.symm
                            subst hwc
                            have HREL := hid (fun (V : World) (A2 : Option Addr) (c2 : Nat) (l2 : List Int) (h2 : l2 = if b2 = true then insN (sayV j.kind (wakeAt j s q).1 s.phase wt).1 l1 else l1) (ho : V.ownsRow W.heap.size 3 1 (.slice A2 l2.length c2) l2.length (l2.flatMap i64c)) (hV : Below WC.heap.size WC V) => (show FlE W j s u (.slice A2 l2.length c2) (.int .i64 ((i + 1 : Nat) : Int)) V from flE_next hil HL.out HSTEP.out HTAK.out HOT.out HIT.out HB1.out HB2.out HHE.out HNI.out (by rw [h2, HL1.out]) ho (HBW.out.trans ((HB5.out.trans ((HB6.out.trans (hV.mono HB6.out.size)).mono HB5.out.size)).mono hWs))))
                            cases b2 with
                            | false =>
                              go_wp2_with fail
                              go_roundw
                              case rel =>
                                have h := HREL.out _ A1 c1 l1 (by simp) HO6.out (Below.refl _ _)
                                rw [show ((i + 1 : Nat) : Int) = (i : Int) + 1 by omega] at h
                                exact h
                              case measure => simp [intOf]; omega
                            | true =>
                              have hwk := wakeAt_ok HJ.out HST.out q
                              have HSD := hid (said_walk j.kind (wakeAt j s q).1 s.phase wt (valOk_wf hwk.1) ⟨by omega, by omega⟩)
                              have g0 := keepb HB6.out (hgc _ _ (hfl q _ 0 _ (newVals_at hqn) rfl))
                              have g1 := keepb HB6.out (hgc _ _ (hfl q _ 1 _ (newVals_at hqn) rfl))
                              rw [Nat.add_zero] at g0
                              have hl1 : (l1.length + 1) * 8 ≤ 140737488355000 := by
                                rw [HL1.out]
                                split
                                · rw [insN_len]; omega
                                · omega
                              have HNB := hid (fun (V : World) (hV : Below WC.heap.size WC V) => numberIn_walk l1 (sayV j.kind (wakeAt j s q).1 s.phase wt).1 V A1 c1 (rd_own (own_below HO6.out hV (Nat.le_refl _))) hl1)
                              generalize (wakeAt j s q).1 = y at g0 g1 HSD HNB HREL
                              generalize sayV j.kind y s.phase wt = z at HSD HNB HREL
                              obtain ⟨sy, er⟩ := z
                              dsimp only at HREL HNB
                              clear hgc hfl hwk gp gq j1
                              have HK : Hid (∀ V, Below WC.heap.size WC V → ((fun V => Below WC.heap.size WC V ∧ (V.cell? ⟨w.heap.size, 2, none⟩ = some (.int .i64 j.kind) ∧ V.cell? ⟨w.heap.size + 1, 1, none⟩ = some (.int .i64 s.phase)) ∧ V.cell? ⟨R, 4, none⟩ = some (.slice (some ⟨g, 0, none⟩) (newVals j s s.vals.length).length vc) ∧ (V.cell? ⟨wr.heap.size, 1, none⟩ = some (.int .i64 (q : Nat)) ∧ V.cell? ⟨wr.heap.size, 2, none⟩ = some (.int .i64 wt)) ∧ V.cell? ⟨g, q * 2, none⟩ = some (.int .i64 y.a) ∧ V.cell? ⟨g, q * 2 + 1, none⟩ = some (.int .i64 y.label)) : World → Prop) V) := hid fun V hV => ⟨hV, ⟨keepb hV j2, keepb hV s1⟩, keepb hV rr4, ⟨keepb hV e1, keepb hV e2⟩, keepb hV g0, keepb hV g1⟩
                              go_wp2_with fail
                              refine wp_region_F (S := (fun V => Below WC.heap.size WC V ∧ (V.cell? ⟨w.heap.size, 2, none⟩ = some (.int .i64 j.kind) ∧ V.cell? ⟨w.heap.size + 1, 1, none⟩ = some (.int .i64 s.phase)) ∧ V.cell? ⟨R, 4, none⟩ = some (.slice (some ⟨g, 0, none⟩) (newVals j s s.vals.length).length vc) ∧ (V.cell? ⟨wr.heap.size, 1, none⟩ = some (.int .i64 (q : Nat)) ∧ V.cell? ⟨wr.heap.size, 2, none⟩ = some (.int .i64 wt)) ∧ V.cell? ⟨g, q * 2, none⟩ = some (.int .i64 y.a) ∧ V.cell? ⟨g, q * 2 + 1, none⟩ = some (.int .i64 y.label))) [] (by kernel_rfl) (HK.out _ (bD (Below.refl _ _))) (fun hHeld => ?_)
                              refine wpAnyF_pure (i := 0) (v := ?vg2_1_0) rfl (by kernel_rfl) (by kernel_rfl) (by kernel_rfl) (fun _ _ _ h => HPQ.out _ _ _ h _ rfl) (Or.inl ⟨by rfl, ?hyg2_1_0⟩) ?restg2_1_0
                              case hyg2_1_0 => (intro w hSw; clear hSw; go_simp; (all_goals with_reducible rfl))
                              try simp only [Act.put, List.setIfInBounds_toArray, List.set_cons_zero, List.set_cons_succ, List.getElem_toArray, List.getElem_cons_succ, List.getElem_cons_zero]
                              refine wpAnyF_pure (i := 2) (v := ?vg2_2_2) rfl (by kernel_rfl) (by kernel_rfl) (by kernel_rfl) (fun _ _ _ h => HPQ.out _ _ _ h _ rfl) (Or.inl ⟨by rfl, ?hyg2_2_2⟩) ?restg2_2_2
                              case hyg2_2_2 => (intro w hSw; clear hSw; go_simp; (all_goals with_reducible rfl))
                              try simp only [Act.put, List.setIfInBounds_toArray, List.set_cons_zero, List.set_cons_succ, List.getElem_toArray, List.getElem_cons_succ, List.getElem_cons_zero]
                              refine wpAnyF_pure (i := 4) (v := ?vg2_3_4) rfl (by kernel_rfl) (by kernel_rfl) (by kernel_rfl) (fun _ _ _ h => HPQ.out _ _ _ h _ rfl) (Or.inl ⟨by rfl, ?hyg2_3_4⟩) ?restg2_3_4
                              case hyg2_3_4 => (intro w hSw; clear hSw; go_simp; (all_goals with_reducible rfl))
                              try simp only [Act.put, List.setIfInBounds_toArray, List.set_cons_zero, List.set_cons_succ, List.getElem_toArray, List.getElem_cons_succ, List.getElem_cons_zero]
                              refine wpAnyF_pure (i := 8) (v := ?vg2_4_8) rfl (by kernel_rfl) (by kernel_rfl) (by kernel_rfl) (fun _ _ _ h => HPQ.out _ _ _ h _ rfl) (Or.inl ⟨by rfl, ?hyg2_4_8⟩) ?restg2_4_8
                              case hyg2_4_8 => (intro w hSw; clear hSw; go_simp; (all_goals with_reducible rfl))
                              try simp only [Act.put, List.setIfInBounds_toArray, List.set_cons_zero, List.set_cons_succ, List.getElem_toArray, List.getElem_cons_succ, List.getElem_cons_zero]
                              refine wpAnyF_pure (i := 10) (v := ?vg2_5_10) rfl (by kernel_rfl) (by kernel_rfl) (by kernel_rfl) (fun _ _ _ h => HPQ.out _ _ _ h _ rfl) (Or.inl ⟨by rfl, ?hyg2_5_10⟩) ?restg2_5_10
                              case hyg2_5_10 => (intro w hSw; clear hSw; go_simp; (all_goals with_reducible rfl))
                              try simp only [Act.put, List.setIfInBounds_toArray, List.set_cons_zero, List.set_cons_succ, List.getElem_toArray, List.getElem_cons_succ, List.getElem_cons_zero]
                              refine wpAnyF_take [12, 13, 14, 15, 16, 17] (i := 1) (v := ?vg2_6_1) rfl (by kernel_rfl) (by kernel_rfl) (by kernel_rfl) (by kernel_rfl) (fun _ _ _ h => HPQ.out _ _ _ h _ rfl) (Or.inl ⟨by rfl, ?hyg2_6_1⟩) (by assumption) ?restg2_6_1
                              case hyg2_6_1 => (intro w hSw; (try dsimp only at hSw); go_simp; (all_goals with_reducible rfl))
                              try simp only [Act.put, List.setIfInBounds_toArray, List.set_cons_zero, List.set_cons_succ, List.getElem_toArray, List.getElem_cons_succ, List.getElem_cons_zero]
                              refine wpAnyF_take [6, 7, 12, 13, 14, 15, 16, 17] (i := 3) (v := ?vg2_7_3) rfl (by kernel_rfl) (by kernel_rfl) (by kernel_rfl) (by kernel_rfl) (fun _ _ _ h => HPQ.out _ _ _ h _ rfl) (Or.inl ⟨by rfl, ?hyg2_7_3⟩) (by assumption) ?restg2_7_3
                              case hyg2_7_3 => (intro w hSw; (try dsimp only at hSw); go_simp; (all_goals with_reducible rfl))
                              try simp only [Act.put, List.setIfInBounds_toArray, List.set_cons_zero, List.set_cons_succ, List.getElem_toArray, List.getElem_cons_succ, List.getElem_cons_zero]
                              refine wpAnyF_take [6, 7, 12, 13, 14, 15, 16, 17] (i := 5) (v := ?vg2_8_5) rfl (by kernel_rfl) (by kernel_rfl) (by kernel_rfl) (by kernel_rfl) (fun _ _ _ h => HPQ.out _ _ _ h _ rfl) (Or.inl ⟨by rfl, ?hyg2_8_5⟩) (by assumption) ?restg2_8_5
                              case hyg2_8_5 => (intro w hSw; (try dsimp only at hSw); go_simp; (all_goals with_reducible rfl))
                              try simp only [Act.put, List.setIfInBounds_toArray, List.set_cons_zero, List.set_cons_succ, List.getElem_toArray, List.getElem_cons_succ, List.getElem_cons_zero]
                              refine wpAnyF_pure (i := 6) (v := ?vg2_9_6) rfl (by kernel_rfl) (by kernel_rfl) (by kernel_rfl) (fun _ _ _ h => HPQ.out _ _ _ h _ rfl) (Or.inl ⟨by rfl, ?hyg2_9_6⟩) ?restg2_9_6
                              case hyg2_9_6 => (intro w hSw; clear hSw; go_simp; (all_goals with_reducible rfl))
                              try simp only [Act.put, List.setIfInBounds_toArray, List.set_cons_zero, List.set_cons_succ, List.getElem_toArray, List.getElem_cons_succ, List.getElem_cons_zero]
                              refine wpAnyF_take [12, 13, 14, 15, 16, 17] (i := 7) (v := ?vg2_10_7) rfl (by kernel_rfl) (by kernel_rfl) (by kernel_rfl) (by kernel_rfl) (fun _ _ _ h => HPQ.out _ _ _ h _ rfl) (Or.inl ⟨by rfl, ?hyg2_10_7⟩) (by assumption) ?restg2_10_7
                              case hyg2_10_7 => (intro w hSw; (try dsimp only at hSw); go_simp; (all_goals with_reducible rfl))
                              try simp only [Act.put, List.setIfInBounds_toArray, List.set_cons_zero, List.set_cons_succ, List.getElem_toArray, List.getElem_cons_succ, List.getElem_cons_zero]
                              refine wpAnyF_take [12, 13, 14, 15, 16, 17] (i := 9) (v := ?vg2_11_9) rfl (by kernel_rfl) (by kernel_rfl) (by kernel_rfl) (by kernel_rfl) (fun _ _ _ h => HPQ.out _ _ _ h _ rfl) (Or.inl ⟨by rfl, ?hyg2_11_9⟩) (by assumption) ?restg2_11_9
                              case hyg2_11_9 => (intro w hSw; (try dsimp only at hSw); go_simp; (all_goals with_reducible rfl))
                              try simp only [Act.put, List.setIfInBounds_toArray, List.set_cons_zero, List.set_cons_succ, List.getElem_toArray, List.getElem_cons_succ, List.getElem_cons_zero]
                              refine wpAnyF_take [12, 13, 14, 15, 16, 17] (i := 11) (v := ?vg2_12_11) rfl (by kernel_rfl) (by kernel_rfl) (by kernel_rfl) (by kernel_rfl) (fun _ _ _ h => HPQ.out _ _ _ h _ rfl) (Or.inl ⟨by rfl, ?hyg2_12_11⟩) (by assumption) ?restg2_12_11
                              case hyg2_12_11 => (intro w hSw; (try dsimp only at hSw); go_simp; (all_goals with_reducible rfl))
                              try simp only [Act.put, List.setIfInBounds_toArray, List.set_cons_zero, List.set_cons_succ, List.getElem_toArray, List.getElem_cons_succ, List.getElem_cons_zero]
                              refine wpAnyF_one (i := 12) (by kernel_rfl) rfl (fun K hK => ?_)
                              go_simp
                              go_at_call 30
                              refine (HSD.out _).mono ?_
                              rintro e9 v9 ⟨rfl, b9⟩
                              have HB9 := hid (bT hHeld.1 b9)
                              go_wp2_with fail
                              refine hK.out _ _ (HK.out _ HB9.out) (fun hHeld => ?_)
                              clear hK K
                              try simp only [Act.put, List.setIfInBounds_toArray, List.set_cons_zero, List.set_cons_succ, List.getElem_toArray, List.getElem_cons_succ, List.getElem_cons_zero]
                              refine wpAnyF_pure (i := 13) (v := ?vg2_14_13) rfl (by kernel_rfl) (by kernel_rfl) (by kernel_rfl) (fun _ _ _ h => HPQ.out _ _ _ h _ rfl) (Or.inl ⟨by rfl, ?hyg2_14_13⟩) ?restg2_14_13
                              case hyg2_14_13 => (intro w hSw; clear hSw; go_simp; (all_goals with_reducible rfl))
                              try simp only [Act.put, List.setIfInBounds_toArray, List.set_cons_zero, List.set_cons_succ, List.getElem_toArray, List.getElem_cons_succ, List.getElem_cons_zero]
                              refine wpAnyF_pure (i := 14) (v := ?vg2_15_14) rfl (by kernel_rfl) (by kernel_rfl) (by kernel_rfl) (fun _ _ _ h => HPQ.out _ _ _ h _ rfl) (Or.inl ⟨by rfl, ?hyg2_15_14⟩) ?restg2_15_14
                              case hyg2_15_14 => (intro w hSw; clear hSw; go_simp; (all_goals with_reducible rfl))
                              try simp only [Act.put, List.setIfInBounds_toArray, List.set_cons_zero, List.set_cons_succ, List.getElem_toArray, List.getElem_cons_succ, List.getElem_cons_zero]
                              refine wpAnyF_pure (i := 15) (v := ?vg2_16_15) rfl (by kernel_rfl) (by kernel_rfl) (by kernel_rfl) (fun _ _ _ h => HPQ.out _ _ _ h _ rfl) (Or.inl ⟨by rfl, ?hyg2_16_15⟩) ?restg2_16_15
                              case hyg2_16_15 => (intro w hSw; clear hSw; go_simp; (all_goals with_reducible rfl))
                              try simp only [Act.put, List.setIfInBounds_toArray, List.set_cons_zero, List.set_cons_succ, List.getElem_toArray, List.getElem_cons_succ, List.getElem_cons_zero]
                              refine wpAnyF_pure (i := 16) (v := ?vg2_17_16) rfl (by kernel_rfl) (by kernel_rfl) (by kernel_rfl) (fun _ _ _ h => HPQ.out _ _ _ h _ rfl) (Or.inl ⟨by rfl, ?hyg2_17_16⟩) ?restg2_17_16
                              case hyg2_17_16 => (intro w hSw; clear hSw; go_simp; (all_goals with_reducible rfl))
                              try simp only [Act.put, List.setIfInBounds_toArray, List.set_cons_zero, List.set_cons_succ, List.getElem_toArray, List.getElem_cons_succ, List.getElem_cons_zero]
                              refine wpAnyF_pure (i := 17) (v := ?vg2_18_17) rfl (by kernel_rfl) (by kernel_rfl) (by kernel_rfl) (fun _ _ _ h => HPQ.out _ _ _ h _ rfl) (Or.inl ⟨by rfl, ?hyg2_18_17⟩) ?restg2_18_17
                              case hyg2_18_17 => (intro w hSw; clear hSw; go_simp; (all_goals with_reducible rfl))
                              try simp only [Act.put, List.setIfInBounds_toArray, List.set_cons_zero, List.set_cons_succ, List.getElem_toArray, List.getElem_cons_succ, List.getElem_cons_zero]
                              refine wpAnyF_done (by kernel_rfl) ?_ _
                              go_wp2_with fail
                              refine (HNB.out _ HB9.out).mono ?_
                              rintro e10 v10 ⟨A2, c2, rfl, o10, b10⟩
                              go_wp2_with fail
                              go_roundw
                              case rel =>
                                have h := HREL.out _ A2 c2 (insN sy l1) (by simp) (by rw [insN_len]; exact own_more o10 (by have := HB9.out.size; have := HB5.out.size; have := HB6.out.size; omega)) (bT HB9.out b10)
                                rw [show ((i + 1 : Nat) : Int) = (i : Int) + 1 by omega, insN_len] at h
                                exact h
                              case measure => simp [intOf]; omega
                    · obtain rfl : i = j.graph.edges.length := by omega
                      have hl : l = docRow j s u j.graph.edges := by rw [HL.out, List.take_length]
                      have hll : l.length ≤ 1200 := by rw [hl]; have := docRow_len j s u j.graph.edges; omega
                      have HFR := hid (HFO.out.below HBW.out (T' := upd W.heap.size T 7) (agree_upd (Nat.le_refl _)))
                      have HROW := hid (TRow.of_own (T := T) (t := 7) HOW.out (Nat.le_refl _))
                      have r5 := HFR.out.obj.cell (i := 5) rfl
                      have rf := HFR.out.obj.free
                      have hRl := HFR.out.obj.lt
                      have hml : m.length = u := by have := congrArg List.length HLM.out; simpa [lists] using this
                      have hto := HTO.out
                      have hw1 : IntKind.i64.wrap ((tot : Int) + (l.length : Int)) = ((tot + l.length : Nat) : Int) := by rw [IntWalk.i64_in _ (by omega)]; omega
                      have hn24 : (m.length + 1) * 24 ≤ 140737488355328 := by omega
                      have HTO2 := hid (show tot + l.length = totM (m ++ [(⟨A3, c3, l⟩ : ML Int)]) ∧ tot + l.length ≤ 1200 * (u + 1) from ⟨by rw [totM_push, ← hto.1], by omega⟩)
                      have HLM2 := hid (show lists (m ++ [(⟨A3, c3, l⟩ : ML Int)]) = (List.range (u + 1)).map fun u => docRow j s u j.graph.edges by rw [lists_push, HLM.out, List.range_succ, List.map_append, hl]; rfl)
                      have HNE2 := hid (show ∀ u2 < u + 1, ∀ e ∈ j.graph.edges, (waysV j.kind s.phase).1 = true → e.dst = (u2 : Int) → (wakeAt j s e.src.toNat).2 = true → (sayV j.kind (wakeAt j s e.src.toNat).1 s.phase e.wt).2 = 0 from fun u2 hu2 e he => by
                        rcases Nat.lt_succ_iff_lt_or_eq.1 hu2 with h | rfl
                        · exact HNE.out u2 h e he
                        · exact HNI.out e (by rw [List.take_length]; exact he))
                      clear hl hto hml
                      go_wp2_with (at_builtin; refine wp_appT _ rfl rfl el_grid_int rfl ((HFR.out.below (bA (Below.refl _ _) _) Agree.refl).mail) rfl (rd_newAt _ _ _ 1 1 _ (by simp) rfl) (one_ML [(⟨A3, c3, l⟩ : ML Int)]) hn24 ?_; intro A5 c5 w5 o5 k5; have HP5 := hid (FO.pushMail (x := ⟨A3, c3, l⟩) HFR.out (agree_upd (by simp)) HROW.out o5 ((Keep.below (bA (Below.refl _ _) _)).trans k5 Agree.refl)); have rf := ((HFR.out.below (bA (Below.refl _ _) _) Agree.refl).obj.keep k5 (by omega) Agree.refl).free; have r5 := ((HFR.out.below (bA (Below.refl _ _) _) Agree.refl).obj.keep k5 (by omega) Agree.refl).cell (i := 5) rfl; have hRl := ((HFR.out.below (bA (Below.refl _ _) _) Agree.refl).obj.keep k5 (by omega) Agree.refl).lt; clear o5 k5)
                      go_roundw
                      case rel => exact ⟨u + 1, _, A5, c5, m ++ [⟨A3, c3, l⟩], tot + l.length, by omega, by go_num, rfl, HP5, HLM2, HTO2, HNE2⟩
                      case measure => simp [intOf]; omega
                · obtain rfl : u = s.vals.length := by omega
                  have huz : ¬ ((s.vals.length : Nat) : Int) < (s.vals.length : Int) := by omega
                  have HOKA := hid (show ∀ e ∈ j.graph.edges, (waysV j.kind s.phase).1 = true → (wakeAt j s e.src.toNat).2 = true → (sayV j.kind (wakeAt j s e.src.toNat).1 s.phase e.wt).2 = 0 from fun e he h1 h2 => by
                    have h3 := HE.out e he
                    exact HNE.out e.dst.toNat (by omega) e he h1 (by omega) h2)
                  have HMD := hid (madeP_doc HJ.out HST.out HEO.out HOKA.out)
                  have HFF := HFO
                  have HAN := hid (any_tot HLM.out HTO.out.1)
                  have hTR := HFF.out.obj.tag
                  have hTN := HFF.out.reso.tag
                  have hRl := HFF.out.obj.lt
                  have hRN := HFF.out.nl
                  have hNs := HFF.out.size
                  have hrf := HFF.out.reso.free
                  have hRf := HFF.out.obj.free
                  have t0 := HFF.out.reso.cell (i := 0) rfl
                  have t1 := HFF.out.reso.cell (i := 1) rfl
                  have t2 := HFF.out.reso.cell (i := 2) rfl
                  have t3 := HFF.out.reso.cell (i := 3) rfl
                  have t4 := HFF.out.reso.cell (i := 4) rfl
                  have t5 := HFF.out.reso.cell (i := 5) rfl
                  have hNR : w.heap.size + 2 ≠ R := by omega
                  have j2 := HFO.out.jobo.cell (i := 2) rfl
                  have s1 := HFO.out.sto.cell (i := 1) rfl
                  by_cases ht : 0 < tot
                  · have hb1 : decide ((0 : Int) < (tot : Int)) = true := by simp; omega
                    have htz : (0 : Int) < (tot : Int) := by omega
                    have HQV := hid (show (if anyM (docRows j s) = true then (s.phase, false, false) else quietV j.kind s.phase (newVals j s s.vals.length)) = (s.phase, false, false) by rw [if_pos (HAN.out.2 ht)])
                    obtain ⟨wy, hwy⟩ : ∃ wy, wy = wr := ⟨_, rfl⟩
                    have HKP : Hid (Keep (fun x => x = 1 ∨ x = 6) T wr wy) := hid (by rw [hwy]; exact Keep.refl (S := fun x => x = 1 ∨ x = 6) (T := T) (w := wr))
                    have HBP : Hid (Below w.heap.size w wy) := hid (by rw [hwy]; exact HFF.out.bl)
                    have HOD : Hid (TObj wy T 1 R #[.int .i64 (s.step + 1), .int .i64 s.phase, .bool false, .bool false, .slice VA (newVals j s s.vals.length).length vc, .slice MA m.length mc] 30) := hid (by rw [hwy]; exact HFF.out.obj)
                    have HRY : Hid (TObj wy T 6 (w.heap.size + 2) #[.int .i64 0, .int .i64 0, .bool false, .bool false, .slice none 0 0, .slice none 0 0] 30) := hid (by rw [hwy]; exact HFF.out.reso.keep (S := fun x => x = 1) (Keep.refl (S := fun x => x = 1) (T := T) (w := wr)) (by omega) Agree.refl)
                    go_upto_region 43 with fail
                    rw [← hwy]
                    clear hwy t0 t1 t2 t3 t4 t5 hrf hRf j2 s1 hRl
                    have q0 := HOD.out.cell (i := 0) (v := (.int .i64 (s.step + 1))) rfl
                    have q1 := HOD.out.cell (i := 1) (v := (.int .i64 s.phase)) rfl
                    have q2 := HOD.out.cell (i := 2) (v := (.bool false)) rfl
                    have q3 := HOD.out.cell (i := 3) (v := (.bool false)) rfl
                    have q4 := HOD.out.cell (i := 4) (v := (.slice VA (newVals j s s.vals.length).length vc)) rfl
                    have q5 := HOD.out.cell (i := 5) (v := (.slice MA m.length mc)) rfl
                    have t0 := HRY.out.cell (i := 0) (v := .int .i64 0) rfl
                    have t1 := HRY.out.cell (i := 1) (v := .int .i64 0) rfl
                    have t2 := HRY.out.cell (i := 2) (v := .bool false) rfl
                    have t3 := HRY.out.cell (i := 3) (v := .bool false) rfl
                    have t4 := HRY.out.cell (i := 4) (v := .slice none 0 0) rfl
                    have t5 := HRY.out.cell (i := 5) (v := .slice none 0 0) rfl
                    have hrf := HRY.out.free
                    have htl := HRY.out.lt
                    have hql := HOD.out.lt
                    go_wp2_with fail
                    clear t0 t1 t2 t3 t4 t5 hrf htl hql q0 q1 q2 q3 q4 q5
                    obtain ⟨wf, hwf, hro, hkf, hbf⟩ := store6 HRY.out HKP.out (.inr rfl) HBP.out (Nat.le_add_right _ 2) (.int .i64 (s.step + 1)) (.int .i64 s.phase) (.bool false) (.bool false) (.slice VA (newVals j s s.vals.length).length vc) (.slice MA m.length mc)
                    rw [← hwf]
                    clear hwf HKP HBP HOD HRY
                    have u0 := hro.cell (i := 0) (v := (.int .i64 (s.step + 1))) rfl
                    have u1 := hro.cell (i := 1) (v := (.int .i64 s.phase)) rfl
                    have u2 := hro.cell (i := 2) (v := (.bool false)) rfl
                    have u3 := hro.cell (i := 3) (v := (.bool false)) rfl
                    have u4 := hro.cell (i := 4) (v := (.slice VA (newVals j s s.vals.length).length vc)) rfl
                    have u5 := hro.cell (i := 5) (v := (.slice MA m.length mc)) rfl
                    have hRT := HFF.out.ret hkf
                    have hrt1 := hRT.1
                    have hrt2 := hRT.2
                    clear hRT hro hkf
                    rw [← HBP.out]
                    refine bodyPost_ret (v := .tuple #[.agg #[.int .i64 (s.step + 1), .int .i64 s.phase, .bool false, .bool false, .slice VA (newVals j s s.vals.length).length vc, .slice MA m.length mc], .int .i64 0]) (by simp [results, Try.results9, go_sem, u0, u1, u2, u3, u4, u5]) rfl ?_
                    rw [HNV.out, HMD.out]
                    refine ⟨VA, vc, MA, mc, m, ?_, ?_, ?_, hrt2, hbf⟩
                    · unfold stCells
                      dsimp only
                      rw [HQV.out]
                      try rfl
                    · rw [HLM.out]; unfold docRows lists; rw [List.map_map]; simp [Function.comp_def]
                    · dsimp only
                      exact hrt1
                  · obtain rfl : tot = 0 := by omega
                    have HQ0 := hid (show (if anyM (docRows j s) = true then (s.phase, false, false) else quietV j.kind s.phase (newVals j s s.vals.length)) = quietV j.kind s.phase (newVals j s s.vals.length) by rw [if_neg (fun h => ht (HAN.out.1 h))])
                    by_cases hk3 : j.kind = 3
                    · have hkb : (j.kind != 3) = false := by simp [hk3]
                      have hp := HST.out.2.1
                      by_cases hp0 : s.phase = 0
                      · have hpb : (s.phase == 1) = false := by simp [hp0]
                        have HQV := hid (show (if anyM (docRows j s) = true then (s.phase, false, false) else quietV j.kind s.phase (newVals j s s.vals.length)) = (1 - s.phase, true, false) by rw [HQ0.out]; unfold quietV; rw [if_neg (by simpa using hk3), if_pos hp0, hp0]; rfl)
                        have hws : IntKind.i64.wrap (1 - s.phase) = 1 - s.phase := IntWalk.i64_in _ (by omega)
                        clear hp hp0
                        have r1 := HFF.out.obj.cell (i := 1) (v := .int .i64 s.phase) rfl
                        have r2 := HFF.out.obj.cell (i := 2) (v := .bool false) rfl
                        have r3 := HFF.out.obj.cell (i := 3) (v := .bool false) rfl
                        obtain ⟨wy, hwy⟩ : ∃ wy, wy = (World.setCell (World.setCell wr ⟨R, 2, none⟩ (.bool true)) ⟨R, 1, none⟩ (.int .i64 (1 - s.phase))) := ⟨_, rfl⟩
                        have HKP : Hid (Keep (fun x => x = 1 ∨ x = 6) T wr wy) := hid (by rw [hwy]; exact ((Keep.refl (S := fun x => x = 1 ∨ x = 6) (T := T) (w := wr)).setCell (p := ⟨R, 2, none⟩) (fun _ => .inl hTR) (.bool true)).setCell (p := ⟨R, 1, none⟩) (fun _ => .inl hTR) (.int .i64 (1 - s.phase)))
                        have HBP : Hid (Below w.heap.size w wy) := hid (by rw [hwy]; exact bS (p := ⟨R, 1, none⟩) (bS (p := ⟨R, 2, none⟩) (HFF.out.bl) (by show w.heap.size ≤ R; omega) (.bool true)) (by show w.heap.size ≤ R; omega) (.int .i64 (1 - s.phase)))
                        have HOD : Hid (TObj wy T 1 R #[.int .i64 (s.step + 1), .int .i64 (1 - s.phase), .bool true, .bool false, .slice VA (newVals j s s.vals.length).length vc, .slice MA m.length mc] 30) := hid (by rw [hwy]; exact ((HFF.out.obj).store 2 (.bool true)).store 1 (.int .i64 (1 - s.phase)))
                        have HRY : Hid (TObj wy T 6 (w.heap.size + 2) #[.int .i64 0, .int .i64 0, .bool false, .bool false, .slice none 0 0, .slice none 0 0] 30) := hid (by rw [hwy]; exact HFF.out.reso.keep (S := fun x => x = 1) (((Keep.refl (S := fun x => x = 1) (T := T) (w := wr)).setCell (p := ⟨R, 2, none⟩) (fun _ => hTR) (.bool true)).setCell (p := ⟨R, 1, none⟩) (fun _ => hTR) (.int .i64 (1 - s.phase))) (by omega) Agree.refl)
                        go_upto_region 49 with fail
                        rw [← hwy]
                        clear hwy t0 t1 t2 t3 t4 t5 hrf hRf j2 s1 hRl r1 r2 r3
                        have q0 := HOD.out.cell (i := 0) (v := (.int .i64 (s.step + 1))) rfl
                        have q1 := HOD.out.cell (i := 1) (v := (.int .i64 (1 - s.phase))) rfl
                        have q2 := HOD.out.cell (i := 2) (v := (.bool true)) rfl
                        have q3 := HOD.out.cell (i := 3) (v := (.bool false)) rfl
                        have q4 := HOD.out.cell (i := 4) (v := (.slice VA (newVals j s s.vals.length).length vc)) rfl
                        have q5 := HOD.out.cell (i := 5) (v := (.slice MA m.length mc)) rfl
                        have t0 := HRY.out.cell (i := 0) (v := .int .i64 0) rfl
                        have t1 := HRY.out.cell (i := 1) (v := .int .i64 0) rfl
                        have t2 := HRY.out.cell (i := 2) (v := .bool false) rfl
                        have t3 := HRY.out.cell (i := 3) (v := .bool false) rfl
                        have t4 := HRY.out.cell (i := 4) (v := .slice none 0 0) rfl
                        have t5 := HRY.out.cell (i := 5) (v := .slice none 0 0) rfl
                        have hrf := HRY.out.free
                        have htl := HRY.out.lt
                        have hql := HOD.out.lt
                        go_wp2_with fail
                        clear t0 t1 t2 t3 t4 t5 hrf htl hql q0 q1 q2 q3 q4 q5
                        obtain ⟨wf, hwf, hro, hkf, hbf⟩ := store6 HRY.out HKP.out (.inr rfl) HBP.out (Nat.le_add_right _ 2) (.int .i64 (s.step + 1)) (.int .i64 (1 - s.phase)) (.bool true) (.bool false) (.slice VA (newVals j s s.vals.length).length vc) (.slice MA m.length mc)
                        rw [← hwf]
                        clear hwf HKP HBP HOD HRY
                        have u0 := hro.cell (i := 0) (v := (.int .i64 (s.step + 1))) rfl
                        have u1 := hro.cell (i := 1) (v := (.int .i64 (1 - s.phase))) rfl
                        have u2 := hro.cell (i := 2) (v := (.bool true)) rfl
                        have u3 := hro.cell (i := 3) (v := (.bool false)) rfl
                        have u4 := hro.cell (i := 4) (v := (.slice VA (newVals j s s.vals.length).length vc)) rfl
                        have u5 := hro.cell (i := 5) (v := (.slice MA m.length mc)) rfl
                        have hRT := HFF.out.ret hkf
                        have hrt1 := hRT.1
                        have hrt2 := hRT.2
                        clear hRT hro hkf
                        rw [← HBP.out]
                        refine bodyPost_ret (v := .tuple #[.agg #[.int .i64 (s.step + 1), .int .i64 (1 - s.phase), .bool true, .bool false, .slice VA (newVals j s s.vals.length).length vc, .slice MA m.length mc], .int .i64 0]) (by simp [results, Try.results9, go_sem, u0, u1, u2, u3, u4, u5]) rfl ?_
                        rw [HNV.out, HMD.out]
                        refine ⟨VA, vc, MA, mc, m, ?_, ?_, ?_, hrt2, hbf⟩
                        · unfold stCells
                          dsimp only
                          rw [HQV.out]
                          try rfl
                        · rw [HLM.out]; unfold docRows lists; rw [List.map_map]; simp [Function.comp_def]
                        · dsimp only
                          exact hrt1
                      · have hp1 : s.phase = 1 := by omega
                        have hpb : (s.phase == 1) = true := by simp [hp1]
                        have hws : IntKind.i64.wrap (1 - s.phase) = 1 - s.phase := IntWalk.i64_in _ (by omega)
                        cases op with
                        | true =>
                          have hla : lblAll (newVals j s s.vals.length) = false := by have := HOP.out; simpa using this.symm
                          have HQV := hid (show (if anyM (docRows j s) = true then (s.phase, false, false) else quietV j.kind s.phase (newVals j s s.vals.length)) = (1 - s.phase, true, false) by rw [HQ0.out]; unfold quietV; rw [if_neg (by simpa using hk3), if_neg hp0, if_pos hla, hp1]; rfl)
                          clear hp hp0 hp1 hla
                          have r1 := HFF.out.obj.cell (i := 1) (v := .int .i64 s.phase) rfl
                          have r2 := HFF.out.obj.cell (i := 2) (v := .bool false) rfl
                          have r3 := HFF.out.obj.cell (i := 3) (v := .bool false) rfl
                          obtain ⟨wy, hwy⟩ : ∃ wy, wy = (World.setCell (World.setCell wr ⟨R, 2, none⟩ (.bool true)) ⟨R, 1, none⟩ (.int .i64 (1 - s.phase))) := ⟨_, rfl⟩
                          have HKP : Hid (Keep (fun x => x = 1 ∨ x = 6) T wr wy) := hid (by rw [hwy]; exact ((Keep.refl (S := fun x => x = 1 ∨ x = 6) (T := T) (w := wr)).setCell (p := ⟨R, 2, none⟩) (fun _ => .inl hTR) (.bool true)).setCell (p := ⟨R, 1, none⟩) (fun _ => .inl hTR) (.int .i64 (1 - s.phase)))
                          have HBP : Hid (Below w.heap.size w wy) := hid (by rw [hwy]; exact bS (p := ⟨R, 1, none⟩) (bS (p := ⟨R, 2, none⟩) (HFF.out.bl) (by show w.heap.size ≤ R; omega) (.bool true)) (by show w.heap.size ≤ R; omega) (.int .i64 (1 - s.phase)))
                          have HOD : Hid (TObj wy T 1 R #[.int .i64 (s.step + 1), .int .i64 (1 - s.phase), .bool true, .bool false, .slice VA (newVals j s s.vals.length).length vc, .slice MA m.length mc] 30) := hid (by rw [hwy]; exact ((HFF.out.obj).store 2 (.bool true)).store 1 (.int .i64 (1 - s.phase)))
                          have HRY : Hid (TObj wy T 6 (w.heap.size + 2) #[.int .i64 0, .int .i64 0, .bool false, .bool false, .slice none 0 0, .slice none 0 0] 30) := hid (by rw [hwy]; exact HFF.out.reso.keep (S := fun x => x = 1) (((Keep.refl (S := fun x => x = 1) (T := T) (w := wr)).setCell (p := ⟨R, 2, none⟩) (fun _ => hTR) (.bool true)).setCell (p := ⟨R, 1, none⟩) (fun _ => hTR) (.int .i64 (1 - s.phase))) (by omega) Agree.refl)
                          go_upto_region 49 with fail
                          rw [← hwy]
                          clear hwy t0 t1 t2 t3 t4 t5 hrf hRf j2 s1 hRl r1 r2 r3
                          have q0 := HOD.out.cell (i := 0) (v := (.int .i64 (s.step + 1))) rfl
                          have q1 := HOD.out.cell (i := 1) (v := (.int .i64 (1 - s.phase))) rfl
                          have q2 := HOD.out.cell (i := 2) (v := (.bool true)) rfl
                          have q3 := HOD.out.cell (i := 3) (v := (.bool false)) rfl
                          have q4 := HOD.out.cell (i := 4) (v := (.slice VA (newVals j s s.vals.length).length vc)) rfl
                          have q5 := HOD.out.cell (i := 5) (v := (.slice MA m.length mc)) rfl
                          have t0 := HRY.out.cell (i := 0) (v := .int .i64 0) rfl
                          have t1 := HRY.out.cell (i := 1) (v := .int .i64 0) rfl
                          have t2 := HRY.out.cell (i := 2) (v := .bool false) rfl
                          have t3 := HRY.out.cell (i := 3) (v := .bool false) rfl
                          have t4 := HRY.out.cell (i := 4) (v := .slice none 0 0) rfl
                          have t5 := HRY.out.cell (i := 5) (v := .slice none 0 0) rfl
                          have hrf := HRY.out.free
                          have htl := HRY.out.lt
                          have hql := HOD.out.lt
                          go_wp2_with fail
                          clear t0 t1 t2 t3 t4 t5 hrf htl hql q0 q1 q2 q3 q4 q5
                          obtain ⟨wf, hwf, hro, hkf, hbf⟩ := store6 HRY.out HKP.out (.inr rfl) HBP.out (Nat.le_add_right _ 2) (.int .i64 (s.step + 1)) (.int .i64 (1 - s.phase)) (.bool true) (.bool false) (.slice VA (newVals j s s.vals.length).length vc) (.slice MA m.length mc)
                          rw [← hwf]
                          clear hwf HKP HBP HOD HRY
                          have u0 := hro.cell (i := 0) (v := (.int .i64 (s.step + 1))) rfl
                          have u1 := hro.cell (i := 1) (v := (.int .i64 (1 - s.phase))) rfl
                          have u2 := hro.cell (i := 2) (v := (.bool true)) rfl
                          have u3 := hro.cell (i := 3) (v := (.bool false)) rfl
                          have u4 := hro.cell (i := 4) (v := (.slice VA (newVals j s s.vals.length).length vc)) rfl
                          have u5 := hro.cell (i := 5) (v := (.slice MA m.length mc)) rfl
                          have hRT := HFF.out.ret hkf
                          have hrt1 := hRT.1
                          have hrt2 := hRT.2
                          clear hRT hro hkf
                          rw [← HBP.out]
                          refine bodyPost_ret (v := .tuple #[.agg #[.int .i64 (s.step + 1), .int .i64 (1 - s.phase), .bool true, .bool false, .slice VA (newVals j s s.vals.length).length vc, .slice MA m.length mc], .int .i64 0]) (by simp [results, Try.results9, go_sem, u0, u1, u2, u3, u4, u5]) rfl ?_
                          rw [HNV.out, HMD.out]
                          refine ⟨VA, vc, MA, mc, m, ?_, ?_, ?_, hrt2, hbf⟩
                          · unfold stCells
                            dsimp only
                            rw [HQV.out]
                            try rfl
                          · rw [HLM.out]; unfold docRows lists; rw [List.map_map]; simp [Function.comp_def]
                          · dsimp only
                            exact hrt1
                        | false =>
                          have hla : lblAll (newVals j s s.vals.length) = true := by have := HOP.out; simpa using this.symm
                          have HQV := hid (show (if anyM (docRows j s) = true then (s.phase, false, false) else quietV j.kind s.phase (newVals j s s.vals.length)) = (s.phase, false, true) by rw [HQ0.out]; unfold quietV; rw [if_neg (by simpa using hk3), if_neg hp0, if_neg (by rw [hla]; simp)])
                          clear hp hp0 hp1 hla
                          have r1 := HFF.out.obj.cell (i := 1) (v := .int .i64 s.phase) rfl
                          have r2 := HFF.out.obj.cell (i := 2) (v := .bool false) rfl
                          have r3 := HFF.out.obj.cell (i := 3) (v := .bool false) rfl
                          obtain ⟨wy, hwy⟩ : ∃ wy, wy = (World.setCell wr ⟨R, 3, none⟩ (.bool true)) := ⟨_, rfl⟩
                          have HKP : Hid (Keep (fun x => x = 1 ∨ x = 6) T wr wy) := hid (by rw [hwy]; exact (Keep.refl (S := fun x => x = 1 ∨ x = 6) (T := T) (w := wr)).setCell (p := ⟨R, 3, none⟩) (fun _ => .inl hTR) (.bool true))
                          have HBP : Hid (Below w.heap.size w wy) := hid (by rw [hwy]; exact bS (p := ⟨R, 3, none⟩) (HFF.out.bl) (by show w.heap.size ≤ R; omega) (.bool true))
                          have HOD : Hid (TObj wy T 1 R #[.int .i64 (s.step + 1), .int .i64 s.phase, .bool false, .bool true, .slice VA (newVals j s s.vals.length).length vc, .slice MA m.length mc] 30) := hid (by rw [hwy]; exact (HFF.out.obj).store 3 (.bool true))
                          have HRY : Hid (TObj wy T 6 (w.heap.size + 2) #[.int .i64 0, .int .i64 0, .bool false, .bool false, .slice none 0 0, .slice none 0 0] 30) := hid (by rw [hwy]; exact HFF.out.reso.keep (S := fun x => x = 1) ((Keep.refl (S := fun x => x = 1) (T := T) (w := wr)).setCell (p := ⟨R, 3, none⟩) (fun _ => hTR) (.bool true)) (by omega) Agree.refl)
                          go_upto_region 46 with fail
                          rw [← hwy]
                          clear hwy t0 t1 t2 t3 t4 t5 hrf hRf j2 s1 hRl r1 r2 r3
                          have q0 := HOD.out.cell (i := 0) (v := (.int .i64 (s.step + 1))) rfl
                          have q1 := HOD.out.cell (i := 1) (v := (.int .i64 s.phase)) rfl
                          have q2 := HOD.out.cell (i := 2) (v := (.bool false)) rfl
                          have q3 := HOD.out.cell (i := 3) (v := (.bool true)) rfl
                          have q4 := HOD.out.cell (i := 4) (v := (.slice VA (newVals j s s.vals.length).length vc)) rfl
                          have q5 := HOD.out.cell (i := 5) (v := (.slice MA m.length mc)) rfl
                          have t0 := HRY.out.cell (i := 0) (v := .int .i64 0) rfl
                          have t1 := HRY.out.cell (i := 1) (v := .int .i64 0) rfl
                          have t2 := HRY.out.cell (i := 2) (v := .bool false) rfl
                          have t3 := HRY.out.cell (i := 3) (v := .bool false) rfl
                          have t4 := HRY.out.cell (i := 4) (v := .slice none 0 0) rfl
                          have t5 := HRY.out.cell (i := 5) (v := .slice none 0 0) rfl
                          have hrf := HRY.out.free
                          have htl := HRY.out.lt
                          have hql := HOD.out.lt
                          go_wp2_with fail
                          clear t0 t1 t2 t3 t4 t5 hrf htl hql q0 q1 q2 q3 q4 q5
                          obtain ⟨wf, hwf, hro, hkf, hbf⟩ := store6 HRY.out HKP.out (.inr rfl) HBP.out (Nat.le_add_right _ 2) (.int .i64 (s.step + 1)) (.int .i64 s.phase) (.bool false) (.bool true) (.slice VA (newVals j s s.vals.length).length vc) (.slice MA m.length mc)
                          rw [← hwf]
                          clear hwf HKP HBP HOD HRY
                          have u0 := hro.cell (i := 0) (v := (.int .i64 (s.step + 1))) rfl
                          have u1 := hro.cell (i := 1) (v := (.int .i64 s.phase)) rfl
                          have u2 := hro.cell (i := 2) (v := (.bool false)) rfl
                          have u3 := hro.cell (i := 3) (v := (.bool true)) rfl
                          have u4 := hro.cell (i := 4) (v := (.slice VA (newVals j s s.vals.length).length vc)) rfl
                          have u5 := hro.cell (i := 5) (v := (.slice MA m.length mc)) rfl
                          have hRT := HFF.out.ret hkf
                          have hrt1 := hRT.1
                          have hrt2 := hRT.2
                          clear hRT hro hkf
                          rw [← HBP.out]
                          refine bodyPost_ret (v := .tuple #[.agg #[.int .i64 (s.step + 1), .int .i64 s.phase, .bool false, .bool true, .slice VA (newVals j s s.vals.length).length vc, .slice MA m.length mc], .int .i64 0]) (by simp [results, Try.results9, go_sem, u0, u1, u2, u3, u4, u5]) rfl ?_
                          rw [HNV.out, HMD.out]
                          refine ⟨VA, vc, MA, mc, m, ?_, ?_, ?_, hrt2, hbf⟩
                          · unfold stCells
                            dsimp only
                            rw [HQV.out]
                            try rfl
                          · rw [HLM.out]; unfold docRows lists; rw [List.map_map]; simp [Function.comp_def]
                          · dsimp only
                            exact hrt1
                    · have hkb : (j.kind != 3) = true := by simpa using hk3
                      have HQV := hid (show (if anyM (docRows j s) = true then (s.phase, false, false) else quietV j.kind s.phase (newVals j s s.vals.length)) = (s.phase, false, true) by rw [HQ0.out]; unfold quietV; rw [if_pos hk3])
                      have r1 := HFF.out.obj.cell (i := 1) (v := .int .i64 s.phase) rfl
                      have r2 := HFF.out.obj.cell (i := 2) (v := .bool false) rfl
                      have r3 := HFF.out.obj.cell (i := 3) (v := .bool false) rfl
                      obtain ⟨wy, hwy⟩ : ∃ wy, wy = (World.setCell wr ⟨R, 3, none⟩ (.bool true)) := ⟨_, rfl⟩
                      have HKP : Hid (Keep (fun x => x = 1 ∨ x = 6) T wr wy) := hid (by rw [hwy]; exact (Keep.refl (S := fun x => x = 1 ∨ x = 6) (T := T) (w := wr)).setCell (p := ⟨R, 3, none⟩) (fun _ => .inl hTR) (.bool true))
                      have HBP : Hid (Below w.heap.size w wy) := hid (by rw [hwy]; exact bS (p := ⟨R, 3, none⟩) (HFF.out.bl) (by show w.heap.size ≤ R; omega) (.bool true))
                      have HOD : Hid (TObj wy T 1 R #[.int .i64 (s.step + 1), .int .i64 s.phase, .bool false, .bool true, .slice VA (newVals j s s.vals.length).length vc, .slice MA m.length mc] 30) := hid (by rw [hwy]; exact (HFF.out.obj).store 3 (.bool true))
                      have HRY : Hid (TObj wy T 6 (w.heap.size + 2) #[.int .i64 0, .int .i64 0, .bool false, .bool false, .slice none 0 0, .slice none 0 0] 30) := hid (by rw [hwy]; exact HFF.out.reso.keep (S := fun x => x = 1) ((Keep.refl (S := fun x => x = 1) (T := T) (w := wr)).setCell (p := ⟨R, 3, none⟩) (fun _ => hTR) (.bool true)) (by omega) Agree.refl)
                      go_upto_region 46 with fail
                      rw [← hwy]
                      clear hwy t0 t1 t2 t3 t4 t5 hrf hRf j2 s1 hRl r1 r2 r3
                      have q0 := HOD.out.cell (i := 0) (v := (.int .i64 (s.step + 1))) rfl
                      have q1 := HOD.out.cell (i := 1) (v := (.int .i64 s.phase)) rfl
                      have q2 := HOD.out.cell (i := 2) (v := (.bool false)) rfl
                      have q3 := HOD.out.cell (i := 3) (v := (.bool true)) rfl
                      have q4 := HOD.out.cell (i := 4) (v := (.slice VA (newVals j s s.vals.length).length vc)) rfl
                      have q5 := HOD.out.cell (i := 5) (v := (.slice MA m.length mc)) rfl
                      have t0 := HRY.out.cell (i := 0) (v := .int .i64 0) rfl
                      have t1 := HRY.out.cell (i := 1) (v := .int .i64 0) rfl
                      have t2 := HRY.out.cell (i := 2) (v := .bool false) rfl
                      have t3 := HRY.out.cell (i := 3) (v := .bool false) rfl
                      have t4 := HRY.out.cell (i := 4) (v := .slice none 0 0) rfl
                      have t5 := HRY.out.cell (i := 5) (v := .slice none 0 0) rfl
                      have hrf := HRY.out.free
                      have htl := HRY.out.lt
                      have hql := HOD.out.lt
                      go_wp2_with fail
                      clear t0 t1 t2 t3 t4 t5 hrf htl hql q0 q1 q2 q3 q4 q5
                      obtain ⟨wf, hwf, hro, hkf, hbf⟩ := store6 HRY.out HKP.out (.inr rfl) HBP.out (Nat.le_add_right _ 2) (.int .i64 (s.step + 1)) (.int .i64 s.phase) (.bool false) (.bool true) (.slice VA (newVals j s s.vals.length).length vc) (.slice MA m.length mc)
                      rw [← hwf]
                      clear hwf HKP HBP HOD HRY
                      have u0 := hro.cell (i := 0) (v := (.int .i64 (s.step + 1))) rfl
                      have u1 := hro.cell (i := 1) (v := (.int .i64 s.phase)) rfl
                      have u2 := hro.cell (i := 2) (v := (.bool false)) rfl
                      have u3 := hro.cell (i := 3) (v := (.bool true)) rfl
                      have u4 := hro.cell (i := 4) (v := (.slice VA (newVals j s s.vals.length).length vc)) rfl
                      have u5 := hro.cell (i := 5) (v := (.slice MA m.length mc)) rfl
                      have hRT := HFF.out.ret hkf
                      have hrt1 := hRT.1
                      have hrt2 := hRT.2
                      clear hRT hro hkf
                      rw [← HBP.out]
                      refine bodyPost_ret (v := .tuple #[.agg #[.int .i64 (s.step + 1), .int .i64 s.phase, .bool false, .bool true, .slice VA (newVals j s s.vals.length).length vc, .slice MA m.length mc], .int .i64 0]) (by simp [results, Try.results9, go_sem, u0, u1, u2, u3, u4, u5]) rfl ?_
                      rw [HNV.out, HMD.out]
                      refine ⟨VA, vc, MA, mc, m, ?_, ?_, ?_, hrt2, hbf⟩
                      · unfold stCells
                        dsimp only
                        rw [HQV.out]
                        try rfl
                      · rw [HLM.out]; unfold docRows lists; rw [List.map_map]; simp [Function.comp_def]
                      · dsimp only
                        exact hrt1
  · have HNV := hid (HNJ.out hj)
    have hjb : (jobV j == 0) = false := by simpa using hj
    have hjb2 : (jobV j != 0) = true := by simpa using hj
    clear hj
    go_wp2_with fail
    rw [← HBP.out]
    refine bodyPost_ret (v := .tuple #[.agg #[.int .i64 0, .int .i64 0, .bool false, .bool false, .slice none 0 0, .slice none 0 0], .int .i64 (jobV j)]) (by simp [results, Try.results9, go_sem, *]) rfl ?_
    rw [HNV.out]
    refine retSn_zero0 ?_
    repeat (with_reducible first | refine bD ?_ | refine bS ?_ (by simp <;> omega) _)
    exact HB1.out
end Go.Proofs.Yteefemiieidpaaa
