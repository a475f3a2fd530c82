/- rounds.say: what a vertex says comes to the ends of its edges. -/
import Derived.Test.YteefemiieidpaaaRndT
import Derived.Test.YteefemiieidpaaaSaysL
import Derived.Test.YteefemiieidpaaaGraph
import Derived.Test.YteefemiieidpaaaRegF
import Derived.Test.YteefemiieidpaaaSameS
namespace Go.Proofs.Yteefemiieidpaaa
open Go.ChangeShapes Go.WideShapes Go.ChangeAt Go.RowKit
set_option linter.unusedVariables false
set_option linter.unusedSimpArgs false
/-- What a round of an edge's ways says, up to way q. -/
noncomputable def partSays (out inn : Bool) (k p : Int) (v : Int) (x : Val) (e : Edge) : Nat → List (Int × Int × Int)
  | 0 => []
  | 1 => if out = true ∧ e.src = v then [(e.dst, sayV k x p e.wt)] else []
  | _ => edgeSays out inn k p v x e
/-- Way q of an edge: does it go, whence, whither. -/
theorem ways_at (out inn : Bool) (k p v : Int) (x : Val) (e : Edge) (n : Nat) (he : 0 ≤ e.src ∧ e.src < n ∧ 0 ≤ e.dst ∧ e.dst < n) (q : Nat) (hq : q < 2) :
    ∃ (goes : Bool) (frm : Int) (u : Nat), (∀ w, (Instr.index 81 (.agg #[.bool out, .int .i64 e.src, .int .i64 e.dst, .bool inn, .int .i64 e.dst, .int .i64 e.src]) (.int .i64 (q : Nat))).run Try.prog w = .ok (.agg #[.bool goes, .int .i64 frm, .int .i64 (u : Nat)]) w) ∧
      u < n ∧ partSays out inn k p v x e (q + 1) = partSays out inn k p v x e q ++ (if goes = true ∧ frm = v then [((u : Int), sayV k x p e.wt)] else []) := by
  obtain ⟨a, ha⟩ := Int.eq_ofNat_of_zero_le he.1
  obtain ⟨b, hb⟩ := Int.eq_ofNat_of_zero_le he.2.2.1
  match q, hq with
  | 0, _ => exact ⟨out, e.src, b, fun w => by rw [hb]; kernel_rfl, by omega, by simp only [partSays, List.nil_append, hb]⟩
  | 1, _ => exact ⟨inn, e.dst, a, fun w => by rw [ha, hb]; kernel_rfl, by omega, by simp only [partSays, edgeSays, ha]⟩
theorem pushAll_snoc (s : Int × List (List Int)) (l : List (Int × Int × Int)) (a : Int × Int × Int) : pushAll s (l ++ [a]) = pushSay (pushAll s l) a := by rw [pushAll_append]; rfl
theorem lists_set {α : Type} (m : List (ML α)) (u : Nat) (y : ML α) : lists (m.set u y) = (lists m).set u y.l := by unfold lists; rw [List.map_set]
theorem lists_getD {m : List (ML Int)} {u : Nat} {y : ML Int} (h : m[u]? = some y) : (lists m).getD u [] = y.l := by unfold lists; simp [List.getD_eq_getElem?_getD, h]
theorem edge_cellsR {w : World} {B n k : Nat} {A : Option Addr} {l : List Edge} {x : Edge} (h : Rd w B A 3 n (l.flatMap Edge.cells)) (hl : l.length = n) (hk : l[k]? = some x) :
    ∃ b off, A = some ⟨b, off, none⟩ ∧ b < B ∧ w.cell? ⟨b, off + k * 3, none⟩ = some (.int .i64 x.src) ∧ w.cell? ⟨b, off + k * 3 + 1, none⟩ = some (.int .i64 x.dst) ∧ w.cell? ⟨b, off + k * 3 + 2, none⟩ = some (.int .i64 x.wt) := by
  have hkl := (List.getElem?_eq_some_iff.1 hk).1
  obtain ⟨b, off, rfl, hb, hc⟩ := h.2 (show 0 < n by omega)
  have hg := (flatMap_get (l := l) (cells := Edge.cells) (sz := 3) (fun _ _ => rfl)).2 k x
  have c0 := hc _ _ (hg 0 _ hk rfl)
  have c1 := hc _ _ (hg 1 _ hk rfl)
  have c2 := hc _ _ (hg 2 _ hk rfl)
  exact ⟨b, off, rfl, hb, c0, by rw [Nat.add_assoc]; exact c1, by rw [Nat.add_assoc]; exact c2⟩
/-- The relation of say's loops. -/
def SayR (N R X : Nat) (w w0 : World) (T0 : Tags) (j : Job) (EA : Option Addr) (ec : Nat) (st ph : Int) (fr dn : Bool) (VA : Option Addr) (vc : Nat) (vs : List Val) (g mc : Nat) (c0 : Int) (m0 : List (ML Int)) (x : Val) (K : Nat) (l : List (Int × Int × Int)) (wr : World) (T : Tags) : Prop :=
  ∃ (m : List (ML Int)) (code : Int), RO N R w wr T j EA ec st ph fr dn VA vc vs (some ⟨g, 0, none⟩) mc m code ∧ TObj wr T 0 X #[.int .i64 x.a, .int .i64 x.label] 50 ∧ (code, lists m) = pushAll (c0, lists m0) l ∧ Keep (fun t => t = 1 ∨ t = 3 ∨ 10 ≤ t) T0 w0 wr ∧ Agree w0.heap.size T0 T ∧ ∀ z ∈ m, z.l.length ≤ K
set_option maxRecDepth 100000 in
set_option maxHeartbeats 4000000 in
theorem say_round {N R : Nat} {w w0 : World} {T0 : Tags} {j : Job} {EA : Option Addr} {ec : Nat} {st ph : Int} {fr dn : Bool} {VA : Option Addr} {vc : Nat} {vs : List Val} {g mc : Nat} {m0 : List (ML Int)} {c0 : Int} (h0 : RO N R w w0 T0 j EA ec st ph fr dn VA vc vs (some ⟨g, 0, none⟩) mc m0 c0)
    (n : Nat) (hjn : j.graph.n = (n : Int)) (hE : ∀ e ∈ j.graph.edges, (0 ≤ e.src ∧ e.src < n ∧ 0 ≤ e.dst ∧ e.dst < n) ∧ 0 ≤ e.wt ∧ e.wt ≤ 1099511627776) (hel : j.graph.edges.length ≤ 600) (hml : m0.length = n) (K : Nat) (hK : ∀ z ∈ m0, z.l.length ≤ K) (hKb : K ≤ 1000000) (v : Int) (x : Val) (hx : x.wf) (p : Int) :
    Calls Try.prog 22 #[.pointer (some ⟨R, 0, none⟩), .int .i64 v, .agg #[.int .i64 x.a, .int .i64 x.label], .int .i64 p] w0 fun e w' => e = .returned (.tuple #[]) ∧ ∃ (T : Tags) (m : List (ML Int)) (code : Int),
      RO N R w w' T j EA ec st ph fr dn VA vc vs (some ⟨g, 0, none⟩) mc m code ∧ (code, lists m) = pushAll (c0, lists m0) (j.graph.edges.flatMap (edgeSays (waysV j.kind p).1 (waysV j.kind p).2.1 j.kind p v x)) ∧ Keep (fun t => t = 1 ∨ t = 3 ∨ 10 ≤ t) T0 w0 w' ∧ Agree w0.heap.size T0 T ∧ ∀ z ∈ m, z.l.length ≤ K + 1200 := by
  have hX0 := h0.alloc (.cells #[.int .i64 x.a, .int .i64 x.label] 50)
  have HOX : Hid (TObj (w0.alloc (.cells #[.int .i64 x.a, .int .i64 x.label] 50)) (upd w0.heap.size T0 0) 0 w0.heap.size #[.int .i64 x.a, .int .i64 x.label] 50) := hid (TObj.new _ _ _ _ _)
  obtain ⟨W0, hW0⟩ : ∃ W0, W0 = w0.alloc (.cells #[.int .i64 x.a, .int .i64 x.label] 50) := ⟨_, rfl⟩
  have HKW := hid (show Keep (fun t => t = 1 ∨ t = 3 ∨ 10 ≤ t) T0 w0 W0 by rw [hW0]; exact Keep.alloc Keep.refl _)
  have HAW := hid (show Agree w0.heap.size T0 (upd w0.heap.size T0 0) from agree_upd (Nat.le_refl _))
  rw [← hW0] at hX0 HOX
  have HWY := hid (fun W => ways_walk j.kind p W)
  have HSAYS := hid (fun (e : Edge) W (he : I64 e.wt) => say_walk j.kind x p e.wt hx he W)
  have r2 := h0.obj.cell (i := 2) rfl
  have hRs := h0.obj.lt
  have HE := hid hE
  have HX0 := hid hX0
  have HML := hid hml
  generalize hwv : waysV j.kind p = wv at *
  obtain ⟨out, inn, wf⟩ := wv
  dsimp only at *
  have HWV := hid hwv
  clear hX0 hwv hml h0 hE
  go_enter Try.func22, Try.ntmps22
  go_wp2_with fail
  rw [← hW0]
  clear hW0
  refine (HWY.out _).mono ?_
  rintro e w1 ⟨rfl, b1⟩
  have HX1 := hid (HX0.out.below b1 (T' := upd w0.heap.size T0 0) Agree.refl)
  have HOX1 := hid (HOX.out.below b1)
  have HKW1 := hid (HKW.out.trans (Keep.below b1) HAW.out)
  have r1 := HX1.out.obj.cell (i := 1) rfl
  clear b1 r2
  go_wp2_with fail
  go_loopw [35] (fun vi wr => ∃ (i : Nat) (T : Tags), i ≤ j.graph.edges.length ∧ vi = .int .i64 (i : Nat) ∧ Hid (SayR N R w0.heap.size w w0 T0 j EA ec st ph fr dn VA vc vs g mc c0 m0 x (K + 2 * i) ((j.graph.edges.take i).flatMap (edgeSays out inn j.kind p v x)) wr T)) (fun vi _ => j.graph.edges.length - (intOf vi).toNat)
  case atStart => exact ⟨0, _, Nat.zero_le _, rfl, hid ⟨m0, c0, HX1.out, HOX1.out, rfl, HKW1.out, HAW.out, hK⟩⟩
  case round =>
    obtain ⟨w2, hw2⟩ : ∃ w2, w2 = wr := ⟨_, rfl⟩
    subst hw2
    obtain ⟨i, T, hi, rfl, HR⟩ := hrel
    clear HX1 HOX1 HKW1 r1
    by_cases hlt : i < j.graph.edges.length
    · obtain ⟨m, code, hRO, hTX, hPA, hKE, hAG, hKK⟩ := HR.out
      obtain ⟨e, he⟩ : ∃ e, j.graph.edges[i]? = some e := ⟨_, List.getElem?_eq_getElem hlt⟩
      have hem := HE.out e (List.mem_of_getElem? he)
      obtain ⟨eb, eo, hEA, hebl, c0', c1', c2'⟩ := edge_cellsR hRO.edges rfl he
      subst hEA
      have hebw : eb < w2.heap.size := by have := hRO.size; omega
      have hiz : (i : Int) < (j.graph.edges.length : Int) := by omega
      have HT := hid (take_nextV he)
      have HO2 := hid (hRO.alloc (.cells #[.int .i64 e.src, .int .i64 e.dst, .int .i64 e.wt] 63))
      have HTX2 := hid (hTX.keep (S := fun _ => False) (Keep.refl.alloc (.cells #[.int .i64 e.src, .int .i64 e.dst, .int .i64 e.wt] 63)) (fun h => h) (agree_upd (t := 0) (Nat.le_refl _)))
      have HTE : Hid (TObj (w2.alloc (.cells #[.int .i64 e.src, .int .i64 e.dst, .int .i64 e.wt] 63)) (upd w2.heap.size T 0) 0 w2.heap.size #[.int .i64 e.src, .int .i64 e.dst, .int .i64 e.wt] 63) := hid (TObj.new _ _ _ _ _)
      have HKE2 := hid (hKE.alloc (.cells #[.int .i64 e.src, .int .i64 e.dst, .int .i64 e.wt] 63))
      have HAG2 := hid (hAG.trans (agree_upd (n := w2.heap.size) (t := 0) (Nat.le_refl _)) hKE.size)
      have HPA := hid hPA
      have HKK := hid hKK
      obtain ⟨W1, hW1⟩ : ∃ W1, W1 = w2.alloc (.cells #[.int .i64 e.src, .int .i64 e.dst, .int .i64 e.wt] 63) := ⟨_, rfl⟩
      have e0 : W1.cell? ⟨w2.heap.size, 0, none⟩ = some (.int .i64 e.src) := by rw [hW1]; go_simp
      have e1 : W1.cell? ⟨w2.heap.size, 1, none⟩ = some (.int .i64 e.dst) := by rw [hW1]; go_simp
      have e2 : W1.cell? ⟨w2.heap.size, 2, none⟩ = some (.int .i64 e.wt) := by rw [hW1]; go_simp
      have hw1s : w2.heap.size < W1.heap.size := by rw [hW1]; simp
      rw [← hW1] at HO2 HTX2 HTE HKE2
      have HSAY := hid (fun W => HSAYS.out e W (by unfold I64; omega))
      have HWA := hid (fun q hq => ways_at out inn j.kind p v x e n hem.1 q hq)
      have HLE := hid (List.length_take_le i j.graph.edges)
      clear hRO hTX hPA hKE hAG hKK he HR
      go_wp2_with fail
      rw [← hW1]
      clear hW1
      generalize w2.heap.size = EB at *
      generalize upd EB T 0 = T1 at *
      have hHO2 := HO2.out
      go_loopw [52] (fun v52 wr => ∃ (q : Nat) (T : Tags), q ≤ 2 ∧ v52 = .int .i64 (q : Nat) ∧ Hid (SayR N R w0.heap.size w w0 T0 j (some ⟨eb, eo, none⟩) ec st ph fr dn VA vc vs g mc c0 m0 x (K + 2 * i + q) ((j.graph.edges.take i).flatMap (edgeSays out inn j.kind p v x) ++ partSays out inn j.kind p v x e q) wr T) ∧ Hid (TObj wr T 0 EB #[.int .i64 e.src, .int .i64 e.dst, .int .i64 e.wt] 63)) (fun v52 _ => 2 - (intOf v52).toNat)
      case atStart => exact ⟨0, T1, by omega, rfl, hid ⟨m, code, HO2.out, HTX2.out, by rw [show partSays out inn j.kind p v x e 0 = [] from rfl, List.append_nil]; exact HPA.out, HKE2.out, HAG2.out, HKK.out⟩, HTE⟩
      case round =>
        obtain ⟨w3, hw3⟩ : ∃ w3, w3 = wr := ⟨_, rfl⟩
        subst hw3
        clear e0 e1 e2 hHO2 HTE HTX2 HO2 HKE2 HAG2 HPA HKK
        obtain ⟨q, T, hq, rfl, HR, HTE⟩ := hrel
        obtain ⟨m, code, hRO, hTX, hPA, hKE, hAG, hKK⟩ := HR.out
        have hml : m.length = n := by
          have h1 := congrArg (fun z => z.2.length) hPA
          dsimp only at h1
          rw [pushAll_len] at h1
          simp only [lists, List.length_map] at h1
          rw [h1, HML.out]
        have HPA := hid hPA
        have HKK := hid hKK
        have HKE := hid hKE
        have HAG := hid hAG
        have HRO := hid hRO
        have HTX := hid hTX
        clear hPA hKK hKE hAG hRO hTX
        by_cases hq2 : q < 2
        · have hqz : (q : Int) < 2 := by omega
          obtain ⟨goes, frm, u, hidx, hu, hpart⟩ := HWA.out q hq2
          have HPT := hid hpart
          obtain ⟨y, hy⟩ : ∃ y, m[u]? = some y := ⟨_, List.getElem?_eq_getElem (by omega)⟩
          have HY := hid hy
          have hylen := HKK.out y (List.mem_of_getElem? hy)
          have huz : (u : Int) < (m.length : Int) := by omega
          obtain ⟨W2, hW2⟩ : ∃ W2, W2 = w3.alloc (.cells #[.bool goes, .int .i64 frm, .int .i64 (u : Nat)] 80) := ⟨_, rfl⟩
          have HO := hid (HRO.out.alloc (.cells #[.bool goes, .int .i64 frm, .int .i64 (u : Nat)] 80))
          have HX := hid (HTX.out.keep (S := fun _ => False) (Keep.refl.alloc (.cells #[.bool goes, .int .i64 frm, .int .i64 (u : Nat)] 80)) (fun h => h) (agree_upd (t := 0) (Nat.le_refl _)))
          have HEB := hid (HTE.out.keep (S := fun _ => False) (Keep.refl.alloc (.cells #[.bool goes, .int .i64 frm, .int .i64 (u : Nat)] 80)) (fun h => h) (agree_upd (t := 0) (Nat.le_refl _)))
          have HWB : Hid (TObj (w3.alloc (.cells #[.bool goes, .int .i64 frm, .int .i64 (u : Nat)] 80)) (upd w3.heap.size T 0) 0 w3.heap.size #[.bool goes, .int .i64 frm, .int .i64 (u : Nat)] 80) := hid (TObj.new _ _ _ _ _)
          have HKE2 := hid (HKE.out.alloc (.cells #[.bool goes, .int .i64 frm, .int .i64 (u : Nat)] 80))
          have HAG2 := hid (HAG.out.trans (agree_upd (n := w3.heap.size) (t := 0) (Nat.le_refl _)) HKE.out.size)
          rw [← hW2] at HO HX HEB HWB HKE2
          have b0 : W2.cell? ⟨w3.heap.size, 0, none⟩ = some (.bool goes) := HWB.out.cell (i := 0) rfl
          have b1 : W2.cell? ⟨w3.heap.size, 1, none⟩ = some (.int .i64 frm) := HWB.out.cell (i := 1) rfl
          have b2 : W2.cell? ⟨w3.heap.size, 2, none⟩ = some (.int .i64 (u : Nat)) := HWB.out.cell (i := 2) rfl
          have hw2s : w3.heap.size < W2.heap.size := HWB.out.lt
          clear hy hpart HRO HTX HTE
          by_cases hgo : goes = true ∧ frm = v
          · obtain ⟨rfl, hfv⟩ := hgo
            have hfb : (frm == v) = true := by simpa using hfv
            have hfb2 : (frm != v) = false := by simpa using hfv
            have HFV := hid hfv
            clear hfv
            generalize hz : sayV j.kind x p e.wt = z at *
            obtain ⟨mm, f⟩ := z
            have HPT2 := hid (HPT.out.trans (by rw [if_pos ⟨rfl, HFV.out⟩]))
            have r2 := HO.out.obj.cell (i := 2) rfl
            have x0 := HX.out.cell (i := 0) rfl
            have x1 := HX.out.cell (i := 1) rfl
            have e2 := HEB.out.cell (i := 2) rfl
            have HK : Hid (∀ V, Below W2.heap.size W2 V → ((fun V => V.cell? ⟨R, 2, none⟩ = some (.int .i64 j.kind) ∧ (V.cell? ⟨w0.heap.size, 0, none⟩ = some (.int .i64 x.a) ∧ V.cell? ⟨w0.heap.size, 1, none⟩ = some (.int .i64 x.label)) ∧ V.cell? ⟨EB, 2, none⟩ = some (.int .i64 e.wt)) : World → Prop) V) := hid fun V hV => ⟨keepb hV r2, ⟨keepb hV x0, keepb hV x1⟩, keepb hV e2⟩
            have HZ := hid hz
            clear hz r2 x0 x1 e2
            go_wp2_with fail
            rw [← hW2]
            clear hW2 b0 b1 b2
            refine wp_region_F (S := (fun V => V.cell? ⟨R, 2, none⟩ = some (.int .i64 j.kind) ∧ (V.cell? ⟨w0.heap.size, 0, none⟩ = some (.int .i64 x.a) ∧ V.cell? ⟨w0.heap.size, 1, none⟩ = some (.int .i64 x.label)) ∧ V.cell? ⟨EB, 2, none⟩ = some (.int .i64 e.wt))) [9] (by kernel_rfl) (HK.out _ (bD (Below.refl _ _))) (fun hHeld => ?_)
            refine wpAnyF_pure (i := 0) (v := ?vg1_1_0) rfl (by kernel_rfl) (by kernel_rfl) (by kernel_rfl) (fun _ _ _ h => h) (Or.inl ⟨by rfl, ?hyg1_1_0⟩) ?restg1_1_0
            case hyg1_1_0 => (intro w hSw; clear hSw; go_simp; (all_goals with_reducible rfl))
            try simp only [Act.put, List.setIfInBounds_toArray, List.set_cons_zero, List.set_cons_succ, List.getElem_toArray, List.getElem_cons_succ, List.getElem_cons_zero]
            refine wpAnyF_pure (i := 1) (v := ?vg1_2_1) rfl (by kernel_rfl) (by kernel_rfl) (by kernel_rfl) (fun _ _ _ h => h) (Or.inl ⟨by rfl, ?hyg1_2_1⟩) ?restg1_2_1
            case hyg1_2_1 => (intro w hSw; clear hSw; go_simp; (all_goals with_reducible rfl))
            try simp only [Act.put, List.setIfInBounds_toArray, List.set_cons_zero, List.set_cons_succ, List.getElem_toArray, List.getElem_cons_succ, List.getElem_cons_zero]
            refine wpAnyF_pure (i := 2) (v := ?vg1_3_2) rfl (by kernel_rfl) (by kernel_rfl) (by kernel_rfl) (fun _ _ _ h => h) (Or.inl ⟨by rfl, ?hyg1_3_2⟩) ?restg1_3_2
            case hyg1_3_2 => (intro w hSw; clear hSw; go_simp; (all_goals with_reducible rfl))
            try simp only [Act.put, List.setIfInBounds_toArray, List.set_cons_zero, List.set_cons_succ, List.getElem_toArray, List.getElem_cons_succ, List.getElem_cons_zero]
            refine wpAnyF_pure (i := 3) (v := ?vg1_4_3) rfl (by kernel_rfl) (by kernel_rfl) (by kernel_rfl) (fun _ _ _ h => h) (Or.inl ⟨by rfl, ?hyg1_4_3⟩) ?restg1_4_3
            case hyg1_4_3 => (intro w hSw; clear hSw; go_simp; (all_goals with_reducible rfl))
            try simp only [Act.put, List.setIfInBounds_toArray, List.set_cons_zero, List.set_cons_succ, List.getElem_toArray, List.getElem_cons_succ, List.getElem_cons_zero]
            refine wpAnyF_pure (i := 6) (v := ?vg1_5_6) rfl (by kernel_rfl) (by kernel_rfl) (by kernel_rfl) (fun _ _ _ h => h) (Or.inl ⟨by rfl, ?hyg1_5_6⟩) ?restg1_5_6
            case hyg1_5_6 => (intro w hSw; clear hSw; go_simp; (all_goals with_reducible rfl))
            try simp only [Act.put, List.setIfInBounds_toArray, List.set_cons_zero, List.set_cons_succ, List.getElem_toArray, List.getElem_cons_succ, List.getElem_cons_zero]
            refine wpAnyF_pure (i := 7) (v := ?vg1_6_7) rfl (by kernel_rfl) (by kernel_rfl) (by kernel_rfl) (fun _ _ _ h => h) (Or.inl ⟨by rfl, ?hyg1_6_7⟩) ?restg1_6_7
            case hyg1_6_7 => (intro w hSw; clear hSw; go_simp; (all_goals with_reducible rfl))
            try simp only [Act.put, List.setIfInBounds_toArray, List.set_cons_zero, List.set_cons_succ, List.getElem_toArray, List.getElem_cons_succ, List.getElem_cons_zero]
            refine wpAnyF_take [9, 10, 11, 12, 13, 14] (i := 4) (v := ?vg1_7_4) rfl (by kernel_rfl) (by kernel_rfl) (by kernel_rfl) (by kernel_rfl) (fun _ _ _ h => h) (Or.inl ⟨by rfl, ?hyg1_7_4⟩) (by assumption) ?restg1_7_4
            case hyg1_7_4 => (intro w hSw; (try dsimp only at hSw); go_simp; (all_goals with_reducible rfl))
            try simp only [Act.put, List.setIfInBounds_toArray, List.set_cons_zero, List.set_cons_succ, List.getElem_toArray, List.getElem_cons_succ, List.getElem_cons_zero]
            refine wpAnyF_take [9, 10, 11, 12, 13, 14] (i := 5) (v := ?vg1_8_5) rfl (by kernel_rfl) (by kernel_rfl) (by kernel_rfl) (by kernel_rfl) (fun _ _ _ h => h) (Or.inl ⟨by rfl, ?hyg1_8_5⟩) (by assumption) ?restg1_8_5
            case hyg1_8_5 => (intro w hSw; (try dsimp only at hSw); go_simp; (all_goals with_reducible rfl))
            try simp only [Act.put, List.setIfInBounds_toArray, List.set_cons_zero, List.set_cons_succ, List.getElem_toArray, List.getElem_cons_succ, List.getElem_cons_zero]
            refine wpAnyF_take [9, 10, 11, 12, 13, 14] (i := 8) (v := ?vg1_9_8) rfl (by kernel_rfl) (by kernel_rfl) (by kernel_rfl) (by kernel_rfl) (fun _ _ _ h => h) (Or.inl ⟨by rfl, ?hyg1_9_8⟩) (by assumption) ?restg1_9_8
            case hyg1_9_8 => (intro w hSw; (try dsimp only at hSw); go_simp; (all_goals with_reducible rfl))
            try simp only [Act.put, List.setIfInBounds_toArray, List.set_cons_zero, List.set_cons_succ, List.getElem_toArray, List.getElem_cons_succ, List.getElem_cons_zero]
            refine wpAnyF_oneD (i := 9) (by kernel_rfl) (by kernel_rfl) rfl (fun K hK => ?_)
            go_simp
            go_at_call 46
            refine (HSAY.out _).mono ?_
            rintro e9 w9 ⟨rfl, b9⟩
            have HB9 := hid (bT (bD (Below.refl W2.heap.size W2)) b9)
            go_wp2_with fail
            refine hK.out _ _ ?_
            clear hK K
            try simp only [Act.put, List.setIfInBounds_toArray, List.set_cons_zero, List.set_cons_succ, List.getElem_toArray, List.getElem_cons_succ, List.getElem_cons_zero]
            refine wpAnyF_pure (i := 10) (v := ?vg1_11_10) rfl (by kernel_rfl) (by kernel_rfl) (by kernel_rfl) (fun _ _ _ h => h) (Or.inl ⟨by rfl, ?hyg1_11_10⟩) ?restg1_11_10
            case hyg1_11_10 => (intro w hSw; clear hSw; go_simp; (all_goals with_reducible rfl))
            try simp only [Act.put, List.setIfInBounds_toArray, List.set_cons_zero, List.set_cons_succ, List.getElem_toArray, List.getElem_cons_succ, List.getElem_cons_zero]
            refine wpAnyF_pure (i := 11) (v := ?vg1_12_11) rfl (by kernel_rfl) (by kernel_rfl) (by kernel_rfl) (fun _ _ _ h => h) (Or.inl ⟨by rfl, ?hyg1_12_11⟩) ?restg1_12_11
            case hyg1_12_11 => (intro w hSw; clear hSw; go_simp; (all_goals with_reducible rfl))
            try simp only [Act.put, List.setIfInBounds_toArray, List.set_cons_zero, List.set_cons_succ, List.getElem_toArray, List.getElem_cons_succ, List.getElem_cons_zero]
            refine wpAnyF_pure (i := 12) (v := ?vg1_13_12) rfl (by kernel_rfl) (by kernel_rfl) (by kernel_rfl) (fun _ _ _ h => h) (Or.inl ⟨by rfl, ?hyg1_13_12⟩) ?restg1_13_12
            case hyg1_13_12 => (intro w hSw; clear hSw; go_simp; (all_goals with_reducible rfl))
            try simp only [Act.put, List.setIfInBounds_toArray, List.set_cons_zero, List.set_cons_succ, List.getElem_toArray, List.getElem_cons_succ, List.getElem_cons_zero]
            refine wpAnyF_pure (i := 13) (v := ?vg1_14_13) rfl (by kernel_rfl) (by kernel_rfl) (by kernel_rfl) (fun _ _ _ h => h) (Or.inl ⟨by rfl, ?hyg1_14_13⟩) ?restg1_14_13
            case hyg1_14_13 => (intro w hSw; clear hSw; go_simp; (all_goals with_reducible rfl))
            try simp only [Act.put, List.setIfInBounds_toArray, List.set_cons_zero, List.set_cons_succ, List.getElem_toArray, List.getElem_cons_succ, List.getElem_cons_zero]
            refine wpAnyF_pure (i := 14) (v := ?vg1_15_14) rfl (by kernel_rfl) (by kernel_rfl) (by kernel_rfl) (fun _ _ _ h => h) (Or.inl ⟨by rfl, ?hyg1_15_14⟩) ?restg1_15_14
            case hyg1_15_14 => (intro w hSw; clear hSw; go_simp; (all_goals with_reducible rfl))
            try simp only [Act.put, List.setIfInBounds_toArray, List.set_cons_zero, List.set_cons_succ, List.getElem_toArray, List.getElem_cons_succ, List.getElem_cons_zero]
            refine wpAnyF_done (by kernel_rfl) ?_ _
            have HO9 := hid (HO.out.below HB9.out (T' := upd w3.heap.size T 0) Agree.refl)
            have HX9 := hid (HX.out.below HB9.out)
            have HEB9 := hid (HEB.out.below HB9.out)
            have HWB9 := hid (HWB.out.below HB9.out)
            have HK9 := hid (HKE2.out.trans (Keep.below HB9.out (S := fun t => t = 1 ∨ t = 3 ∨ 10 ≤ t)) HAG2.out)
            clear HO HX HEB HWB HKE2
            by_cases hf0 : f = 0
            · subst hf0
              have HAGF : Hid (Agree w0.heap.size T0 (upd w9.drew.heap.size (upd w3.heap.size T 0) 0)) := hid (HAG2.out.trans (agree_upd (t := 0) (Nat.le_refl _)) HK9.out.size)
              have HYF := hid (show (m.flatMap ML.cells)[u]? = some (.slice y.A y.l.length y.c) by
                have h9 := (flatMap_get (l := m) (cells := ML.cells) (sz := 1) (fun _ _ => rfl)).2 u y 0 _ HY.out rfl
                simpa using h9)
              have r9 := HO9.out.obj.cell (i := 9) rfl
              have t9 := HWB9.out.cell (i := 2) rfl
              have y9 := (own_at HO9.out.mail.1 HYF.out).1
              have hn8 : (y.l.length + 1) * 8 ≤ 140737488355328 := by omega
              go_wp2_with fail
              refine wp_region_F (S := (fun V => V.cell? ⟨R, 9, none⟩ = some (.slice (some ⟨g, 0, none⟩) m.length mc) ∧ V.cell? ⟨w3.heap.size, 2, none⟩ = some (.int .i64 (u : Nat)) ∧ V.cell? ⟨g, u, none⟩ = some (.slice y.A y.l.length y.c))) [20] (by kernel_rfl) ⟨r9, t9, y9⟩ (fun hHeld => ?_)
              refine wpAnyF_pure (i := 0) (v := ?vg2_1_0) rfl (by kernel_rfl) (by kernel_rfl) (by kernel_rfl) (fun _ _ _ h => h) (Or.inl ⟨by rfl, ?hyg2_1_0⟩) ?restg2_1_0
              case hyg2_1_0 => (intro w hSw; clear hSw; go_simp; (all_goals with_reducible rfl))
              try simp only [Act.put, List.setIfInBounds_toArray, List.set_cons_zero, List.set_cons_succ, List.getElem_toArray, List.getElem_cons_succ, List.getElem_cons_zero]
              refine wpAnyF_pure (i := 1) (v := ?vg2_2_1) rfl (by kernel_rfl) (by kernel_rfl) (by kernel_rfl) (fun _ _ _ h => h) (Or.inl ⟨by rfl, ?hyg2_2_1⟩) ?restg2_2_1
              case hyg2_2_1 => (intro w hSw; clear hSw; go_simp; (all_goals with_reducible rfl))
              try simp only [Act.put, List.setIfInBounds_toArray, List.set_cons_zero, List.set_cons_succ, List.getElem_toArray, List.getElem_cons_succ, List.getElem_cons_zero]
              refine wpAnyF_pure (i := 2) (v := ?vg2_3_2) rfl (by kernel_rfl) (by kernel_rfl) (by kernel_rfl) (fun _ _ _ h => h) (Or.inl ⟨by rfl, ?hyg2_3_2⟩) ?restg2_3_2
              case hyg2_3_2 => (intro w hSw; clear hSw; go_simp; (all_goals with_reducible rfl))
              try simp only [Act.put, List.setIfInBounds_toArray, List.set_cons_zero, List.set_cons_succ, List.getElem_toArray, List.getElem_cons_succ, List.getElem_cons_zero]
              refine wpAnyF_pure (i := 3) (v := ?vg2_4_3) rfl (by kernel_rfl) (by kernel_rfl) (by kernel_rfl) (fun _ _ _ h => h) (Or.inl ⟨by rfl, ?hyg2_4_3⟩) ?restg2_4_3
              case hyg2_4_3 => (intro w hSw; clear hSw; go_simp; (all_goals with_reducible rfl))
              try simp only [Act.put, List.setIfInBounds_toArray, List.set_cons_zero, List.set_cons_succ, List.getElem_toArray, List.getElem_cons_succ, List.getElem_cons_zero]
              refine wpAnyF_pure (i := 5) (v := ?vg2_5_5) rfl (by kernel_rfl) (by kernel_rfl) (by kernel_rfl) (fun _ _ _ h => h) (Or.inl ⟨by rfl, ?hyg2_5_5⟩) ?restg2_5_5
              case hyg2_5_5 => (intro w hSw; clear hSw; go_simp; (all_goals with_reducible rfl))
              try simp only [Act.put, List.setIfInBounds_toArray, List.set_cons_zero, List.set_cons_succ, List.getElem_toArray, List.getElem_cons_succ, List.getElem_cons_zero]
              refine wpAnyF_pure (i := 7) (v := ?vg2_6_7) rfl (by kernel_rfl) (by kernel_rfl) (by kernel_rfl) (fun _ _ _ h => h) (Or.inl ⟨by rfl, ?hyg2_6_7⟩) ?restg2_6_7
              case hyg2_6_7 => (intro w hSw; clear hSw; go_simp; (all_goals with_reducible rfl))
              try simp only [Act.put, List.setIfInBounds_toArray, List.set_cons_zero, List.set_cons_succ, List.getElem_toArray, List.getElem_cons_succ, List.getElem_cons_zero]
              refine wpAnyF_pure (i := 8) (v := ?vg2_7_8) rfl (by kernel_rfl) (by kernel_rfl) (by kernel_rfl) (fun _ _ _ h => h) (Or.inl ⟨by rfl, ?hyg2_7_8⟩) ?restg2_7_8
              case hyg2_7_8 => (intro w hSw; clear hSw; go_simp; (all_goals with_reducible rfl))
              try simp only [Act.put, List.setIfInBounds_toArray, List.set_cons_zero, List.set_cons_succ, List.getElem_toArray, List.getElem_cons_succ, List.getElem_cons_zero]
              refine wpAnyF_pure (i := 9) (v := ?vg2_8_9) rfl (by kernel_rfl) (by kernel_rfl) (by kernel_rfl) (fun _ _ _ h => h) (Or.inl ⟨by rfl, ?hyg2_8_9⟩) ?restg2_8_9
              case hyg2_8_9 => (intro w hSw; clear hSw; go_simp; (all_goals with_reducible rfl))
              try simp only [Act.put, List.setIfInBounds_toArray, List.set_cons_zero, List.set_cons_succ, List.getElem_toArray, List.getElem_cons_succ, List.getElem_cons_zero]
              refine wpAnyF_pure (i := 10) (v := ?vg2_9_10) rfl (by kernel_rfl) (by kernel_rfl) (by kernel_rfl) (fun _ _ _ h => h) (Or.inl ⟨by rfl, ?hyg2_9_10⟩) ?restg2_9_10
              case hyg2_9_10 => (intro w hSw; clear hSw; go_simp; (all_goals with_reducible rfl))
              try simp only [Act.put, List.setIfInBounds_toArray, List.set_cons_zero, List.set_cons_succ, List.getElem_toArray, List.getElem_cons_succ, List.getElem_cons_zero]
              refine wpAnyF_pure (i := 12) (v := ?vg2_10_12) rfl (by kernel_rfl) (by kernel_rfl) (by kernel_rfl) (fun _ _ _ h => h) (Or.inl ⟨by rfl, ?hyg2_10_12⟩) ?restg2_10_12
              case hyg2_10_12 => (intro w hSw; clear hSw; go_simp; (all_goals with_reducible rfl))
              try simp only [Act.put, List.setIfInBounds_toArray, List.set_cons_zero, List.set_cons_succ, List.getElem_toArray, List.getElem_cons_succ, List.getElem_cons_zero]
              refine wpAnyF_pure (i := 16) (v := ?vg2_11_16) rfl (by kernel_rfl) (by kernel_rfl) (by kernel_rfl) (fun _ _ _ h => h) (Or.inl ⟨by rfl, ?hyg2_11_16⟩) ?restg2_11_16
              case hyg2_11_16 => (intro w hSw; clear hSw; go_simp; (all_goals with_reducible rfl))
              try simp only [Act.put, List.setIfInBounds_toArray, List.set_cons_zero, List.set_cons_succ, List.getElem_toArray, List.getElem_cons_succ, List.getElem_cons_zero]
              refine wpAnyF_take [19, 20] (i := 4) (v := ?vg2_12_4) rfl (by kernel_rfl) (by kernel_rfl) (by kernel_rfl) (by kernel_rfl) (fun _ _ _ h => h) (Or.inl ⟨by rfl, ?hyg2_12_4⟩) (by assumption) ?restg2_12_4
              case hyg2_12_4 => (intro w hSw; (try dsimp only at hSw); go_simp; (all_goals with_reducible rfl))
              try simp only [Act.put, List.setIfInBounds_toArray, List.set_cons_zero, List.set_cons_succ, List.getElem_toArray, List.getElem_cons_succ, List.getElem_cons_zero]
              refine wpAnyF_take [19, 20] (i := 6) (v := ?vg2_13_6) rfl (by kernel_rfl) (by kernel_rfl) (by kernel_rfl) (by kernel_rfl) (fun _ _ _ h => h) (Or.inl ⟨by rfl, ?hyg2_13_6⟩) (by assumption) ?restg2_13_6
              case hyg2_13_6 => (intro w hSw; (try dsimp only at hSw); go_simp; (all_goals with_reducible rfl))
              try simp only [Act.put, List.setIfInBounds_toArray, List.set_cons_zero, List.set_cons_succ, List.getElem_toArray, List.getElem_cons_succ, List.getElem_cons_zero]
              refine wpAnyF_take [14, 15, 18, 19, 20] (i := 11) (v := ?vg2_14_11) rfl (by kernel_rfl) (by kernel_rfl) (by kernel_rfl) (by kernel_rfl) (fun _ _ _ h => h) (Or.inl ⟨by rfl, ?hyg2_14_11⟩) (by assumption) ?restg2_14_11
              case hyg2_14_11 => (intro w hSw; (try dsimp only at hSw); go_simp; (all_goals with_reducible rfl))
              try simp only [Act.put, List.setIfInBounds_toArray, List.set_cons_zero, List.set_cons_succ, List.getElem_toArray, List.getElem_cons_succ, List.getElem_cons_zero]
              refine wpAnyF_take [14, 15, 18, 19, 20] (i := 13) (v := ?vg2_15_13) rfl (by kernel_rfl) (by kernel_rfl) (by kernel_rfl) (by kernel_rfl) (fun _ _ _ h => h) (Or.inl ⟨by rfl, ?hyg2_15_13⟩) (by assumption) ?restg2_15_13
              case hyg2_15_13 => (intro w hSw; (try dsimp only at hSw); go_simp; (all_goals with_reducible rfl))
              try simp only [Act.put, List.setIfInBounds_toArray, List.set_cons_zero, List.set_cons_succ, List.getElem_toArray, List.getElem_cons_succ, List.getElem_cons_zero]
              refine wpAnyF_pure (i := 14) (v := ?vg2_16_14) rfl (by kernel_rfl) (by kernel_rfl) (by kernel_rfl) (fun _ _ _ h => h) (Or.inl ⟨by rfl, ?hyg2_16_14⟩) ?restg2_16_14
              case hyg2_16_14 => (intro w hSw; clear hSw; go_simp; (all_goals with_reducible rfl))
              try simp only [Act.put, List.setIfInBounds_toArray, List.set_cons_zero, List.set_cons_succ, List.getElem_toArray, List.getElem_cons_succ, List.getElem_cons_zero]
              refine wpAnyF_take [18, 19, 20] (i := 15) (v := ?vg2_17_15) rfl (by kernel_rfl) (by kernel_rfl) (by kernel_rfl) (by kernel_rfl) (fun _ _ _ h => h) (Or.inl ⟨by rfl, ?hyg2_17_15⟩) (by assumption) ?restg2_17_15
              case hyg2_17_15 => (intro w hSw; (try dsimp only at hSw); go_simp; (all_goals with_reducible rfl))
              try simp only [Act.put, List.setIfInBounds_toArray, List.set_cons_zero, List.set_cons_succ, List.getElem_toArray, List.getElem_cons_succ, List.getElem_cons_zero]
              refine wpAnyF_one (i := 17) (by kernel_rfl) rfl (fun K hK => ?_)
              go_simp
              refine hK.out _ _ ⟨keepb ((Below.refl _ _).alloc (Nat.le_refl _) _) r9, keepb ((Below.refl _ _).alloc (Nat.le_refl _) _) t9, keepb ((Below.refl _ _).alloc (Nat.le_refl _) _) y9⟩ (fun hHeld => ?_)
              clear hK K
              try simp only [Act.put, List.setIfInBounds_toArray, List.set_cons_zero, List.set_cons_succ, List.getElem_toArray, List.getElem_cons_succ, List.getElem_cons_zero]
              refine wpAnyF_one (i := 18) (by kernel_rfl) rfl (fun K hK => ?_)
              refine step_appT rfl rfl el_ints rfl ((HO9.out.drew.alloc _).rows u y HY.out) rfl (rd_newAt _ _ _ 1 1 _ (by simp) rfl) (one_cellV _ rfl) hn8 ?_
              intro A10 c10 w10 o10 k10
              have HP10 := hid (RO.push (y := ⟨A10, c10, y.l ++ [mm]⟩) (HO9.out.drew.alloc _) rfl HY.out (by have h9 := o10; rw [show (y.l ++ [mm]).length = y.l.length + 1 by simp, show (y.l ++ [mm]).flatMap i64c = y.l.flatMap i64c ++ [Value.int .i64 mm] by simp [i64c]]; exact h9) k10)
              have hm10 := (HO9.out.drew.alloc (.cells #[.int .i64 mm] 3)).mail.keep k10 (by omega) (agree_upd (t := 10 + u) (Nat.le_refl _))
              have hgc := (own_at hm10.1 HYF.out).1
              have hgf := (own_at hm10.1 HYF.out).2
              have HK10 := hid k10
              have HGT := hid (show upd (w9.drew.alloc (.cells #[.int .i64 mm] 3)).heap.size (upd w9.drew.heap.size (upd w3.heap.size T 0) 0) (10 + u) g = 3 from hm10.2 g rfl)
              have HEBA := hid ((HEB9.out.drew.keep (S := fun _ => False) (Keep.refl.alloc (.cells #[.int .i64 mm] 3)) (fun h => h) (agree_upd (t := 0) (Nat.le_refl _))).keep k10 (by omega) (agree_upd (t := 10 + u) (Nat.le_refl _)))
              have HXA := hid ((HX9.out.drew.keep (S := fun _ => False) (Keep.refl.alloc (.cells #[.int .i64 mm] 3)) (fun h => h) (agree_upd (t := 0) (Nat.le_refl _))).keep k10 (by omega) (agree_upd (t := 10 + u) (Nat.le_refl _)))
              have HWBA := hid ((HWB9.out.drew.keep (S := fun _ => False) (Keep.refl.alloc (.cells #[.int .i64 mm] 3)) (fun h => h) (agree_upd (t := 0) (Nat.le_refl _))).keep k10 (by omega) (agree_upd (t := 10 + u) (Nat.le_refl _)))
              have HRA := hid ((HO9.out.drew.alloc (.cells #[.int .i64 mm] 3)).obj.keep k10 (by omega) (agree_upd (t := 10 + u) (Nat.le_refl _)))
              clear o10 k10 hm10
              refine hK.out _ _ ⟨HRA.out.cell (i := 9) rfl, HWBA.out.cell (i := 2) rfl, hgc⟩ (fun hHeld => ?_)
              clear hK K
              try simp only [Act.put, List.setIfInBounds_toArray, List.set_cons_zero, List.set_cons_succ, List.getElem_toArray, List.getElem_cons_succ, List.getElem_cons_zero]
              refine wpAnyF_pure (i := 19) (v := ?vg2_20_19) rfl (by kernel_rfl) (by kernel_rfl) (by kernel_rfl) (fun _ _ _ h => h) (Or.inl ⟨by rfl, ?hyg2_20_19⟩) ?restg2_20_19
              case hyg2_20_19 => (intro w hSw; clear hSw; go_simp; (all_goals with_reducible rfl))
              try simp only [Act.put, List.setIfInBounds_toArray, List.set_cons_zero, List.set_cons_succ, List.getElem_toArray, List.getElem_cons_succ, List.getElem_cons_zero]
              refine wpAnyF_oneD (i := 20) (by kernel_rfl) (by kernel_rfl) rfl (fun K hK => ?_)
              go_simp
              refine hK.out _ _ ?_
              clear hK K
              try simp only [Act.put, List.setIfInBounds_toArray, List.set_cons_zero, List.set_cons_succ, List.getElem_toArray, List.getElem_cons_succ, List.getElem_cons_zero]
              refine wpAnyF_done (by kernel_rfl) ?_ _
              go_wp2_with fail
              have hl1 : (y.l ++ [mm]).length = y.l.length + 1 := by simp
              have hP := HP10.out
              dsimp only at hP
              rw [hl1] at hP
              have HPP := hid hP
              clear hP
              go_roundw
              case rel =>
                refine ⟨q + 1, _, by omega, by go_num, hid ⟨_, code, HPP.out.1, HXA.out.keep (S := fun t => t = 3) (Keep.refl.setCell (show g < w10.heap.size → _ = 3 from fun _ => HGT.out) _) (by omega) Agree.refl, ?_, ?_, ?_, ?_⟩, hid (HEBA.out.keep (S := fun t => t = 3) (Keep.refl.setCell (show g < w10.heap.size → _ = 3 from fun _ => HGT.out) _) (by omega) Agree.refl)⟩
                · rw [HPT2.out, ← List.append_assoc, pushAll_snoc, ← HPA.out, lists_set]
                  unfold pushSay
                  rw [if_neg (by simp)]
                  simp only [Int.toNat_natCast]
                  rw [lists_getD HY.out]
                · exact (HK9.out.drew.alloc _).trans (HPP.out.2.more (fun t h => by omega)) HAGF.out
                · exact (HAGF.out.trans (agree_upd (t := 10 + u) (Nat.le_refl _)) (HK9.out.drew.alloc _).size)
                · intro z hz
                  rcases List.mem_or_eq_of_mem_set hz with hz | rfl
                  · have := HKK.out z hz; omega
                  · show (y.l ++ [mm]).length ≤ _
                    rw [hl1]; omega
              case measure => simp [intOf]; omega
            · have hfb0 : (f == 0) = false := by simpa using hf0
              have hfb1 : (f != 0) = true := by simpa using hf0
              have r10 := HO9.out.obj.cell (i := 10) rfl
              have rf := HO9.out.obj.free
              have hc := HO9.out.setCode f
              have HC := hid hc.1
              have HKC := hid hc.2
              have HEBC := hid (HEB9.out.keep hc.2 (by omega) Agree.refl)
              have HXC := hid (HX9.out.keep hc.2 (by omega) Agree.refl)
              clear hc
              go_wp2_with fail
              go_roundw
              case rel => exact ⟨q + 1, _, by omega, by go_num, hid ⟨m, f, HC.out, HXC.out, by rw [HPT2.out, ← List.append_assoc, pushAll_snoc, ← HPA.out]; unfold pushSay; rw [if_pos hf0], HK9.out.trans (HKC.out.more (fun t h => .inl h)) HAG2.out, HAG2.out, fun z hz => by have := HKK.out z hz; omega⟩, HEBC⟩
              case measure => simp [intOf]; omega
          · have HPT2 := hid (HPT.out.trans (by rw [if_neg hgo, List.append_nil]))
            cases goes with
            | false =>
              go_wp2_with fail
              rw [← hW2]
              clear hW2
              go_roundw
              case rel => exact ⟨q + 1, _, by omega, by go_num, hid ⟨m, code, HO.out, HX.out, by rw [HPT2.out]; exact HPA.out, HKE2.out, HAG2.out, fun z hz => by have := HKK.out z hz; omega⟩, HEB⟩
              case measure => simp [intOf]; omega
            | true =>
              have hfb : (frm == v) = false := by simpa using fun h : frm = v => hgo ⟨rfl, h⟩
              have hfb2 : (frm != v) = true := by simpa using fun h : frm = v => hgo ⟨rfl, h⟩
              go_wp2_with fail
              rw [← hW2]
              clear hW2
              go_roundw
              case rel => exact ⟨q + 1, _, by omega, by go_num, hid ⟨m, code, HO.out, HX.out, by rw [HPT2.out]; exact HPA.out, HKE2.out, HAG2.out, fun z hz => by have := HKK.out z hz; omega⟩, HEB⟩
              case measure => simp [intOf]; omega
        · obtain rfl : q = 2 := by omega
          go_wp2_with fail
          go_roundw
          case rel => exact ⟨i + 1, T, by omega, by go_num, hid ⟨m, code, HRO.out, HTX.out, by rw [HT.out, List.flatMap_append, List.flatMap_singleton]; exact HPA.out, HKE.out, HAG.out, fun z hz => by have := HKK.out z hz; omega⟩⟩
          case measure => simp [intOf]; omega
    · obtain rfl : i = j.graph.edges.length := by omega
      obtain ⟨m, code, hRO, hTX, hPA, hKE, hAG, hKK⟩ := HR.out
      rw [List.take_length] at hPA
      have HRO := hid hRO
      have HPA := hid hPA
      have HKE := hid hKE
      have HAG := hid hAG
      have HKK := hid hKK
      clear hRO hTX hPA hKE hAG hKK HR
      go_wp2_with fail
      go_end0
      exact ⟨rfl, T, m, code, HRO.out, HPA.out, HKE.out, HAG.out, fun z hz => by have := HKK.out z hz; omega⟩
end Go.Proofs.Yteefemiieidpaaa
