/- store.Build. -/
import Derived.Test.YtifpngjipkmdcaaStoP
namespace Go.Proofs.Ytifpngjipkmdcaa
open Go.ChangeShapes Go.WideShapes Go.ChangeAt Go.RowKit
set_option linter.unusedVariables false
set_option linter.unusedSimpArgs false
theorem retL_noneS (w w' : World) (err : Int) (b : Below w.heap.size w w') : RetL 5 1 w 0 [] err (.returned (.tuple #[.slice none 0 0, .int .i64 err])) w' := ⟨none, 0, rfl, World.ownsRow_nil _ _ _ _, b⟩
def BuR (g : Graph) (a k : Int) (G : Nat) (vs : List Int) (w2 : World) (jv : Value) (wr : World) : Prop :=
  ∃ (j c' : Nat) (A' : Option Addr), j ≤ vs.length ∧ jv = .int .i64 (j : Nat) ∧ Hid (PO wr G G A' c' (inkV g a k (vs.take j))) ∧ Below G w2 wr
set_option maxRecDepth 100000 in
set_option maxHeartbeats 1000000 in
theorem build_walk (g : Graph) (a k : Int) (w : World) (A : Option Addr) (c : Nat) (hr : Rd w w.heap.size A 3 g.edges.length (g.edges.flatMap Edge.cells)) (hl : g.edges.length * 24 ≤ 140737488355328) :
    Calls Try.prog 28 #[.agg #[.int .i64 g.n, .slice A g.edges.length c], .int .i64 a, .int .i64 k] w (RetL 5 1 w (builtV g a k).1.length ((builtV g a k).1.flatMap u8c) (builtV g a k).2) := by
  by_cases h0 : graphV g = 0
  · have b0 := bA (Below.refl w.heap.size w) (.cells #[.int .i64 g.n, .slice A g.edges.length c] 24)
    have HRC := hid (reverse_walk g _ A c (rdb hr (by decide) b0) hl)
    rw [reversedV_ok h0] at HRC
    have HMI := hid (fun V => mine_walk a g.n k V)
    have HHO := hid (fun v V A c hr hl => hopsG_walk g v V A c hr hl)
    have HHR := hid (fun v V A c hr hl => hopsG_walk (revG g) v V A c hr hl)
    have HG0 := hid h0
    by_cases hm0 : (mineV a g.n k).2 = 0
    · have HRV := hid (builtV_ok h0 hm0)
      obtain ⟨⟨ha0, hak, hk8, hn0, hn2⟩, hvs⟩ := mineV_in hm0
      have HVS := hid hvs
      have hb : ((mineV a g.n k).2 != 0) = false := by simp [hm0]
      have hml := mineV_len a g.n k
      rw [hm0] at hb
      simp only [hm0] at HMI
      generalize (mineV a g.n k).1 = vs at *
      clear hm0 h0 hvs
      go_enter Try.func28, Try.ntmps28
      go_wp2_with fail
      refine HRC.out.mono ?_
      rintro e w1 ⟨A1, c1, rfl, o1, b1⟩
      have b01 := bT b0 b1
      have hz1 : w.heap.size < w1.heap.size := by have := b1.size; simp at this; omega
      have q0 : w1.cell? ⟨w.heap.size, 0, none⟩ = some (.int .i64 g.n) := keepb b1 (by go_simp)
      have q1 : w1.cell? ⟨w.heap.size, 1, none⟩ = some (.slice A g.edges.length c) := keepb b1 (by go_simp)
      have HO1 := hid o1
      clear o1
      have hrev : revG g = ⟨g.n, srtOf elt (g.edges.map revE)⟩ := rfl
      have HIB := hid (fun vs => inkV_byte (g := g) (a := a) (k := k) HG0.out (by omega) (by omega) vs)
      have HIL := hid (fun vs => inkV_len (g := g) HG0.out a k vs)
      have HIS := hid (fun vs v => inkV_snoc g a k vs v)
      have HI0 : Hid (inkV g a k [] = packs [a, k, g.n]) := hid (by simp [inkV])
      have HWG := hid (fun v => hopsS_wt (graph_wt HG0.out) v)
      have HWR := hid (fun v => hopsS_wt (graph_wt (graphV_revG HG0.out)) v)
      have HB2 := hid (show ∀ v, hopsB2 g v = hopB (hopsS g.edges v) ++ hopB (hopsS (srtOf elt (g.edges.map revE)) v) from fun v => rfl)
      have HHL := hid (fun v => hopsS_len g.edges v)
      have HHS := hid (fun v => hopsS_len (revG g).edges v)
      have hg6 := (graphV_ok.1 HG0.out).1.2.2
      have hg7 := (graphV_ok.1 (graphV_revG HG0.out)).1.2.2
      have HHV := hid (fun (v : Int) (hv : 0 ≤ v ∧ v < g.n) => hopSV_ok (g := g) HG0.out hv)
      have HRVV := hid (fun (v : Int) (hv : 0 ≤ v ∧ v < g.n) => hopSV_ok (g := revG g) (graphV_revG HG0.out) hv)
      simp only [hrev] at HHR HWR HHS hg7 HRVV
      clear hrev
      generalize srtOf elt (g.edges.map revE) = E at *
      try dsimp only at HHR HWR HHS hg7 HRVV
      dsimp only at HO1
      go_wp2_with fail
      refine (HMI.out _).mono ?_
      rintro e w2 ⟨A2, c2, rfl, o2, b2⟩
      have p0 := keepb b2 (show (w1.alloc (.cells #[.int .i64 g.n, .slice A1 E.length c1] 24)).cell? ⟨w1.heap.size, 0, none⟩ = some (.int .i64 g.n) by go_simp)
      have p1 := keepb b2 (show (w1.alloc (.cells #[.int .i64 g.n, .slice A1 E.length c1] 24)).cell? ⟨w1.heap.size, 1, none⟩ = some (.slice A1 E.length c1) by go_simp)
      have q0 := keepb b2 (show (w1.alloc (.cells #[.int .i64 g.n, .slice A1 E.length c1] 24)).cell? ⟨w.heap.size, 0, none⟩ = some (.int .i64 g.n) by go_simp)
      have q1 := keepb b2 (show (w1.alloc (.cells #[.int .i64 g.n, .slice A1 E.length c1] 24)).cell? ⟨w.heap.size, 1, none⟩ = some (.slice A g.edges.length c) by go_simp)
      have b02 := bT (bA b01 (.cells #[.int .i64 g.n, .slice A1 E.length c1] 24)) b2
      have hz2 : w1.heap.size < w2.heap.size := by have := b2.size; simp at this; omega
      have HO1' := hid (own_belowB (own_belowB HO1.out (bA (Below.refl w1.heap.size w1) (.cells #[.int .i64 g.n, .slice A1 E.length c1] 24))) b2)
      have HO2 := hid o2
      clear o2 b2 HO1
      obtain ⟨G, hG⟩ : ∃ G, w2.heap.size = G := ⟨_, rfl⟩
      have hzG : w.heap.size < G := by omega
      have hz1G : w1.heap.size < G := by omega
      have hz02 : w.heap.size < w2.heap.size := by omega
      obtain ⟨V, hV⟩ : ∃ V, V = (w2.alloc (.cells #[.slice none 0 0] 112)).alloc (.cells #[.int .i64 a, .int .i64 k, .int .i64 g.n] 3) := ⟨_, rfl⟩
      have BV : Below w2.heap.size w2 V := by rw [hV]; exact bA (bA (Below.refl _ _) _) _
      have hPV : PO V G G none 0 [] := ⟨Nat.le_refl _, fun y hy => (by cases hy), by rw [hV, ← hG]; go_simp, by rw [hV, ← hG]; go_simp, World.ownsRow_nil _ _ _ _⟩
      have hcv : ∀ (i : Nat) (x : Int), [a, k, g.n][i]? = some x → V.cell? ⟨G + 1, i, none⟩ = some (.int .i64 x) ∧ 0 ≤ x ∧ x ≤ 9223372036854775807 := fun i x hx => by
        rcases i with _ | _ | _ | i
        · simp at hx; subst hx; exact ⟨by rw [hV, ← hG]; go_simp, by omega, by omega⟩
        · simp at hx; subst hx; exact ⟨by rw [hV, ← hG]; go_simp, by omega, by omega⟩
        · simp at hx; subst hx; exact ⟨by rw [hV, ← hG]; go_simp, by omega, by omega⟩
        · simp at hx
      have HPU := hid (penPut_walk hPV [a, k, g.n] (G + 1) 3 3 rfl hcv (by omega) (fun e => by cases e) (by simp))
      have HV := hid hV
      clear hcv hPV hV
      go_wp2_with fail
      rw [← HV.out]
      refine HPU.out.mono ?_
      rintro e wx ⟨rfl, A3, c3, hpo, hpf⟩
      have HPO := hid (show PO wx G G A3 c3 (inkV g a k []) by rw [HI0.out]; simpa using hpo)
      have HBX := hid ((BV.mono (show G ≤ w2.heap.size by omega)).trans hpf.1)
      clear hpo hpf HPU HV BV
      go_wp2_with fail
      go_loopw [13, 14, 15, 16, 17, 48] (fun _ _ _ _ _ jv wr => BuR g a k G vs w2 jv wr) (fun _ _ _ _ _ jv _ => vs.length - (intOf jv).toNat)
      case atStart => exact ⟨0, c3, A3, Nat.zero_le _, rfl, HPO, HBX.out⟩
      case round =>
        clear HPO HBX
        obtain ⟨j, c4, A4, hj, rfl, HP, hbel⟩ := hrel
        have hGz := HP.out.lt
        have p0 := hbel.cell (p := ⟨w1.heap.size, 0, none⟩) hz1G |>.trans p0
        have p1 := hbel.cell (p := ⟨w1.heap.size, 1, none⟩) hz1G |>.trans p1
        have q0 := hbel.cell (p := ⟨w.heap.size, 0, none⟩) hzG |>.trans q0
        have q1 := hbel.cell (p := ⟨w.heap.size, 1, none⟩) hzG |>.trans q1
        have hbW := hid (b02.trans (hbel.mono (by omega)))
        have HPL := hid (HIL.out (vs.take j))
        have hPL : (inkV g a k (vs.take j)).length ≤ 12000030 := by have h := HPL.out; rw [List.length_take] at h; omega
        by_cases hlt : j < vs.length
        · obtain ⟨v, hv⟩ : ∃ v, vs[j]? = some v := ⟨_, List.getElem?_eq_getElem hlt⟩
          obtain ⟨hv0, hvn⟩ := HVS.out v (List.mem_of_getElem? hv)
          have HOV := hid (own_below (base' := 0) HO2.out (hbel.mono (by omega)) (Nat.zero_le _))
          obtain ⟨bb, off, rfl, hbb, e0⟩ := int_cell (rd_own HOV.out) rfl hv
          have hjz : (j : Int) < (vs.length : Int) := by omega
          have HTK := hid (show inkV g a k (vs.take (j + 1)) = inkV g a k (vs.take j) ++ hopsB2 g v by rw [List.take_add_one, hv, ← HIS.out]; rfl)
          have hrg := rdb hr (by decide) hbW.out
          have HHG := hid (HHO.out v wr A c hrg hl)
          rw [HHV.out v ⟨hv0, hvn⟩] at HHG
          have HVB := hid (show 0 ≤ v ∧ v < g.n from ⟨hv0, hvn⟩)
          clear hv
          go_wp2_with fail
          refine HHG.out.mono ?_
          rintro e w5 ⟨A5, c5, rfl, o5, b5⟩
          have hb5 := hbel.trans (b5.mono (by omega))
          have p0 := keepb b5 p0
          have p1 := keepb b5 p1
          have HHE := hid (HHR.out v w5 A1 c1 (rd_own (own_below (base' := 0) HO1'.out (hb5.mono (by omega)) (Nat.zero_le _))) (by omega))
          rw [HRVV.out v HVB.out] at HHE
          have HO5 := hid o5
          have HB5 := hid b5
          have hz5 := b5.size
          clear o5 b5 HHG
          go_wp2_with fail
          refine HHE.out.mono ?_
          rintro e w6 ⟨A6, c6, rfl, o6, b6⟩
          have hz6 := b6.size
          have HB56 := hid (HB5.out.trans (b6.mono hz5))
          have HP6 := hid (HP.out.below HB56.out)
          have HO5' := hid (own_belowB HO5.out b6)
          have HO6 := hid o6
          have HB06 := hid (hb5.trans (b6.mono (by omega)))
          have HBL := hid (fun y (hy : pBlk A4 c4 (inkV g a k (vs.take j)) = some y) => (HP.out.blk_lt hy).2)
          have HH1 := hid (penHops_walk HP6.out (hopsS g.edges v) A5 c5 (hopsS g.edges v).length rfl (fun W a' hf => rd_own (own_pfl HO5'.out hf (fun x hx => by
            have := (HO5'.out.lt x hx).1
            exact ⟨by omega, fun e => by have := HBL.out x e; omega⟩))) (HWG.out v) (by have := HHL.out v; omega))
          clear o6 b6 HHE
          go_wp2_with fail
          refine HH1.out.mono ?_
          rintro e w7 ⟨rfl, A7, c7, hp7, hf7⟩
          have HO6' := hid (own_pfl HO6.out hf7 (fun x hx => by
            have := (HO6.out.lt x hx).1
            exact ⟨by omega, fun e => by have := HBL.out x e; omega⟩))
          have HB07 := hid (HB06.out.trans hf7.1)
          have hz7 := hf7.1.size
          have hl7 : (inkV g a k (vs.take j) ++ hopB (hopsS g.edges v)).length ≤ 13000000 := by
            have h := hopB_len (hopsS g.edges v)
            have h2 := HHL.out v
            rw [List.length_append]; omega
          have HH2 := hid (penHops_walk hp7 (hopsS E v) A6 c6 (hopsS E v).length rfl (fun W a' hf => rd_own (own_pfl HO6'.out hf (fun x hx => by
            have h1 := (HO6'.out.lt x hx).1
            have h2 := (HO6.out.lt x hx).2
            exact ⟨by omega, fun e => by
              rcases hf7.2.2 x e with h | h
              · have := HBL.out x h; omega
              · omega⟩))) (HWR.out v) (by have := HHS.out v; omega))
          clear hp7 hf7 HH1
          go_wp2_with fail
          refine HH2.out.mono ?_
          rintro e w8 ⟨rfl, A8, c8, hp8, hf8⟩
          have HP8 := hid (show PO w8 G G A8 c8 (inkV g a k (vs.take (j + 1))) by rw [HTK.out, HB2.out v, ← List.append_assoc]; exact hp8)
          have HB8 := hid (HB07.out.trans hf8.1)
          clear hp8 hf8 HH2
          go_wp2_with fail
          go_roundw
          case rel => exact ⟨j + 1, c8, A8, by omega, by go_num, HP8, HB8.out⟩
          case measure => (simp [intOf]) <;> omega
        · obtain rfl : j = vs.length := by omega
          have hjz : ¬ ((vs.length : Int) < (vs.length : Int)) := by omega
          rw [List.take_length] at HP hPL
          have h0 := HP.out.all
          have HWW := hid (wrap_walk (inkV g a k vs) wr A4 (inkV g a k vs).length c4 (rd_own HP.out.row) rfl (HIB.out vs) (by omega))
          have HRV2 := hid (show wrapV (inkV g a k vs) = builtV g a k from HRV.out.symm)
          rw [HRV2.out] at HWW
          go_wp2_with fail
          refine HWW.out.mono ?_
          rintro e w9 ⟨A9, c9, rfl, o9, b9⟩
          have HO9 := hid o9
          clear o9
          go_wp2_with fail
          go_ret2
          exact ⟨A9, c9, rfl, own_more HO9.out hbW.out.size, bT hbW.out b9⟩
    · have HRV := hid (builtV_not h0 hm0)
      have hb : ((mineV a g.n k).2 != 0) = true := by simpa using hm0
      generalize mineV a g.n k = mv at *
      obtain ⟨ml, me⟩ := mv
      dsimp only at hb HMI HRV
      clear hm0 h0
      go_enter Try.func28, Try.ntmps28
      go_wp2_with fail
      refine HRC.out.mono ?_
      rintro e w1 ⟨A1, c1, rfl, o1, b1⟩
      have b01 := bT b0 b1
      have hz1 : w.heap.size < w1.heap.size := by have := b1.size; simp at this; omega
      have q0 : w1.cell? ⟨w.heap.size, 0, none⟩ = some (.int .i64 g.n) := keepb b1 (by go_simp)
      clear o1
      go_wp2_with fail
      refine (HMI.out _).mono ?_
      rintro e w2 ⟨A2, c2, rfl, o2, b2⟩
      go_wp2_with fail
      go_ret2
      rw [HRV.out]
      exact retL_noneS _ _ _ (bT (bA b01 _) b2)
  · have b0 := bA (Below.refl w.heap.size w) (.cells #[.int .i64 g.n, .slice A g.edges.length c] 24)
    have HRC := hid (fun V (hV : Below w.heap.size w V) => reverse_walk g V A c (rdb hr (by decide) hV) hl)
    rw [reversedV_bad h0] at HRC
    have HRV := hid (builtV_bad (a := a) (k := k) h0)
    have hb : (graphV g != 0) = true := by simpa using h0
    generalize graphV g = r at *
    clear h0
    go_enter Try.func28, Try.ntmps28
    go_wp2_with fail
    refine (HRC.out _ b0).mono ?_
    rintro e w1 ⟨A1, c1, rfl, o1, b1⟩
    have b01 := bT b0 b1
    clear o1
    go_wp2_with fail
    go_ret2
    rw [HRV.out]
    exact retL_noneS _ _ _ (bA b01 _)
end Go.Proofs.Ytifpngjipkmdcaa
