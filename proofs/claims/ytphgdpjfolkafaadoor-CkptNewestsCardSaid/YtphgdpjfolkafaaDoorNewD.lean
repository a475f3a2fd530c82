/- The document's NewestOf. -/
import Derived.Test.YtphgdpjfolkafaaDoorNewW
namespace Go.Proofs.YtphgdpjfolkafaaDoor
open Go.ChangeShapes Go.WideShapes Go.ChangeAt Go.RowKit
set_option linter.unusedVariables false
set_option linter.unusedSimpArgs false
theorem new_a {fs : List File} {most : Int} (h : ¬ okF fs = false) (h1 : (loadV fs 0).2 = 0 ∧ (loadV fs 0).1.step ≤ most) (h2 : (loadV fs 1).2 = 0 ∧ (loadV fs 1).1.step ≤ most → (loadV fs 1).1.step ≤ (loadV fs 0).1.step) : newV fs most = ((loadV fs 0).1, 0) := by
  have e1 : bestN fs most 1 = some (loadV fs 0).1 := stepN_yes ⟨h1.1, h1.2, fun x hx => by cases hx⟩
  have e2 : bestN fs most 2 = some (loadV fs 0).1 := by
    show stepN (bestN fs most 1) (loadV fs 1).1 (loadV fs 1).2 most = _
    rw [e1]
    refine stepN_no fun hc => ?_
    have := h2 ⟨hc.1, hc.2.1⟩
    have := hc.2.2 _ rfl
    omega
  unfold newV
  rw [if_neg h, e2]
theorem new_b {fs : List File} {most : Int} (h : ¬ okF fs = false) (h2 : (loadV fs 1).2 = 0 ∧ (loadV fs 1).1.step ≤ most) (h1 : (loadV fs 0).2 = 0 ∧ (loadV fs 0).1.step ≤ most → (loadV fs 0).1.step < (loadV fs 1).1.step) : newV fs most = ((loadV fs 1).1, 0) := by
  have e2 : bestN fs most 2 = some (loadV fs 1).1 := by
    show stepN (bestN fs most 1) (loadV fs 1).1 (loadV fs 1).2 most = _
    refine stepN_yes ⟨h2.1, h2.2, fun x hx => ?_⟩
    by_cases hc : (loadV fs 0).2 = 0 ∧ (loadV fs 0).1.step ≤ most
    · have e1 : bestN fs most 1 = some (loadV fs 0).1 := stepN_yes ⟨hc.1, hc.2, fun x hx => by cases hx⟩
      rw [e1] at hx
      injection hx with hx
      rw [← hx]
      exact h1 hc
    · have e1 : bestN fs most 1 = none := stepN_no fun hd => hc ⟨hd.1, hd.2.1⟩
      rw [e1] at hx
      cases hx
  unfold newV
  rw [if_neg h, e2]
theorem new_n {fs : List File} {most : Int} (h : ¬ okF fs = false) (h1 : ¬ ((loadV fs 0).2 = 0 ∧ (loadV fs 0).1.step ≤ most)) (h2 : ¬ ((loadV fs 1).2 = 0 ∧ (loadV fs 1).1.step ≤ most)) : newV fs most = (svZero, 7) := by
  have e1 : bestN fs most 1 = none := stepN_no fun hd => h1 ⟨hd.1, hd.2.1⟩
  have e2 : bestN fs most 2 = none := by
    show stepN (bestN fs most 1) (loadV fs 1).1 (loadV fs 1).2 most = _
    rw [stepN_no fun hd => h2 ⟨hd.1, hd.2.1⟩, e1]
  unfold newV
  rw [if_neg h, e2]
set_option maxRecDepth 100000 in
set_option maxHeartbeats 40000000 in
theorem newestOf_walk (l : List MFile) (most : Int) (w : World) (A : Option Addr) (c : Nat) (hr : Files w w.heap.size A l) (hn : l.length * 48 ≤ 140737488355328) (hm : Okm l) (hy : ByF (files l)) :
    Calls Tryd.prog 11 #[.agg #[.slice A l.length c], .int .i64 most] w (RetSv w (newV (files l) most).1 (newV (files l) most).2) := by
  obtain ⟨wx, hwx⟩ : ∃ wx, wx = (w.alloc (.cells #[.slice A l.length c] 24)).alloc (.cells #[.int .i64 0, .int .i64 0, .bool false, .slice none 0 0, .slice none 0 0] 29) := ⟨_, rfl⟩
  have HBX : Hid (Below w.heap.size w wx) := hid (by rw [hwx]; exact bA (bA (Below.refl _ _) _) _)
  have hzx : w.heap.size + 1 < wx.heap.size := by rw [hwx]; simp
  have j0 : wx.cell? ⟨w.heap.size, 0, none⟩ = some (.slice A l.length c) := by rw [hwx]; go_simp
  have z0 : wx.cell? ⟨w.heap.size + 1, 0, none⟩ = some (.int .i64 0) := by rw [hwx]; go_simp
  have z1 : wx.cell? ⟨w.heap.size + 1, 1, none⟩ = some (.int .i64 0) := by rw [hwx]; go_simp
  have z2 : wx.cell? ⟨w.heap.size + 1, 2, none⟩ = some (.bool false) := by rw [hwx]; go_simp
  have z3 : wx.cell? ⟨w.heap.size + 1, 3, none⟩ = some (.slice none 0 0) := by rw [hwx]; go_simp
  have z4 : wx.cell? ⟨w.heap.size + 1, 4, none⟩ = some (.slice none 0 0) := by rw [hwx]; go_simp
  have zf : ∀ o, wx.frozen? ⟨w.heap.size + 1, o, none⟩ = false := fun o => by rw [hwx]; go_simp
  have HWX := hid hwx
  clear hwx
  have HMAY := hid (DiskMay_walk l wx A c (rdb hr.1 (by decide) HBX.out) (by omega))
  have HLD := hid (fun (k : Int) W (hB : Below (w.heap.size) w W) => loadedSlot_walk l k W A c (Files.b hr hB) hn hm hy)
  by_cases hok : okF (files l) = false
  · have hok2 : okB l = false := hok
    rw [hok2] at HMAY
    have HNV : Hid (newV (files l) most = (svZero, 9)) := hid (by unfold newV; rw [if_pos hok])
    rw [HNV.out]
    clear hok HNV hok2 HLD
    go_enter Tryd.func11, Tryd.ntmps11
    go_wp2_with fail
    rw [← HWX.out]
    clear HWX
    refine HMAY.out.mono ?_
    rintro e w7 ⟨rfl, b7⟩
    replace z0 := keepb b7 z0
    replace z1 := keepb b7 z1
    replace z2 := keepb b7 z2
    replace z3 := keepb b7 z3
    replace z4 := keepb b7 z4
    replace zf : ∀ o, w7.frozen? ⟨w.heap.size + 1, o, none⟩ = false := fun o => (b7.frozen (p := ⟨w.heap.size + 1, o, none⟩) (by show w.heap.size + 1 < wx.heap.size; omega)).trans (zf o)
    have zf0 := zf 0
    have zf1 := zf 1
    have zf2 := zf 2
    have zf3 := zf 3
    have zf4 := zf 4
    have HB7 := hid (bT HBX.out b7)
    have hz7 : w.heap.size + 1 < w7.heap.size := by have := b7.size; omega
    clear b7
    go_wp2_with fail
    refine bodyPost_ret (v := .tuple #[.agg #[.int .i64 0, .int .i64 0, .bool false, .slice none 0 0, .slice none 0 0], .int .i64 9]) (by simp [results, Tryd.results11, go_sem, *]) rfl (retSv_zero _ ?_)
    repeat (with_reducible refine Below.setCell ?_ (by simp) _)
    exact HB7.out
  · have hok2 : okB l = true := by
      cases h : okB l with
      | true => rfl
      | false => exact absurd h hok
    rw [hok2] at HMAY
    have HA := hid (new_a (most := most) hok)
    have HB := hid (new_b (most := most) hok)
    have HN := hid (new_n (most := most) hok)
    have HL0 := hid (HLD.out 0)
    have HL1 := hid (HLD.out 1)
    generalize loadV (files l) 0 = za at HA HB HN HL0
    generalize loadV (files l) 1 = zb at HA HB HN HL1
    obtain ⟨⟨st, ph, fr, vs, ms⟩, r⟩ := za
    obtain ⟨⟨st', ph', fr', vs', ms'⟩, r'⟩ := zb
    unfold RetSv svC at HL0 HL1
    simp only at HL0 HL1 HA HB HN
    clear hok hok2 HLD
    go_enter Tryd.func11, Tryd.ntmps11
    go_wp2_with fail
    rw [← HWX.out]
    clear HWX
    refine HMAY.out.mono ?_
    rintro e wy ⟨rfl, by'⟩
    have hzy : w.heap.size + 1 < wy.heap.size := by have := by'.size; omega
    have HBY := hid (bT HBX.out by')
    replace j0 := keepb by' j0
    replace z0 := keepb by' z0
    replace z1 := keepb by' z1
    replace z2 := keepb by' z2
    replace z3 := keepb by' z3
    replace z4 := keepb by' z4
    replace zf : ∀ o, wy.frozen? ⟨w.heap.size + 1, o, none⟩ = false := fun o => (by'.frozen (p := ⟨w.heap.size + 1, o, none⟩) (by show w.heap.size + 1 < wx.heap.size; omega)).trans (zf o)
    have HC0 := hid (HL0.out wy HBY.out)
    clear by' HL0 HMAY hzx
    go_wp2_with fail
    refine HC0.out.mono ?_
    rintro e w7 ⟨A7, c7, B7, d7, rfl, o7, m7, b7⟩
    have bX := bA (Below.refl w7.heap.size w7) (.cells #[.int .i64 st, .int .i64 ph, .bool fr, .slice A7 vs.length c7, .slice B7 ms.length d7] 29)
    obtain ⟨wz, hwz⟩ : ∃ wz, wz = w7.alloc (.cells #[.int .i64 st, .int .i64 ph, .bool fr, .slice A7 vs.length c7, .slice B7 ms.length d7] 29) := ⟨_, rfl⟩
    rw [← hwz] at bX
    have hg : wz.heap.size = w7.heap.size + 1 := by rw [hwz]; simp
    have a0 : wz.cell? ⟨w7.heap.size, 0, none⟩ = some (.int .i64 st) := by rw [hwz]; go_simp
    have a1 : wz.cell? ⟨w7.heap.size, 1, none⟩ = some (.int .i64 ph) := by rw [hwz]; go_simp
    have a2 : wz.cell? ⟨w7.heap.size, 2, none⟩ = some (.bool fr) := by rw [hwz]; go_simp
    have a3 : wz.cell? ⟨w7.heap.size, 3, none⟩ = some (.slice A7 vs.length c7) := by rw [hwz]; go_simp
    have a4 : wz.cell? ⟨w7.heap.size, 4, none⟩ = some (.slice B7 ms.length d7) := by rw [hwz]; go_simp
    have byz := bT b7 bX
    have HBZ := hid (bT HBY.out byz)
    have HO7 := hid (own_below o7 bX (Nat.le_refl _))
    have HM7 := hid (own_below m7 bX (Nat.le_refl _))
    have hzz : w.heap.size + 1 < w7.heap.size := by have := b7.size; omega
    have j7 := keepb b7 j0
    have hzz0 : w.heap.size < w7.heap.size := by omega
    replace j0 := keepb byz j0
    replace z0 := keepb byz z0
    replace z1 := keepb byz z1
    replace z2 := keepb byz z2
    replace z3 := keepb byz z3
    replace z4 := keepb byz z4
    replace zf : ∀ o, wz.frozen? ⟨w.heap.size + 1, o, none⟩ = false := fun o => (byz.frozen (p := ⟨w.heap.size + 1, o, none⟩) (by show w.heap.size + 1 < wy.heap.size; omega)).trans (zf o)
    have HY7 := hid hzy
    have HC1 := hid (HL1.out wz HBZ.out)
    have HWZ := hid hwz
    have HG := hid hg
    clear b7 o7 m7 bX byz HC0 hwz hzy HL1 hg
    go_wp2_with fail
    rw [← HWZ.out]
    clear HWZ
    refine HC1.out.mono ?_
    rintro e w8 ⟨A8, c8, B8, d8, rfl, o8, m8, b8⟩
    have hz8 : w7.heap.size < w8.heap.size := by have := b8.size; have := HG.out; omega
    have HB8 := hid (bT HBZ.out b8)
    have HO7' := hid (own_below HO7.out b8 (Nat.le_refl _))
    have HM7' := hid (own_below HM7.out b8 (Nat.le_refl _))
    have HO8 := hid o8
    have HM8 := hid m8
    replace z0 := keepb b8 z0
    replace z1 := keepb b8 z1
    replace z2 := keepb b8 z2
    replace z3 := keepb b8 z3
    replace z4 := keepb b8 z4
    replace a0 := keepb b8 a0
    replace a1 := keepb b8 a1
    replace a2 := keepb b8 a2
    replace a3 := keepb b8 a3
    replace a4 := keepb b8 a4
    have hwz0 : w.heap.size + 1 < wz.heap.size := by have := HG.out; omega
    replace zf : ∀ o, w8.frozen? ⟨w.heap.size + 1, o, none⟩ = false := fun o => (b8.frozen (p := ⟨w.heap.size + 1, o, none⟩) (by show w.heap.size + 1 < wz.heap.size; omega)).trans (zf o)
    have zf0 := zf 0
    have zf1 := zf 1
    have zf2 := zf 2
    have zf3 := zf 3
    have zf4 := zf 4
    have hne : w7.heap.size ≠ w.heap.size + 1 := by omega
    have hy7 : w.heap.size + 1 < wy.heap.size := by first | assumption | (have := HY7.out; omega)
    have hz9 : w.heap.size + 1 < w8.heap.size := by omega
    have hzz' : w.heap.size + 1 < wz.heap.size := by have := HG.out; omega
    clear b8 o8 m8 HC1 HO7 HM7 HBZ HBY HBX j0 j7
    by_cases hr : r = 0
    · by_cases hs : st ≤ most
      · have hf0 : r = 0 ∧ st ≤ most := ⟨hr, hs⟩
        subst hr
        have hf := hid hf0
        clear hf0
        by_cases hr2 : r' = 0
        · subst hr2
          by_cases hs2 : st' ≤ most
          · by_cases hc : st' ≤ st
            · skip
              have HV := hid (HA.out hf.out (fun _ => hc))
              clear HA HB HN
              go_wp2_with fail
              refine bodyPost_ret (v := .tuple #[.agg #[.int .i64 st, .int .i64 ph, .bool fr, .slice A7 vs.length c7, .slice B7 ms.length d7], .int .i64 0]) (by simp [results, Tryd.results11, go_sem, *]) rfl ?_
              rw [HV.out]
              refine ⟨A7, c7, B7, d7, rfl, ?_, ?_, ?_⟩
              · refine own_more (base := wy.heap.size) ?_ (by omega)
                repeat (with_reducible first | refine ownsRow_setCell_below ?_ (by simp; try omega) _ | refine own_below ?_ (bA (Below.refl _ _) _) (Nat.le_refl _))
                exact HO7'.out
              · refine own_more (base := wy.heap.size) ?_ (by omega)
                repeat (with_reducible first | refine ownsRow_setCell_below ?_ (by simp; try omega) _ | refine own_below ?_ (bA (Below.refl _ _) _) (Nat.le_refl _))
                exact HM7'.out
              · repeat (with_reducible first | refine Below.setCell ?_ (by simp) _ | refine bA ?_ _)
                exact HB8.out
            · skip
              have HV := hid (HB.out ⟨rfl, hs2⟩ (fun _ => by omega))
              clear HA HB HN
              go_wp2_with fail
              refine bodyPost_ret (v := .tuple #[.agg #[.int .i64 st', .int .i64 ph', .bool fr', .slice A8 vs'.length c8, .slice B8 ms'.length d8], .int .i64 0]) (by simp [results, Tryd.results11, go_sem, *]) rfl ?_
              rw [HV.out]
              refine ⟨A8, c8, B8, d8, rfl, ?_, ?_, ?_⟩
              · refine own_more (base := wz.heap.size) ?_ (by omega)
                repeat (with_reducible first | refine ownsRow_setCell_below ?_ (by simp; try omega) _ | refine own_below ?_ (bA (Below.refl _ _) _) (Nat.le_refl _))
                exact HO8.out
              · refine own_more (base := wz.heap.size) ?_ (by omega)
                repeat (with_reducible first | refine ownsRow_setCell_below ?_ (by simp; try omega) _ | refine own_below ?_ (bA (Below.refl _ _) _) (Nat.le_refl _))
                exact HM8.out
              · repeat (with_reducible first | refine Below.setCell ?_ (by simp) _ | refine bA ?_ _)
                exact HB8.out
          · skip
            have HV := hid (HA.out hf.out (fun h => absurd h.2 hs2))
            clear HA HB HN
            go_wp2_with fail
            refine bodyPost_ret (v := .tuple #[.agg #[.int .i64 st, .int .i64 ph, .bool fr, .slice A7 vs.length c7, .slice B7 ms.length d7], .int .i64 0]) (by simp [results, Tryd.results11, go_sem, *]) rfl ?_
            rw [HV.out]
            refine ⟨A7, c7, B7, d7, rfl, ?_, ?_, ?_⟩
            · refine own_more (base := wy.heap.size) ?_ (by omega)
              repeat (with_reducible first | refine ownsRow_setCell_below ?_ (by simp; try omega) _ | refine own_below ?_ (bA (Below.refl _ _) _) (Nat.le_refl _))
              exact HO7'.out
            · refine own_more (base := wy.heap.size) ?_ (by omega)
              repeat (with_reducible first | refine ownsRow_setCell_below ?_ (by simp; try omega) _ | refine own_below ?_ (bA (Below.refl _ _) _) (Nat.le_refl _))
              exact HM7'.out
            · repeat (with_reducible first | refine Below.setCell ?_ (by simp) _ | refine bA ?_ _)
              exact HB8.out
        · have hr2b : (r' == 0) = false := by simpa using hr2
          have HV := hid (HA.out hf.out (fun h => absurd h.1 hr2))
          clear HA HB HN
          go_wp2_with fail
          refine bodyPost_ret (v := .tuple #[.agg #[.int .i64 st, .int .i64 ph, .bool fr, .slice A7 vs.length c7, .slice B7 ms.length d7], .int .i64 0]) (by simp [results, Tryd.results11, go_sem, *]) rfl ?_
          rw [HV.out]
          refine ⟨A7, c7, B7, d7, rfl, ?_, ?_, ?_⟩
          · refine own_more (base := wy.heap.size) ?_ (by omega)
            repeat (with_reducible first | refine ownsRow_setCell_below ?_ (by simp; try omega) _ | refine own_below ?_ (bA (Below.refl _ _) _) (Nat.le_refl _))
            exact HO7'.out
          · refine own_more (base := wy.heap.size) ?_ (by omega)
            repeat (with_reducible first | refine ownsRow_setCell_below ?_ (by simp; try omega) _ | refine own_below ?_ (bA (Below.refl _ _) _) (Nat.le_refl _))
            exact HM7'.out
          · repeat (with_reducible first | refine Below.setCell ?_ (by simp) _ | refine bA ?_ _)
            exact HB8.out
      · have hf0 : ¬ (r = 0 ∧ st ≤ most) := fun h => hs h.2
        subst hr
        have hf := hid hf0
        clear hf0
        by_cases hr2 : r' = 0
        · subst hr2
          by_cases hs2 : st' ≤ most
          · skip
            have HV := hid (HB.out ⟨rfl, hs2⟩ (fun h => absurd h hf.out))
            clear HA HB HN
            go_wp2_with fail
            refine bodyPost_ret (v := .tuple #[.agg #[.int .i64 st', .int .i64 ph', .bool fr', .slice A8 vs'.length c8, .slice B8 ms'.length d8], .int .i64 0]) (by simp [results, Tryd.results11, go_sem, *]) rfl ?_
            rw [HV.out]
            refine ⟨A8, c8, B8, d8, rfl, ?_, ?_, ?_⟩
            · refine own_more (base := wz.heap.size) ?_ (by omega)
              repeat (with_reducible first | refine ownsRow_setCell_below ?_ (by simp; try omega) _ | refine own_below ?_ (bA (Below.refl _ _) _) (Nat.le_refl _))
              exact HO8.out
            · refine own_more (base := wz.heap.size) ?_ (by omega)
              repeat (with_reducible first | refine ownsRow_setCell_below ?_ (by simp; try omega) _ | refine own_below ?_ (bA (Below.refl _ _) _) (Nat.le_refl _))
              exact HM8.out
            · repeat (with_reducible first | refine Below.setCell ?_ (by simp) _ | refine bA ?_ _)
              exact HB8.out
          · skip
            have HV := hid (HN.out hf.out (fun h => hs2 h.2))
            clear HA HB HN
            go_wp2_with fail
            refine bodyPost_ret (v := .tuple #[.agg #[.int .i64 0, .int .i64 0, .bool false, .slice none 0 0, .slice none 0 0], .int .i64 7]) (by simp [results, Tryd.results11, go_sem, *]) rfl ?_
            rw [HV.out]
            refine retSv_zero _ ?_
            repeat (with_reducible first | refine Below.setCell ?_ (by simp) _ | refine bA ?_ _)
            exact HB8.out
        · have hr2b : (r' == 0) = false := by simpa using hr2
          have HV := hid (HN.out hf.out (fun h => hr2 h.1))
          clear HA HB HN
          go_wp2_with fail
          refine bodyPost_ret (v := .tuple #[.agg #[.int .i64 0, .int .i64 0, .bool false, .slice none 0 0, .slice none 0 0], .int .i64 7]) (by simp [results, Tryd.results11, go_sem, *]) rfl ?_
          rw [HV.out]
          refine retSv_zero _ ?_
          repeat (with_reducible first | refine Below.setCell ?_ (by simp) _ | refine bA ?_ _)
          exact HB8.out
    · have hrb : (r == 0) = false := by simpa using hr
      have hf := hid (show ¬ (r = 0 ∧ st ≤ most) from fun h => hr h.1)
      clear hr
      by_cases hr2 : r' = 0
      · subst hr2
        by_cases hs2 : st' ≤ most
        · skip
          have HV := hid (HB.out ⟨rfl, hs2⟩ (fun h => absurd h hf.out))
          clear HA HB HN
          go_wp2_with fail
          refine bodyPost_ret (v := .tuple #[.agg #[.int .i64 st', .int .i64 ph', .bool fr', .slice A8 vs'.length c8, .slice B8 ms'.length d8], .int .i64 0]) (by simp [results, Tryd.results11, go_sem, *]) rfl ?_
          rw [HV.out]
          refine ⟨A8, c8, B8, d8, rfl, ?_, ?_, ?_⟩
          · refine own_more (base := wz.heap.size) ?_ (by omega)
            repeat (with_reducible first | refine ownsRow_setCell_below ?_ (by simp; try omega) _ | refine own_below ?_ (bA (Below.refl _ _) _) (Nat.le_refl _))
            exact HO8.out
          · refine own_more (base := wz.heap.size) ?_ (by omega)
            repeat (with_reducible first | refine ownsRow_setCell_below ?_ (by simp; try omega) _ | refine own_below ?_ (bA (Below.refl _ _) _) (Nat.le_refl _))
            exact HM8.out
          · repeat (with_reducible first | refine Below.setCell ?_ (by simp) _ | refine bA ?_ _)
            exact HB8.out
        · skip
          have HV := hid (HN.out hf.out (fun h => hs2 h.2))
          clear HA HB HN
          go_wp2_with fail
          refine bodyPost_ret (v := .tuple #[.agg #[.int .i64 0, .int .i64 0, .bool false, .slice none 0 0, .slice none 0 0], .int .i64 7]) (by simp [results, Tryd.results11, go_sem, *]) rfl ?_
          rw [HV.out]
          refine retSv_zero _ ?_
          repeat (with_reducible first | refine Below.setCell ?_ (by simp) _ | refine bA ?_ _)
          exact HB8.out
      · have hr2b : (r' == 0) = false := by simpa using hr2
        have HV := hid (HN.out hf.out (fun h => hr2 h.1))
        clear HA HB HN
        go_wp2_with fail
        refine bodyPost_ret (v := .tuple #[.agg #[.int .i64 0, .int .i64 0, .bool false, .slice none 0 0, .slice none 0 0], .int .i64 7]) (by simp [results, Tryd.results11, go_sem, *]) rfl ?_
        rw [HV.out]
        refine retSv_zero _ ?_
        repeat (with_reducible first | refine Below.setCell ?_ (by simp) _ | refine bA ?_ _)
        exact HB8.out
end Go.Proofs.YtphgdpjfolkafaaDoor
