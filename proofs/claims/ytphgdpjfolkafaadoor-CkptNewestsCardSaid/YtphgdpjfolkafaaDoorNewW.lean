/- ckpt.Newest: the plain answer, the walk. -/
import Derived.Test.YtphgdpjfolkafaaDoorLoadA
namespace Go.Proofs.YtphgdpjfolkafaaDoor
open Go.ChangeShapes Go.WideShapes Go.ChangeAt Go.RowKit
set_option linter.unusedVariables false
set_option linter.unusedSimpArgs false
def stepN (b : Option Saved) (s : Saved) (r most : Int) : Option Saved :=
  if r = 0 ∧ s.step ≤ most ∧ (∀ x ∈ b, x.step < s.step) then some s else b
noncomputable def bestN (fs : List File) (most : Int) : Nat → Option Saved
  | 0 => none
  | k + 1 => stepN (bestN fs most k) (loadV fs k).1 (loadV fs k).2 most
noncomputable def newV (fs : List File) (most : Int) : Saved × Int :=
  if okF fs = false then (svZero, 9) else match bestN fs most 2 with | some s => (s, 0) | none => (svZero, 7)
theorem stepN_no {b : Option Saved} {s : Saved} {r most : Int} (h : ¬ (r = 0 ∧ s.step ≤ most ∧ (∀ x ∈ b, x.step < s.step))) : stepN b s r most = b := if_neg h
theorem stepN_yes {b : Option Saved} {s : Saved} {r most : Int} (h : r = 0 ∧ s.step ≤ most ∧ (∀ x ∈ b, x.step < s.step)) : stepN b s r most = some s := if_pos h
theorem loadV_bad9 {fs : List File} (h : okF fs = false) {n : Int} (hn : ¬ (n < 0 ∨ 1 < n)) : loadV fs n = (svZero, 9) := by
  have h9 : readF fs (slotB n) = ([], 9) := by unfold readF; rw [if_pos h]
  rw [loadV_bad fs hn (by rw [h9]; decide), h9]
theorem decV_err9 {b : List Int} (hb : ∀ x ∈ b, 0 ≤ x ∧ x ≤ 255) : (decV b).2 ≠ 9 := by
  have h := unwV_len b hb
  unfold decV
  split
  · show (unwV b).2.2 ≠ 9
    have := h.2.2.2.2.1
    omega
  · split
    · exact (by decide : (0 : Int) ≠ 9)
    · exact (by decide : (3 : Int) ≠ 9)
theorem loadV_not9 {fs : List File} (h : ¬ okF fs = false) (hy : ByF fs) {n : Int} (hn : ¬ (n < 0 ∨ 1 < n)) : (loadV fs n).2 ≠ 9 := by
  by_cases he : (readF fs (slotB n)).2 ≠ 0
  · rw [loadV_bad fs hn he]
    show (readF fs (slotB n)).2 ≠ 9
    unfold readF
    rw [if_neg h]
    split
    · exact (by decide : (7 : Int) ≠ 9)
    · exact (by decide : (0 : Int) ≠ 9)
  · rw [loadV_ok fs hn he]
    exact decV_err9 (readF_byte hy _)
theorem DS.b {w1 : World} {p s : Nat} {x : Saved} {A : Option Addr} {c : Nat} {B : Option Addr} {d : Nat} {wr w' : World} (h : DS w1 p s x A c B d wr) (hb : Below wr.heap.size wr w') (hp : p ≤ wr.heap.size) : DS w1 p s x A c B d w' :=
  ⟨keepb hb h.c0, keepb hb h.c1, keepb hb h.c2, keepb hb h.c3, keepb hb h.c4, fun o => (hb.frozen (p := ⟨s, o, none⟩) h.sz).trans (h.fz o), Nat.lt_of_lt_of_le h.sz hb.size, h.bl.trans (hb.mono hp)⟩
def NR (fs : List File) (most : Int) (wx : World) (g : Nat) (f i : Value) (wr : World) : Prop :=
  ∃ (k : Nat) (x : Saved) (A : Option Addr) (c : Nat) (B : Option Addr) (d : Nat), k ≤ 2 ∧ i = .int .i64 (k : Nat) ∧ f = .bool (bestN fs most k).isSome ∧ Hid (x = (bestN fs most k).getD svZero) ∧ DS wx g g x A c B d wr ∧ Hid (wr.ownsRow (g + 1) 61 2 (.slice A x.vals.length c) x.vals.length (x.vals.flatMap Val.cells)) ∧ Hid (wr.ownsRow (g + 1) 63 2 (.slice B x.mail.length d) x.mail.length (x.mail.flatMap Mail.cells))
set_option maxRecDepth 100000 in
set_option maxHeartbeats 8000000 in
theorem newest_walk (l : List MFile) (most : Int) (w : World) (A : Option Addr) (c : Nat) (hr : Files w w.heap.size A l) (hn : l.length * 48 ≤ 140737488355328) (hm : Okm l) (hy : ByF (files l)) :
    Calls Tryd.prog 10 #[.agg #[.slice A l.length c], .int .i64 most] w (RetSv w (newV (files l) most).1 (newV (files l) most).2) := by
  obtain ⟨wx, hwx⟩ : ∃ wx, wx = ((w.alloc (.cells #[.slice A l.length c] 24)).alloc (.cells #[.int .i64 0, .int .i64 0, .bool false, .slice none 0 0, .slice none 0 0] 29)).alloc (.cells #[.int .i64 0, .int .i64 0, .bool false, .slice none 0 0, .slice none 0 0] 29) := ⟨_, rfl⟩
  have HBX : Hid (Below w.heap.size w wx) := hid (by rw [hwx]; exact bA (bA (bA (Below.refl _ _) _) _) _)
  have hzx : wx.heap.size = w.heap.size + 3 := by rw [hwx]; simp
  have j0 : wx.cell? ⟨w.heap.size, 0, none⟩ = some (.slice A l.length c) := by rw [hwx]; go_simp
  have z0 : wx.cell? ⟨w.heap.size + 1, 0, none⟩ = some (.int .i64 0) := by rw [hwx]; go_simp
  have z1 : wx.cell? ⟨w.heap.size + 1, 1, none⟩ = some (.int .i64 0) := by rw [hwx]; go_simp
  have z2 : wx.cell? ⟨w.heap.size + 1, 2, none⟩ = some (.bool false) := by rw [hwx]; go_simp
  have z3 : wx.cell? ⟨w.heap.size + 1, 3, none⟩ = some (.slice none 0 0) := by rw [hwx]; go_simp
  have z4 : wx.cell? ⟨w.heap.size + 1, 4, none⟩ = some (.slice none 0 0) := by rw [hwx]; go_simp
  have zf : ∀ o, wx.frozen? ⟨w.heap.size + 1, o, none⟩ = false := fun o => by rw [hwx]; go_simp
  have y0 : wx.cell? ⟨w.heap.size + 2, 0, none⟩ = some (.int .i64 0) := by rw [hwx]; go_simp
  have y1 : wx.cell? ⟨w.heap.size + 2, 1, none⟩ = some (.int .i64 0) := by rw [hwx]; go_simp
  have y2 : wx.cell? ⟨w.heap.size + 2, 2, none⟩ = some (.bool false) := by rw [hwx]; go_simp
  have y3 : wx.cell? ⟨w.heap.size + 2, 3, none⟩ = some (.slice none 0 0) := by rw [hwx]; go_simp
  have y4 : wx.cell? ⟨w.heap.size + 2, 4, none⟩ = some (.slice none 0 0) := by rw [hwx]; go_simp
  have yf : ∀ o, wx.frozen? ⟨w.heap.size + 2, o, none⟩ = false := fun o => by rw [hwx]; go_simp
  have HWX := hid hwx
  clear hwx
  have HLD := hid (fun (k : Int) W (hB : Below (w.heap.size) w W) => load_walk l k W A c (Files.b hr hB) hn hm hy)
  by_cases hok : okF (files l) = false
  · have HL9 := hid (loadV_bad9 hok (n := 0) (by decide))
    have HNV : Hid (newV (files l) most = (svZero, 9)) := hid (by unfold newV; rw [if_pos hok])
    rw [HNV.out]
    clear y0 y1 y2 y3 y4 yf hok HNV
    go_enter Tryd.func10, Tryd.ntmps10
    go_wp2_with fail
    rw [← HWX.out]
    clear HWX
    go_loopw [7, 11] (fun f i wr => f = .bool false ∧ i = .int .i64 (0 : Nat) ∧ wr = wx) (fun _ _ _ => 0)
    case atStart => exact ⟨rfl, rfl, rfl⟩
    case round =>
      obtain ⟨rfl, rfl, rfl⟩ := hrel
      have HL0 := hid (HLD.out 0 wr HBX.out)
      rw [HL9.out] at HL0
      unfold RetSv svC svZero at HL0
      simp only [List.length_nil, List.flatMap_nil] at HL0
      go_wp2_with fail
      refine HL0.out.mono ?_
      rintro e w7 ⟨A7, c7, B7, d7, rfl, o7, m7, b7⟩
      have z0 := keepb b7 z0
      have z1 := keepb b7 z1
      have z2 := keepb b7 z2
      have z3 := keepb b7 z3
      have z4 := keepb b7 z4
      have zf : ∀ o, w7.frozen? ⟨w.heap.size + 1, o, none⟩ = false := fun o => (b7.frozen (p := ⟨w.heap.size + 1, o, none⟩) (by show w.heap.size + 1 < wr.heap.size; omega)).trans (zf o)
      have zf0 := zf 0
      have zf1 := zf 1
      have zf2 := zf 2
      have zf3 := zf 3
      have zf4 := zf 4
      have HB7 := hid (bT HBX.out b7)
      have hz7 : w.heap.size + 1 < w7.heap.size := by have := b7.size; omega
      clear b7 o7 m7
      go_wp2_with fail
      refine bodyPost_ret (v := .tuple #[.agg #[.int .i64 0, .int .i64 0, .bool false, .slice none 0 0, .slice none 0 0], .int .i64 9]) (by simp [results, Tryd.results10, go_sem, *]) rfl (retSv_zero _ ?_)
      repeat (with_reducible first | refine Below.setCell ?_ (by simp) _ | refine bA ?_ _)
      exact HB7.out
  · have HN9 := hid (fun (k : Int) (hk : ¬ (k < 0 ∨ 1 < k)) => loadV_not9 hok hy hk)
    have HNV : Hid (newV (files l) most = match bestN (files l) most 2 with | some s => (s, 0) | none => (svZero, 7)) := hid (by unfold newV; rw [if_neg hok])
    clear hok
    have D0 : DS wx (w.heap.size + 2) (w.heap.size + 2) svZero none 0 none 0 wx := ⟨y0, y1, y2, y3, y4, yf, by rw [hzx]; omega, Below.refl _ _⟩
    have HD0 := hid D0
    have HZX := hid hzx
    have hzw : w.heap.size + 2 < wx.heap.size := by omega
    clear y0 y1 y2 y3 y4 yf D0 hzx
    go_enter Tryd.func10, Tryd.ntmps10
    go_wp2_with fail
    rw [← HWX.out]
    clear HWX
    go_loopw [7, 11] (fun f i wr => NR (files l) most wx (w.heap.size + 2) f i wr) (fun _ i _ => 2 - (intOf i).toNat)
    case atStart => exact ⟨0, svZero, none, 0, none, 0, by omega, rfl, rfl, hid rfl, HD0.out, hid (World.ownsRow_nil _ _ _ _), hid (World.ownsRow_nil _ _ _ _)⟩
    case round =>
      clear HD0
      obtain ⟨k, x, Ab, cb, Bb, db, hk, rfl, rfl, HX, hD, HOV, HOM⟩ := hrel
      have hbl := hD.bl
      have hsz := hD.sz
      have HBR := hid (HBX.out.trans (hbl.mono (by omega)))
      replace j0 := (hbl.cell (p := ⟨w.heap.size, 0, none⟩) (by show w.heap.size < w.heap.size + 2; omega)).trans j0
      by_cases hlt : k < 2
      · have hkz : (k : Int) < 2 := by omega
        have HL0 := hid (HLD.out (k : Int) wr HBR.out)
        have hr9 := HN9.out (k : Int) (by omega)
        have HST : Hid (bestN (files l) most (k + 1) = stepN (bestN (files l) most k) (loadV (files l) (k : Int)).1 (loadV (files l) (k : Int)).2 most) := hid rfl
        generalize loadV (files l) (k : Int) = z at HL0 hr9 HST
        obtain ⟨⟨st, ph, fr, vs, ms⟩, r⟩ := z
        unfold RetSv svC at HL0
        simp only at HL0 hr9 HST
        clear z0 z1 z2 z3 z4 zf hbl
        have hr9b : (r == 9) = false := by simpa using hr9
        obtain ⟨bb, hbb⟩ : ∃ b, bestN (files l) most k = b := ⟨_, rfl⟩
        rw [hbb] at HX HST ⊢
        clear hbb hr9
        have HD := hid hD
        clear hD
        go_wp2_with fail
        refine HL0.out.mono ?_
        rintro e w7 ⟨A7, c7, B7, d7, rfl, o7, m7, b7⟩
        have HD7 := hid (HD.out.b b7 (Nat.le_of_lt hsz))
        have hz7 := b7.size
        have HO7 := hid o7
        have HM7 := hid m7
        have HOV7 := hid (own_below HOV.out b7 (Nat.le_refl _))
        have HOM7 := hid (own_below HOM.out b7 (Nat.le_refl _))
        clear o7 m7 b7 HL0 HLD HN9 HOV HOM HD
        have e0 := HD7.out.c0
        have e1 := HD7.out.c1
        have e2 := HD7.out.c2
        have e3 := HD7.out.c3
        have e4 := HD7.out.c4
        have ef := HD7.out.fz
        have ef0 := ef 0
        have ef1 := ef 1
        have ef2 := ef 2
        have ef3 := ef 3
        have ef4 := ef 4
        have hs7 : w.heap.size + 2 < w7.heap.size := Nat.lt_of_lt_of_le hsz hz7
        clear j0
        by_cases hr : r = 0
        · subst hr
          by_cases hs : st ≤ most
          · cases bb with
            | none =>
              have HS1 : Hid (bestN (files l) most (k + 1) = some ⟨st, ph, fr, vs, ms⟩) := hid (by rw [HST.out]; exact stepN_yes ⟨rfl, hs, fun y hy => by cases hy⟩)
              go_wp2_with fail
              go_roundw
              case rel =>
                refine ⟨k + 1, ⟨st, ph, fr, vs, ms⟩, A7, c7, B7, d7, by omega, by go_num, by rw [HS1.out]; rfl, hid (by rw [HS1.out]; rfl), ⟨by go_simp, by go_simp, by go_simp, by go_simp, by go_simp, fun o => by have := ef o; go_simp, by simp; omega, ?_⟩, hid ?_, hid ?_⟩
                · repeat (with_reducible first | refine Below.setCell ?_ (by simp) _ | refine Below.alloc ?_ (by simp; omega) _)
                  exact HD7.out.bl
                · refine own_more (base := wr.heap.size) ?_ (by omega)
                  repeat (with_reducible first | refine ownsRow_setCell_below ?_ (by simp; omega) _ | refine own_below ?_ (bA (Below.refl _ _) _) (Nat.le_refl _))
                  exact HO7.out
                · refine own_more (base := wr.heap.size) ?_ (by omega)
                  repeat (with_reducible first | refine ownsRow_setCell_below ?_ (by simp; omega) _ | refine own_below ?_ (bA (Below.refl _ _) _) (Nat.le_refl _))
                  exact HM7.out
              case measure => (simp [intOf]) <;> omega
            | some y =>
              obtain rfl : x = y := HX.out
              by_cases hc : x.step < st
              · have HS1 : Hid (bestN (files l) most (k + 1) = some ⟨st, ph, fr, vs, ms⟩) := hid (by rw [HST.out]; exact stepN_yes ⟨rfl, hs, fun y hy => by injection hy with hy; subst hy; exact hc⟩)
                go_wp2_with fail
                go_roundw
                case rel =>
                  refine ⟨k + 1, ⟨st, ph, fr, vs, ms⟩, A7, c7, B7, d7, by omega, by go_num, by rw [HS1.out]; rfl, hid (by rw [HS1.out]; rfl), ⟨by go_simp, by go_simp, by go_simp, by go_simp, by go_simp, fun o => by have := ef o; go_simp, by simp; omega, ?_⟩, hid ?_, hid ?_⟩
                  · repeat (with_reducible first | refine Below.setCell ?_ (by simp) _ | refine Below.alloc ?_ (by simp; omega) _)
                    exact HD7.out.bl
                  · refine own_more (base := wr.heap.size) ?_ (by omega)
                    repeat (with_reducible first | refine ownsRow_setCell_below ?_ (by simp; omega) _ | refine own_below ?_ (bA (Below.refl _ _) _) (Nat.le_refl _))
                    exact HO7.out
                  · refine own_more (base := wr.heap.size) ?_ (by omega)
                    repeat (with_reducible first | refine ownsRow_setCell_below ?_ (by simp; omega) _ | refine own_below ?_ (bA (Below.refl _ _) _) (Nat.le_refl _))
                    exact HM7.out
                case measure => (simp [intOf]) <;> omega
              · have HS1 : Hid (bestN (files l) most (k + 1) = some x) := hid (by rw [HST.out]; exact stepN_no (fun h => hc (h.2.2 x rfl)))
                go_wp2_with fail
                go_roundw
                case rel =>
                  refine ⟨k + 1, x, Ab, cb, Bb, db, by omega, by go_num, ?_, hid (by rw [HS1.out]; exact HX.out), HD7.out.b (bA (Below.refl _ _) _) (Nat.le_of_lt hs7), hid (own_below HOV7.out (bA (Below.refl _ _) _) (Nat.le_refl _)), hid (own_below HOM7.out (bA (Below.refl _ _) _) (Nat.le_refl _))⟩
                  rw [HS1.out] <;> first | rfl | simp
                case measure => (simp [intOf]) <;> omega
          · have HS1 : Hid (bestN (files l) most (k + 1) = bb) := hid (by rw [HST.out]; exact stepN_no (fun h => hs h.2.1))
            go_wp2_with fail
            go_roundw
            case rel =>
              refine ⟨k + 1, x, Ab, cb, Bb, db, by omega, by go_num, ?_, hid (by rw [HS1.out]; exact HX.out), HD7.out.b (bA (Below.refl _ _) _) (Nat.le_of_lt hs7), hid (own_below HOV7.out (bA (Below.refl _ _) _) (Nat.le_refl _)), hid (own_below HOM7.out (bA (Below.refl _ _) _) (Nat.le_refl _))⟩
              rw [HS1.out] <;> first | rfl | simp
            case measure => (simp [intOf]) <;> omega
        · have hrb : (r == 0) = false := by simpa using hr
          have HS1 : Hid (bestN (files l) most (k + 1) = bb) := hid (by rw [HST.out]; exact stepN_no (fun h => hr h.1))
          go_wp2_with fail
          go_roundw
          case rel =>
            refine ⟨k + 1, x, Ab, cb, Bb, db, by omega, by go_num, ?_, hid (by rw [HS1.out]; exact HX.out), HD7.out.b (bA (Below.refl _ _) _) (Nat.le_of_lt hs7), hid (own_below HOV7.out (bA (Below.refl _ _) _) (Nat.le_refl _)), hid (own_below HOM7.out (bA (Below.refl _ _) _) (Nat.le_refl _))⟩
            rw [HS1.out] <;> first | rfl | simp
          case measure => (simp [intOf]) <;> omega
      · obtain rfl : k = 2 := by omega
        obtain ⟨bb, hbb⟩ : ∃ b, bestN (files l) most 2 = b := ⟨_, rfl⟩
        rw [hbb] at HX HNV
        have HBB2 := hid hbb
        rw [hbb]
        have u0 := (hbl.cell (p := ⟨w.heap.size + 1, 0, none⟩) (by show w.heap.size + 1 < w.heap.size + 2; omega)).trans z0
        have u1 := (hbl.cell (p := ⟨w.heap.size + 1, 1, none⟩) (by show w.heap.size + 1 < w.heap.size + 2; omega)).trans z1
        have u2 := (hbl.cell (p := ⟨w.heap.size + 1, 2, none⟩) (by show w.heap.size + 1 < w.heap.size + 2; omega)).trans z2
        have u3 := (hbl.cell (p := ⟨w.heap.size + 1, 3, none⟩) (by show w.heap.size + 1 < w.heap.size + 2; omega)).trans z3
        have u4 := (hbl.cell (p := ⟨w.heap.size + 1, 4, none⟩) (by show w.heap.size + 1 < w.heap.size + 2; omega)).trans z4
        have uf : ∀ o, wr.frozen? ⟨w.heap.size + 1, o, none⟩ = false := fun o => (hbl.frozen (p := ⟨w.heap.size + 1, o, none⟩) (by show w.heap.size + 1 < w.heap.size + 2; omega)).trans (zf o)
        have uf0 := uf 0
        have uf1 := uf 1
        have uf2 := uf 2
        have uf3 := uf 3
        have uf4 := uf 4
        obtain ⟨d0, d1, d2, d3, d4, _, _, _⟩ := hD
        clear z0 z1 z2 z3 z4 zf hbl HLD HN9 hbb
        cases bb with
        | none =>
          go_wp2_with fail
          refine bodyPost_ret (v := .tuple #[.agg #[.int .i64 0, .int .i64 0, .bool false, .slice none 0 0, .slice none 0 0], .int .i64 7]) (by simp [results, Tryd.results10, go_sem, *]) rfl ?_
          rw [HNV.out]
          refine retSv_zero _ ?_
          repeat (with_reducible refine Below.setCell ?_ (by simp) _)
          exact HBR.out
        | some y =>
          obtain rfl : x = y := HX.out
          obtain ⟨st, ph, fr, vs, ms⟩ := x
          simp only at d0 d1 d2 d3 d4 HOV HOM
          go_wp2_with fail
          refine bodyPost_ret (v := .tuple #[.agg #[.int .i64 st, .int .i64 ph, .bool fr, .slice Ab vs.length cb, .slice Bb ms.length db], .int .i64 0]) (by simp [results, Tryd.results10, go_sem, *]) rfl ?_
          rw [HNV.out]
          refine ⟨Ab, cb, Bb, db, rfl, ?_, ?_, ?_⟩
          · refine own_more (base := w.heap.size + 2 + 1) ?_ (by omega)
            repeat (with_reducible refine ownsRow_setCell_below ?_ (by simp; try omega) _)
            exact HOV.out
          · refine own_more (base := w.heap.size + 2 + 1) ?_ (by omega)
            repeat (with_reducible refine ownsRow_setCell_below ?_ (by simp; try omega) _)
            exact HOM.out
          · repeat (with_reducible refine Below.setCell ?_ (by simp) _)
            exact HBR.out
end Go.Proofs.YtphgdpjfolkafaaDoor
