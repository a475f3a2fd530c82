/- The statement on queue.Push. -/
import Derived.Test.YtifpngjipkmdcaaQuPd
import Derived.Test.YtifpngjipkmdcaaLQue
namespace Go.Proofs.Ytifpngjipkmdcaa
open Go.ChangeShapes Go.WideShapes Go.ChangeAt Go.RowKit
set_option linter.unusedVariables false
set_option linter.unusedSimpArgs false
theorem pushV_congr {b : Int} {lo : List Mail} {l m : List (ML Int)} {x : Mail} (h : rowsOf l = rowsOf m) : pushV ⟨b, lo, l⟩ x = pushV ⟨b, lo, m⟩ x := by
  unfold pushV; rw [countV_congr h]; simp only [h]
set_option maxHeartbeats 1000000 in
theorem sameQueue_walk (b : Int) (lo : List Mail) (rs rs' : List (ML Int)) (w : World) (A A' B B' : Option Addr) (n r r' c c' d d' : Nat) (hn : lo.length = n) (hr : rs.length = r) (hr' : rs'.length = r') (hm : rowsOf rs' = rowsOf rs)
    (h1 : Rd w w.heap.size A 2 n (lo.flatMap Mail.cells)) (h2 : Rd w w.heap.size A' 2 n (lo.flatMap Mail.cells)) (g1 : Grid u8c 1 w w.heap.size B rs) (g2 : Grid u8c 1 w w.heap.size B' rs') (hl : n ≤ 140737488355328) (hl2 : r ≤ 140737488355328) :
    Calls Try.prog 32 #[.agg #[.int .i64 b, .slice A n c, .slice B r d], .agg #[.int .i64 b, .slice A' n c', .slice B' r' d']] w fun e w' => e = .returned (.bool true) ∧ Below w.heap.size w w' := by
  have hrr : r' = r := by rw [← hr, ← hr']; exact rows_len hm
  subst hrr
  have b0 : Below w.heap.size w ((w.alloc (.cells #[.int .i64 b, .slice A n c, .slice B r' d] 53)).alloc (.cells #[.int .i64 b, .slice A' n c', .slice B' r' d'] 53)) := bA (bA (Below.refl _ _) _) _
  have HM := hid (fun (V : World) (hV : Below w.heap.size w V) => by
    have h := sameMails_walk lo V A A' c c' (by rw [hn]; exact rdb h1 (by decide) hV) (by rw [hn]; exact rdb h2 (by decide) hV) (by rw [hn]; exact hl)
    rw [hn] at h; exact h)
  have HS := hid (fun (V : World) (hV : Below w.heap.size w V) => sameList_walk rs rs' V B B' r' r' d d' (show lists rs' = lists rs from hm) hr.symm hr.symm (g1.b (by decide) hV) (g2.b (by decide) hV) hl2)
  have B0 := hid b0
  clear h1 h2 g1 g2 hm hn hr hr' b0
  go_enter Try.func32, Try.ntmps32
  go_wp2_with fail
  refine (HM.out _ B0.out).mono ?_
  rintro e w1 ⟨rfl, b1⟩
  have HB1 := hid (bT B0.out b1)
  have q2 : w1.cell? ⟨w.heap.size, 2, none⟩ = some (.slice B r' d) := keepb b1 (by go_simp)
  have p2 : w1.cell? ⟨w.heap.size + 1, 2, none⟩ = some (.slice B' r' d') := keepb b1 (by go_simp)
  clear b1
  go_wp2_with fail
  refine (HS.out _ HB1.out).mono ?_
  rintro e w2 ⟨rfl, b2⟩
  go_wp2_with fail
  go_ret
  exact ⟨by simp, bT HB1.out b2⟩
theorem pushV_size (q : Queue) (m : Mail) : (pushV q m).1.2.1.length ≤ q.loose.length + 1 ∧ (pushV q m).1.2.2.length ≤ q.runs.length + 1 := by
  unfold pushV
  split
  · exact ⟨Nat.zero_le _, Nat.zero_le _⟩
  · split
    · exact ⟨Nat.zero_le _, Nat.zero_le _⟩
    · split
      · exact ⟨Nat.zero_le _, Nat.zero_le _⟩
      · split
        · exact ⟨Nat.zero_le _, by simp [rowsOf]⟩
        · exact ⟨by simp, by simp [rowsOf]⟩
set_option maxRecDepth 100000 in
set_option maxHeartbeats 400000 in
theorem law_QueuePushes (w : World) (q : Queue) (A : Option Addr) (c : Nat) (B : Option Addr) (d : Nat) (hb : I64 q.budget) (hf : Flat w w.heap.size 16 2 Mail.cells A c q.loose) (hw : ∀ x ∈ q.loose, x.wf) (hf1 : Flat w w.heap.size 24 1 ML.cells B d q.runs) (hw1 : ∀ x ∈ q.runs, x.wf u8c 1 1 Byte w) (m : Mail) (hm : m.wf) :
    Calls Try.prog 8 #[.agg #[.int .i64 q.budget, .slice A q.loose.length c, .slice B q.runs.length d], .agg #[.int .i64 m.to, .int .i64 m.val]] w fun e w' => e = .returned (.bool true) ∧ Below w.heap.size w w' := by
  obtain ⟨hl, hg, hll, hrl, hx⟩ := que_in hf hf1 hw1
  clear hf hw hf1 hw1 hb hm
  have b0 : Below w.heap.size w ((w.alloc (.cells #[.int .i64 q.budget, .slice A q.loose.length c, .slice B q.runs.length d] 53)).alloc (.cells #[.int .i64 m.to, .int .i64 m.val] 62)) := bA (bA (Below.refl _ _) _) _
  have C1 := hid (queues_copy q _ A B c d (rdb hl (by decide) b0) (hg.b (by decide) b0) hll hrl (fun x h => (hx x h).2.2))
  have C3 := hid (fun (V : World) (hV : Below w.heap.size w V) => pushed_walk q m V A B c d (rdb hl (by decide) hV) (hg.b (by decide) hV) (by omega) (by omega) hx)
  obtain ⟨hs1, hs2⟩ := pushV_size q m
  obtain ⟨bu, lo, rs⟩ := q
  obtain ⟨mt, mv⟩ := m
  simp only at *
  have C2 := hid (fun (V : World) A' B' k k' (cs : List (ML Int)) (hr : rowsOf cs = rowsOf rs) (hc : ∀ x ∈ cs, x.l.length ≤ x.c) h1 h2 => push_walkQ ⟨bu, lo, cs⟩ ⟨mt, mv⟩ V A' B' k k' h1 h2 (by show lo.length ≤ _; omega) (by show cs.length ≤ _; rw [rows_len hr]; omega) (runsOk_copy hx hr hc))
  have HCV := hid (fun (cs : List (ML Int)) (hr : rowsOf cs = rowsOf rs) => pushV_congr (b := bu) (lo := lo) (x := ⟨mt, mv⟩) hr)
  have HL := hid hl
  have HG := hid hg
  generalize hPV : pushV ⟨bu, lo, rs⟩ ⟨mt, mv⟩ = PV at *
  obtain ⟨⟨b', lo', rows'⟩, err⟩ := PV
  simp only at hs1 hs2
  unfold RetPu at C3
  simp only at C3
  clear hPV hx hg hl
  have B0 := hid b0
  go_enter Try.func8, Try.ntmps8
  go_wp2_with fail
  refine C1.out.mono ?_
  rintro e w1 ⟨A1, k1, B1, d1, cs, rfl, hml, hmr, hr1, hg1, hc1, b1⟩
  have hml2 : cs.length = rs.length := hml
  have HML := hid hml2
  have HMR := hid hmr
  have bc := bA (Below.refl w1.heap.size w1) (.cells #[.int .i64 bu, .slice A1 lo.length k1, .slice B1 rs.length d1] 53)
  have C2b := C2.out _ A1 B1 k1 d1 cs hmr hc1 (rdb hr1 (by decide) bc) (hg1.b (by decide) bc)
  rw [HCV.out cs hmr] at C2b
  simp only [hml2] at C2b
  unfold RetPu at C2b
  simp only at C2b
  have HR1 := hid hr1
  have HG1 := hid hg1
  have HB1 := hid (bT b0 b1)
  have HC2 := hid C2b
  have q0 : w1.cell? ⟨w.heap.size, 0, none⟩ = some (.int .i64 bu) := keepb b1 (by go_simp)
  have q1 : w1.cell? ⟨w.heap.size, 1, none⟩ = some (.slice A lo.length c) := keepb b1 (by go_simp)
  have q2 : w1.cell? ⟨w.heap.size, 2, none⟩ = some (.slice B rs.length d) := keepb b1 (by go_simp)
  have p0 : w1.cell? ⟨w.heap.size + 1, 0, none⟩ = some (.int .i64 mt) := keepb b1 (by go_simp)
  have p1 : w1.cell? ⟨w.heap.size + 1, 1, none⟩ = some (.int .i64 mv) := keepb b1 (by go_simp)
  have hy1 : w.heap.size + 1 < w1.heap.size := World.block_lt_of_cell? w1 _ p0
  have hy0 : w.heap.size < w1.heap.size := by omega
  clear hml hml2 hmr hr1 hg1 hc1 b1 C2 C2b bc b0
  obtain ⟨wa, hwa⟩ : ∃ x, x = w1.alloc (.cells #[.int .i64 bu, .slice A1 lo.length k1, .slice B1 rs.length d1] 53) := ⟨_, rfl⟩
  have BA := hid (show Below w1.heap.size w1 wa from by rw [hwa]; exact bA (Below.refl _ _) _)
  have r0 : wa.cell? ⟨w1.heap.size, 0, none⟩ = some (.int .i64 bu) := by rw [hwa]; go_simp
  have r1 : wa.cell? ⟨w1.heap.size, 1, none⟩ = some (.slice A1 lo.length k1) := by rw [hwa]; go_simp
  have r2 : wa.cell? ⟨w1.heap.size, 2, none⟩ = some (.slice B1 rs.length d1) := by rw [hwa]; go_simp
  rw [← hwa] at HC2
  go_wp2_with fail
  rw [← hwa]
  clear hwa
  have q0 := keepb BA.out q0
  have q1 := keepb BA.out q1
  have q2 := keepb BA.out q2
  have p0 := keepb BA.out p0
  have p1 := keepb BA.out p1
  refine HC2.out.mono ?_
  rintro e w2 ⟨A2, k2, B2, d2, rs2, rfl, hrr2, hr2, hg2, b2⟩
  have HRR2 := hid hrr2
  have HR2 := hid hr2
  have HG2 := hid hg2
  have HB2 := hid b2
  have r0 := keepb b2 r0
  have r1 := keepb b2 r1
  have r2 := keepb b2 r2
  have q0 := keepb b2 q0
  have q1 := keepb b2 q1
  have q2 := keepb b2 q2
  have p0 := keepb b2 p0
  have p1 := keepb b2 p1
  have hy2 : w1.heap.size < w2.heap.size := World.block_lt_of_cell? w2 _ r0
  have hy3 : w.heap.size < w2.heap.size := by omega
  have hy4 : w.heap.size + 1 < w2.heap.size := by omega
  clear hrr2 hr2 hg2 b2 HC2
  obtain ⟨wd, hwd⟩ : ∃ x, x = w2.alloc (.cells #[.int .i64 b', .slice A2 lo'.length k2, .slice B2 rs2.length d2] 53) := ⟨_, rfl⟩
  have BD := hid (show Below w2.heap.size w2 wd from by rw [hwd]; exact bA (Below.refl _ _) _)
  have s0 : wd.cell? ⟨w2.heap.size, 0, none⟩ = some (.int .i64 b') := by rw [hwd]; go_simp
  have s1 : wd.cell? ⟨w2.heap.size, 1, none⟩ = some (.slice A2 lo'.length k2) := by rw [hwd]; go_simp
  have s2 : wd.cell? ⟨w2.heap.size, 2, none⟩ = some (.slice B2 rs2.length d2) := by rw [hwd]; go_simp
  have HBD := hid (bT (bT (bT HB1.out BA.out) HB2.out) BD.out)
  go_wp2_with fail
  rw [← hwd]
  clear hwd
  have r0 := keepb BD.out r0
  have r1 := keepb BD.out r1
  have r2 := keepb BD.out r2
  have q0 := keepb BD.out q0
  have q1 := keepb BD.out q1
  have q2 := keepb BD.out q2
  have p0 := keepb BD.out p0
  have p1 := keepb BD.out p1
  refine (C3.out wd HBD.out).mono ?_
  rintro e w3 ⟨A3, k3, B3, d3, rs3, rfl, hrr3, hr3, hg3, b3⟩
  have HRR3 := hid hrr3
  have HR3 := hid hr3
  have HG3 := hid hg3
  have HB3 := hid b3
  have s0 := keepb b3 s0
  have s1 := keepb b3 s1
  have s2 := keepb b3 s2
  have r0 := keepb b3 r0
  have r1 := keepb b3 r1
  have r2 := keepb b3 r2
  have q0 := keepb b3 q0
  have q1 := keepb b3 q1
  have q2 := keepb b3 q2
  have hy5 : w2.heap.size < w3.heap.size := World.block_lt_of_cell? w3 _ s0
  have hy6 : w.heap.size < w3.heap.size := by omega
  have hy7 : w1.heap.size < w3.heap.size := by omega
  clear hrr3 hr3 hg3 b3 p0 p1
  obtain ⟨we, hwe⟩ : ∃ x, x = w3.alloc (.cells #[.int .i64 b', .slice A3 lo'.length k3, .slice B3 rs3.length d3] 53) := ⟨_, rfl⟩
  have BE := hid (show Below w3.heap.size w3 we from by rw [hwe]; exact bA (Below.refl _ _) _)
  have HB2E := hid (bT (bT BD.out HB3.out) BE.out)
  have HL2 := hid (show rs2.length ≤ 140737488355328 from by
    have := congrArg List.length HRR2.out
    simp [rowsOf] at this; omega)
  have HSA := hid (sameQueue_walk b' lo' rs2 rs3 we A2 A3 B2 B3 lo'.length rs2.length rs3.length k2 k3 d2 d3 rfl rfl rfl (HRR3.out.trans HRR2.out.symm) (rdb HR2.out (by decide) HB2E.out) (rdb HR3.out (by decide) BE.out) (HG2.out.b (by decide) HB2E.out) (HG3.out.b (by decide) BE.out) (by omega) HL2.out)
  go_wp2_with fail
  rw [← hwe]
  clear hwe
  have r0 := keepb BE.out r0
  have r1 := keepb BE.out r1
  have r2 := keepb BE.out r2
  have q0 := keepb BE.out q0
  have q1 := keepb BE.out q1
  have q2 := keepb BE.out q2
  refine HSA.out.mono ?_
  rintro e w4 ⟨rfl, b4⟩
  have r0 := keepb b4 r0
  have r1 := keepb b4 r1
  have r2 := keepb b4 r2
  have q0 := keepb b4 q0
  have q1 := keepb b4 q1
  have q2 := keepb b4 q2
  have HB14 := hid (bT (bT (bT BA.out HB2.out) HB2E.out) b4)
  have HB04 := hid (bT HB1.out HB14.out)
  have HSB := hid (sameQueue_walk bu lo cs rs w4 A1 A B1 B lo.length rs.length rs.length k1 c d1 d rfl HML.out rfl HMR.out.symm (rdb HR1.out (by decide) HB14.out) (rdb HL.out (by decide) HB04.out) (HG1.out.b (by decide) HB14.out) (HG.out.b (by decide) HB04.out) (by omega) (by omega))
  clear b4
  go_wp2_with fail
  refine HSB.out.mono ?_
  rintro e w5 ⟨rfl, b5⟩
  go_wp2_with fail
  go_ret
  exact ⟨by simp, bT HB04.out b5⟩
end Go.Proofs.Ytifpngjipkmdcaa
