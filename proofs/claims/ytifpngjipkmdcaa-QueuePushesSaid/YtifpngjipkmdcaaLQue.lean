/- The statement on queue.Count. -/
import Derived.Test.YtifpngjipkmdcaaQueY
import Derived.Test.YtifpngjipkmdcaaQueE
namespace Go.Proofs.Ytifpngjipkmdcaa
open Go.ChangeShapes Go.WideShapes Go.ChangeAt Go.RowKit
set_option linter.unusedVariables false
set_option linter.unusedSimpArgs false
theorem manyGo_congr : ∀ (l m : List (ML Int)) (n : Nat), rowsOf l = rowsOf m → manyGo l n = manyGo m n
  | [], [], _, _ => rfl
  | [], _ :: _, _, h => by cases h
  | _ :: _, [], _, h => by cases h
  | x :: l, y :: m, n, h => by
    unfold rowsOf at h
    rw [List.map_cons, List.map_cons] at h
    injection h with h1 h2
    rw [manyGo, manyGo, h1]
    split
    · rfl
    · exact manyGo_congr l m _ h2
theorem countV_congr {b : Int} {lo : List Mail} {l m : List (ML Int)} (h : rowsOf l = rowsOf m) : countV ⟨b, lo, l⟩ = countV ⟨b, lo, m⟩ := by
  have e := rows_len h
  by_cases h1 : queBad ⟨b, lo, l⟩
  · rw [countV_bad h1, countV_bad (by unfold queBad at *; simp only at *; rw [← e]; exact h1)]
  · have h2 : ¬ queBad ⟨b, lo, m⟩ := by unfold queBad at *; simp only at *; rw [← e]; exact h1
    cases h3 : okMl lo with
    | false => rw [countV_mail h1 h3, countV_mail h2 h3]
    | true => rw [countV_ok h1 h3, countV_ok h2 h3]; exact manyGo_congr _ _ _ h
/-- What a queue that came in has. -/
theorem que_in {w : World} {q : Queue} {A B : Option Addr} {c d : Nat} (hf : Flat w w.heap.size 16 2 Mail.cells A c q.loose) (hf1 : Flat w w.heap.size 24 1 ML.cells B d q.runs) (hw : ∀ x ∈ q.runs, x.wf u8c 1 1 Byte w) :
    Rd w w.heap.size A 2 q.loose.length (q.loose.flatMap Mail.cells) ∧ Grid u8c 1 w w.heap.size B q.runs ∧ q.loose.length * 16 ≤ 140737488355328 ∧ q.runs.length * 24 ≤ 140737488355328 ∧ RunsOk q := by
  refine ⟨hf.2.2.2, grid_of hf1 hw, ?_, ?_, fun x hx => ?_⟩
  · have := hf.1; have := hf.2.1; omega
  · have := hf1.1; have := hf1.2.1; omega
  · obtain ⟨_, h1, h2, h3⟩ := hw x hx
    exact ⟨fun n hn => h3 n hn, h1, by omega⟩
theorem runsOk_copy {b : Int} {lo : List Mail} {l m : List (ML Int)} (h : RunsOk ⟨b, lo, l⟩) (hr : rowsOf m = rowsOf l) (hc : ∀ x ∈ m, x.l.length ≤ x.c) : RunsOk ⟨b, lo, m⟩ := fun x hx => by
  obtain ⟨i, hi⟩ := List.mem_iff_getElem?.1 hx
  obtain ⟨y, hy, he⟩ := rows_at hr.symm hi
  obtain ⟨h1, h2, h3⟩ := h y (List.mem_of_getElem? hy)
  rw [he] at h1 h3
  exact ⟨h1, hc x hx, h3⟩
set_option maxRecDepth 100000 in
set_option maxHeartbeats 400000 in
theorem law_QueueCounts (w : World) (q : Queue) (A : Option Addr) (c : Nat) (B : Option Addr) (d : Nat) (hb : I64 q.budget) (hf : Flat w w.heap.size 16 2 Mail.cells A c q.loose) (hw : ∀ x ∈ q.loose, x.wf) (hf1 : Flat w w.heap.size 24 1 ML.cells B d q.runs) (hw1 : ∀ x ∈ q.runs, x.wf u8c 1 1 Byte w) :
    Calls Try.prog 6 #[.agg #[.int .i64 q.budget, .slice A q.loose.length c, .slice B q.runs.length d]] w fun e w' => e = .returned (.bool true) ∧ Below w.heap.size w w' := by
  obtain ⟨hl, hg, hll, hrl, hx⟩ := que_in hf hf1 hw1
  clear hf hw hf1 hw1 hb
  have b0 : Below w.heap.size w (w.alloc (.cells #[.int .i64 q.budget, .slice A q.loose.length c, .slice B q.runs.length d] 53)) := bA (Below.refl _ _) _
  have C1 := hid (queues_copy q _ A B c d (rdb hl (by decide) b0) (hg.b (by decide) b0) hll hrl (fun x h => (hx x h).2.2))
  have C3 := hid (fun (V : World) (hV : Below w.heap.size w V) => queueCount_walk q V A B c d (rdb hl (by decide) hV) (hg.b (by decide) hV) (by omega) (by omega) hx)
  obtain ⟨bu, lo, rs⟩ := q
  simp only at *
  have C2 := hid (fun (V : World) A' B' k k' (m : List (ML Int)) (hr : rowsOf m = rowsOf rs) (hc : ∀ x ∈ m, x.l.length ≤ x.c) h1 h2 => count_walk ⟨bu, lo, m⟩ V A' B' k k' h1 h2 (by show lo.length ≤ _; omega) (by show m.length ≤ _; rw [rows_len hr]; omega) (runsOk_copy hx hr hc))
  have HCV := hid (fun (m : List (ML Int)) (hr : rowsOf m = rowsOf rs) => countV_congr (b := bu) (lo := lo) hr)
  generalize hR : countV ⟨bu, lo, rs⟩ = R at *
  clear hR hx hg hl
  go_enter Try.func6, Try.ntmps6
  go_wp2_with fail
  refine C1.out.mono ?_
  rintro e w1 ⟨A1, k1, B1, d1, m, rfl, hml, hmr, hr1, hg1, hc1, b1⟩
  have HB1 := hid (bT b0 b1)
  have HBW := hid b1
  have C2b := C2.out w1 A1 B1 k1 d1 m hmr hc1 hr1 hg1
  rw [HCV.out m hmr] at C2b
  have hml2 : m.length = rs.length := hml
  simp only [hml2] at C2b
  have HR1 := hid hr1
  have HG1 := hid hg1
  clear hml hml2 hmr hr1 hg1 hc1 b1 C2
  have hcs : ∃ v err : Int, (R = none → v = 0 ∧ err = 9) ∧ (∀ k, R = some k → v = (k : Nat) ∧ err = 0) := by
    cases R with
    | none => exact ⟨0, 9, fun _ => ⟨rfl, rfl⟩, fun k h => by cases h⟩
    | some k => exact ⟨(k : Nat), 0, fun h => (by cases h), fun j h => by injection h with h; exact ⟨by rw [h], rfl⟩⟩
  obtain ⟨v, err, hv⟩ := hcs
  have HU : Hid (∀ v' err' : Int, (R = none → v' = 0 ∧ err' = 9) → (∀ k, R = some k → v' = (k : Nat) ∧ err' = 0) → v' = v ∧ err' = err) := hid fun v' err' h1 h2 => by
    cases R with
    | none => obtain ⟨a1, a2⟩ := h1 rfl; obtain ⟨b1, b2⟩ := hv.1 rfl; exact ⟨by rw [a1, b1], by rw [a2, b2]⟩
    | some k => obtain ⟨a1, a2⟩ := h2 k rfl; obtain ⟨b1, b2⟩ := hv.2 k rfl; exact ⟨by rw [a1, b1], by rw [a2, b2]⟩
  clear hv
  go_wp2_with fail
  refine C2b.mono ?_
  rintro e w2 ⟨⟨v1, e1, rfl, h1, h2⟩, b2⟩
  have HV1 := hid (HU.out v1 e1 h1 h2)
  have HB2 := hid (bT HB1.out b2)
  have g0 : w2.cell? ⟨w.heap.size, 0, none⟩ = some (.int .i64 bu) := keepb (bT HBW.out b2) (by go_simp)
  have g1 : w2.cell? ⟨w.heap.size, 1, none⟩ = some (.slice A lo.length c) := keepb (bT HBW.out b2) (by go_simp)
  have g2 : w2.cell? ⟨w.heap.size, 2, none⟩ = some (.slice B rs.length d) := keepb (bT HBW.out b2) (by go_simp)
  clear h1 h2 b2
  go_wp2_with fail
  refine (C3.out w2 HB2.out).mono ?_
  rintro e w3 ⟨⟨v2, e2, rfl, h1, h2⟩, b3⟩
  have HV2 := hid (HU.out v2 e2 h1 h2)
  have hvv : (v1 == v2) = true := by rw [HV1.out.1, HV2.out.1]; exact beq_self_eq_true v
  have hee : (e1 == e2) = true := by rw [HV1.out.2, HV2.out.2]; exact beq_self_eq_true err
  clear h1 h2
  go_wp2_with fail
  go_ret
  exact ⟨by simp, bT HB2.out b3⟩
end Go.Proofs.Ytifpngjipkmdcaa
