/- The statement on rounds.Answer. -/
import Derived.Test.YtafnbackjjaelaaAnsA
import Derived.Test.YtafnbackjjaelaaLBegin
namespace Go.Proofs.Ytafnbackjjaelaa
open Go.ChangeShapes Go.WideShapes Go.ChangeAt Go.RowKit
set_option linter.unusedVariables false
theorem manyM_lists : ∀ {m m' : List (ML Int)}, lists m' = lists m → manyM m' = manyM m
  | [], [], _ => rfl
  | [], a :: m', h => by simp [lists] at h
  | a :: m, [], h => by simp [lists] at h
  | a :: m, b :: m', h => by
    simp only [lists, List.map_cons, List.cons.injEq] at h
    simp only [manyM]
    rw [h.1, manyM_lists (m := m) (m' := m') h.2]
theorem stOk_lists {j : Job} {s : State} {m : List (ML Int)} (h : lists m = lists s.mail) (hs : stOk j s) : stOk j { s with mail := m } := by
  obtain ⟨h1, h2, h3, h4, h5, h6, h7, h8, h9⟩ := hs
  have hm := manyM_lists h
  refine ⟨h1, h2, h3, by have := lists_len h; dsimp only; omega, h5, fun i x hx => ?_, h7, by dsimp only; omega, by dsimp only; rw [hm]; exact h9⟩
  obtain ⟨x', hx', he⟩ := lists_get h.symm hx
  rw [← he]
  exact h6 i x' hx'
theorem stB_lists {j : Job} {s : State} {m : List (ML Int)} (h : lists m = lists s.mail) : stB j { s with mail := m } = stB j s := by
  cases hb : stB j s with
  | true => exact stB_yes (stOk_lists h (stB_ok hb))
  | false =>
    refine stB_no fun hc => ?_
    have h2 := stOk_lists (s := { s with mail := m }) (m := s.mail) h.symm hc
    rw [stB_yes (s := s) h2] at hb; cases hb
theorem ansV_lists {j : Job} {s : State} {m : List (ML Int)} (h : lists m = lists s.mail) : ansV j { s with mail := m } = ansV j s := by
  unfold ansV; rw [stB_lists h]
set_option maxRecDepth 100000 in
set_option maxHeartbeats 4000000 in
theorem law_RoundsAnswers (w : World) (j : Job) (A : Option Addr) (c : Nat) (hn : I64 j.graph.n) (hf : Flat w w.heap.size 24 3 Edge.cells A c j.graph.edges) (hw : ∀ x ∈ j.graph.edges, x.wf) (hk : I64 j.kind) (hs : I64 j.source)
    (s : State) (B : Option Addr) (d : Nat) (B' : Option Addr) (d' : Nat) (ws : I64 s.step) (wp : I64 s.phase) (hfv : Flat w w.heap.size 16 2 Val.cells B d s.vals) (hwv : ∀ x ∈ s.vals, x.wf) (hfm : Flat w w.heap.size 24 1 ML.cells B' d' s.mail) (hwm : ∀ x ∈ s.mail, x.wf i64c 1 8 I64 w) :
    Calls Try.prog 20 #[.agg #[.int .i64 j.graph.n, .slice A j.graph.edges.length c, .int .i64 j.kind, .int .i64 j.source], .agg #[.int .i64 s.step, .int .i64 s.phase, .bool s.fresh, .bool s.done, .slice B s.vals.length d, .slice B' s.mail.length d']] w fun e w' => e = .returned (.bool true) ∧ Below w.heap.size w w' := by
  have hgr := grid_of hfm hwm
  obtain ⟨f1, f2, f3, f4⟩ := hf
  obtain ⟨v1, v2, v3, v4⟩ := hfv
  obtain ⟨m1, m2, m3, m4⟩ := hfm
  have hz : ∀ x ∈ s.mail, x.l.length * 8 ≤ 140737488355328 := fun x hx => by have := (hwm x hx).2; omega
  clear hw hn hk hs ws wp hwv hwm
  have h24 : j.graph.edges.length * 24 ≤ 140737488355328 := by omega
  have hl : j.graph.edges.length ≤ 9223372036854775807 := by omega
  have hvn : s.vals.length * 16 ≤ 140737488355328 := by omega
  have hmn : s.mail.length * 24 ≤ 140737488355328 := by omega
  have hal := ansV_len j s
  have b0 := bA (bA (Below.refl w.heap.size w) (.cells #[.int .i64 j.graph.n, .slice A j.graph.edges.length c, .int .i64 j.kind, .int .i64 j.source] 26)) (.cells #[.int .i64 s.step, .int .i64 s.phase, .bool s.fresh, .bool s.done, .slice B s.vals.length d, .slice B' s.mail.length d'] 43)
  have HC := hid (states_walk s _ B B' d d' (rdb v4 (by decide) b0) hvn (Grid.b hgr (by decide) b0) hmn hz)
  have HJ := hid (jobs_copy j)
  have HAN := hid (answer_walk j)
  have HAD := hid (answered_walk j s)
  have HEQ := hid (fun m (h : lists m = lists s.mail) => ansV_lists (j := j) h)
  generalize ansV j s = z at HAD HEQ hal
  obtain ⟨v, r⟩ := z
  simp only at hal
  unfold jobVal at HJ
  unfold stCells at HC HAD HAN
  unfold jobC at HAD HAN
  clear f1 f2 f3 v1 v2 v3 m1 m2 m3 m4
  have hz8 : ∀ x ∈ s.mail, x.l.length ≤ 140737488355328 := fun x hx => by have := hz x hx; omega
  go_enter Try.func20, Try.ntmps20
  go_wp2_with fail
  refine HC.out.mono ?_
  rintro e w1 ⟨A1, c1, B1, k1, m, rfl, hm, o1, g1, b1⟩
  unfold stCells
  have b01 := bT b0 b1
  have HM := hid hm
  have hmz : ∀ x ∈ m, x.l.length ≤ 140737488355328 := fun x hx => by
    obtain ⟨y, hy, he⟩ := lists_mem hm hx
    rw [← he]; exact hz8 y hy
  have HML := hid (lists_len hm)
  rw [HML.out]
  have hr1 := rd_own o1
  have hg1 : Grid i64c 1 w1 w1.heap.size B1 m := g1.led
  have bX := bA (Below.refl w1.heap.size w1) (.cells #[.int .i64 s.step, .int .i64 s.phase, .bool s.fresh, .bool s.done, .slice A1 s.vals.length c1, .slice B1 s.mail.length k1] 43)
  have b0X := bT b01 bX
  have hz1 : w.heap.size + 2 ≤ w1.heap.size := by have := b1.size; simpa using this
  have j0 : w1.cell? ⟨w.heap.size, 0, none⟩ = some (.int .i64 j.graph.n) := keepb b1 (by go_simp)
  have j1 : w1.cell? ⟨w.heap.size, 1, none⟩ = some (.slice A j.graph.edges.length c) := keepb b1 (by go_simp)
  have j2 : w1.cell? ⟨w.heap.size, 2, none⟩ = some (.int .i64 j.kind) := keepb b1 (by go_simp)
  have j3 : w1.cell? ⟨w.heap.size, 3, none⟩ = some (.int .i64 j.source) := keepb b1 (by go_simp)
  have s0 : w1.cell? ⟨w.heap.size + 1, 0, none⟩ = some (.int .i64 s.step) := keepb b1 (by go_simp)
  have s1 : w1.cell? ⟨w.heap.size + 1, 1, none⟩ = some (.int .i64 s.phase) := keepb b1 (by go_simp)
  have s2 : w1.cell? ⟨w.heap.size + 1, 2, none⟩ = some (.bool s.fresh) := keepb b1 (by go_simp)
  have s3 : w1.cell? ⟨w.heap.size + 1, 3, none⟩ = some (.bool s.done) := keepb b1 (by go_simp)
  have s4 : w1.cell? ⟨w.heap.size + 1, 4, none⟩ = some (.slice B s.vals.length d) := keepb b1 (by go_simp)
  have s5 : w1.cell? ⟨w.heap.size + 1, 5, none⟩ = some (.slice B' s.mail.length d') := keepb b1 (by go_simp)
  have hws : w.heap.size < w1.heap.size := by omega
  have hws1 : w.heap.size + 1 < w1.heap.size := by omega
  have hK : ∀ w2 : World, Below (w1.alloc (.cells #[.int .i64 s.step, .int .i64 s.phase, .bool s.fresh, .bool s.done, .slice A1 s.vals.length c1, .slice B1 s.mail.length k1] 43)).heap.size (w1.alloc (.cells #[.int .i64 s.step, .int .i64 s.phase, .bool s.fresh, .bool s.done, .slice A1 s.vals.length c1, .slice B1 s.mail.length k1] 43)) w2 → (w2.cell? ⟨w.heap.size, 0, none⟩ = some (.int .i64 j.graph.n) ∧ w2.cell? ⟨w.heap.size, 1, none⟩ = some (.slice A j.graph.edges.length c) ∧ w2.cell? ⟨w.heap.size, 2, none⟩ = some (.int .i64 j.kind) ∧ w2.cell? ⟨w.heap.size, 3, none⟩ = some (.int .i64 j.source)) ∧
      (w2.cell? ⟨w1.heap.size, 0, none⟩ = some (.int .i64 s.step) ∧ w2.cell? ⟨w1.heap.size, 1, none⟩ = some (.int .i64 s.phase) ∧ w2.cell? ⟨w1.heap.size, 2, none⟩ = some (.bool s.fresh) ∧ w2.cell? ⟨w1.heap.size, 3, none⟩ = some (.bool s.done) ∧ w2.cell? ⟨w1.heap.size, 4, none⟩ = some (.slice A1 s.vals.length c1) ∧ w2.cell? ⟨w1.heap.size, 5, none⟩ = some (.slice B1 s.mail.length k1)) ∧
      (w2.cell? ⟨w.heap.size + 1, 0, none⟩ = some (.int .i64 s.step) ∧ w2.cell? ⟨w.heap.size + 1, 1, none⟩ = some (.int .i64 s.phase) ∧ w2.cell? ⟨w.heap.size + 1, 2, none⟩ = some (.bool s.fresh) ∧ w2.cell? ⟨w.heap.size + 1, 3, none⟩ = some (.bool s.done) ∧ w2.cell? ⟨w.heap.size + 1, 4, none⟩ = some (.slice B s.vals.length d) ∧ w2.cell? ⟨w.heap.size + 1, 5, none⟩ = some (.slice B' s.mail.length d')) := fun w2 h => by
    refine ⟨⟨?_, ?_, ?_, ?_⟩, ⟨?_, ?_, ?_, ?_, ?_, ?_⟩, ?_, ?_, ?_, ?_, ?_, ?_⟩ <;> exact keepb h (by go_simp)
  have HK := hid hK
  have HJ2 := hid (HJ.out ((w1.alloc (.cells #[.int .i64 s.step, .int .i64 s.phase, .bool s.fresh, .bool s.done, .slice A1 s.vals.length c1, .slice B1 s.mail.length k1] 43)).drewN 1) A c (rdb f4 (by decide) (below_drewN b0X 1)) h24)
  have HA2 : Hid (∀ (w2 : World) (A2 : Option Addr) (k2 : Nat), Below (w1.alloc (.cells #[.int .i64 s.step, .int .i64 s.phase, .bool s.fresh, .bool s.done, .slice A1 s.vals.length c1, .slice B1 s.mail.length k1] 43)).heap.size (w1.alloc (.cells #[.int .i64 s.step, .int .i64 s.phase, .bool s.fresh, .bool s.done, .slice A1 s.vals.length c1, .slice B1 s.mail.length k1] 43)) w2 → Rd w2 w2.heap.size A2 3 j.graph.edges.length (j.graph.edges.flatMap Edge.cells) → Calls Try.prog 76 #[.agg #[.int .i64 j.graph.n, .slice A2 j.graph.edges.length k2, .int .i64 j.kind, .int .i64 j.source], .agg #[.int .i64 s.step, .int .i64 s.phase, .bool s.fresh, .bool s.done, .slice A1 s.vals.length c1, .slice B1 s.mail.length k1]] w2 (RetL 3 1 w2 v.length (v.flatMap i64c) r)) := hid fun w2 A2 k2 h hr2 => by
    have h5 := HAN.out { s with mail := m } w2 A2 A1 B1 k2 c1 k1 hr2 hl (rdb hr1 (by decide) (bT bX h)) hvn (Grid.b hg1 (by decide) (bT bX h)) hmz
    rw [HEQ.out m HM.out] at h5
    dsimp only at h5
    rw [HML.out] at h5
    exact h5
  clear hK j0 j1 j2 j3 s0 s1 s2 s3 s4 s5 hm o1 g1
  obtain ⟨⟨j0, j1, j2, j3⟩, ⟨c0, c1', c2, c3, c4, c5⟩, s0, s1, s2, s3, s4, s5⟩ := HK.out _ (Below.refl _ _)
  go_wp2_with fail
  go_region_held3 (fun w' => (w'.cell? ⟨w.heap.size, 0, none⟩ = some (.int .i64 j.graph.n) ∧ w'.cell? ⟨w.heap.size, 1, none⟩ = some (.slice A j.graph.edges.length c) ∧ w'.cell? ⟨w.heap.size, 2, none⟩ = some (.int .i64 j.kind) ∧ w'.cell? ⟨w.heap.size, 3, none⟩ = some (.int .i64 j.source)) ∧
      (w'.cell? ⟨w1.heap.size, 0, none⟩ = some (.int .i64 s.step) ∧ w'.cell? ⟨w1.heap.size, 1, none⟩ = some (.int .i64 s.phase) ∧ w'.cell? ⟨w1.heap.size, 2, none⟩ = some (.bool s.fresh) ∧ w'.cell? ⟨w1.heap.size, 3, none⟩ = some (.bool s.done) ∧ w'.cell? ⟨w1.heap.size, 4, none⟩ = some (.slice A1 s.vals.length c1) ∧ w'.cell? ⟨w1.heap.size, 5, none⟩ = some (.slice B1 s.mail.length k1))) (first | exact ⟨j0, j1, j2, j3, c0, c1', c2, c3, c4, c5⟩ | exact ⟨(HK.out _ bb2).1, (HK.out _ bb2).2.1⟩ | exact ⟨(HK.out _ (bT bb2 b3)).1, (HK.out _ (bT bb2 b3)).2.1⟩ | go_keep) ((first | (go_at_call 34; refine HJ2.out.mono ?_; rintro e w2 ⟨A2, k2, rfl, r2, b2⟩; have bb2 : Below (w1.alloc (.cells #[.int .i64 s.step, .int .i64 s.phase, .bool s.fresh, .bool s.done, .slice A1 s.vals.length c1, .slice B1 s.mail.length k1] 43)).heap.size (w1.alloc (.cells #[.int .i64 s.step, .int .i64 s.phase, .bool s.fresh, .bool s.done, .slice A1 s.vals.length c1, .slice B1 s.mail.length k1] 43)) w2 := (below_drewN (Below.refl _ _) 1).trans b2) | (go_at_call 76; refine (HA2.out _ _ _ bb2 r2).mono ?_; rintro e w3 ⟨A3, k3, rfl, o3, b3⟩)))
  all_goals
    have bX3 : Below (w1.alloc (.cells #[.int .i64 s.step, .int .i64 s.phase, .bool s.fresh, .bool s.done, .slice A1 s.vals.length c1, .slice B1 s.mail.length k1] 43)).heap.size (w1.alloc (.cells #[.int .i64 s.step, .int .i64 s.phase, .bool s.fresh, .bool s.done, .slice A1 s.vals.length c1, .slice B1 s.mail.length k1] 43)) w3 := bT bb2 b3
    obtain ⟨⟨j0, j1, j2, j3⟩, ⟨c0, c1', c2, c3, c4, c5⟩, s0, s1, s2, s3, s4, s5⟩ := HK.out _ bX3
    have b03 := bT b0X bX3
    go_wp2_with fail
    refine (HAD.out w3 A B B' c d d' (rdb f4 (by decide) b03) hl (rdb v4 (by decide) b03) hvn (Grid.b hgr (by decide) b03) hz8).mono ?_
    rintro e w4 ⟨A4, k4, rfl, o4, b4⟩
    have bX4 := bT bX3 b4
    obtain ⟨⟨j0, j1, j2, j3⟩, ⟨c0, c1', c2, c3, c4, c5⟩, s0, s1, s2, s3, s4, s5⟩ := HK.out _ bX4
    have q3 := own_rdb o3 (by decide) b4
    have q4 := rd_own o4
    go_wp2_with fail
    refine (sameInts_walk v w4 A3 A4 k3 k4 q3 q4 (by omega)).mono ?_
    rintro e w5 ⟨rfl, b5⟩
    have bX5 := bT bX4 b5
    have b05 := bT b0X bX5
    obtain ⟨⟨j0, j1, j2, j3⟩, ⟨c0, c1', c2, c3, c4, c5⟩, s0, s1, s2, s3, s4, s5⟩ := HK.out _ bX5
    go_wp2_with fail
    have hsm := sameState_walk { s with mail := m } s.mail w5 A1 B B1 B' c1 d k1 d' HM.out.symm (rdb hr1 (by decide) (bT bX bX5)) (rdb v4 (by decide) b05) (by show s.vals.length ≤ _; omega) (Grid.b hg1 (by decide) (bT bX bX5)) (Grid.b hgr (by decide) b05) (by have := HML.out; show m.length ≤ _; omega) hmz
    unfold stCells at hsm
    dsimp only at hsm
    rw [HML.out] at hsm
    refine hsm.mono ?_
    rintro e w6 ⟨rfl, b6⟩
    go_wp2_with fail
    go_ret
    exact ⟨by simp, bT b05 b6⟩
end Go.Proofs.Ytafnbackjjaelaa
