/- rounds.Answer, the document's Answered. -/
import Derived.Test.YtafnbackjjaelaaAnsR
import Derived.Test.YtafnbackjjaelaaStCopy
namespace Go.Proofs.Ytafnbackjjaelaa
open Go.ChangeShapes Go.WideShapes Go.ChangeAt Go.RowKit
set_option linter.unusedVariables false
theorem ansV_len (j : Job) (s : State) : (ansV j s).1.length ≤ s.vals.length := by
  unfold ansV; split
  · simp
  · split
    · simp
    · split <;> simp
def AnRel (j : Job) (s : State) (w W : World) (o i : Value) (wr : World) : Prop :=
  ∃ (k c : Nat) (A : Option Addr), k ≤ s.vals.length ∧ i = .int .i64 k ∧ o = .slice A k c ∧ wr.ownsRow W.heap.size 3 1 (.slice A k c) k (((s.vals.take k).map (pickV j.kind)).flatMap i64c) ∧ Below W.heap.size W wr
theorem retL_noneI (w w' : World) (err : Int) (b : Below w.heap.size w w') : RetL 3 1 w 0 [] err (.returned (.tuple #[.slice none 0 0, .int .i64 err])) w' := ⟨none, 0, rfl, World.ownsRow_nil _ _ _ _, b⟩
set_option maxRecDepth 100000 in
set_option maxHeartbeats 8000000 in
theorem answer_walk (j : Job) (s : State) (w : World) (A B B' : Option Addr) (c d d' : Nat)
    (hr : Rd w w.heap.size A 3 j.graph.edges.length (j.graph.edges.flatMap Edge.cells)) (hl : j.graph.edges.length ≤ 9223372036854775807)
    (hv : Rd w w.heap.size B 2 s.vals.length (s.vals.flatMap Val.cells)) (hvn : s.vals.length * 16 ≤ 140737488355328) (hg : Grid i64c 1 w w.heap.size B' s.mail) (hz : ∀ x ∈ s.mail, x.l.length ≤ 140737488355328) :
    Calls Try.prog 76 #[.agg (jobC j A c), .agg (stCells s B d B' d')] w (RetL 3 1 w (ansV j s).1.length ((ansV j s).1.flatMap i64c) (ansV j s).2) := by
  obtain ⟨W, hW⟩ : ∃ W, W = (w.alloc (.cells (jobC j A c) 26)).alloc (.cells (stCells s B d B' d') 43) := ⟨_, rfl⟩
  have b0 : Below w.heap.size w W := by rw [hW]; exact bA (bA (Below.refl _ _) _) _
  have hc := hid (jobCheck_walk j W A c (rdb hr (by decide) b0) hl)
  have HM := hid (fun (h : jobV j = 0) (w2 : World) (h2 : Below w.heap.size w w2) => may_walk j h s w2 A B B' c d d' (rdb hv (by decide) h2) (Grid.b hg (by decide) h2) hz)
  unfold jobVal at hc
  unfold jobC stCells at HM hW ⊢
  have hWs : W.heap.size = w.heap.size + 2 := by rw [hW]; simp
  have j0 : W.cell? ⟨w.heap.size, 0, none⟩ = some (.int .i64 j.graph.n) := by rw [hW]; go_simp
  have j1 : W.cell? ⟨w.heap.size, 1, none⟩ = some (.slice A j.graph.edges.length c) := by rw [hW]; go_simp
  have j2 : W.cell? ⟨w.heap.size, 2, none⟩ = some (.int .i64 j.kind) := by rw [hW]; go_simp
  have j3 : W.cell? ⟨w.heap.size, 3, none⟩ = some (.int .i64 j.source) := by rw [hW]; go_simp
  have q0 : W.cell? ⟨w.heap.size + 1, 0, none⟩ = some (.int .i64 s.step) := by rw [hW]; go_simp
  have q1 : W.cell? ⟨w.heap.size + 1, 1, none⟩ = some (.int .i64 s.phase) := by rw [hW]; go_simp
  have q2 : W.cell? ⟨w.heap.size + 1, 2, none⟩ = some (.bool s.fresh) := by rw [hW]; go_simp
  have q3 : W.cell? ⟨w.heap.size + 1, 3, none⟩ = some (.bool s.done) := by rw [hW]; go_simp
  have q4 : W.cell? ⟨w.heap.size + 1, 4, none⟩ = some (.slice B s.vals.length d) := by rw [hW]; go_simp
  have q5 : W.cell? ⟨w.heap.size + 1, 5, none⟩ = some (.slice B' s.mail.length d') := by rw [hW]; go_simp
  by_cases h0 : jobV j = 0
  · rw [h0] at hc
    have HM := hid (HM.out h0)
    go_enter Try.func76, Try.ntmps76
    go_wp2_with fail
    rw [← hW]
    refine hc.out.mono ?_
    rintro e w1 ⟨rfl, b1⟩
    have b01 := bT b0 b1
    have hz1 := b1.size
    have j0 := keepb b1 j0
    have j1 := keepb b1 j1
    have j2 := keepb b1 j2
    have j3 := keepb b1 j3
    have q0 := keepb b1 q0
    have q1 := keepb b1 q1
    have q2 := keepb b1 q2
    have q3 := keepb b1 q3
    have q4 := keepb b1 q4
    have q5 := keepb b1 q5
    clear hW
    go_wp2_with fail
    refine (HM.out w1 b01).mono ?_
    rintro e w2 ⟨rfl, b2⟩
    have b02 := bT b01 b2
    have hz2 := b2.size
    have j0 := keepb b2 j0
    have j1 := keepb b2 j1
    have j2 := keepb b2 j2
    have j3 := keepb b2 j3
    have q0 := keepb b2 q0
    have q1 := keepb b2 q1
    have q2 := keepb b2 q2
    have q3 := keepb b2 q3
    have q4 := keepb b2 q4
    have q5 := keepb b2 q5
    cases hm : stB j s with
    | false =>
      have HE := hid (ansV_state h0 hm)
      go_wp2_with fail
      go_ret2
      rw [HE.out]
      exact retL_noneI _ _ _ b02
    | true =>
      cases hd : s.done with
      | false =>
        have HE := hid (ansV_wait h0 hm hd)
        rw [hd] at q3
        go_wp2_with fail
        go_ret2
        rw [HE.out]
        exact retL_noneI _ _ _ b02
      | true =>
        have HE := hid (ansV_ok h0 hm hd)
        rw [hd] at q3
        clear HM hc
        go_wp2_with fail
        go_loopw [7, 9, 25] (fun o _ i wr => AnRel j s w w2 o i wr) (fun _ _ i _ => s.vals.length - (intOf i).toNat)
        case atStart => exact ⟨0, 0, none, by omega, rfl, rfl, World.ownsRow_nil _ _ _ _, Below.refl _ _⟩
        case round =>
          obtain ⟨k, c', A', hk, rfl, rfl, hown, hbel⟩ := hrel
          have j2 := keepb hbel j2
          have hsz := hbel.size
          have hws : w.heap.size < wr.heap.size := by omega
          have hws1 : w.heap.size + 1 < wr.heap.size := by omega
          by_cases hlt : k < s.vals.length
          · obtain ⟨x, hx⟩ : ∃ x, s.vals[k]? = some x := ⟨_, List.getElem?_eq_getElem hlt⟩
            obtain ⟨b, off, rfl, hb, c0, c1⟩ := vcells (hv.below (bT b02 hbel)) rfl hx
            have hkz : (k : Int) < (s.vals.length : Int) := by omega
            have HT := hid (take_next hx)
            have hn1 : (k + 1) * 8 ≤ 140737488355328 := by omega
            clear hx
            by_cases h3 : j.kind = 3
            · have HP : Hid (pickV j.kind x = x.label) := hid (by unfold pickV; rw [if_pos h3])
              go_wp2_with (at_builtin; refine wp_app1 _ rfl rfl el_ints rfl ((hown.alloc _).alloc _) rfl (rd_newAt _ _ _ 1 1 _ (by simp) rfl) (one_nil _ rfl) hn1 (Nat.le_trans hsz (by simp <;> omega)) ?_; intro A2 c2 w4 hown4 hb4 hg4)
              go_roundw
              case rel => exact ⟨_, _, _, ⟨k + 1, c2, A2, by omega, by go_num, rfl, by rw [HT.out, List.map_append, List.flatMap_append, List.map_singleton, HP.out]; exact hown4, ((hbel.alloc hsz _).alloc (Nat.le_trans hsz (by simp)) _).trans hb4⟩, rfl, rfl, rfl⟩
              case measure => simp [intOf]; omega
            · have HP : Hid (pickV j.kind x = x.a) := hid (by unfold pickV; rw [if_neg h3])
              have h3b : (j.kind == 3) = false := by simpa using h3
              go_wp2_with (at_builtin; refine wp_app1 _ rfl rfl el_ints rfl ((hown.alloc _).alloc _) rfl (rd_newAt _ _ _ 1 1 _ (by simp) rfl) (one_nil _ rfl) hn1 (Nat.le_trans hsz (by simp <;> omega)) ?_; intro A2 c2 w4 hown4 hb4 hg4)
              go_roundw
              case rel => exact ⟨k + 1, c2, A2, by omega, by go_num, rfl, by rw [HT.out, List.map_append, List.flatMap_append, List.map_singleton, HP.out]; exact hown4, ((hbel.alloc hsz _).alloc (Nat.le_trans hsz (by simp)) _).trans hb4⟩
              case measure => simp [intOf]; omega
          · obtain rfl : k = s.vals.length := by omega
            rw [List.take_length] at hown
            have HO := hid hown
            clear hown
            go_wp2_with fail
            go_ret2
            rw [HE.out]
            exact ⟨A', c', by rw [List.length_map]; rfl, by rw [List.length_map]; exact own_below HO.out (Below.refl _ _) b02.size, bT b02 hbel⟩
  · rw [ansV_job h0]
    have hb : (jobV j != 0) = true := by simpa using h0
    generalize jobV j = r at *
    clear h0 HM
    go_enter Try.func76, Try.ntmps76
    go_wp2_with fail
    rw [← hW]
    refine hc.out.mono ?_
    rintro e w1 ⟨rfl, b1⟩
    go_wp2_with fail
    go_ret2
    exact retL_noneI _ _ _ (bT b0 b1)
set_option maxRecDepth 100000 in
set_option maxHeartbeats 8000000 in
theorem answered_walk (j : Job) (s : State) (w : World) (A B B' : Option Addr) (c d d' : Nat)
    (hr : Rd w w.heap.size A 3 j.graph.edges.length (j.graph.edges.flatMap Edge.cells)) (hl : j.graph.edges.length ≤ 9223372036854775807)
    (hv : Rd w w.heap.size B 2 s.vals.length (s.vals.flatMap Val.cells)) (hvn : s.vals.length * 16 ≤ 140737488355328) (hg : Grid i64c 1 w w.heap.size B' s.mail) (hz : ∀ x ∈ s.mail, x.l.length ≤ 140737488355328) :
    Calls Try.prog 77 #[.agg (jobC j A c), .agg (stCells s B d B' d')] w (RetL 3 1 w (ansV j s).1.length ((ansV j s).1.flatMap i64c) (ansV j s).2) := by
  obtain ⟨W, hW⟩ : ∃ W, W = (w.alloc (.cells (jobC j A c) 26)).alloc (.cells (stCells s B d B' d') 43) := ⟨_, rfl⟩
  have b0 : Below w.heap.size w W := by rw [hW]; exact bA (bA (Below.refl _ _) _) _
  have hc := hid (jobFault_walk j W A c (rdb hr (by decide) b0) hl)
  have HM := hid (fun (h : jobV j = 0) (w2 : World) (h2 : Below w.heap.size w w2) => stateMay_walk j h s w2 A B B' c d d' (rdb hv (by decide) h2) (Grid.b hg (by decide) h2) hz)
  unfold jobVal at hc
  unfold jobC stCells at HM hW ⊢
  have hWs : W.heap.size = w.heap.size + 2 := by rw [hW]; simp
  have j0 : W.cell? ⟨w.heap.size, 0, none⟩ = some (.int .i64 j.graph.n) := by rw [hW]; go_simp
  have j1 : W.cell? ⟨w.heap.size, 1, none⟩ = some (.slice A j.graph.edges.length c) := by rw [hW]; go_simp
  have j2 : W.cell? ⟨w.heap.size, 2, none⟩ = some (.int .i64 j.kind) := by rw [hW]; go_simp
  have j3 : W.cell? ⟨w.heap.size, 3, none⟩ = some (.int .i64 j.source) := by rw [hW]; go_simp
  have q0 : W.cell? ⟨w.heap.size + 1, 0, none⟩ = some (.int .i64 s.step) := by rw [hW]; go_simp
  have q1 : W.cell? ⟨w.heap.size + 1, 1, none⟩ = some (.int .i64 s.phase) := by rw [hW]; go_simp
  have q2 : W.cell? ⟨w.heap.size + 1, 2, none⟩ = some (.bool s.fresh) := by rw [hW]; go_simp
  have q3 : W.cell? ⟨w.heap.size + 1, 3, none⟩ = some (.bool s.done) := by rw [hW]; go_simp
  have q4 : W.cell? ⟨w.heap.size + 1, 4, none⟩ = some (.slice B s.vals.length d) := by rw [hW]; go_simp
  have q5 : W.cell? ⟨w.heap.size + 1, 5, none⟩ = some (.slice B' s.mail.length d') := by rw [hW]; go_simp
  by_cases h0 : jobV j = 0
  · rw [h0] at hc
    have HM := hid (HM.out h0)
    go_enter Try.func77, Try.ntmps77
    go_wp2_with fail
    rw [← hW]
    refine hc.out.mono ?_
    rintro e w1 ⟨rfl, b1⟩
    have b01 := bT b0 b1
    have hz1 := b1.size
    have j0 := keepb b1 j0
    have j1 := keepb b1 j1
    have j2 := keepb b1 j2
    have j3 := keepb b1 j3
    have q0 := keepb b1 q0
    have q1 := keepb b1 q1
    have q2 := keepb b1 q2
    have q3 := keepb b1 q3
    have q4 := keepb b1 q4
    have q5 := keepb b1 q5
    clear hW
    go_wp2_with fail
    refine (HM.out w1 b01).mono ?_
    rintro e w2 ⟨rfl, b2⟩
    have b02 := bT b01 b2
    have hz2 := b2.size
    have j0 := keepb b2 j0
    have j1 := keepb b2 j1
    have j2 := keepb b2 j2
    have j3 := keepb b2 j3
    have q0 := keepb b2 q0
    have q1 := keepb b2 q1
    have q2 := keepb b2 q2
    have q3 := keepb b2 q3
    have q4 := keepb b2 q4
    have q5 := keepb b2 q5
    cases hm : stB j s with
    | false =>
      have HE := hid (ansV_state h0 hm)
      go_wp2_with fail
      go_ret2
      rw [HE.out]
      exact retL_noneI _ _ _ b02
    | true =>
      cases hd : s.done with
      | false =>
        have HE := hid (ansV_wait h0 hm hd)
        rw [hd] at q3
        go_wp2_with fail
        go_ret2
        rw [HE.out]
        exact retL_noneI _ _ _ b02
      | true =>
        have HE := hid (ansV_ok h0 hm hd)
        rw [hd] at q3
        clear HM hc
        go_wp2_with fail
        go_loopw [7, 8, 9] (fun o i _ wr => AnRel j s w w2 o i wr) (fun _ i _ _ => s.vals.length - (intOf i).toNat)
        case atStart => exact ⟨0, 0, none, by omega, rfl, rfl, World.ownsRow_nil _ _ _ _, Below.refl _ _⟩
        case round =>
          obtain ⟨k, c', A', hk, rfl, rfl, hown, hbel⟩ := hrel
          have j2 := keepb hbel j2
          have q4 := keepb hbel q4
          have hsz := hbel.size
          have hws : w.heap.size < wr.heap.size := by omega
          have hws1 : w.heap.size + 1 < wr.heap.size := by omega
          by_cases hlt : k < s.vals.length
          · obtain ⟨x, hx⟩ : ∃ x, s.vals[k]? = some x := ⟨_, List.getElem?_eq_getElem hlt⟩
            obtain ⟨b, off, rfl, hb, c0, c1⟩ := vcells (hv.below (bT b02 hbel)) rfl hx
            have hkz : (k : Int) < (s.vals.length : Int) := by omega
            have HT := hid (take_next hx)
            have hn1 : (k + 1) * 8 ≤ 140737488355328 := by omega
            clear hx
            by_cases h3 : j.kind = 3
            · have HP : Hid (pickV j.kind x = x.label) := hid (by unfold pickV; rw [if_pos h3])
              go_wp2_with (at_builtin; refine wp_app1 _ rfl rfl el_ints rfl (hown.alloc _) rfl (rd_newAt _ _ _ 1 1 _ (by simp) rfl) (one_nil _ rfl) hn1 (Nat.le_trans hsz (by simp <;> omega)) ?_; intro A2 c2 w4 hown4 hb4 hg4)
              go_roundw
              case rel => exact ⟨k + 1, c2, A2, by omega, by go_num, rfl, by rw [HT.out, List.map_append, List.flatMap_append, List.map_singleton, HP.out]; exact hown4, (hbel.alloc hsz _).trans hb4⟩
              case measure => simp [intOf]; omega
            · have HP : Hid (pickV j.kind x = x.a) := hid (by unfold pickV; rw [if_neg h3])
              have h3b : (j.kind == 3) = false := by simpa using h3
              go_wp2_with (at_builtin; refine wp_app1 _ rfl rfl el_ints rfl (hown.alloc _) rfl (rd_newAt _ _ _ 1 1 _ (by simp) rfl) (one_nil _ rfl) hn1 (Nat.le_trans hsz (by simp <;> omega)) ?_; intro A2 c2 w4 hown4 hb4 hg4)
              go_roundw
              case rel => exact ⟨k + 1, c2, A2, by omega, by go_num, rfl, by rw [HT.out, List.map_append, List.flatMap_append, List.map_singleton, HP.out]; exact hown4, (hbel.alloc hsz _).trans hb4⟩
              case measure => simp [intOf]; omega
          · obtain rfl : k = s.vals.length := by omega
            rw [List.take_length] at hown
            have HO := hid hown
            clear hown
            go_wp2_with fail
            go_ret2
            rw [HE.out]
            exact ⟨A', c', by rw [List.length_map]; rfl, by rw [List.length_map]; exact own_below HO.out (Below.refl _ _) b02.size, bT b02 hbel⟩
  · rw [ansV_job h0]
    have hb : (jobV j != 0) = true := by simpa using h0
    generalize jobV j = r at *
    clear h0 HM
    go_enter Try.func77, Try.ntmps77
    go_wp2_with fail
    rw [← hW]
    refine hc.out.mono ?_
    rintro e w1 ⟨rfl, b1⟩
    go_wp2_with fail
    go_ret2
    exact retL_noneI _ _ _ (bT b0 b1)
end Go.Proofs.Ytafnbackjjaelaa
