/- rounds.Begin, the document's Begun. -/
import Derived.Test.YteefemiieidpaaaSameS
import Derived.Test.YteefemiieidpaaaTaskC
import Derived.Test.YteefemiieidpaaaMem
namespace Go.Proofs.Yteefemiieidpaaa
open Go.ChangeShapes Go.WideShapes Go.ChangeAt Go.RowKit
set_option linter.unusedVariables false
set_option linter.unusedSimpArgs false
def none2 : Val := ⟨-1, -1⟩
theorem jobV_n {j : Job} (h : jobV j = 0) : 0 ≤ j.graph.n ∧ j.graph.n ≤ 200 := by
  unfold jobV at h
  by_cases hg : graphV j.graph = 0
  · exact graphV_n hg
  · rw [if_pos hg] at h; exact absurd h hg
/-- The state that a job over n vertices begins with. -/
def begS (n : Nat) : State := ⟨0, 0, decide (0 < n), decide (n = 0), List.replicate n none2, List.replicate n ⟨none, 0, []⟩⟩
def zeroS : State := ⟨0, 0, false, false, [], []⟩
noncomputable def begV (j : Job) : State × Int := if jobV j = 0 then (begS j.graph.n.toNat, 0) else (zeroS, jobV j)
/-- A state and an error number come back. -/
def RetSt (w : World) (s : State) (err : Int) (e : Ending) (w' : World) : Prop :=
  ∃ A c B k m, e = .returned (.tuple #[.agg (stCells { s with mail := m } A c B k), .int .i64 err]) ∧ lists m = lists s.mail ∧ Rd w' w'.heap.size A 2 s.vals.length (s.vals.flatMap Val.cells) ∧ Grid i64c 1 w' w'.heap.size B m ∧ Below w.heap.size w w'
theorem flat_rep_ml (n : Nat) : (List.replicate n (Value.slice none 0 0)) = (List.replicate n (⟨none, 0, []⟩ : ML Int)).flatMap ML.cells := by
  rw [flat_ML, List.map_replicate]; rfl
theorem grid_rep {w : World} {base n c : Nat} {e : TypeId} {A : Option Addr} (h : w.ownsRow base e 1 (.slice A n c) n (List.replicate n (Value.slice none 0 0))) : Grid i64c 1 w w.heap.size A (List.replicate n ⟨none, 0, []⟩) := by
  rw [flat_rep_ml] at h
  refine ⟨by have := rd_own h; simpa using this, fun x hx p hp => ?_⟩
  obtain rfl := (List.mem_replicate.1 hx).2
  obtain rfl := List.mem_singleton.1 hp
  exact Rd.nil_
theorem rep_snoc {α : Type} (n : Nat) (x : α) : List.replicate (n + 1) x = List.replicate n x ++ [x] := List.replicate_succ'
theorem one2 (a b : Int) : ∀ u ∈ (#[Value.int .i64 a, Value.int .i64 b] : Array Value).toList, u.oneCell' = true := by
  intro u hu; simp at hu; rcases hu with rfl | rfl <;> rfl
def BegRel (n G : Nat) (w1 : World) (i : Value) (wr : World) : Prop :=
  ∃ (k c : Nat) (A : Option Addr), k ≤ n ∧ i = .int .i64 k ∧ wr.ownsRow (G + 2) 50 2 (.slice A k c) k ((List.replicate k none2).flatMap Val.cells) ∧ Below G w1 wr ∧ G + 2 ≤ wr.heap.size ∧
    wr.ownsRow G 53 1 (.slice (some ⟨G, 0, none⟩) n n) n (List.replicate n (Value.slice none 0 0)) ∧ (∀ o, wr.frozen? ⟨G + 1, o, none⟩ = false) ∧
    wr.cell? ⟨G + 1, 0, none⟩ = some (.int .i64 0) ∧ wr.cell? ⟨G + 1, 1, none⟩ = some (.int .i64 0) ∧ wr.cell? ⟨G + 1, 2, none⟩ = some (.bool true) ∧ wr.cell? ⟨G + 1, 3, none⟩ = some (.bool false) ∧ wr.cell? ⟨G + 1, 4, none⟩ = some (.slice A k c) ∧ wr.cell? ⟨G + 1, 5, none⟩ = some (.slice (some ⟨G, 0, none⟩) n n)
set_option maxRecDepth 100000 in
set_option maxHeartbeats 4000000 in
theorem begin_walk (j : Job) (w : World) (A : Option Addr) (c : Nat) (hr : Rd w w.heap.size A 3 j.graph.edges.length (j.graph.edges.flatMap Edge.cells)) (hl : j.graph.edges.length ≤ 9223372036854775807) :
    Calls Try.prog 34 #[jobVal j A c] w (RetSt w (begV j).1 (begV j).2) := by
  have b0 := bA (bA (Below.refl w.heap.size w) (.cells #[.int .i64 j.graph.n, .slice A j.graph.edges.length c, .int .i64 j.kind, .int .i64 j.source] 26)) (.cells #[.int .i64 0, .int .i64 0, .bool false, .bool false, .slice none 0 0, .slice none 0 0] 30)
  have r0 := rdb hr (by decide) b0
  have hc := hid (jobCheck_walk j _ A c r0 hl)
  unfold jobVal at hc ⊢
  unfold begV
  by_cases h0 : jobV j = 0
  · rw [if_pos h0]
    rw [h0] at hc
    have hn := jobV_n h0
    clear h0
    obtain ⟨⟨n, l⟩, kind, src⟩ := j
    simp only at hn hc hr hl r0 b0 ⊢
    obtain ⟨n, rfl⟩ := Int.eq_ofNat_of_zero_le hn.1
    simp only [Int.toNat_natCast]
    go_enter Try.func34, Try.ntmps34
    go_wp2_with fail
    refine hc.out.mono ?_
    rintro e w1 ⟨rfl, b1⟩
    have b01 := bT b0 b1
    have hz1 : w.heap.size + 1 < w1.heap.size := by have := b1.size; simp at this; omega
    have hz0 : w.heap.size < w1.heap.size := by omega
    have q0 : w1.cell? ⟨w.heap.size, 0, none⟩ = some (.int .i64 n) := keepb b1 (by go_simp)
    have e0 : w1.cell? ⟨w.heap.size + 1, 0, none⟩ = some (.int .i64 0) := keepb b1 (by go_simp)
    have e1 : w1.cell? ⟨w.heap.size + 1, 1, none⟩ = some (.int .i64 0) := keepb b1 (by go_simp)
    have e2 : w1.cell? ⟨w.heap.size + 1, 2, none⟩ = some (.bool false) := keepb b1 (by go_simp)
    have e3 : w1.cell? ⟨w.heap.size + 1, 3, none⟩ = some (.bool false) := keepb b1 (by go_simp)
    have e4 : w1.cell? ⟨w.heap.size + 1, 4, none⟩ = some (.slice none 0 0) := keepb b1 (by go_simp)
    have e5 : w1.cell? ⟨w.heap.size + 1, 5, none⟩ = some (.slice none 0 0) := keepb b1 (by go_simp)
    have ef : ∀ o, w1.frozen? ⟨w.heap.size + 1, o, none⟩ = false := fun o => by rw [(bcell b1).2 _ _ (by simp)]; go_simp
    clear b1 b0 r0 hc
    go_wp2_with (refine wp_make1 rfl rfl Try.underlying28 inf_ints rfl n rfl rfl (by omega) (by omega) ?_; intro w2 o2 b2 hz2; obtain ⟨hc2, hf2⟩ := bcell b2)
    have oN := o2.alloc (.cells #[.int .i64 0, .int .i64 0, .bool true, .bool false, .slice none 0 0, .slice (some ⟨w1.heap.size, 0, none⟩) n n] 30)
    have k0 : (w2.alloc (.cells #[.int .i64 0, .int .i64 0, .bool true, .bool false, .slice none 0 0, .slice (some ⟨w1.heap.size, 0, none⟩) n n] 30)).cell? ⟨w1.heap.size + 1, 0, none⟩ = some (.int .i64 0) := by rw [← hz2]; simp
    have k1 : (w2.alloc (.cells #[.int .i64 0, .int .i64 0, .bool true, .bool false, .slice none 0 0, .slice (some ⟨w1.heap.size, 0, none⟩) n n] 30)).cell? ⟨w1.heap.size + 1, 1, none⟩ = some (.int .i64 0) := by rw [← hz2]; simp
    have k2 : (w2.alloc (.cells #[.int .i64 0, .int .i64 0, .bool true, .bool false, .slice none 0 0, .slice (some ⟨w1.heap.size, 0, none⟩) n n] 30)).cell? ⟨w1.heap.size + 1, 2, none⟩ = some (.bool true) := by rw [← hz2]; simp
    have k3 : (w2.alloc (.cells #[.int .i64 0, .int .i64 0, .bool true, .bool false, .slice none 0 0, .slice (some ⟨w1.heap.size, 0, none⟩) n n] 30)).cell? ⟨w1.heap.size + 1, 3, none⟩ = some (.bool false) := by rw [← hz2]; simp
    have k4 : (w2.alloc (.cells #[.int .i64 0, .int .i64 0, .bool true, .bool false, .slice none 0 0, .slice (some ⟨w1.heap.size, 0, none⟩) n n] 30)).cell? ⟨w1.heap.size + 1, 4, none⟩ = some (.slice none 0 0) := by rw [← hz2]; simp
    have k5 : (w2.alloc (.cells #[.int .i64 0, .int .i64 0, .bool true, .bool false, .slice none 0 0, .slice (some ⟨w1.heap.size, 0, none⟩) n n] 30)).cell? ⟨w1.heap.size + 1, 5, none⟩ = some (.slice (some ⟨w1.heap.size, 0, none⟩) n n) := by rw [← hz2]; simp
    have kf : ∀ o, (w2.alloc (.cells #[.int .i64 0, .int .i64 0, .bool true, .bool false, .slice none 0 0, .slice (some ⟨w1.heap.size, 0, none⟩) n n] 30)).frozen? ⟨w1.heap.size + 1, o, none⟩ = false := fun o => by rw [← hz2]; go_simp
    have bN1 := bA b2 (.cells #[.int .i64 0, .int .i64 0, .bool true, .bool false, .slice none 0 0, .slice (some ⟨w1.heap.size, 0, none⟩) n n] 30)
    have hzN : (w2.alloc (.cells #[.int .i64 0, .int .i64 0, .bool true, .bool false, .slice none 0 0, .slice (some ⟨w1.heap.size, 0, none⟩) n n] 30)).heap.size = w1.heap.size + 2 := by simp [hz2]
    generalize w2.alloc (.cells #[.int .i64 0, .int .i64 0, .bool true, .bool false, .slice none 0 0, .slice (some ⟨w1.heap.size, 0, none⟩) n n] 30) = wN at *
    clear b2 hc2 hf2 o2 hz2
    generalize hG : w1.heap.size = G at *
    have HG := hid hG
    have HZN := hid hzN
    clear hG hzN
    go_loopw [20] (BegRel n G w1) (fun i _ => n - (intOf i).toNat)
    case atStart => exact ⟨0, 0, none, by omega, rfl, World.ownsRow_nil _ _ _ _, bN1, by rw [HZN.out]; exact Nat.le_refl _, oN, kf, k0, k1, k2, k3, k4, k5⟩
    case round =>
      clear bN1 oN kf k0 k1 k2 k3 k4 k5
      obtain ⟨k, c', A', hk, rfl, hown, hbel, hsz, oN, kf, k0, k1, k2, k3, k4, k5⟩ := hrel
      have hGs : G < wr.heap.size := by omega
      have hGs1 : G + 1 < wr.heap.size := by omega
      by_cases hlt : k < n
      · have hltz : (k : Int) < (n : Int) := by omega
        have HR := hid (rep_snoc k none2)
        have hcell2 : ∀ (o : Obj) (w2 : World), Below (G + 2) (wr.alloc o) w2 → (∀ o v, wr.cell? ⟨G + 1, o, none⟩ = some v → w2.cell? ⟨G + 1, o, none⟩ = some v) ∧ (∀ o, w2.frozen? ⟨G + 1, o, none⟩ = false) ∧ Below G w1 w2 ∧ G + 2 ≤ w2.heap.size ∧ Below (G + 2) wr w2 := fun o w2 h2 => by
          have h3 := ((Below.refl (G + 2) wr).alloc hsz o).trans h2
          exact ⟨fun o v hv => (h3.cell (p := ⟨G + 1, o, none⟩) (by show G + 1 < _; omega)).trans hv, fun o => (h3.frozen (p := ⟨G + 1, o, none⟩) (by show G + 1 < _; omega)).trans (kf o), hbel.trans (h3.mono (by omega)), Nat.le_trans hsz h3.size, h3⟩
        go_wp2_with (at_builtin; refine wp_app1 _ rfl rfl el_vals rfl (hown.alloc _) rfl (rd_new _ _ _ 2 1 rfl) (one2 _ _) (by omega) (Nat.le_trans hsz (by simp)) ?_; intro A2 c2 w2 hown2 hb2 hg2; obtain ⟨hcc, hff, hb3, hs3, hb4⟩ := hcell2 _ _ hb2; have g0 := hcc _ _ k0; have g1 := hcc _ _ k1; have g2 := hcc _ _ k2; have g3 := hcc _ _ k3; have g4 := hcc _ _ k4; have g5 := hcc _ _ k5; have hf4 := hff 4)
        go_roundw
        case rel =>
          refine ⟨k + 1, c2, A2, by omega, by go_num, ?_, hb3.setCell (by show G ≤ G + 1; omega) _, by simpa using hs3, ?_, fun o => by simpa using hff o, ?_, ?_, ?_, ?_, ?_, ?_⟩
          · rw [HR.out, List.flatMap_append]
            exact ownsRow_setCell_below hown2 (by show G + 1 < G + 2; omega) _
          · exact own_blk oN (((hb4.mono (show G + 1 ≤ G + 2 by omega)).setCell (by show G + 1 ≤ G + 1; omega) _).block G (by omega))
          all_goals go_simp
        case measure => simp [intOf]; omega
      · obtain rfl : n = k := by omega
        have f0 : wr.cell? ⟨w.heap.size, 0, none⟩ = some (.int .i64 n) := (hbel.cell (p := ⟨w.heap.size, 0, none⟩) hz0).trans q0
        have hcl : ∀ o v, w1.cell? ⟨w.heap.size + 1, o, none⟩ = some v → wr.cell? ⟨w.heap.size + 1, o, none⟩ = some v := fun o v hv => (hbel.cell (p := ⟨w.heap.size + 1, o, none⟩) hz1).trans hv
        have hfl : ∀ o, wr.frozen? ⟨w.heap.size + 1, o, none⟩ = false := fun o => (hbel.frozen (p := ⟨w.heap.size + 1, o, none⟩) hz1).trans (ef o)
        have e0 := hcl _ _ e0
        have e1 := hcl _ _ e1
        have e2 := hcl _ _ e2
        have e3 := hcl _ _ e3
        have e4 := hcl _ _ e4
        have e5 := hcl _ _ e5
        have bW := b01.trans (hbel.mono (by omega))
        have hws : w.heap.size + 1 < wr.heap.size := by omega
        have HOW := hid hown
        have HON := hid oN
        clear hcl hown oN
        by_cases hn0 : n = 0
        · subst hn0
          go_wp2_with fail
          refine bodyPost_ret (v := .tuple #[.agg #[.int .i64 0, .int .i64 0, .bool false, .bool true, .slice A' 0 c', .slice (some ⟨G, 0, none⟩) 0 0], .int .i64 0]) (by simp [results, Try.results34, go_sem, *]) rfl ?_
          refine ⟨A', c', some ⟨G, 0, none⟩, 0, [], by simp [stCells, begS], rfl, Rd.nil_, Led.nil, ?_⟩
          repeat (with_reducible refine bS ?_ (by simp; try omega) _)
          exact bW
        · have hnz : ¬ ((n : Int) = 0) := by omega
          have hnp : 0 < n := by omega
          go_wp2_with fail
          refine bodyPost_ret (v := .tuple #[.agg #[.int .i64 0, .int .i64 0, .bool true, .bool false, .slice A' n c', .slice (some ⟨G, 0, none⟩) n n], .int .i64 0]) (by simp [results, Try.results34, go_sem, *]) rfl ?_
          refine ⟨A', c', some ⟨G, 0, none⟩, n, List.replicate n ⟨none, 0, []⟩, by simp [stCells, begS, hn0, hnp], rfl, ?_, ?_, ?_⟩
          · rw [show (begS n).vals.length = n by simp [begS]]
            show Rd _ _ A' 2 n ((List.replicate n none2).flatMap Val.cells)
            refine rd_own (e := 50) (base := G + 2) (c := c') ?_
            repeat (with_reducible refine ownsRow_setCell_below ?_ (by simp; try omega) _)
            exact HOW.out
          · refine grid_rep (base := G) (e := 53) (c := n) ?_
            repeat (with_reducible refine ownsRow_setCell_below ?_ (by simp; try omega) _)
            exact HON.out
          · repeat (with_reducible refine bS ?_ (by simp; try omega) _)
            exact bW
  · rw [if_neg h0]
    have hb : (jobV j == 0) = false := by simpa using h0
    generalize jobV j = r at *
    clear h0
    go_enter Try.func34, Try.ntmps34
    go_wp2_with fail
    refine hc.out.mono ?_
    rintro e w1 ⟨rfl, b1⟩
    have b01 := bT b0 b1
    have hz1 : w.heap.size + 1 < w1.heap.size := by have := b1.size; simp at this; omega
    have e0 : w1.cell? ⟨w.heap.size + 1, 0, none⟩ = some (.int .i64 0) := keepb b1 (by go_simp)
    have e1 : w1.cell? ⟨w.heap.size + 1, 1, none⟩ = some (.int .i64 0) := keepb b1 (by go_simp)
    have e2 : w1.cell? ⟨w.heap.size + 1, 2, none⟩ = some (.bool false) := keepb b1 (by go_simp)
    have e3 : w1.cell? ⟨w.heap.size + 1, 3, none⟩ = some (.bool false) := keepb b1 (by go_simp)
    have e4 : w1.cell? ⟨w.heap.size + 1, 4, none⟩ = some (.slice none 0 0) := keepb b1 (by go_simp)
    have e5 : w1.cell? ⟨w.heap.size + 1, 5, none⟩ = some (.slice none 0 0) := keepb b1 (by go_simp)
    have ef : ∀ o, w1.frozen? ⟨w.heap.size + 1, o, none⟩ = false := fun o => by rw [(bcell b1).2 _ _ (by simp)]; go_simp
    clear b1 b0 r0 hc
    go_wp2_with fail
    refine bodyPost_ret (v := .tuple #[.agg #[.int .i64 0, .int .i64 0, .bool false, .bool false, .slice none 0 0, .slice none 0 0], .int .i64 r]) (by simp [results, Try.results34, go_sem, *]) rfl ?_
    refine ⟨none, 0, none, 0, [], by simp [stCells, zeroS], rfl, Rd.nil_, Led.nil, ?_⟩
    repeat (with_reducible refine bS ?_ (by simp; try omega) _)
    exact b01
theorem one_nil (x : Value) (h : x.oneCell' = true) : ∀ u ∈ (#[x] : Array Value).toList, u.oneCell' = true := by
  intro u hu; simp at hu; subst hu; exact h
def BgnRel (n G : Nat) (w1 : World) (i : Value) (wr : World) : Prop :=
  ∃ (k c c' : Nat) (A B : Option Addr), k ≤ n ∧ i = .int .i64 k ∧ wr.ownsRow (G + 1) 50 2 (.slice A k c) k ((List.replicate k none2).flatMap Val.cells) ∧ Below G w1 wr ∧ G + 1 ≤ wr.heap.size ∧
    wr.ownsRow (G + 1) 53 1 (.slice B k c') k (List.replicate k (Value.slice none 0 0)) ∧ (∀ x y, (Value.slice A k c).ownBlock = some x → (Value.slice B k c').ownBlock = some y → x ≠ y) ∧ (∀ o, wr.frozen? ⟨G, o, none⟩ = false) ∧
    wr.cell? ⟨G, 0, none⟩ = some (.int .i64 0) ∧ wr.cell? ⟨G, 1, none⟩ = some (.int .i64 0) ∧ wr.cell? ⟨G, 2, none⟩ = some (.bool (decide (0 < n))) ∧ wr.cell? ⟨G, 3, none⟩ = some (.bool (decide (n = 0))) ∧ wr.cell? ⟨G, 4, none⟩ = some (.slice A k c) ∧ wr.cell? ⟨G, 5, none⟩ = some (.slice B k c')
set_option maxRecDepth 100000 in
set_option maxHeartbeats 4000000 in
theorem begun_walk (j : Job) (w : World) (A : Option Addr) (c : Nat) (hr : Rd w w.heap.size A 3 j.graph.edges.length (j.graph.edges.flatMap Edge.cells)) (hl : j.graph.edges.length ≤ 9223372036854775807) :
    Calls Try.prog 35 #[jobVal j A c] w (RetSt w (begV j).1 (begV j).2) := by
  have b0 := bA (bA (Below.refl w.heap.size w) (.cells #[.int .i64 j.graph.n, .slice A j.graph.edges.length c, .int .i64 j.kind, .int .i64 j.source] 26)) (.cells #[.int .i64 0, .int .i64 0, .bool false, .bool false, .slice none 0 0, .slice none 0 0] 30)
  have r0 := rdb hr (by decide) b0
  have hc := hid (jobFault_walk j _ A c r0 hl)
  unfold jobVal at hc ⊢
  unfold begV
  by_cases h0 : jobV j = 0
  · rw [if_pos h0]
    rw [h0] at hc
    have hn := jobV_n h0
    clear h0
    obtain ⟨⟨n, l⟩, kind, src⟩ := j
    simp only at hn hc hr hl r0 b0 ⊢
    obtain ⟨n, rfl⟩ := Int.eq_ofNat_of_zero_le hn.1
    simp only [Int.toNat_natCast]
    go_enter Try.func35, Try.ntmps35
    go_wp2_with fail
    refine hc.out.mono ?_
    rintro e w1 ⟨rfl, b1⟩
    have b01 := bT b0 b1
    have hz1 : w.heap.size + 1 < w1.heap.size := by have := b1.size; simp at this; omega
    have hz0 : w.heap.size < w1.heap.size := by omega
    have q0 : w1.cell? ⟨w.heap.size, 0, none⟩ = some (.int .i64 n) := keepb b1 (by go_simp)
    have e0 : w1.cell? ⟨w.heap.size + 1, 0, none⟩ = some (.int .i64 0) := keepb b1 (by go_simp)
    have e1 : w1.cell? ⟨w.heap.size + 1, 1, none⟩ = some (.int .i64 0) := keepb b1 (by go_simp)
    have e2 : w1.cell? ⟨w.heap.size + 1, 2, none⟩ = some (.bool false) := keepb b1 (by go_simp)
    have e3 : w1.cell? ⟨w.heap.size + 1, 3, none⟩ = some (.bool false) := keepb b1 (by go_simp)
    have e4 : w1.cell? ⟨w.heap.size + 1, 4, none⟩ = some (.slice none 0 0) := keepb b1 (by go_simp)
    have e5 : w1.cell? ⟨w.heap.size + 1, 5, none⟩ = some (.slice none 0 0) := keepb b1 (by go_simp)
    have ef : ∀ o, w1.frozen? ⟨w.heap.size + 1, o, none⟩ = false := fun o => by rw [(bcell b1).2 _ _ (by simp)]; go_simp
    clear b1 b0 r0 hc
    have hdz : decide (n = 0) = ((n : Int) == 0) := by
      by_cases h : n = 0
      · subst h; rfl
      · have : ((n : Int) == 0) = false := by simp [h]
        rw [this]; simp [h]
    go_wp2_with fail
    go_loopw [6] (BgnRel n w1.heap.size w1) (fun i _ => n - (intOf i).toNat)
    case atStart => exact ⟨0, 0, 0, none, none, by omega, rfl, World.ownsRow_nil _ _ _ _, bA (Below.refl _ _) _, by simp, World.ownsRow_nil _ _ _ _, fun x y h => by simp [Value.ownBlock] at h, fun o => by go_simp, by go_simp, by go_simp, by go_simp, by rw [hdz]; go_simp, by go_simp, by go_simp⟩
    case round =>
      obtain ⟨k, c', d', A', B', hk, rfl, hown, hbel, hsz, oN, hsep, kf, k0, k1, k2, k3, k4, k5⟩ := hrel
      have f0 : wr.cell? ⟨w.heap.size, 0, none⟩ = some (.int .i64 n) := (hbel.cell (p := ⟨w.heap.size, 0, none⟩) hz0).trans q0
      have hGs : w1.heap.size < wr.heap.size := by omega
      by_cases hlt : k < n
      · have hltz : (k : Int) < (n : Int) := by omega
        have HR := hid (rep_snoc k none2)
        have HR2 := hid (rep_snoc k (Value.slice none 0 0))
        have hcellG : ∀ (v : World), w1.heap.size + 1 ≤ v.heap.size → ∀ (o : Obj) (w' : World), Below (w1.heap.size + 1) (v.alloc o) w' → (∀ q, w'.cell? ⟨w1.heap.size, q, none⟩ = v.cell? ⟨w1.heap.size, q, none⟩) ∧ (∀ q, w'.frozen? ⟨w1.heap.size, q, none⟩ = v.frozen? ⟨w1.heap.size, q, none⟩) ∧ w1.heap.size + 1 ≤ w'.heap.size ∧ Below (w1.heap.size + 1) v w' := fun v hv o w' h2 => by
          have h3 := ((Below.refl (w1.heap.size + 1) v).alloc hv o).trans h2
          exact ⟨fun q => h3.cell (p := ⟨w1.heap.size, q, none⟩) (by show w1.heap.size < _; omega), fun q => h3.frozen (p := ⟨w1.heap.size, q, none⟩) (by show w1.heap.size < _; omega), Nat.le_trans hv h3.size, h3⟩
        have hne0 : ∀ y, (Value.slice B' k d').ownBlock = some y → (Value.slice A' k c').ownBlock ≠ some y := fun y hy e => hsep y y e hy rfl
        go_wp2_with (first
          | (at_builtin; refine wp_app3 _ rfl rfl el_vals rfl (hown.alloc _) rfl (rd_new _ _ _ 2 1 rfl) (one2 _ _) (by omega) (Nat.le_trans hsz (by simp)) ?_; intro A2 c2 w2 hown2 hb2 hg2 hl2; obtain ⟨hcc, hff, hs3, hb3⟩ := hcellG _ hsz _ _ hb2; have g4 := (hcc 4).trans k4; have g5 := (hcc 5).trans k5; have hf4 := (hff 4).trans (kf 4); have hf5 := (hff 5).trans (kf 5); have oN2 := own_grown (oN.alloc _) hg2 hne0)
          | (at_builtin; refine wp_app3 _ rfl rfl el_grid_int rfl ((ownsRow_setCell_below oN2 (by show w1.heap.size < w1.heap.size + 1; omega) _).alloc _) rfl (rd_newAt _ _ _ 1 1 _ (by simp) rfl) (one_nil _ rfl) (by omega) (Nat.le_trans hs3 (by simp)) ?_; intro B2 d2 w3 hown3 hb4 hg3 hl3; obtain ⟨hcc3, hff3, hs4, hb5⟩ := hcellG _ (by simpa using hs3) _ _ hb4; have j5 := hcc3 5; have jf5 := hff3 5))
        have hA2 : ∀ x, (Value.slice A2 (k + 1) c2).ownBlock = some x → (Value.slice B' k d').ownBlock ≠ some x := fun x hx e => by
          rcases hl2 with h | h
          · rw [h] at hx; exact hsep x x hx e rfl
          · rw [h] at hx
            injection hx with hx
            have := (oN.lt x e).2
            simp at hx
            omega
        have hoA := own_grown ((ownsRow_setCell_below (a := ⟨w1.heap.size, 4, none⟩) hown2 (by show w1.heap.size < w1.heap.size + 1; omega) (.slice A2 (k + 1) c2)).alloc (.cells #[.slice none 0 0] 53)) hg3 (fun x hx => hA2 x hx)
        have hso : ∀ (v : World) (q r : Nat) (u : Value), q ≠ r → (v.setCell ⟨w1.heap.size, r, none⟩ u).cell? ⟨w1.heap.size, q, none⟩ = v.cell? ⟨w1.heap.size, q, none⟩ := fun v q r u h => World.cell?_setCell_other (w := v) (a := ⟨w1.heap.size, r, none⟩) (b := ⟨w1.heap.size, q, none⟩) (v := u) (by intro e; injection e with _ e; exact h e.symm)
        have hch : ∀ q, q ≠ 4 → q ≠ 5 → ∀ u, (w3.setCell ⟨w1.heap.size, 5, none⟩ u).cell? ⟨w1.heap.size, q, none⟩ = wr.cell? ⟨w1.heap.size, q, none⟩ := fun q h4 h5 u => (hso _ _ _ _ h5).trans ((hcc3 q).trans ((hso _ _ _ _ h4).trans (hcc q)))
        go_roundw
        case rel =>
          refine ⟨k + 1, c2, d2, A2, B2, by omega, by go_num, ?_, ?_, by simpa using hs4, ?_, ?_, ?_, (hch 0 (by omega) (by omega) _).trans k0, (hch 1 (by omega) (by omega) _).trans k1, (hch 2 (by omega) (by omega) _).trans k2, (hch 3 (by omega) (by omega) _).trans k3, ?_, ?_⟩
          · rw [HR.out, List.flatMap_append]
            exact ownsRow_setCell_below hoA (by show w1.heap.size < w1.heap.size + 1; omega) _
          · exact ((hbel.trans ((hb3.mono (by omega)).setCell (by show w1.heap.size ≤ w1.heap.size; omega) _)).trans (hb5.mono (by omega))).setCell (by show w1.heap.size ≤ w1.heap.size; omega) _
          · rw [HR2.out]
            exact ownsRow_setCell_below hown3 (by show w1.heap.size < w1.heap.size + 1; omega) _
          · intro x y hx hy e
            subst e
            rcases hl3 with h | h
            · rw [h] at hy; exact hA2 x hx hy
            · rw [h] at hy
              injection hy with hy
              have := (hown2.lt x hx).2
              simp at hy
              omega
          · intro o
            have h1 := hff3 o
            simp at h1 ⊢
            rw [h1, hff o]
            exact kf o
          · exact (hso _ _ _ _ (by omega)).trans ((hcc3 4).trans (World.cell?_setCell_same _ _ _ g4))
          · exact World.cell?_setCell_same _ _ _ ((hcc3 5).trans ((hso _ _ _ _ (by omega)).trans g5))
        case measure => simp [intOf]; omega
      · obtain rfl : n = k := by omega
        have hcl : ∀ o v, w1.cell? ⟨w.heap.size + 1, o, none⟩ = some v → wr.cell? ⟨w.heap.size + 1, o, none⟩ = some v := fun o v hv => (hbel.cell (p := ⟨w.heap.size + 1, o, none⟩) hz1).trans hv
        have hfl : ∀ o, wr.frozen? ⟨w.heap.size + 1, o, none⟩ = false := fun o => (hbel.frozen (p := ⟨w.heap.size + 1, o, none⟩) hz1).trans (ef o)
        have e0 := hcl _ _ e0
        have e1 := hcl _ _ e1
        have e2 := hcl _ _ e2
        have e3 := hcl _ _ e3
        have e4 := hcl _ _ e4
        have e5 := hcl _ _ e5
        have bW := b01.trans (hbel.mono (by omega))
        have hws : w.heap.size + 1 < wr.heap.size := by omega
        have HOW := hid hown
        have HON := hid oN
        clear hcl hown oN hsep
        go_wp2_with fail
        refine bodyPost_ret (v := .tuple #[.agg #[.int .i64 0, .int .i64 0, .bool (decide (0 < n)), .bool (decide (n = 0)), .slice A' n c', .slice B' n d'], .int .i64 0]) (by simp [results, Try.results35, go_sem, *]) rfl ?_
        refine ⟨A', c', B', d', List.replicate n ⟨none, 0, []⟩, by simp [stCells, begS], rfl, ?_, ?_, ?_⟩
        · rw [show (begS n).vals.length = n by simp [begS]]
          show Rd _ _ A' 2 n ((List.replicate n none2).flatMap Val.cells)
          refine rd_own (e := 50) (base := w1.heap.size + 1) (c := c') ?_
          repeat (with_reducible refine ownsRow_setCell_below ?_ (by simp; try omega) _)
          exact HOW.out
        · refine grid_rep (base := w1.heap.size + 1) (e := 53) (c := d') ?_
          repeat (with_reducible refine ownsRow_setCell_below ?_ (by simp; try omega) _)
          exact HON.out
        · repeat (with_reducible refine bS ?_ (by simp; try omega) _)
          exact bW
  · rw [if_neg h0]
    have hb : (jobV j == 0) = false := by simpa using h0
    generalize jobV j = r at *
    clear h0
    go_enter Try.func35, Try.ntmps35
    go_wp2_with fail
    refine hc.out.mono ?_
    rintro e w1 ⟨rfl, b1⟩
    have b01 := bT b0 b1
    have hz1 : w.heap.size + 1 < w1.heap.size := by have := b1.size; simp at this; omega
    have e0 : w1.cell? ⟨w.heap.size + 1, 0, none⟩ = some (.int .i64 0) := keepb b1 (by go_simp)
    have e1 : w1.cell? ⟨w.heap.size + 1, 1, none⟩ = some (.int .i64 0) := keepb b1 (by go_simp)
    have e2 : w1.cell? ⟨w.heap.size + 1, 2, none⟩ = some (.bool false) := keepb b1 (by go_simp)
    have e3 : w1.cell? ⟨w.heap.size + 1, 3, none⟩ = some (.bool false) := keepb b1 (by go_simp)
    have e4 : w1.cell? ⟨w.heap.size + 1, 4, none⟩ = some (.slice none 0 0) := keepb b1 (by go_simp)
    have e5 : w1.cell? ⟨w.heap.size + 1, 5, none⟩ = some (.slice none 0 0) := keepb b1 (by go_simp)
    have ef : ∀ o, w1.frozen? ⟨w.heap.size + 1, o, none⟩ = false := fun o => by rw [(bcell b1).2 _ _ (by simp)]; go_simp
    clear b1 b0 r0 hc
    go_wp2_with fail
    refine bodyPost_ret (v := .tuple #[.agg #[.int .i64 0, .int .i64 0, .bool false, .bool false, .slice none 0 0, .slice none 0 0], .int .i64 r]) (by simp [results, Try.results35, go_sem, *]) rfl ?_
    refine ⟨none, 0, none, 0, [], by simp [stCells, zeroS], rfl, Rd.nil_, Led.nil, ?_⟩
    repeat (with_reducible refine bS ?_ (by simp; try omega) _)
    exact b01
end Go.Proofs.Yteefemiieidpaaa
