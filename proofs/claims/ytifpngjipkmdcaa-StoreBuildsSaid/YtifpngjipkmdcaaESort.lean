/- graph.Sorted, the document's GraphSorted: slices.SortFunc by the kit's contract. -/
import Derived.Test.YtifpngjipkmdcaaEdgesR
import Derived.Test.YtifpngjipkmdcaaGraph
import Derived.Test.YtifpngjipkmdcaaSortB
import Derived.Test.YtifpngjipkmdcaaShelfE
import Derived.Test.YtifpngjipkmdcaaGraphRef
import Derived.Test.YtifpngjipkmdcaaLink
namespace Go.Proofs.Ytifpngjipkmdcaa
open Go.ChangeShapes Go.WideShapes Go.ChangeAt Go.RowKit
set_option linter.unusedVariables false
set_option linter.unusedSimpArgs false
theorem keepy {B : Nat} {W w' : World} (h : Below B W w') {p : Addr} {v : Value} (hc : W.cell? p = some v) (hp : p.block < B) : w'.cell? p = some v := (h.cell hp).trans hc
theorem keepyf {B : Nat} {W w' : World} (h : Below B W w') {p : Addr} (hc : W.frozen? p = false) (hp : p.block < B) : w'.frozen? p = false := (h.frozen hp).trans hc
instance : Inhabited Edge := ⟨⟨0, 0, 0⟩⟩
theorem ltOf_ordE : Go.Proofs.ltOf ordE = elt := by
  funext a b; exact ordE_neg a b
theorem swo_ordE : Go.Sort.SWO (Go.Proofs.ltOf ordE) := by
  rw [ltOf_ordE]
  exact ⟨elt_strict.irrefl, elt_strict.trans, fun x y z h1 h2 => elt_strict.le_trans h2 h1⟩
theorem cloneE_walk (l : List Edge) (A : Option Addr) (n c B : Nat) (w : World) (hr : Rd w B A 3 n (l.flatMap Edge.cells)) (hn : n * 24 ≤ 140737488355328) :
    Calls Try.prog 109 #[.slice A n c] w (RetS 82 3 w n (l.flatMap Edge.cells)) := by
  cases A with
  | none =>
    have h0 : n = 0 := by
      rcases Nat.eq_zero_or_pos n with h | h
      · exact h
      · obtain ⟨b, off, e, _⟩ := hr.2 h; cases e
    subst h0
    have hl := hr.1
    have hx : l.flatMap Edge.cells = [] := List.eq_nil_of_length_eq_zero (by simpa using hl)
    rw [hx]
    clear hx hl hr
    have hnil := fun w => Lib.run_eql_slice_nil (P := Try.prog) w 22 82 none 0 c 0 0 Try.underlying22
    go_enter Try.func109, Try.ntmps109
    go_wp2
    go_ret
    exact ⟨none, 0, rfl, World.ownsRow_nil _ _ _ _, Below.refl _ _⟩
  | some a =>
    have hnil := fun w => Lib.run_eql_slice_nil (P := Try.prog) w 22 82 (some a) n c 0 0 Try.underlying22
    have r0 := (hr.any (by decide)).alloc (Nat.le_refl _) (.cells #[] 82)
    have o0 : (w.alloc (.cells #[] 82)).ownsRow w.heap.size 82 3 (.slice (some ⟨w.heap.size, 0, none⟩) 0 0) 0 [] := World.ownsRow_lit w #[] 0 (Nat.le_refl _) (by simp [maxLen]) rfl
    go_enter Try.func109, Try.ntmps109
    go_wp2_with (at_builtin; refine wp_app1 _ rfl rfl el_edges rfl o0 rfl r0 (one_Edge l) (by omega) (by simp) ?_; intro A' c' w1 hown1 hb1 hg1)
    go_ret
    rw [Nat.zero_add] at hown1
    exact ⟨A', c', by rw [← Nat.zero_add n]; rfl, hown1, (bA (Below.refl _ _) _).trans hb1⟩
theorem cmpLaysE (blk off size : Nat) (w : World) : Go.Proofs.CmpLays Try.prog 111 #[] Edge.cells 3 ordE blk off size w :=
  fun _ _ _ _ x y => (order_walkE x y _).mono fun _ _ ⟨he, hb, hd⟩ => ⟨he, below_grow hb hd⟩
theorem sortFuncE_own (l : List Edge) (w : World) (base c g : Nat) (h : w.ownsRow base 82 3 (.slice (some ⟨g, 0, none⟩) l.length c) l.length (l.flatMap Edge.cells)) (hbase : base ≤ w.heap.size) (hl : l.length < 4611686018427387904) :
    Calls Try.prog 110 #[.slice (some ⟨g, 0, none⟩) l.length c, .func (.func 111) #[] #[]] w fun e w' => e = .returned (.tuple #[]) ∧ w'.ownsRow base 82 3 (.slice (some ⟨g, 0, none⟩) l.length c) l.length ((srtOf elt l).flatMap Edge.cells) ∧ Below base w w' := by
  have hk : ∀ x : Edge, (Edge.cells x).length = 3 := fun _ => rfl
  have hcon := Go.Proofs.AnyQ.slices_SortFunc Try.sortEdge 3 Try.isAgg82 Try.sizeOf82 Edge.cells hk (fun x v hv => by simp [Edge.cells] at hv; rcases hv with rfl | rfl | rfl <;> rfl) ordE swo_ordE 111 #[] g 0 c l.toArray w Try.call111 (cmpLaysE g 0 l.toArray.size w) (holds_own hk h) (h.lt g rfl).2 (by simpa using hl)
  simp only [List.size_toArray] at hcon
  refine Calls.mono hcon ?_
  rintro e w' ⟨rfl, d, n, os, hp, hs, rfl⟩
  obtain ⟨h1, h2⟩ := sort_own elt_strict ltOf_ordE hk h hbase hp hs n os
  exact ⟨rfl, h1, h2⟩
theorem insE_nil (w : World) : Calls Try.prog 126 #[.slice none 0 0, .int .i64 0, .int .i64 0, .func (.func 111) #[] #[]] w fun e w' => e = .returned (.tuple #[]) ∧ w = w' := by
  go_enter Try.func126, Try.ntmps126
  go_wp2_with fail
  go_loopw [8] (fun i wr => i = .int .i64 1 ∧ w = wr) (fun _ _ => 0)
  case atStart => exact ⟨rfl, rfl⟩
  case round =>
    obtain ⟨rfl, rfl⟩ := hrel
    go_wp2_with fail
    go_end0
    exact ⟨rfl, rfl⟩
theorem pdqE_nil (n : Int) (w : World) : Calls Try.prog 115 #[.slice none 0 0, .int .i64 0, .int .i64 0, .int .i64 n, .func (.func 111) #[] #[]] w fun e w' => e = .returned (.tuple #[]) ∧ w = w' := by
  go_enter Try.func115, Try.ntmps115
  go_wp2_with fail
  go_loopw [1, 2] (fun a b wr => a = .int .i64 0 ∧ b = .int .i64 0 ∧ w = wr) (fun _ _ _ => 0)
  case atStart => exact ⟨rfl, rfl, rfl⟩
  case round =>
    obtain ⟨rfl, rfl, rfl⟩ := hrel
    go_wp2_with fail
    refine (insE_nil _).mono ?_
    rintro e w1 ⟨rfl, rfl⟩
    go_wp2_with fail
    exact bodyPost_ret (results_none rfl _ _ _) rfl ⟨rfl, rfl⟩
theorem sortFuncE_nil (w : World) : Calls Try.prog 110 #[.slice none 0 0, .func (.func 111) #[] #[]] w fun e w' => e = .returned (.tuple #[]) ∧ w = w' := by
  have hl := hid (fun W : World => Go.Proofs.Any.bits_Len (Go.Proofs.SlLaysF0.n15.bits (P := Try.prog) (ρ := Try.sortEdge_ren) { Try.sortEdge with }) 0 W (by omega) (by omega))
  go_enter Try.func110, Try.ntmps110
  go_wp2_with fail
  refine (hl.out _).mono ?_
  rintro e w1 ⟨rfl, rfl⟩
  go_wp2_with fail
  refine (pdqE_nil _ _).mono ?_
  rintro e w1 ⟨rfl, rfl⟩
  go_wp2_with fail
  go_end0
  exact ⟨rfl, rfl⟩
/-- Sorted where it lies. -/
theorem sortFuncE_walk (l : List Edge) (w : World) (base c : Nat) (A : Option Addr) (h : w.ownsRow base 82 3 (.slice A l.length c) l.length (l.flatMap Edge.cells)) (hbase : base ≤ w.heap.size) (hl : l.length < 4611686018427387904) :
    Calls Try.prog 110 #[.slice A l.length c, .func (.func 111) #[] #[]] w fun e w' => e = .returned (.tuple #[]) ∧ w'.ownsRow base 82 3 (.slice A l.length c) l.length ((srtOf elt l).flatMap Edge.cells) ∧ Below base w w' := by
  rcases h.2 with ⟨hv, h0⟩ | ⟨g, cap, cur, hv, r⟩
  · injection hv with e1 e2 e3
    subst e1 e3
    have hl0 : l = [] := List.length_eq_zero_iff.1 h0
    subst hl0
    refine Calls.mono (sortFuncE_nil w) ?_
    rintro e w' ⟨rfl, rfl⟩
    have e0 : srtOf elt ([] : List Edge) = [] := List.length_eq_zero_iff.1 (by rw [srtOf_len]; rfl)
    exact ⟨rfl, by rw [e0]; exact h, Below.refl _ _⟩
  · injection hv with e1 e2 e3
    subst e1
    exact sortFuncE_own l w base c g h hbase hl
def zeroG : Graph := ⟨0, []⟩
noncomputable def sortedV (g : Graph) : Graph × Int := if graphV g ≠ 0 then (zeroG, graphV g) else (⟨g.n, srtOf elt g.edges⟩, 0)
theorem sortedV_bad {g : Graph} (h : graphV g ≠ 0) : sortedV g = (zeroG, graphV g) := by unfold sortedV; rw [if_pos h]
theorem sortedV_ok {g : Graph} (h : graphV g = 0) : sortedV g = (⟨g.n, srtOf elt g.edges⟩, 0) := by unfold sortedV; rw [if_neg (by simpa using h)]
/-- A graph and an error number come back; the edges are new memory. -/
def RetG (w : World) (g : Graph) (err : Int) (e : Ending) (w' : World) : Prop :=
  ∃ A c, e = .returned (.tuple #[.agg #[.int .i64 g.n, .slice A g.edges.length c], .int .i64 err]) ∧ w'.ownsRow w.heap.size 82 3 (.slice A g.edges.length c) g.edges.length (g.edges.flatMap Edge.cells) ∧ Below w.heap.size w w'
theorem retG_bad (w w' : World) (err : Int) (b : Below w.heap.size w w') : RetG w zeroG err (.returned (.tuple #[.agg #[.int .i64 0, .slice none 0 0], .int .i64 err])) w' := ⟨none, 0, rfl, World.ownsRow_nil _ _ _ _, b⟩
set_option maxRecDepth 100000 in
set_option maxHeartbeats 4000000 in
theorem sorted_walk (g : Graph) (w : World) (A : Option Addr) (c : Nat) (hr : Rd w w.heap.size A 3 g.edges.length (g.edges.flatMap Edge.cells)) (hl : g.edges.length * 24 ≤ 140737488355328) :
    Calls Try.prog 97 #[.agg #[.int .i64 g.n, .slice A g.edges.length c]] w (RetG w (sortedV g).1 (sortedV g).2) := by
  have b0 := bA (bA (Below.refl w.heap.size w) (.cells #[.int .i64 g.n, .slice A g.edges.length c] 24)) (.cells #[.int .i64 0, .slice none 0 0] 24)
  have hc := hid (check_walk g _ A c (rdb hr (by decide) b0) (by omega))
  by_cases h0 : graphV g = 0
  · rw [h0] at hc
    have HRV := hid (sortedV_ok h0)
    have HSL := hid (srtOf_len (lt := elt) g.edges)
    clear h0
    go_enter Try.func97, Try.ntmps97
    go_wp2_with fail
    refine hc.out.mono ?_
    rintro e w1 ⟨rfl, b1⟩
    have b01 := bT b0 b1
    have hz1 : w.heap.size + 2 ≤ w1.heap.size := by have := b1.size; simpa using this
    have q0 : w1.cell? ⟨w.heap.size, 0, none⟩ = some (.int .i64 g.n) := keepb b1 (by go_simp)
    have q1 : w1.cell? ⟨w.heap.size, 1, none⟩ = some (.slice A g.edges.length c) := keepb b1 (by go_simp)
    have z0 : w1.cell? ⟨w.heap.size + 1, 0, none⟩ = some (.int .i64 0) := keepb b1 (by go_simp)
    have z1 : w1.cell? ⟨w.heap.size + 1, 1, none⟩ = some (.slice none 0 0) := keepb b1 (by go_simp)
    have zf : ∀ o, w1.frozen? ⟨w.heap.size + 1, o, none⟩ = false := fun o => keepf b1 (by go_simp) (by simp)
    go_wp2_with fail
    refine (cloneE_walk g.edges A g.edges.length c w1.heap.size w1 (rdb hr (by decide) b01) hl).mono ?_
    rintro e w2 ⟨A2, c2, rfl, o2, b2⟩
    have HSF := hid (sortFuncE_walk g.edges w2 w1.heap.size c2 A2 o2 b2.size (by omega))
    have q0 := keepb b2 q0
    have z0 := keepb b2 z0
    have z1 := keepb b2 z1
    have zf : ∀ o, w2.frozen? ⟨w.heap.size + 1, o, none⟩ = false := fun o => keepf b2 (zf o) (by show w.heap.size + 1 < _; omega)
    clear o2
    go_wp2_with fail
    refine HSF.out.mono ?_
    rintro e w3 ⟨rfl, o3, b3⟩
    have q0 := keepy b3 q0 (by show w.heap.size < _; omega)
    have z0 := keepy b3 z0 (by show w.heap.size + 1 < _; omega)
    have z1 := keepy b3 z1 (by show w.heap.size + 1 < _; omega)
    have zf : ∀ o, w3.frozen? ⟨w.heap.size + 1, o, none⟩ = false := fun o => keepyf b3 (zf o) (by show w.heap.size + 1 < _; omega)
    have HO := hid o3
    have b13 := b2.trans b3
    have hz3 := b13.size
    have hws : w.heap.size + 1 < w3.heap.size := by omega
    have hws0 : w.heap.size < w3.heap.size := by omega
    clear o3
    go_wp2_with fail
    refine bodyPost_ret (v := .tuple #[.agg #[.int .i64 g.n, .slice A2 g.edges.length c2], .int .i64 0]) (by simp [results, Try.results97, go_sem, *]) rfl ?_
    rw [HRV.out]
    refine ⟨A2, c2, by show _ = Ending.returned (.tuple #[.agg #[_, .slice A2 (srtOf elt g.edges).length c2], _]); rw [HSL.out], ?_, ?_⟩
    · show World.ownsRow _ _ _ _ (.slice A2 (srtOf elt g.edges).length c2) (srtOf elt g.edges).length _
      rw [HSL.out]
      refine own_more (base := w1.heap.size) ?_ b01.size
      repeat (with_reducible refine ownsRow_setCell_below ?_ (by simp; try omega) _)
      exact HO.out
    · repeat (with_reducible refine bS ?_ (by simp; try omega) _)
      exact bT b01 b13
  · have HRV := hid (sortedV_bad h0)
    have hb : (graphV g != 0) = true := by simpa using h0
    generalize graphV g = r at *
    clear h0
    go_enter Try.func97, Try.ntmps97
    go_wp2_with fail
    refine hc.out.mono ?_
    rintro e w1 ⟨rfl, b1⟩
    have z0 : w1.cell? ⟨w.heap.size + 1, 0, none⟩ = some (.int .i64 0) := keepb b1 (by go_simp)
    have z1 : w1.cell? ⟨w.heap.size + 1, 1, none⟩ = some (.slice none 0 0) := keepb b1 (by go_simp)
    have zf : ∀ o, w1.frozen? ⟨w.heap.size + 1, o, none⟩ = false := fun o => keepf b1 (by go_simp) (by simp)
    go_wp2_with fail
    refine bodyPost_ret (v := .tuple #[.agg #[.int .i64 0, .slice none 0 0], .int .i64 r]) (by simp [results, Try.results97, go_sem, *]) rfl ?_
    rw [HRV.out]
    refine retG_bad _ _ _ ?_
    repeat (with_reducible refine bS ?_ (by simp; try omega) _)
    exact bT b0 b1
end Go.Proofs.Ytifpngjipkmdcaa
