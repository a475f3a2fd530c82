/- play.Read. -/
import Derived.Test.YtfdaheenigmkmaaDoorMovX
import Derived.Test.YtfdaheenigmkmaaDoorIterL
import Derived.Maps.OwnIn
namespace Go.Proofs.YtfdaheenigmkmaaDoor
open Go.RowKit Go.ChangeShapes Go.WideShapes Go.ChangeAt Go.Shelf
set_option linter.unusedVariables false
set_option linter.unusedSimpArgs false
attribute [local go_sem] Oper.semAt_some
theorem keeps_grown {w w' : World} {base : Nat} {e : TypeId} {sz n c : Nat} {A : Option Addr} {xs : List Value} (hown : w.ownsRow base e sz (.slice A n c) n xs) (h : w.grownBy w' (Value.slice A n c).ownBlock) : KeepsOthers w w' := by
  refine ⟨h.size, fun k o hk ho => (h.block k (Array.getElem?_eq_some_iff.1 hk).1 fun hh => ?_).trans hk⟩
  rcases hown.2 with h0 | ⟨g, cap, cur, h1, h2, h3, _⟩
  · rw [h0.1] at hh; cases hh
  · rw [h1] at hh
    have : k = g := Option.some.inj hh
    subst this
    rw [h3] at hk
    injection hk with hk; subst hk; cases ho
theorem wpIn_app {F : Fence} {nF : Nat} {P : Program} (w : World) {ops : Array Oper} {rest : List Oper} {o : Oper} {a : Act} {Q : Exit → Act → World → Prop} (hgd : o.guard = none) {s x : Operand} {t : TypeId}
    (ho : o.op = .call { callee := .builtin .append, args := #[s, x], argTypes := #[t, t] }) {e : TypeId} {sz bs base : Nat} (he : ElemTy P t e sz bs)
    {A0 : Option Addr} {c0 n : Nat} {xs : List Value} (hs : a.eval s = .slice A0 n c0) (hown : w.ownsRow base e sz (.slice A0 n c0) n xs)
    {B : Nat} {A : Option Addr} {m c : Nat} {news : List Value} (hx : a.eval x = .slice A m c) (hr : Rd w B A sz m news) (h1 : ∀ u ∈ news, u.oneCell' = true) (hb : (n + m) * bs ≤ 140737488355328) (hbase : base ≤ w.heap.size)
    (h : ∀ A' c' w', w'.ownsRow base e sz (.slice A' (n + m) c') (n + m) (xs ++ news) → Below base w w' → KeepsOthers w w' → wpListIn F nF P ops Q rest (a.put o.dst (.slice A' (n + m) c')) w') : wpListIn F nF P ops Q (o :: rest) a w := by
  refine wpListIn_plain hgd fun K hK => ?_
  obtain ⟨v', w', hrun, h2, h3, h4⟩ := run_app w (ty := o.type) (c := c) he hown hr h1 hb hbase
  obtain ⟨A', c', rfl⟩ := own_slice h2
  unfold Oper.wpIn
  refine ⟨by simp [Oper.about, ho, resolve, Target.leads, Sem.run_pure], ?_⟩
  rw [Oper.semAt_plain F _ _ (by rw [ho]; intro c hc'; cases hc')]
  simp [execOp, ho, resolve, invoke, builtin, hs, hx, hrun, Result.andThen]
  exact hK _ _ (h A' c' w' h2 ((Below.refl _ _).grown h3 hbase (fun k hk => (hown.lt k hk).1)) (keeps_grown hown h3))
theorem keeps_below {W W' : World} (h : Below W.heap.size W W') : KeepsOthers W W' := ⟨h.size, fun k o hk _ => (h.block k (Array.getElem?_eq_some_iff.1 hk).1).trans hk⟩
theorem box_below {bx : Nat} {W W' : World} (h : Below W.heap.size W W') (hb : bx < W.heap.size) : SameBox bx W W' := by
  have e := h.block bx hb
  exact ⟨by unfold World.cell?; simp only [e], by unfold World.frozen?; simp only [e]⟩
/-- What the loop keeps: three cells of the call's own, the list that grows. -/
structure PR (w : World) (e22 e23 em : TypeId) (pre : List (List UInt8)) (W : World) : Prop where
  res : W.heap[w.heap.size]? = some (.cells #[.slice none 0 0] e22 (0, 0))
  err : W.heap[w.heap.size + 1]? = some (.cells #[.int .i64 0] e23 (0, 0))
  ok : ∀ x ∈ pre, lineOk x
  list : ∃ A c, W.heap[w.heap.size + 1 + 1]? = some (.cells #[.slice A pre.length c] e22 (0, 0)) ∧ W.ownsRow (w.heap.size + 4) em 3 (.slice A pre.length c) pre.length ((pre.map moveOfL).flatMap Move.cells)
  bel : Below w.heap.size w W
  sz : w.heap.size + 4 ≤ W.heap.size
theorem own_other {W : World} {base : Nat} {e : TypeId} {sz n b o c : Nat} {A : Option Addr} {xs : List Value} (h : W.ownsRow base e sz (.slice A n c) n xs) (hb : b < base) (v : Value) : (W.setCell ⟨b, o, none⟩ v).ownsRow base e sz (.slice A n c) n xs := by
  refine ⟨h.1, ?_⟩
  rcases h.2 with h0 | ⟨g, cap, cur, h1, h2, h3, r⟩
  · exact .inl h0
  · refine .inr ⟨g, cap, cur, h1, h2, ?_, r⟩
    simp only [World.setCell, Array.getElem?_modify]
    rw [if_neg (by omega)]
    exact h3
theorem heap_setO {W : World} {b o k : Nat} (v : Value) (h : k ≠ b) : (W.setCell ⟨b, o, none⟩ v).heap[k]? = W.heap[k]? := by
  simp only [World.setCell, Array.getElem?_modify]
  rw [if_neg (fun e => h e.symm)]
section
variable {w : World} {e22 e23 em : TypeId} {pre : List (List UInt8)} {W V : World}
theorem PR.cell_ (h : PR w e22 e23 em pre W) (v : Value) : PR w e22 e23 em pre (W.setCell ⟨w.heap.size + 1 + 1 + 1, 0, none⟩ v) := by
  obtain ⟨A, c, h1, h2⟩ := h.list
  exact ⟨(heap_setO v (by omega)).trans h.res, (heap_setO v (by omega)).trans h.err, h.ok, ⟨A, c, (heap_setO v (by omega)).trans h1, own_other h2 (by omega) v⟩, bS h.bel (show w.heap.size ≤ w.heap.size + 1 + 1 + 1 by omega) v, by simpa using h.sz⟩
theorem PR.put_ (h : PR w e22 e23 em pre W) {l : Nat} {o : Obj} (o' : Obj) (hl : w.heap.size + 4 ≤ l) (ho : W.heap[l]? = some o) (hc : o.isCells = false) : PR w e22 e23 em pre (W.putObj l o') := by
  obtain ⟨A, c, h1, h2⟩ := h.list
  have hp : ∀ k, k < w.heap.size + 4 → (W.putObj l o').heap[k]? = W.heap[k]? := fun k hk => World.putObj_heap_other (by omega)
  exact ⟨(hp _ (by omega)).trans h.res, (hp _ (by omega)).trans h.err, h.ok, ⟨A, c, (hp _ (by omega)).trans h1, ownsRow_putObj h2 o' ho hc⟩, h.bel.trans ⟨rfl, rfl, rfl, by rw [putObj_size]; exact Nat.le_refl _, fun k hk => hp k (by omega)⟩, by rw [putObj_size]; exact h.sz⟩
theorem PR.below (h : PR w e22 e23 em pre W) (hb : Below W.heap.size W V) : PR w e22 e23 em pre V := by
  obtain ⟨A, c, h1, h2⟩ := h.list
  have hp : ∀ {k : Nat} {o : Obj}, W.heap[k]? = some o → V.heap[k]? = some o := fun h => (hb.block _ (Array.getElem?_eq_some_iff.1 h).1).trans h
  exact ⟨hp h.res, hp h.err, h.ok, ⟨A, c, hp h1, own_below h2 hb (Nat.le_refl _)⟩, bT h.bel hb, Nat.le_trans h.sz hb.size⟩
theorem PR.stb (s : List (List UInt8)) : Stb (w.heap.size + 1 + 1 + 1) (w.heap.size + 4) (PR w e22 e23 em s) :=
  { cell := fun W v h => h.cell_ v
    put := fun W l o o' h hl ho hc => h.put_ o' hl ho hc
    new := fun W o h => h.below ((Below.refl _ _).alloc (Nat.le_refl _) o)
    draw := fun W k h => h.below (bN (Below.refl _ _) k) }
/-- A round has found a line that is none. -/
structure PX (w : World) (e22 e23 : TypeId) (xs : List (List UInt8)) (W : World) : Prop where
  res : W.heap[w.heap.size]? = some (.cells #[.slice none 0 0] e22 (0, 0))
  err : W.heap[w.heap.size + 1]? = some (.cells #[.int .i64 3] e23 (0, 0))
  bad : ∃ x ∈ xs, ¬ lineOk x
  bel : Below w.heap.size w W
theorem PX.stb (xs : List (List UInt8)) : Stb (w.heap.size + 1 + 1 + 1) (w.heap.size + 4) (PX w e22 e23 xs) :=
  { cell := fun W v h => ⟨(heap_setO v (by omega)).trans h.res, (heap_setO v (by omega)).trans h.err, h.bad, bS h.bel (show w.heap.size ≤ w.heap.size + 1 + 1 + 1 by omega) v⟩
    put := fun W l o o' h hl ho hc => by
      have hp : ∀ k, k < w.heap.size + 4 → (W.putObj l o').heap[k]? = W.heap[k]? := fun k hk => World.putObj_heap_other (by omega)
      exact ⟨(hp _ (by omega)).trans h.res, (hp _ (by omega)).trans h.err, h.bad, h.bel.trans ⟨rfl, rfl, rfl, by rw [putObj_size]; exact Nat.le_refl _, fun k hk => hp k (by omega)⟩⟩
    new := fun W o h => by
      have hb : Below W.heap.size W (W.alloc o) := (Below.refl _ _).alloc (Nat.le_refl _) o
      exact ⟨(hb.block _ (Array.getElem?_eq_some_iff.1 h.res).1).trans h.res, (hb.block _ (Array.getElem?_eq_some_iff.1 h.err).1).trans h.err, h.bad, bT h.bel hb⟩
    draw := fun W k h => ⟨h.res, h.err, h.bad, bT h.bel (bN (Below.refl _ _) k)⟩ }
end
theorem PR.grow {w : World} {e22 e23 em : TypeId} {pre : List (List UInt8)} {V V' : World} {x : List UInt8} {A' : Option Addr} {c' : Nat} (h : PR w e22 e23 em pre V) (hx : lineOk x) (hb : Below (w.heap.size + 4) V V')
    (ho : V'.ownsRow (w.heap.size + 4) em 3 (.slice A' (pre.length + 1) c') (pre.length + 1) ((pre.map moveOfL).flatMap Move.cells ++ (moveOfL x).cells)) : PR w e22 e23 em (pre ++ [x]) (V'.setCell ⟨w.heap.size + 1 + 1, 0, none⟩ (.slice A' (pre.length + 1) c')) := by
  obtain ⟨A, c, h1, h2⟩ := h.list
  have hp : ∀ {k : Nat} {o : Obj}, k < w.heap.size + 4 → V.heap[k]? = some o → V'.heap[k]? = some o := fun hk h => (hb.block _ hk).trans h
  refine ⟨(heap_setO _ (by omega)).trans (hp (by omega) h.res), (heap_setO _ (by omega)).trans (hp (by omega) h.err), fun y hy => ?_, ⟨A', c', ?_, ?_⟩, bS (h.bel.trans (hb.mono (by omega))) (by simp; omega) _, by simpa using Nat.le_trans h.sz hb.size⟩
  · rcases List.mem_append.1 hy with hy | hy
    · exact h.ok y hy
    · rw [List.mem_singleton.1 hy]; exact hx
  · rw [List.length_append, List.length_singleton, Go.Joins.block_setCell (hp (by omega) h1)]; rfl
  · rw [List.length_append, List.length_singleton, List.map_append, List.flatMap_append, List.map_singleton, List.flatMap_singleton]
    exact own_other ho (by omega) _
theorem put_cell {V : World} {D k : Nat} (o : Obj) (h : k ≠ D) (i : Nat) : (V.putObj D o).cell? ⟨k, i, none⟩ = V.cell? ⟨k, i, none⟩ := by
  have e : (V.putObj D o).heap[k]? = V.heap[k]? := World.putObj_heap_other (by omega)
  unfold World.cell?; simp only [e]
theorem fin_cells {w : World} {e22 e23 : TypeId} {W : World} {D : Nat} {a0 b0 : Value} (h1 : W.heap[w.heap.size]? = some (.cells #[a0] e22 (0, 0))) (h2 : W.heap[w.heap.size + 1]? = some (.cells #[b0] e23 (0, 0))) (hb : Below w.heap.size w W) (hD : w.heap.size + 4 ≤ D)
    (hK : W.heap[D]? = some (.deferred (some []))) (v2 v3 : Value) :
    ((W.setCell ⟨w.heap.size, 0, none⟩ v2).setCell ⟨w.heap.size + 1, 0, none⟩ v3).heap[D]? = some (.deferred (some [])) ∧
    (((W.setCell ⟨w.heap.size, 0, none⟩ v2).setCell ⟨w.heap.size + 1, 0, none⟩ v3).putObj D (.deferred none)).cell? ⟨w.heap.size, 0, none⟩ = some v2 ∧
    (((W.setCell ⟨w.heap.size, 0, none⟩ v2).setCell ⟨w.heap.size + 1, 0, none⟩ v3).putObj D (.deferred none)).cell? ⟨w.heap.size + 1, 0, none⟩ = some v3 ∧
    Below w.heap.size w (((W.setCell ⟨w.heap.size, 0, none⟩ v2).setCell ⟨w.heap.size + 1, 0, none⟩ v3).putObj D (.deferred none)) := by
  refine ⟨(heap_setO _ (by omega)).trans ((heap_setO _ (by omega)).trans hK), ?_, ?_, ?_⟩
  · rw [put_cell _ (by omega), Go.Joins.cell_of_block ((heap_setO _ (by omega)).trans (Go.Joins.block_setCell h1 _))]; rfl
  · rw [put_cell _ (by omega), Go.Joins.cell_of_block (Go.Joins.block_setCell ((heap_setO _ (by omega)).trans h2) _)]; rfl
  · have h4 : Below w.heap.size w ((W.setCell ⟨w.heap.size, 0, none⟩ v2).setCell ⟨w.heap.size + 1, 0, none⟩ v3) := bS (bS hb (Nat.le_refl _) _) (by simp) _
    exact h4.trans ⟨rfl, rfl, rfl, by rw [putObj_size]; exact Nat.le_refl _, fun k hk => World.putObj_heap_other (by omega)⟩
theorem fin_own {w : World} {em : TypeId} {W : World} {D n c : Nat} {A : Option Addr} {xs : List Value} (h : W.ownsRow (w.heap.size + 4) em 3 (.slice A n c) n xs) (hK : W.heap[D]? = some (.deferred (some []))) (hD : w.heap.size + 4 ≤ D) (v2 v3 : Value) :
    (((W.setCell ⟨w.heap.size, 0, none⟩ v2).setCell ⟨w.heap.size + 1, 0, none⟩ v3).putObj D (.deferred none)).ownsRow (w.heap.size + 4) em 3 (.slice A n c) n xs :=
  ownsRow_putObj (own_other (own_other h (by omega) v2) (by omega) v3) _ ((heap_setO _ (by omega)).trans ((heap_setO _ (by omega)).trans hK)) rfl
set_option maxRecDepth 100000 in
set_option maxHeartbeats 4000000 in
theorem read_walkP (s : ByteArray) (w : World) (hf : FormsAt w) (hp : PowAt w) (he : ErrsAt w) :
    Calls Tryd.prog 5 #[.string s] w fun e w' => (∃ A c, e = .returned (.tuple #[.slice A (readV s.data.toList).1.length c, .int .i64 (readV s.data.toList).2]) ∧ Rd w' w'.heap.size A 3 (readV s.data.toList).1.length ((readV s.data.toList).1.flatMap Move.cells)) ∧ Below w.heap.size w w' := by
  have hss : s.data.toList.length = s.size := by rw [Array.length_toList]; rfl
  by_cases hbig : 5000000 < s.size
  · have hbz : (5000000 : Int) < (s.size : Int) := by omega
    have HV := hid (show readV s.data.toList = ([], 1) by unfold readV; rw [if_pos (by omega)])
    clear hbig hss
    go_enter Tryd.func5, Tryd.ntmps5
    go_wp2_with fail
    refine bodyPost_ret (v := .tuple #[.slice none 0 0, .int .i64 1]) (by simp [results, Tryd.results5, go_sem, *]) rfl ?_
    exact ⟨⟨none, 0, by rw [HV.out]; rfl, by rw [HV.out]; exact Rd.nil_⟩, bA (bA (Below.refl _ _) _) _⟩
  · have hbz : ¬ (5000000 : Int) < (s.size : Int) := by omega
    have HLC := hid (fun V => lines_calls s V)
    refine (callsIn_wide (n := 6)).1 ?_
    refine callsIn_of_wp_marks Tryd.func5 rfl trivial ?_ rfl
    simp only [Tryd.ntmps5, List.size_toArray, List.length_cons, List.length_nil, Nat.reduceAdd, Nat.reduceSub, Array.replicate_succ, Array.replicate_zero, List.push_toArray, List.append_toArray, List.nil_append, List.cons_append]
    gi_wp2_with (refine ⟨trivial, ?_⟩; gi_at_call 11; refine (callsIn_wide.2 (HLC.out _)).mono ?_; rintro e w' ⟨rfl, hw⟩; rw [hw])
    obtain ⟨W0, hW0⟩ : ∃ W0, W0 = ((((w.alloc (.cells #[.slice none 0 0] 22)).alloc (.cells #[.int .i64 0] 23)).alloc (.cells #[.slice none 0 0] 22)).alloc (.cells #[.string s] 9)) := ⟨_, rfl⟩
    rw [← hW0]
    have hsz0 : W0.heap.size = w.heap.size + 4 := by rw [hW0]; simp
    have hB0 : Below w.heap.size w W0 := by rw [hW0]; exact bA (bA (bA (bA (Below.refl _ _) _) _) _) _
    have hP0 : PR w 22 23 38 [] W0 := by
      refine ⟨?_, ?_, (fun x hx => by cases hx), ⟨none, 0, ?_, World.ownsRow_nil _ _ _ _⟩, hB0, by omega⟩
      · rw [hW0]; exact (Below.heap_alloc _ _ _ (by simp; omega)).trans ((Below.heap_alloc _ _ _ (by simp; omega)).trans ((Below.heap_alloc _ _ _ (by simp)).trans (heap_alloc_new w _)))
      · rw [hW0]; exact (Below.heap_alloc _ _ _ (by simp)).trans ((Below.heap_alloc _ _ _ (by simp)).trans (by have := heap_alloc_new (w.alloc (.cells #[.slice none 0 0] 22)) (.cells #[.int .i64 0] 23); simpa using this))
      · rw [hW0]; exact (Below.heap_alloc _ _ _ (by simp)).trans (by have := heap_alloc_new ((w.alloc (.cells #[.slice none 0 0] 22)).alloc (.cells #[.int .i64 0] 23)) (.cells #[.slice none 0 0] 22); simpa using this)
    have hbh : W0.heap[w.heap.size + 1 + 1 + 1]? = some (.cells #[.string s] 9 (0, 0)) := by
      rw [hW0]; have := heap_alloc_new (((w.alloc (.cells #[.slice none 0 0] 22)).alloc (.cells #[.int .i64 0] 23)).alloc (.cells #[.slice none 0 0] 22)) (.cells #[.string s] 9); simpa using this
    have hbc : W0.cell? ⟨w.heap.size + 1 + 1 + 1, 0, none⟩ = some (.string ⟨s.data.toList.toArray⟩) := by rw [Go.Joins.cell_of_block hbh, ← bytesOf s]; rfl
    have hbf : W0.frozen? ⟨w.heap.size + 1 + 1 + 1, 0, none⟩ = false := Go.Joins.unfrozen_of_block hbh 0
    clear hW0
    refine iter_law (xs := linesL s.data.toList) (enc := fun l : List UInt8 => .string ⟨l.toArray⟩) (by decide) rfl (enters_of Tryd.func19 (by kernel_rfl) rfl) (by omega) hbc hbf (lines_iter 5 (by decide) _ _ (by omega))
      (PR w 22 23 38) (PX w 22 23 (linesL s.data.toList)) (by rw [hsz0]; exact PR.stb) (by rw [hsz0]; exact PX.stb _) hP0
      (fun x => { tmps := #[.string s, undef, .pointer (some ⟨w.heap.size, 0, none⟩), .pointer (some ⟨w.heap.size + 1, 0, none⟩), .pointer (some ⟨w.heap.size + 1 + 1, 0, none⟩), .string ⟨x.toArray⟩, undef, undef, undef, .string s, .int .i64 s.size, .bool false, .string s, .func (.func 19) #[] #[.pointer (some ⟨w.heap.size + 1 + 1 + 1, 0, none⟩)], .string ⟨x.toArray⟩, undef, undef, undef, undef, undef, undef, undef, undef, undef, undef, undef, undef, undef, undef, undef, undef, undef, undef, undef, undef, undef, undef], defers := [] }) ?assign ?body ?done ?stop
    case assign =>
      intro l x W K hK
      gi_wp2
      exact hK
    case body =>
      rintro l pre x W hP hpre
      have hb3 := hP.bel
      have hxl : x ∈ linesL s.data.toList := hpre.subset (by simp)
      have hxs : x.length ≤ 5000000 := by have := (linesL_size s.data.toList).2 x hxl; omega
      have hpl : pre.length + 1 ≤ 5000000 := by
        have h1 := hpre.length_le
        have h2 := (linesL_size s.data.toList).1
        rw [List.length_append, List.length_singleton] at h1; omega
      obtain ⟨m, hm⟩ : ∃ m, m = moveOfL x := ⟨_, rfl⟩
      obtain ⟨LE, hLE⟩ : ∃ z, z = lineV m := ⟨_, rfl⟩
      obtain ⟨L, E⟩ := LE
      have hok : lineOk x ↔ (L, E) = ((⟨x.toArray⟩ : ByteArray), (0 : Int)) := by rw [hLE, hm]; exact Iff.rfl
      have HMV := hid (show Calls Tryd.prog 12 #[.string ⟨x.toArray⟩] W fun e w' => e = .returned (.agg #[.int .i64 m.kind, .int .i64 m.at_, .int .i64 m.keep]) ∧ Below W.heap.size W w' from by
        rw [hm]; exact move_walk ⟨x.toArray⟩ W (by show x.toArray.size ≤ _; simpa using hxs) (hf.below hb3) (he.below hb3))
      have HLN := hid (fun (V : World) (hV : Below W.heap.size W V) => show Calls Tryd.prog 13 #[.agg #[.int .i64 m.kind, .int .i64 m.at_, .int .i64 m.keep]] V fun e w' => e = .returned (.tuple #[.string L, .int .i64 E]) ∧ Below V.heap.size V w' from by
        have h := line_walk m V (hf.below (bT hb3 hV)) (hp.below (bT hb3 hV))
        rw [← hLE] at h; exact h)
      have HP := hid hP
      have HM := hid hm
      have HOK := hid hok
      have HXL := hid hxl
      have hW4 : w.heap.size + 4 ≤ W.heap.size := hP.sz
      have h1 : 1 ≤ 4 := by decide
      clear hP hm hLE hok hpre hxl hxs hb3
      gi_wp2_with (refine ⟨trivial, ?_⟩; gi_at_call 12; refine (CallsIn.inRound l (callsIn_wide.2 HMV.out)).mono ?_; rintro e w1 ⟨rfl, b1⟩)
      obtain ⟨W2, hW2⟩ : ∃ W2, W2 = w1.alloc (.cells #[.int .i64 m.kind, .int .i64 m.at_, .int .i64 m.keep] 38) := ⟨_, rfl⟩
      rw [← hW2]
      have hmb : W2.heap[w1.heap.size]? = some (.cells #[.int .i64 m.kind, .int .i64 m.at_, .int .i64 m.keep] 38 (0, 0)) := by rw [hW2]; exact heap_alloc_new _ _
      have b2 : Below W.heap.size W W2 := by rw [hW2]; exact bT b1 (bA (Below.refl _ _) _)
      clear hW2
      refine ⟨trivial, (CallsIn.inRound l (callsIn_wide.2 (HLN.out W2 b2))).mono ?_⟩
      rintro e w3 ⟨rfl, b3⟩
      have b03 : Below W.heap.size W w3 := bT b2 b3
      have HP3 := hid (HP.out.below b03)
      have hmb3 : w3.heap[w1.heap.size]? = some (.cells #[.int .i64 m.kind, .int .i64 m.at_, .int .i64 m.keep] 38 (0, 0)) := (b3.block _ (Array.getElem?_eq_some_iff.1 hmb).1).trans hmb
      have m0 : w3.cell? ⟨w1.heap.size, 0, none⟩ = some (.int .i64 m.kind) := by rw [Go.Joins.cell_of_block hmb3]; rfl
      have m1 : w3.cell? ⟨w1.heap.size, 1, none⟩ = some (.int .i64 m.at_) := by rw [Go.Joins.cell_of_block hmb3]; rfl
      have m2 : w3.cell? ⟨w1.heap.size, 2, none⟩ = some (.int .i64 m.keep) := by rw [Go.Joins.cell_of_block hmb3]; rfl
      have HB3 := hid b03
      clear hmb hmb3 b1 b2 b3 b03 HMV HLN
      by_cases hg : lineOk x
      · have hLE := HOK.out.1 hg
        have hL : L = ⟨x.toArray⟩ := congrArg Prod.fst hLE
        have hE : E = 0 := congrArg Prod.snd hLE
        subst hL hE
        obtain ⟨A, c, hl4, hown⟩ := HP3.out.list
        have l40 : w3.cell? ⟨w.heap.size + 1 + 1, 0, none⟩ = some (.slice A pre.length c) := by rw [Go.Joins.cell_of_block hl4]; rfl
        have HOWN := hid hown
        have HL4 := hid hl4
        clear hLE hl4 hown HOK
        obtain ⟨W4, hW4'⟩ : ∃ W4, W4 = w3.alloc (.cells #[.int .i64 m.kind, .int .i64 m.at_, .int .i64 m.keep] 38) := ⟨_, rfl⟩
        have HR4 := hid (show Rd W4 (w3.heap.size + 1) (some ⟨w3.heap.size, 0, none⟩) 3 1 m.cells by rw [hW4']; exact rd_new w3 #[.int .i64 m.kind, .int .i64 m.at_, .int .i64 m.keep] 38 3 1 rfl)
        have hB4 : Below w3.heap.size w3 W4 := by rw [hW4']; exact bA (Below.refl _ _) _
        have HO4 := hid (own_below HOWN.out hB4 (Nat.le_refl _))
        have HB4 := hid hB4
        have hW3 : W.heap.size ≤ w3.heap.size := HB3.out.size
        have hW34 : w3.heap.size ≤ W4.heap.size := hB4.size
        have HL44 := hid ((hB4.block _ (Array.getElem?_eq_some_iff.1 HL4.out).1).trans HL4.out)
        have HEQ := hid hW4'
        clear hW4' hB4
        gi_wp2_with (gi_at_builtin; rw [← HEQ.out]; refine wpIn_app _ rfl rfl el_moves rfl HO4.out rfl HR4.out (by simp [Move.cells, Value.oneCell']) (by omega) (by omega) ?_; intro A' c' w5 hown5 hb5 hk5; have hl5 := (hb5.block _ (by omega)).trans HL44.out; have l5 := Go.Joins.cell_of_block hl5 0; have f5 := Go.Joins.unfrozen_of_block hl5 0)
        refine ⟨KeepsOthers.from ((keeps_below HB3.out).trans ((keeps_below HB4.out).trans (hk5.trans (KeepsOthers.setCell _ _ _)))) _, ?_, ?_, ?_⟩
        · refine (box_below HB3.out (by omega)).trans ((box_below HB4.out (by omega)).trans ?_)
          have e : (w5.setCell ⟨w.heap.size + 1 + 1, 0, none⟩ (.slice A' (pre.length + 1) c')).heap[w.heap.size + 1 + 1 + 1]? = W4.heap[w.heap.size + 1 + 1 + 1]? := (heap_setO _ (by omega)).trans (hb5.block _ (by omega))
          exact ⟨by unfold World.cell?; simp only [e], by unfold World.frozen?; simp only [e]⟩
        · have h5 : (w5.setCell ⟨w.heap.size + 1 + 1, 0, none⟩ (.slice A' (pre.length + 1) c')).heap.size = w5.heap.size := by simp
          have := hb5.size
          omega
        · rw [HM.out] at hown5
          exact (HP3.out.below HB4.out).grow hg hb5 hown5
      · have hne : ¬ (L, E) = ((⟨x.toArray⟩ : ByteArray), (0 : Int)) := fun h => hg (HOK.out.2 h)
        have r0 := Go.Joins.cell_of_block HP3.out.res 0
        have rf := Go.Joins.unfrozen_of_block HP3.out.res 0
        have q0 := Go.Joins.cell_of_block HP3.out.err 0
        have qf := Go.Joins.unfrozen_of_block HP3.out.err 0
        have hs3 := HP3.out.sz
        have HE := hid (fun (ac : Act) => show endsRound (w.heap.size + 1 + 1 + 1) W0.heap.size (PR w 22 23 38) (PX w 22 23 (linesL s.data.toList)) (pre ++ [x]) W .ret ac ((w3.setCell ⟨w.heap.size, 0, none⟩ (.slice none 0 0)).setCell ⟨w.heap.size + 1, 0, none⟩ (.int .i64 3)) from by
          refine ⟨KeepsOthers.from ((keeps_below HB3.out).trans ((KeepsOthers.setCell _ _ _).trans (KeepsOthers.setCell _ _ _))) _, ?_⟩
          refine ⟨?_, ?_, ⟨x, HXL.out, hg⟩, bS (bS HP3.out.bel (Nat.le_refl _) _) (by simp) _⟩
          · rw [heap_setO _ (by omega), Go.Joins.block_setCell HP3.out.res]; rfl
          · rw [Go.Joins.block_setCell ((heap_setO _ (by omega)).trans HP3.out.err)]; rfl)
        clear hg HOK
        by_cases hE : E = 0
        · have hL : (L.toList == x) = false := by
            rw [beq_eq_false_iff_ne, ByteArray.toList_eq]
            exact fun e => hne (by rw [hE, ← e, ← bytesOf L])
          subst hE
          clear hne
          gi_wp2
          exact HE.out _
        · have hEb : (E != 0) = true := by simpa using hE
          clear hne hE
          gi_wp2
          exact HE.out _
    case done =>
      rintro D W hD hP hK
      obtain ⟨A, c, hl4, hown⟩ := hP.list
      have l40 := Go.Joins.cell_of_block hl4 0
      have r0 := Go.Joins.cell_of_block hP.res 0
      have rf := Go.Joins.unfrozen_of_block hP.res 0
      have q0 := Go.Joins.cell_of_block hP.err 0
      have qf := Go.Joins.unfrozen_of_block hP.err 0
      have HLN := hid (show (linesL s.data.toList).length ≤ 5000000 by have := (linesL_size s.data.toList).1; omega)
      have HV := hid (show readV s.data.toList = if 100000 < (linesL s.data.toList).length then ([], 1) else ((linesL s.data.toList).map moveOfL, 0) by
        unfold readV; rw [if_neg (by omega), if_pos hP.ok])
      have HPR := hid hP
      have HOW := hid hown
      have HKD := hid hK
      have hD' : w.heap.size + 4 ≤ D := by omega
      clear hP hown hK hl4
      by_cases hmany : 100000 < (linesL s.data.toList).length
      · have hmz : (100000 : Int) < ((linesL s.data.toList).length : Int) := by omega
        obtain ⟨k1, k2, k3, k4⟩ := fin_cells HPR.out.res HPR.out.err HPR.out.bel hD' HKD.out (.slice none 0 0) (.int .i64 1)
        have HV2 := hid (show readV s.data.toList = ([], 1) by rw [HV.out, if_pos hmany])
        gi_wp2
        all_goals
          refine ⟨by simp, .inl ⟨_, _, rfl, run_takeDeferred k1, ?_⟩⟩
          refine ⟨.tuple #[.slice none 0 0, .int .i64 1], by simp [results, Tryd.results5, go_sem, *], ⟨none, 0, by rw [HV2.out]; rfl, by rw [HV2.out]; exact Rd.nil_⟩, k4⟩
      · have hmz : ¬ (100000 : Int) < ((linesL s.data.toList).length : Int) := by omega
        obtain ⟨k1, k2, k3, k4⟩ := fin_cells HPR.out.res HPR.out.err HPR.out.bel hD' HKD.out (.slice A (linesL s.data.toList).length c) (.int .i64 0)
        have HV2 := hid (show readV s.data.toList = ((linesL s.data.toList).map moveOfL, 0) by rw [HV.out, if_neg hmany])
        have HL2 := hid (show (readV s.data.toList).1.length = (linesL s.data.toList).length by rw [HV2.out]; exact List.length_map ..)
        have HE2 := hid (show (readV s.data.toList).2 = 0 by rw [HV2.out])
        have HO2 := hid (fin_own HOW.out HKD.out hD' (.slice A (linesL s.data.toList).length c) (.int .i64 0))
        have HRD := hid (show Rd (((W.setCell ⟨w.heap.size, 0, none⟩ (.slice A (linesL s.data.toList).length c)).setCell ⟨w.heap.size + 1, 0, none⟩ (.int .i64 0)).putObj D (.deferred none)) (((W.setCell ⟨w.heap.size, 0, none⟩ (.slice A (linesL s.data.toList).length c)).setCell ⟨w.heap.size + 1, 0, none⟩ (.int .i64 0)).putObj D (.deferred none)).heap.size A 3 (readV s.data.toList).1.length ((readV s.data.toList).1.flatMap Move.cells) by rw [HL2.out, HV2.out]; exact rd_own HO2.out)
        gi_wp2
        all_goals
          refine ⟨by simp, .inl ⟨_, _, rfl, run_takeDeferred k1, ?_⟩⟩
          refine ⟨.tuple #[.slice A (linesL s.data.toList).length c, .int .i64 0], by simp [results, Tryd.results5, go_sem, *], ⟨A, ⟨c, by rw [HL2.out, HE2.out]⟩, HRD.out⟩, k4⟩
    case stop =>
      rintro D W hD hP hK
      have HV2 := hid (show readV s.data.toList = ([], 3) by
        obtain ⟨x, hx, hno⟩ := hP.bad
        unfold readV; rw [if_neg (by omega), if_neg (fun h => hno (h x hx))])
      have hD' : w.heap.size + 4 ≤ D := by omega
      have k1 : (W.putObj D (.deferred none)).cell? ⟨w.heap.size, 0, none⟩ = some (.slice none 0 0) := by rw [put_cell _ (by omega), Go.Joins.cell_of_block hP.res]; rfl
      have k2 : (W.putObj D (.deferred none)).cell? ⟨w.heap.size + 1, 0, none⟩ = some (.int .i64 3) := by rw [put_cell _ (by omega), Go.Joins.cell_of_block hP.err]; rfl
      have k4 : Below w.heap.size w (W.putObj D (.deferred none)) := hP.bel.trans ⟨rfl, rfl, rfl, by rw [putObj_size]; exact Nat.le_refl _, fun k hk => World.putObj_heap_other (by omega)⟩
      gi_wp2
      refine ⟨by simp, .inl ⟨_, _, rfl, run_takeDeferred hK, ?_⟩⟩
      exact ⟨.tuple #[.slice none 0 0, .int .i64 3], by simp [results, Tryd.results5, go_sem, *], ⟨none, 0, by rw [HV2.out]; rfl, by rw [HV2.out]; exact Rd.nil_⟩, k4⟩
end Go.Proofs.YtfdaheenigmkmaaDoor
