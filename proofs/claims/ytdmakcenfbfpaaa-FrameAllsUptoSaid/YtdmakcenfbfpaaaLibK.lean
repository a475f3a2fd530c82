/- Words for memory, eleventh part: small words; a row of rows of the call's own that grows. -/
import Derived.Test.YtdmakcenfbfpaaaLibJ
namespace Go.Proofs.Ytdmakcenfbfpaaa
open Go.RowKit Go.ChangeShapes Go.WideShapes Go.ChangeAt
set_option linter.unusedVariables false
set_option linter.unusedSimpArgs false
theorem take_nextV {α : Type} {l : List α} {k : Nat} {x : α} (h : l[k]? = some x) : l.take (k + 1) = l.take k ++ [x] := by
  rw [List.take_add_one, h]; rfl
theorem one_cellV (v : Value) (h : v.oneCell' = true) : ∀ u ∈ (#[v] : Array Value).toList, u.oneCell' = true := by
  intro u hu; simp at hu; subst hu; exact h
section
variable {α : Type} {cells : α → List Value}
/-- The row's own block grew or moved. -/
theorem OwnRows.regrow {w w' : World} {base sz : Nat} {e : TypeId} {g g' : Option Nat} {rs : List (ML α)} (h : OwnRows cells e sz w base g rs) (hg : w.grownBy w' g) (h4 : g' = g ∨ g' = some w.heap.size) : OwnRows cells e sz w' base g' rs :=
  ⟨fun i x hx => own_grown (h.own i x hx) hg (fun k hk => h.off i x k hx hk), fun i x k hx hk => by
    rcases h4 with rfl | rfl
    · exact h.off i x k hx hk
    · have := (h.lt hx hk).2
      intro e; injection e with e; omega, h.apart⟩
theorem OwnRows.snoc {w : World} {base sz : Nat} {e : TypeId} {g : Option Nat} {rs : List (ML α)} (h : OwnRows cells e sz w base g rs) {y : ML α} (hy : y.own cells e sz w base) (h1 : ∀ k, y.blk = some k → g ≠ some k) (h2 : ∀ (i : Nat) (x : ML α) (k : Nat), rs[i]? = some x → x.blk = some k → y.blk ≠ some k) : OwnRows cells e sz w base g (rs ++ [y]) := by
  have key : ∀ (j : Nat) (z : ML α), (rs ++ [y])[j]? = some z → (j = rs.length ∧ z = y) ∨ (j < rs.length ∧ rs[j]? = some z) := by
    intro j z hz
    rcases Nat.lt_or_ge j rs.length with hj | hj
    · rw [List.getElem?_append_left hj] at hz; exact .inr ⟨hj, hz⟩
    · rw [List.getElem?_append_right hj] at hz
      rcases Nat.eq_zero_or_pos (j - rs.length) with h0 | h0
      · rw [h0] at hz; simp at hz; exact .inl ⟨by omega, hz.symm⟩
      · rw [List.getElem?_eq_none (by simp; omega)] at hz; cases hz
  refine ⟨fun j z hz => ?_, fun j z k hz hk => ?_, fun j m z u k hjm hz hu hk hu2 => ?_⟩
  · rcases key j z hz with ⟨_, rfl⟩ | ⟨_, hz⟩
    · exact hy
    · exact h.own j z hz
  · rcases key j z hz with ⟨_, rfl⟩ | ⟨_, hz⟩
    · exact h1 k hk
    · exact h.off j z k hz hk
  · rcases key j z hz with ⟨e1, rfl⟩ | ⟨_, hz'⟩
    · rcases key m u hu with ⟨e3, _⟩ | ⟨_, hu'⟩
      · exact hjm (e1.trans e3.symm)
      · exact h2 m u k hu' hu2 hk
    · rcases key m u hu with ⟨_, rfl⟩ | ⟨_, hu'⟩
      · exact h2 j z k hz' hk hu2
      · exact h.apart j m z u k hjm hz' hu' hk hu2
theorem OwnRows.alloc {w : World} {base sz : Nat} {e : TypeId} {g : Option Nat} {rs : List (ML α)} (h : OwnRows cells e sz w base g rs) (o : Obj) : OwnRows cells e sz (w.alloc o) base g rs := h.below ((Below.refl _ _).alloc (Nat.le_refl _) o) (Nat.le_refl _)
theorem OwnRows.store {w : World} {base sz : Nat} {e : TypeId} {g : Option Nat} {rs : List (ML α)} (h : OwnRows cells e sz w base g rs) {a : Addr} (ha : a.block < base) (u : Value) : OwnRows cells e sz (w.setCell a u) base g rs :=
  ⟨fun i x hx => ownsRow_setCell_below (h.own i x hx) ha u, h.off, h.apart⟩
section
variable {β : Type} {bc : β → List Value} {inner : β → ML α} {eo ei : TypeId} {szo sz : Nat}
theorem OwnGrid.alloc {w : World} {base c : Nat} {A : Option Addr} {l : List β} (h : OwnGrid bc inner cells eo ei szo sz w base A c l) (o : Obj) : OwnGrid bc inner cells eo ei szo sz (w.alloc o) base A c l := ⟨h.1.alloc o, h.2.alloc o⟩
theorem OwnGrid.store {w : World} {base c : Nat} {A : Option Addr} {l : List β} (h : OwnGrid bc inner cells eo ei szo sz w base A c l) {a : Addr} (ha : a.block < base) (u : Value) : OwnGrid bc inner cells eo ei szo sz (w.setCell a u) base A c l := ⟨h.1.store ha u, h.2.store ha u⟩
theorem OwnGrid.less {w : World} {base base' c : Nat} {A : Option Addr} {l : List β} (h : OwnGrid bc inner cells eo ei szo sz w base A c l) (hb : base' ≤ base) : OwnGrid bc inner cells eo ei szo sz w base' A c l := h.below (Below.refl _ _) hb
theorem OwnGrid.nil {w : World} {base : Nat} : OwnGrid bc inner cells eo ei szo sz w base none 0 [] :=
  ⟨Heaped.nil, fun i x hx => (by simp at hx), fun i x k hx => (by simp at hx), fun i j x y k _ hx => (by simp at hx)⟩
/-- What was made behind the grid lies apart from it. -/
def Aside (inner : β → ML α) (A : Option Addr) (c : Nat) (l : List β) (y : ML α) : Prop :=
  (∀ k, y.blk = some k → (Value.slice A l.length c).ownBlock ≠ some k) ∧ ∀ (i : Nat) (x : ML α) (k : Nat), (l.map inner)[i]? = some x → x.blk = some k → y.blk ≠ some k
theorem OwnGrid.aside {w w' : World} {base base' c : Nat} {A : Option Addr} {l : List β} (h : OwnGrid bc inner cells eo ei szo sz w base A c l) {y : ML α} (hy : y.own cells ei sz w' base') (hb : w.heap.size ≤ base') : Aside inner A c l y := by
  refine ⟨fun k hk e => ?_, fun i x k hx hk e => ?_⟩
  · have h1 := (World.ownsRow.lt hy k hk).1
    have h2 := h.1.lt k e
    omega
  · have h1 := (World.ownsRow.lt hy k e).1
    have h2 := (h.2.lt hx hk).2
    omega
theorem aside_nil {A : Option Addr} {c c' : Nat} {l : List β} : Aside inner A c l ⟨none, c', []⟩ := ⟨fun k hk => (by cases hk), fun i x k hx hk e => (by cases e)⟩
theorem grid_push {w w' : World} {base : Nat} {A0 A' : Option Addr} {c0 c' : Nat} {l : List β} (h : OwnGrid bc inner cells eo ei szo sz w base A0 c0 l) (y : β) (hy : (inner y).own cells ei sz w base) (ha : Aside inner A0 c0 l (inner y))
    (h2 : w'.ownsRow base eo szo (.slice A' (l.length + 1) c') (l.length + 1) (l.flatMap bc ++ bc y)) (h3 : w.grownBy w' (Value.slice A0 l.length c0).ownBlock)
    (h4 : (Value.slice A' (l.length + 1) c').ownBlock = (Value.slice A0 l.length c0).ownBlock ∨ (Value.slice A' (l.length + 1) c').ownBlock = some w.heap.size) : OwnGrid bc inner cells eo ei szo sz w' base A' c' (l ++ [y]) := by
  refine ⟨heap_push h.1 y (fun p hp => by cases hp) h2 h3 h4, ?_⟩
  have e1 : (l ++ [y]).length = l.length + 1 := by simp
  rw [e1, List.map_append, List.map_singleton]
  exact (h.2.snoc hy ha.1 ha.2).regrow h3 h4
/-- 'append(v, x)' at such a row; x's cells lie in a block of their own. -/
theorem wp_grid {P : Program} (w : World) {ops : Array Oper} {rest : List Oper} {o : Oper} {a : Act} {Q : Exit → Act → World → Prop} (hgd : o.guard = none) {s x : Operand} {t : TypeId}
    (ho : o.op = .call { callee := .builtin .append, args := #[s, x], argTypes := #[t, t] }) {bs base : Nat} (he : ElemTy P t eo szo bs)
    {A0 : Option Addr} {c0 n : Nat} {l : List β} (hs : a.eval s = .slice A0 n c0) (hn : n = l.length) (hown : OwnGrid bc inner cells eo ei szo sz w base A0 c0 l) (y : β) (hy : (inner y).own cells ei sz w base) (ha : Aside inner A0 c0 l (inner y))
    {B : Nat} {A : Option Addr} {c : Nat} (hx : a.eval x = .slice A 1 c) (hr : Rd w B A szo 1 (bc y)) (h1 : ∀ u ∈ bc y, u.oneCell' = true) (hb : (n + 1) * bs ≤ 140737488355328) (hbase : base ≤ w.heap.size)
    (h : ∀ A' c' w', OwnGrid bc inner cells eo ei szo sz w' base A' c' (l ++ [y]) → Below base w w' → w.grownBy w' (Value.slice A0 n c0).ownBlock → wpList P ops Q rest (a.put o.dst (.slice A' (n + 1) c')) w') : wpList P ops Q (o :: rest) a w := by
  subst hn
  refine wp_app w hgd ho he hs hown.1.1 hx hr h1 hb hbase fun v' w' h2 h3 h4 => ?_
  obtain ⟨A', c', rfl⟩ := own_slice h2
  exact h A' c' w' (grid_push hown y hy ha h2 h3 h4) ((Below.refl _ _).grown h3 hbase (fun k hk => (hown.1.1.lt k hk).1)) h3
/-- The same, as one step of a region that draws. -/
theorem step_grid {P : Program} {ops : Array Oper} {o : Oper} {a : Act} {w : World} {K : Act → World → Prop} {Q : Exit → Act → World → Prop} {E : Prop} (hgd : o.guard = none) {s x : Operand} {t : TypeId}
    (ho : o.op = .call { callee := .builtin .append, args := #[s, x], argTypes := #[t, t] }) {bs base : Nat} (he : ElemTy P t eo szo bs)
    {A0 : Option Addr} {c0 n : Nat} {l : List β} (hs : a.eval s = .slice A0 n c0) (hn : n = l.length) (hown : OwnGrid bc inner cells eo ei szo sz w base A0 c0 l) (y : β) (hy : (inner y).own cells ei sz w base) (ha : Aside inner A0 c0 l (inner y))
    {B : Nat} {A : Option Addr} {c : Nat} (hx : a.eval x = .slice A 1 c) (hr : Rd w B A szo 1 (bc y)) (h1 : ∀ u ∈ bc y, u.oneCell' = true) (hb : (n + 1) * bs ≤ 140737488355328) (hbase : base ≤ w.heap.size)
    (h : ∀ A' c' w', OwnGrid bc inner cells eo ei szo sz w' base A' c' (l ++ [y]) → Below base w w' → w.grownBy w' (Value.slice A0 n c0).ownBlock → K (a.put o.dst (.slice A' (n + 1) c')) w') :
    if Region.wanted o (yielded ops a.tmps) = true then Oper.wp P o a w K Q else E := by
  subst hn
  have hw : Region.wanted o (yielded ops a.tmps) = true := by simp [Region.wanted, hgd]
  rw [if_pos hw]
  obtain ⟨v', w', hrun, h2, h3, h4⟩ := run_app w (ty := o.type) (c := c) he hown.1.1 hr h1 hb hbase
  obtain ⟨A', c', rfl⟩ := own_slice h2
  unfold Oper.wp execOp
  simp only [ho, resolve, invoke, builtin, Sem.run_bind, Sem.run_pure, Result.andThen_ok, List.map_toArray, List.map_cons, List.map_nil, hs, hx, hrun]
  exact h A' c' w' (grid_push hown y hy ha h2 h3 h4) ((Below.refl _ _).grown h3 hbase (fun k hk => (hown.1.1.lt k hk).1)) h3
end
end
end Go.Proofs.Ytdmakcenfbfpaaa
