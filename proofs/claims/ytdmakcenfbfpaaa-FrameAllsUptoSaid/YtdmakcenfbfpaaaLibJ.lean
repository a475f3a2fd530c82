/- Words for memory, tenth part: own rows that lie apart, and a row of them. -/
import Derived.Test.YtdmakcenfbfpaaaLibI
import Derived.Test.YtdmakcenfbfpaaaGrid
namespace Go.Proofs.Ytdmakcenfbfpaaa
open Go.RowKit Go.ChangeShapes Go.WideShapes Go.ChangeAt
set_option linter.unusedVariables false
set_option linter.unusedSimpArgs false
def ML.blk {α : Type} (x : ML α) : Option Nat := (Value.slice x.A x.l.length x.c).ownBlock
section
variable {α : Type} {cells : α → List Value}
/-- A list lies in a row of the call's own. -/
def ML.own (cells : α → List Value) (e : TypeId) (sz : Nat) (w : World) (base : Nat) (x : ML α) : Prop := w.ownsRow base e sz (.slice x.A x.l.length x.c) x.l.length (x.l.flatMap cells)
/-- Rows of the call's own that lie apart; none in the block g. -/
structure OwnRows (cells : α → List Value) (e : TypeId) (sz : Nat) (w : World) (base : Nat) (g : Option Nat) (rs : List (ML α)) : Prop where
  own : ∀ (i : Nat) (x : ML α), rs[i]? = some x → x.own cells e sz w base
  off : ∀ (i : Nat) (x : ML α) (k : Nat), rs[i]? = some x → x.blk = some k → g ≠ some k
  apart : ∀ (i j : Nat) (x y : ML α) (k : Nat), i ≠ j → rs[i]? = some x → rs[j]? = some y → x.blk = some k → y.blk ≠ some k
theorem OwnRows.below {w w' : World} {base base' sz : Nat} {e : TypeId} {g : Option Nat} {rs : List (ML α)} (h : OwnRows cells e sz w base g rs) (hb : Below w.heap.size w w') (hbb : base' ≤ base) : OwnRows cells e sz w' base' g rs :=
  ⟨fun i x hx => own_below (h.own i x hx) hb hbb, h.off, h.apart⟩
theorem OwnRows.grown {w w' : World} {base sz : Nat} {e : TypeId} {g : Option Nat} {rs : List (ML α)} (h : OwnRows cells e sz w base g rs) (hg : w.grownBy w' g) : OwnRows cells e sz w' base g rs :=
  ⟨fun i x hx => own_grown (h.own i x hx) hg (fun k hk => h.off i x k hx hk), h.off, h.apart⟩
theorem OwnRows.lt {w : World} {base sz : Nat} {e : TypeId} {g : Option Nat} {rs : List (ML α)} (h : OwnRows cells e sz w base g rs) {i k : Nat} {x : ML α} (hx : rs[i]? = some x) (hk : x.blk = some k) : base ≤ k ∧ k < w.heap.size := World.ownsRow.lt (h.own i x hx) k hk
/-- One of them grew. -/
theorem OwnRows.put {w w' : World} {base sz : Nat} {e : TypeId} {g : Option Nat} {rs : List (ML α)} (h : OwnRows cells e sz w base g rs) {i : Nat} {x : ML α} (hx : rs[i]? = some x) {y : ML α} (hy : y.own cells e sz w' base) (h3 : w.grownBy w' x.blk)
    (h4 : y.blk = x.blk ∨ y.blk = some w.heap.size) (hgl : ∀ k, g = some k → k < w.heap.size) : OwnRows cells e sz w' base g (rs.set i y) := by
  have hi := (List.getElem?_eq_some_iff.1 hx).1
  have key : ∀ (j : Nat) (z : ML α), (rs.set i y)[j]? = some z → (j = i ∧ z = y) ∨ (j ≠ i ∧ rs[j]? = some z) := by
    intro j z hz
    rw [List.getElem?_set] at hz
    by_cases e : i = j
    · subst e
      rw [if_pos rfl, if_pos hi] at hz
      injection hz with hz
      exact .inl ⟨rfl, hz.symm⟩
    · rw [if_neg e] at hz
      exact .inr ⟨fun e2 => e e2.symm, hz⟩
  refine ⟨fun j z hz => ?_, fun j z k hz hk => ?_, fun j m z u k hjm hz hu hk hu2 => ?_⟩
  · rcases key j z hz with ⟨rfl, rfl⟩ | ⟨hj, hz⟩
    · exact hy
    · exact own_grown (h.own j z hz) h3 (fun k hk => h.apart j i z x k hj hz hx hk)
  · rcases key j z hz with ⟨rfl, rfl⟩ | ⟨hj, hz⟩
    · rcases h4 with h4 | h4
      · rw [h4] at hk; exact h.off j x k hx hk
      · rw [h4] at hk; injection hk with hk
        intro e; have := hgl k e; omega
    · exact h.off j z k hz hk
  · rcases key j z hz with ⟨e1, e2⟩ | ⟨hj, hz'⟩
    · rcases key m u hu with ⟨e3, _⟩ | ⟨hm, hu'⟩
      · exact hjm (e1.trans e3.symm)
      · rw [e2] at hk
        rcases h4 with h4 | h4
        · rw [h4] at hk; exact h.apart i m x u k (fun e => hm e.symm) hx hu' hk hu2
        · rw [h4] at hk; injection hk with hk
          have := (h.lt hu' hu2).2; omega
    · rcases key m u hu with ⟨e3, e4⟩ | ⟨hm, hu'⟩
      · rw [e4] at hu2
        rcases h4 with h4 | h4
        · rw [h4] at hu2; exact h.apart j i z x k hj hz' hx hk hu2
        · rw [h4] at hu2; injection hu2 with hu2
          have := (h.lt hz' hk).2; omega
      · exact h.apart j m z u k hjm hz' hu' hk hu2
/-- A row of the call's own; its elements lead to rows of its own that lie apart. -/
def OwnGrid {β : Type} (bc : β → List Value) (inner : β → ML α) (cells : α → List Value) (eo ei : TypeId) (szo sz : Nat) (w : World) (base : Nat) (A : Option Addr) (c : Nat) (l : List β) : Prop :=
  Heaped bc (fun _ => []) w base eo szo A c l ∧ OwnRows cells ei sz w base (Value.slice A l.length c).ownBlock (l.map inner)
section
variable {β : Type} {bc : β → List Value} {inner : β → ML α} {eo ei : TypeId} {szo sz : Nat}
theorem OwnGrid.below {w w' : World} {base base' c : Nat} {A : Option Addr} {l : List β} (h : OwnGrid bc inner cells eo ei szo sz w base A c l) (hb : Below w.heap.size w w') (hbb : base' ≤ base) : OwnGrid bc inner cells eo ei szo sz w' base' A c l :=
  ⟨h.1.below hb hbb, h.2.below hb hbb⟩
theorem OwnGrid.row {w : World} {base c i : Nat} {A : Option Addr} {l : List β} {x : β} (h : OwnGrid bc inner cells eo ei szo sz w base A c l) (hx : l[i]? = some x) : (inner x).own cells ei sz w base :=
  h.2.own i (inner x) (by rw [List.getElem?_map, hx]; rfl)
/-- The row of the element i grew, and its slice is stored. -/
theorem OwnGrid.put {w w' : World} {base c i j : Nat} {A : Option Addr} {l : List β} {x y : β} {v : Value} (h : OwnGrid bc inner cells eo ei szo sz w base A c l) (hx : l[i]? = some x) (hy : (inner y).own cells ei sz w' base) (h3 : w.grownBy w' (inner x).blk)
    (h4 : (inner y).blk = (inner x).blk ∨ (inner y).blk = some w.heap.size) (hlen : ∀ x, (bc x).length = szo) (hj : j < szo) (he : bc y = (bc x).set j v) :
    ∃ g, A = some ⟨g, 0, none⟩ ∧ base ≤ g ∧ g < w.heap.size ∧ (∀ i' u, (bc x)[i']? = some u → w'.cell? ⟨g, i * szo + i', none⟩ = some u) ∧ (∀ i', w'.frozen? ⟨g, i', none⟩ = false) ∧ OwnGrid bc inner cells eo ei szo sz (w'.setCell ⟨g, i * szo + j, none⟩ v) base A c (l.set i y) := by
  have hxi : (l.map inner)[i]? = some (inner x) := by rw [List.getElem?_map, hx]; rfl
  have hH : Heaped bc (fun _ => []) w' base eo szo A c l := ⟨own_grown h.1.1 h3 (fun k hk hk2 => h.2.off i (inner x) k hxi hk2 hk), fun _ _ _ hp => by cases hp⟩
  have hR := h.2.put hxi hy h3 h4 (fun k hk => h.1.lt k hk)
  obtain ⟨g, rfl, hb, hg, hc, hf, hH2⟩ := heap_set (v := v) (y := y) hlen hH hx hj he (fun _ hp => by cases hp)
  refine ⟨g, rfl, hb, ?_, hc, hf, hH2, ?_⟩
  · exact h.1.lt g rfl
  · rw [List.length_set, List.map_set]
    exact hR.grown (grown_setCells g [v] (i * szo + j) w')
end
theorem OwnGrid.led {eo ei : TypeId} {sz : Nat} {w : World} {base c : Nat} {A : Option Addr} {l : List (ML α)} (h : OwnGrid ML.cells id cells eo ei 1 sz w base A c l) : Grid cells sz w w.heap.size A l :=
  ⟨rd_own h.1.1, fun x hx p hp => by
    obtain rfl := List.mem_singleton.1 hp
    obtain ⟨i, hi⟩ := List.mem_iff_getElem?.1 hx
    exact rd_own (h.row hi)⟩
end
/-- 'append(v, x...)', v a row of the call's own, as one step of a region that draws; where the new row lies. -/
theorem step_app3 {P : Program} {ops : Array Oper} {o : Oper} {a : Act} {w : World} {K : Act → World → Prop} {Q : Exit → Act → World → Prop} {E : Prop} (hgd : o.guard = none) {s x : Operand} {t : TypeId}
    (ho : o.op = .call { callee := .builtin .append, args := #[s, x], argTypes := #[t, t] }) {e : TypeId} {sz bs base : Nat} (he : ElemTy P t e sz bs)
    {A0 : Option Addr} {c0 n : Nat} {xs : List Value} (hs : a.eval s = .slice A0 n c0) (hown : w.ownsRow base e sz (.slice A0 n c0) n xs)
    {B : Nat} {A : Option Addr} {m c : Nat} {news : List Value} (hx : a.eval x = .slice A m c) (hr : Rd w B A sz m news) (h1 : ∀ u ∈ news, u.oneCell' = true) (hb : (n + m) * bs ≤ 140737488355328) (hbase : base ≤ w.heap.size)
    (h : ∀ A' c' w', w'.ownsRow base e sz (.slice A' (n + m) c') (n + m) (xs ++ news) → Below base w w' → w.grownBy w' (Value.slice A0 n c0).ownBlock → ((Value.slice A' (n + m) c').ownBlock = (Value.slice A0 n c0).ownBlock ∨ (Value.slice A' (n + m) c').ownBlock = some w.heap.size) → K (a.put o.dst (.slice A' (n + m) c')) w') :
    if Region.wanted o (yielded ops a.tmps) = true then Oper.wp P o a w K Q else E := by
  have hw : Region.wanted o (yielded ops a.tmps) = true := by simp [Region.wanted, hgd]
  rw [if_pos hw]
  obtain ⟨v', w', hrun, h2, h3, h4⟩ := run_app w (ty := o.type) (c := c) he hown hr h1 hb hbase
  obtain ⟨A', c', rfl⟩ := own_slice h2
  unfold Oper.wp execOp
  simp only [ho, resolve, invoke, builtin, Sem.run_bind, Sem.run_pure, Result.andThen_ok, List.map_toArray, List.map_cons, List.map_nil, hs, hx, hrun]
  exact h A' c' w' h2 ((Below.refl _ _).grown h3 hbase (fun k hk => (hown.lt k hk).1)) h3 h4
end Go.Proofs.Ytdmakcenfbfpaaa
