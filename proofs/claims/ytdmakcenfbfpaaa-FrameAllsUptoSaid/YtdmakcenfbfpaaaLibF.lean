/- Words for memory, sixth part: a cell of an own row, wherever it lies. -/
import Derived.Test.YtdmakcenfbfpaaaLibE
import Derived.Deep.RegionLaw
namespace Go.Proofs.Ytdmakcenfbfpaaa
open Go.RowKit Go.ChangeShapes Go.WideShapes Go.ChangeAt
set_option linter.unusedVariables false
set_option linter.unusedSimpArgs false
theorem own_atA {w : World} {base n c j : Nat} {e : TypeId} {A : Option Addr} {xs : List Value} {v : Value} (h : w.ownsRow base e 1 (.slice A n c) n xs) (hj : xs[j]? = some v) :
    ∃ g, A = some ⟨g, 0, none⟩ ∧ base ≤ g ∧ g < w.heap.size ∧ w.cell? ⟨g, j, none⟩ = some v ∧ w.frozen? ⟨g, j, none⟩ = false ∧ ∀ (w' : World) (x : Value), w'.heap = w.heap → (w'.setCell ⟨g, j, none⟩ x).ownsRow base e 1 (.slice A n c) n (xs.set j x) := by
  rcases h.2 with ⟨hv, h0⟩ | ⟨g, cap, cur, hv, hb, hg, r⟩
  · have := h.1
    have h1 := (List.getElem?_eq_some_iff.1 hj).1
    omega
  · injection hv with h1 h2 h3
    subst h1
    have h' : w.ownsRow base e 1 (.slice (some ⟨g, 0, none⟩) n c) n xs := h
    obtain ⟨d0, d1⟩ := own_at h' hj
    refine ⟨g, rfl, hb, (Array.getElem?_eq_some_iff.1 hg).1, d0, d1, fun w' x hw => ?_⟩
    have h2 : w'.ownsRow base e 1 (.slice (some ⟨g, 0, none⟩) n c) n xs := ⟨h.1, by rw [hw]; exact h'.2⟩
    exact (h2.stored j x).1
section
variable {β : Type} {cells : β → List Value} {parts : β → List Part}
theorem heap_push {w w' : World} {base sz : Nat} {e : TypeId} {A0 A' : Option Addr} {c0 c' : Nat} {l : List β} (hown : Heaped cells parts w base e sz A0 c0 l) (y : β) (hp : ∀ p ∈ parts y, p.ok w base (Value.slice A0 l.length c0).ownBlock)
    (h2 : w'.ownsRow base e sz (.slice A' (l.length + 1) c') (l.length + 1) (l.flatMap cells ++ cells y)) (h3 : w.grownBy w' (Value.slice A0 l.length c0).ownBlock)
    (h4 : (Value.slice A' (l.length + 1) c').ownBlock = (Value.slice A0 l.length c0).ownBlock ∨ (Value.slice A' (l.length + 1) c').ownBlock = some w.heap.size) : Heaped cells parts w' base e sz A' c' (l ++ [y]) := by
  have e1 : (l ++ [y]).length = l.length + 1 := by simp
  have e2 : (l ++ [y]).flatMap cells = l.flatMap cells ++ cells y := by simp
  refine ⟨by rw [e1, e2]; exact h2, fun z hz p hp2 => ?_⟩
  rw [e1]
  have hz0 : p.ok w base (Value.slice A0 l.length c0).ownBlock := by
    rcases List.mem_append.1 hz with hz | hz
    · exact hown.2 z hz p hp2
    · obtain rfl := List.mem_singleton.1 hz
      exact hp p hp2
  rcases h4 with h4 | h4
  · rw [h4]
    exact hz0.grown h3
  · rw [h4]
    have hg := hz0.grown h3
    refine ⟨hg.1, fun hn => ?_⟩
    obtain ⟨b, off, e, hb, hne, hB, hc⟩ := hz0.2 hn
    obtain ⟨b', off', e', hb', hne', hB', hc'⟩ := hg.2 hn
    rw [e] at e'
    injection e' with e'
    injection e' with e1 e2
    subst e1 e2
    exact ⟨b, off, e, hb', fun e => by injection e with e; omega, hB, hc'⟩
/-- 'append(v, x)' onto such a row, as one step of a region that draws. -/
theorem step_heap {P : Program} {ops : Array Oper} {o : Oper} {a : Act} {w : World} {K : Act → World → Prop} {Q : Exit → Act → World → Prop} {E : Prop} (hgd : o.guard = none) {s x : Operand} {t : TypeId}
    (ho : o.op = .call { callee := .builtin .append, args := #[s, x], argTypes := #[t, t] }) {e : TypeId} {sz bs base : Nat} (he : ElemTy P t e sz bs)
    {A0 : Option Addr} {c0 n : Nat} {l : List β} (hs : a.eval s = .slice A0 n c0) (hn : n = l.length) (hown : Heaped cells parts w base e sz A0 c0 l) (y : β) (hp : ∀ p ∈ parts y, p.ok w base (Value.slice A0 l.length c0).ownBlock)
    {B : Nat} {A : Option Addr} {c : Nat} (hx : a.eval x = .slice A 1 c) (hr : Rd w B A sz 1 (cells y)) (h1 : ∀ u ∈ cells y, u.oneCell' = true) (hb : (n + 1) * bs ≤ 140737488355328) (hbase : base ≤ w.heap.size)
    (h : ∀ A' c' w', Heaped cells parts w' base e sz A' c' (l ++ [y]) → Below base w w' → w.grownBy w' (Value.slice A0 n c0).ownBlock → K (a.put o.dst (.slice A' (n + 1) c')) w') :
    if Region.wanted o (yielded ops a.tmps) = true then Oper.wp P o a w K Q else E := by
  subst hn
  have hw : Region.wanted o (yielded ops a.tmps) = true := by simp [Region.wanted, hgd]
  rw [if_pos hw]
  obtain ⟨v', w', hrun, h2, h3, h4⟩ := run_app w (ty := o.type) (c := c) he hown.1 hr h1 hb hbase
  obtain ⟨A', c', rfl⟩ := own_slice h2
  unfold Oper.wp execOp
  simp only [ho, resolve, invoke, builtin, Sem.run_bind, Sem.run_pure, Result.andThen_ok, List.map_toArray, List.map_cons, List.map_nil, hs, hx, hrun]
  exact h A' c' w' (heap_push hown y hp h2 h3 h4) ((Below.refl _ _).grown h3 hbase (fun k hk => (hown.1.lt k hk).1)) h3
end
theorem Heaped.drew {β : Type} {cells : β → List Value} {parts : β → List Part} {w : World} {base sz c : Nat} {e : TypeId} {A : Option Addr} {l : List β} (h : Heaped cells parts w base e sz A c l) : Heaped cells parts w.drew base e sz A c l :=
  h.below (Below.refl w.heap.size w).drew (Nat.le_refl _)
theorem Part.ok.below {w w' : World} {B : Nat} {g : Option Nat} {p : Part} (h : p.ok w B g) (hb : Below w.heap.size w w') : p.ok w' B g :=
  h.grown ⟨hb.os, hb.tape, hb.output, hb.size, fun i hi _ => hb.block i hi⟩
theorem Part.ok.alloc {w : World} {B : Nat} {g : Option Nat} {p : Part} (h : p.ok w B g) (o : Obj) : p.ok (w.alloc o) B g := h.below ((Below.refl _ _).alloc (Nat.le_refl _) o)
theorem Part.ok.drew {w : World} {B : Nat} {g : Option Nat} {p : Part} (h : p.ok w B g) : p.ok w.drew B g := h.below (Below.refl w.heap.size w).drew
/-- A part that is made anew behind a row. -/
theorem Heaped.ok {β : Type} {cells : β → List Value} {parts : β → List Part} {w w' : World} {base base' sz sz' n c c' : Nat} {e e' : TypeId} {A A' : Option Addr} {l : List β} {xs : List Value} (h : Heaped cells parts w base e sz A c l) (ho : w'.ownsRow base' e' sz' (.slice A' n c') n xs) (hb : w.heap.size ≤ base') (hB : base ≤ base') : (Part.mk A' sz' n xs).ok w' base (Value.slice A l.length c).ownBlock :=
  Part.of_own ho hB fun k hk => Nat.lt_of_lt_of_le (h.lt k hk) hb
/-- 'append(v, x)' at such a row; x's cells lie in a block of their own. -/
theorem wp_heap {β : Type} {cells : β → List Value} {parts : β → List Part} {P : Program} (w : World) {ops : Array Oper} {rest : List Oper} {o : Oper} {a : Act} {Q : Exit → Act → World → Prop} (hgd : o.guard = none) {s x : Operand} {t : TypeId}
    (ho : o.op = .call { callee := .builtin .append, args := #[s, x], argTypes := #[t, t] }) {e : TypeId} {sz bs base : Nat} (he : ElemTy P t e sz bs)
    {A0 : Option Addr} {c0 n : Nat} {l : List β} (hs : a.eval s = .slice A0 n c0) (hn : n = l.length) (hown : Heaped cells parts w base e sz A0 c0 l) (y : β) (hp : ∀ p ∈ parts y, p.ok w base (Value.slice A0 l.length c0).ownBlock)
    {B : Nat} {A : Option Addr} {c : Nat} (hx : a.eval x = .slice A 1 c) (hr : Rd w B A sz 1 (cells y)) (h1 : ∀ u ∈ cells y, u.oneCell' = true) (hb : (n + 1) * bs ≤ 140737488355328) (hbase : base ≤ w.heap.size)
    (h : ∀ A' c' w', Heaped cells parts w' base e sz A' c' (l ++ [y]) → Below base w w' → w.grownBy w' (Value.slice A0 n c0).ownBlock → wpList P ops Q rest (a.put o.dst (.slice A' (n + 1) c')) w') : wpList P ops Q (o :: rest) a w := by
  subst hn
  refine wp_app w hgd ho he hs hown.1 hx hr h1 hb hbase fun v' w' h2 h3 h4 => ?_
  obtain ⟨A', c', rfl⟩ := own_slice h2
  exact h A' c' w' (heap_push hown y hp h2 h3 h4) ((Below.refl _ _).grown h3 hbase (fun k hk => (hown.1.lt k hk).1)) h3
end Go.Proofs.Ytdmakcenfbfpaaa
