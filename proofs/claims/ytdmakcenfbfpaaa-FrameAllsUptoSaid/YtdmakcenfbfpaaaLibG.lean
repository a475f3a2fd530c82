/- Words for memory, seventh part: an own row whose block is as it was. -/
import Derived.Test.YtdmakcenfbfpaaaLibF
namespace Go.Proofs.Ytdmakcenfbfpaaa
open Go.RowKit Go.ChangeShapes Go.WideShapes Go.ChangeAt
set_option linter.unusedVariables false
set_option linter.unusedSimpArgs false
theorem own_blk {w w' : World} {base e sz g n c : Nat} {xs : List Value} (h : w.ownsRow base e sz (.slice (some ⟨g, 0, none⟩) n c) n xs) (hb : w'.heap[g]? = w.heap[g]?) : w'.ownsRow base e sz (.slice (some ⟨g, 0, none⟩) n c) n xs := by
  refine ⟨h.1, ?_⟩
  rcases h.2 with ⟨h0, _⟩ | ⟨g', cap, cur, h1, h2, h3, r⟩
  · cases h0
  · injection h1 with h1 h4 h5
    injection h1 with h1
    injection h1 with h1
    subst h1
    exact .inr ⟨g, cap, cur, by rw [h5], h2, by rw [hb]; exact h3, r⟩
/-- A row stays where another row grows. -/
theorem own_grown {w w' : World} {base e sz n : Nat} {v : Value} {xs : List Value} {g : Option Nat} (h : w.ownsRow base e sz v n xs) (hg : w.grownBy w' g) (hne : ∀ x, v.ownBlock = some x → g ≠ some x) : w'.ownsRow base e sz v n xs := by
  refine ⟨h.1, ?_⟩
  rcases h.2 with h0 | ⟨g', cap, cur, h1, h2, h3, r⟩
  · exact .inl h0
  · refine .inr ⟨g', cap, cur, h1, h2, ?_, r⟩
    rw [hg.block g' (Array.getElem?_eq_some_iff.1 h3).1 (fun e => hne g' (by rw [h1]; rfl) e.symm)]
    exact h3
/-- 'append(v, x...)', v a row of the call's own; where the new row lies. -/
theorem wp_app3 {P : Program} (w : World) {ops : Array Oper} {rest : List Oper} {o : Oper} {a : Act} {Q : Exit → Act → World → Prop} (hgd : o.guard = none) {s x : Operand} {t : TypeId}
    (ho : o.op = .call { callee := .builtin .append, args := #[s, x], argTypes := #[t, t] }) {e : TypeId} {sz bs base : Nat} (he : ElemTy P t e sz bs)
    {A0 : Option Addr} {c0 n : Nat} {xs : List Value} (hs : a.eval s = .slice A0 n c0) (hown : w.ownsRow base e sz (.slice A0 n c0) n xs)
    {B : Nat} {A : Option Addr} {m c : Nat} {news : List Value} (hx : a.eval x = .slice A m c) (hr : Rd w B A sz m news) (h1 : ∀ u ∈ news, u.oneCell' = true) (hb : (n + m) * bs ≤ 140737488355328) (hbase : base ≤ w.heap.size)
    (h : ∀ A' c' w', w'.ownsRow base e sz (.slice A' (n + m) c') (n + m) (xs ++ news) → Below base w w' → w.grownBy w' (Value.slice A0 n c0).ownBlock → ((Value.slice A' (n + m) c').ownBlock = (Value.slice A0 n c0).ownBlock ∨ (Value.slice A' (n + m) c').ownBlock = some w.heap.size) → wpList P ops Q rest (a.put o.dst (.slice A' (n + m) c')) w') : wpList P ops Q (o :: rest) a w := by
  refine wp_app w hgd ho he hs hown hx hr h1 hb hbase fun v' w' h2 h3 h4 => ?_
  obtain ⟨A', c', rfl⟩ := own_slice h2
  exact h A' c' w' h2 ((Below.refl _ _).grown h3 hbase (fun k hk => (hown.lt k hk).1)) h3 h4
end Go.Proofs.Ytdmakcenfbfpaaa
