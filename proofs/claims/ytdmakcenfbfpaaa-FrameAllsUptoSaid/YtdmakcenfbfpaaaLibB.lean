/- More words for memory: an append inside a region that draws its order. -/
import Derived.Test.YtdmakcenfbfpaaaSame
import Derived.Deep.RegionLaw
import Derived.Deep.AppendLies
import Derived.WalkSpells
namespace Go.Proofs.Ytdmakcenfbfpaaa
open Go.RowKit
section
variable {w w' : World} {B sz n : Nat} {A : Option Addr} {xs : List Value}
theorem Rd.alloc (h : Rd w B A sz n xs) (hB : B ≤ w.heap.size) (o : Obj) : Rd (w.alloc o) B A sz n xs := h.below ((Below.refl B w).alloc hB o)
theorem Rd.drew (h : Rd w B A sz n xs) : Rd w.drew B A sz n xs := h
theorem Rd.drewN (h : Rd w B A sz n xs) (k : Nat) : Rd (w.drewN k) B A sz n xs := h
theorem Rd.setCell (h : Rd w B A sz n xs) {p : Addr} (hp : B ≤ p.block) (u : Value) : Rd (w.setCell p u) B A sz n xs := h.below ((Below.refl B w).setCell hp u)
end
/-- 'append([]T(nil), x...)' as one step of a region that draws. -/
theorem step_app0 {P : Program} {ops : Array Oper} {o : Oper} {a : Act} {w : World} {K : Act → World → Prop} {Q : Exit → Act → World → Prop} {E : Prop} (hgd : o.guard = none) {s x : Operand} {t : TypeId}
    (ho : o.op = .call { callee := .builtin .append, args := #[s, x], argTypes := #[t, t] }) {e : TypeId} {sz bs : Nat} (he : ElemTy P t e sz bs) (hs : a.eval s = .slice none 0 0)
    {B : Nat} {A : Option Addr} {m c : Nat} {news : List Value} (hx : a.eval x = .slice A m c) (hr : Rd w B A sz m news) (h1 : ∀ u ∈ news, u.oneCell' = true) (hb : m * bs ≤ 140737488355328)
    (h : ∀ A' c' w', w'.ownsRow w.heap.size e sz (.slice A' m c') m news → Below w.heap.size w w' → K (a.put o.dst (.slice A' m c')) w') :
    if Region.wanted o (yielded ops a.tmps) = true then Oper.wp P o a w K Q else E := by
  have hw : Region.wanted o (yielded ops a.tmps) = true := by simp [Region.wanted, hgd]
  rw [if_pos hw]
  obtain ⟨v', w', hrun, h2, h3, h4⟩ := run_app w (ty := o.type) (c := c) he (World.ownsRow_nil w w.heap.size e sz) hr h1 (by simpa using hb) (Nat.le_refl _)
  rw [Nat.zero_add, List.nil_append] at h2
  obtain ⟨A', c', rfl⟩ := own_slice h2
  unfold Oper.wp execOp
  simp only [ho, resolve, invoke, builtin, Sem.run_bind, Sem.run_pure, Result.andThen_ok, List.map_toArray, List.map_cons, List.map_nil, hs, hx, hrun]
  exact h A' c' w' h2 ((Below.refl _ _).grown h3 (Nat.le_refl _) (by simp [Value.ownBlock]))
/-- 'append(v, x...)' onto a row of the call's own, as one step of a region that draws. -/
theorem step_app1 {P : Program} {ops : Array Oper} {o : Oper} {a : Act} {w : World} {K : Act → World → Prop} {Q : Exit → Act → World → Prop} {E : Prop} (hgd : o.guard = none) {s x : Operand} {t : TypeId}
    (ho : o.op = .call { callee := .builtin .append, args := #[s, x], argTypes := #[t, t] }) {e : TypeId} {sz bs base : Nat} (he : ElemTy P t e sz bs)
    {A0 : Option Addr} {c0 n : Nat} {xs : List Value} (hs : a.eval s = .slice A0 n c0) (hown : w.ownsRow base e sz (.slice A0 n c0) n xs)
    {B : Nat} {A : Option Addr} {m c : Nat} {news : List Value} (hx : a.eval x = .slice A m c) (hr : Rd w B A sz m news) (h1 : ∀ u ∈ news, u.oneCell' = true) (hb : (n + m) * bs ≤ 140737488355328) (hbase : base ≤ w.heap.size)
    (h : ∀ A' c' w', w'.ownsRow base e sz (.slice A' (n + m) c') (n + m) (xs ++ news) → Below base w w' → w.grownBy w' (Value.slice A0 n c0).ownBlock → K (a.put o.dst (.slice A' (n + m) c')) w') :
    if Region.wanted o (yielded ops a.tmps) = true then Oper.wp P o a w K Q else E := by
  have hw : Region.wanted o (yielded ops a.tmps) = true := by simp [Region.wanted, hgd]
  rw [if_pos hw]
  obtain ⟨v', w', hrun, h2, h3, h4⟩ := run_app w (ty := o.type) (c := c) he hown hr h1 hb hbase
  obtain ⟨A', c', rfl⟩ := own_slice h2
  unfold Oper.wp execOp
  simp only [ho, resolve, invoke, builtin, Sem.run_bind, Sem.run_pure, Result.andThen_ok, List.map_toArray, List.map_cons, List.map_nil, hs, hx, hrun]
  exact h A' c' w' h2 ((Below.refl _ _).grown h3 hbase (fun k hk => (hown.lt k hk).1)) h3
end Go.Proofs.Ytdmakcenfbfpaaa
