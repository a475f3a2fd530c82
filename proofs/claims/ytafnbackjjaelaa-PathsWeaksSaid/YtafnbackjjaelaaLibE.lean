/- Words for memory, fifth part: a row of the call's own whose elements lead to other rows. -/
import Derived.Test.YtafnbackjjaelaaLibD
namespace Go.Proofs.Ytafnbackjjaelaa
open Go.RowKit Go.ChangeShapes Go.WideShapes Go.ChangeAt
set_option linter.unusedVariables false
/-- A row that an element leads to. -/
structure Part where
  A : Option Addr
  sz : Nat
  n : Nat
  xs : List Value
def Part.rd (w : World) (B : Nat) (p : Part) : Prop := Rd w B p.A p.sz p.n p.xs
/-- It is read, and lies in no block 'g'. -/
def Part.ok (w : World) (g : Option Nat) (p : Part) : Prop :=
  p.xs.length = p.n * p.sz ∧ (0 < p.n → ∃ b off, p.A = some ⟨b, off, none⟩ ∧ b < w.heap.size ∧ g ≠ some b ∧ ∀ j u, p.xs[j]? = some u → w.cell? ⟨b, off + j, none⟩ = some u)
theorem Part.ok.grown {w w' : World} {g : Option Nat} {p : Part} (h : p.ok w g) (hg : w.grownBy w' g) : p.ok w' g :=
  ⟨h.1, fun hn => by
    obtain ⟨b, off, e, hb, hne, hc⟩ := h.2 hn
    exact ⟨b, off, e, Nat.lt_of_lt_of_le hb hg.size, hne, fun j u hu => hg.cell (hc j u hu) (fun e => hne e.symm)⟩⟩
theorem Part.ok.fresh {w : World} {g : Option Nat} {p : Part} (h : p.ok w g) {k : Nat} (hk : w.heap.size ≤ k) : p.ok w (some k) :=
  ⟨h.1, fun hn => by
    obtain ⟨b, off, e, hb, hne, hc⟩ := h.2 hn
    exact ⟨b, off, e, hb, fun e => by injection e with e; omega, hc⟩⟩
theorem Part.ok.to {w : World} {g : Option Nat} {p : Part} (h : p.ok w g) : p.rd w w.heap.size :=
  ⟨h.1, fun hn => by
    obtain ⟨b, off, e, hb, hne, hc⟩ := h.2 hn
    exact ⟨b, off, e, hb, hc⟩⟩
/-- What a call has made lies in no older block. -/
theorem Part.of_own {w : World} {base sz n c : Nat} {e : TypeId} {A : Option Addr} {xs : List Value} (h : w.ownsRow base e sz (.slice A n c) n xs) {g : Option Nat} (hg : ∀ k, g = some k → k < base) : (Part.mk A sz n xs).ok w g :=
  ⟨h.1, fun hn => by
    obtain ⟨b, off, e, hb, hc⟩ := (rd_own h).2 hn
    refine ⟨b, off, e, hb, fun e2 => ?_, hc⟩
    have h1 := hg b e2
    subst e
    have h2 := (h.lt b rfl).1
    omega⟩
theorem Part.of_rd {w : World} {B sz n : Nat} {A : Option Addr} {xs : List Value} (h : Rd w B A sz n xs) (hB : B ≤ w.heap.size) {g : Option Nat} (hg : ∀ k, g = some k → B ≤ k) : (Part.mk A sz n xs).ok w g :=
  ⟨h.1, fun hn => by
    obtain ⟨b, off, e, hb, hc⟩ := h.2 hn
    refine ⟨b, off, e, by omega, fun e2 => ?_, hc⟩
    have := hg b e2
    omega⟩
section
variable {β : Type} {cells : β → List Value} {parts : β → List Part}
/-- A row of the call's own; its elements lead to rows that lie elsewhere. -/
def Heaped (cells : β → List Value) (parts : β → List Part) (w : World) (base : Nat) (e : TypeId) (sz : Nat) (A : Option Addr) (c : Nat) (l : List β) : Prop :=
  w.ownsRow base e sz (.slice A l.length c) l.length (l.flatMap cells) ∧ ∀ x ∈ l, ∀ p ∈ parts x, p.ok w (Value.slice A l.length c).ownBlock
/-- The same, read. -/
def Led (cells : β → List Value) (parts : β → List Part) (w : World) (B : Nat) (sz : Nat) (A : Option Addr) (l : List β) : Prop :=
  Rd w B A sz l.length (l.flatMap cells) ∧ ∀ x ∈ l, ∀ p ∈ parts x, p.rd w B
theorem Led.below {w w' : World} {B sz : Nat} {A : Option Addr} {l : List β} (h : Led cells parts w B sz A l) (hb : Below B w w') : Led cells parts w' B sz A l :=
  ⟨h.1.below hb, fun x hx p hp => Rd.below (h.2 x hx p hp) hb⟩
theorem Led.more {w : World} {B B' sz : Nat} {A : Option Addr} {l : List β} (h : Led cells parts w B sz A l) (hb : B ≤ B') : Led cells parts w B' sz A l :=
  ⟨h.1.more hb, fun x hx p hp => Rd.more (h.2 x hx p hp) hb⟩
theorem Led.nil {w : World} {B sz : Nat} {A : Option Addr} : Led cells parts w B sz A [] := ⟨Rd.nil_, fun x hx => by cases hx⟩
theorem Heaped.nil {w : World} {base sz : Nat} {e : TypeId} : Heaped cells parts w base e sz none 0 [] := ⟨World.ownsRow_nil _ _ _ _, fun x hx => by cases hx⟩
theorem Heaped.led {w : World} {base sz c : Nat} {e : TypeId} {A : Option Addr} {l : List β} (h : Heaped cells parts w base e sz A c l) : Led cells parts w w.heap.size sz A l :=
  ⟨rd_own h.1, fun x hx p hp => (h.2 x hx p hp).to⟩
theorem Heaped.lt {w : World} {base sz c : Nat} {e : TypeId} {A : Option Addr} {l : List β} (h : Heaped cells parts w base e sz A c l) : ∀ k, (Value.slice A l.length c).ownBlock = some k → k < w.heap.size := fun k hk => (h.1.lt k hk).2
theorem Heaped.below {w w' : World} {base base' sz c : Nat} {e : TypeId} {A : Option Addr} {l : List β} (h : Heaped cells parts w base e sz A c l) (hb : Below w.heap.size w w') (hbb : base' ≤ base) : Heaped cells parts w' base' e sz A c l :=
  ⟨own_below h.1 hb hbb, fun x hx p hp => (h.2 x hx p hp).grown ⟨hb.os, hb.tape, hb.output, hb.size, fun i hi _ => hb.block i hi⟩⟩
theorem Heaped.alloc {w : World} {base sz c : Nat} {e : TypeId} {A : Option Addr} {l : List β} (h : Heaped cells parts w base e sz A c l) (o : Obj) : Heaped cells parts (w.alloc o) base e sz A c l :=
  h.below ((Below.refl _ _).alloc (Nat.le_refl _) o) (Nat.le_refl _)
/-- 'append(v, x)' at such a row; x's cells lie in a block of their own. -/
theorem wp_heap {P : Program} (w : World) {ops : Array Oper} {rest : List Oper} {o : Oper} {a : Act} {Q : Exit → Act → World → Prop} (hgd : o.guard = none) {s x : Operand} {t : TypeId}
    (ho : o.op = .call { callee := .builtin .append, args := #[s, x], argTypes := #[t, t] }) {e : TypeId} {sz bs base : Nat} (he : ElemTy P t e sz bs)
    {A0 : Option Addr} {c0 n : Nat} {l : List β} (hs : a.eval s = .slice A0 n c0) (hn : n = l.length) (hown : Heaped cells parts w base e sz A0 c0 l) (y : β) (hp : ∀ p ∈ parts y, p.ok w (Value.slice A0 l.length c0).ownBlock)
    {B : Nat} {A : Option Addr} {c : Nat} (hx : a.eval x = .slice A 1 c) (hr : Rd w B A sz 1 (cells y)) (h1 : ∀ u ∈ cells y, u.oneCell' = true) (hb : (n + 1) * bs ≤ 140737488355328) (hbase : base ≤ w.heap.size)
    (h : ∀ A' c' w', Heaped cells parts w' base e sz A' c' (l ++ [y]) → Below base w w' → w.grownBy w' (Value.slice A0 n c0).ownBlock → wpList P ops Q rest (a.put o.dst (.slice A' (n + 1) c')) w') : wpList P ops Q (o :: rest) a w := by
  subst hn
  refine wp_app w hgd ho he hs hown.1 hx hr h1 hb hbase fun v' w' h2 h3 h4 => ?_
  obtain ⟨A', c', rfl⟩ := own_slice h2
  have e1 : (l ++ [y]).length = l.length + 1 := by simp
  have e2 : (l ++ [y]).flatMap cells = l.flatMap cells ++ cells y := by simp
  refine h A' c' w' ⟨by rw [e1, e2]; exact h2, fun z hz p hp2 => ?_⟩ ((Below.refl _ _).grown h3 hbase (fun k hk => (hown.1.lt k hk).1)) h3
  rw [e1]
  have hz0 : p.ok w (Value.slice A0 l.length c0).ownBlock := by
    rcases List.mem_append.1 hz with hz | hz
    · exact hown.2 z hz p hp2
    · obtain rfl := List.mem_singleton.1 hz
      exact hp p hp2
  rcases h4 with h4 | h4
  · rw [h4]
    exact hz0.grown h3
  · rw [h4]
    have hg := hz0.grown h3
    refine ⟨hg.1, fun hn => ?_⟩
    obtain ⟨b, off, e, hb, hne, hc⟩ := hz0.2 hn
    obtain ⟨b', off', e', hb', hne', hc'⟩ := hg.2 hn
    rw [e] at e'
    injection e' with e'
    injection e' with e1 e2
    subst e1 e2
    exact ⟨b, off, e, hb', fun e => by injection e with e; omega, hc'⟩
end
end Go.Proofs.Ytafnbackjjaelaa
