/- Words for memory, fifth part: a row of the call's own whose elements lead to other rows. -/
import Derived.Test.YtdmakcenfbfpaaaLibD
namespace Go.Proofs.Ytdmakcenfbfpaaa
open Go.RowKit Go.ChangeShapes Go.WideShapes Go.ChangeAt
set_option linter.unusedVariables false
set_option linter.unusedSimpArgs false
/-- A row that an element leads to. -/
structure Part where
  A : Option Addr
  sz : Nat
  n : Nat
  xs : List Value
def Part.rd (w : World) (B : Nat) (p : Part) : Prop := Rd w B p.A p.sz p.n p.xs
/-- It is read, lies in blocks from 'B' on, and in no block 'g'. -/
def Part.ok (w : World) (B : Nat) (g : Option Nat) (p : Part) : Prop :=
  p.xs.length = p.n * p.sz ∧ (0 < p.n → ∃ b off, p.A = some ⟨b, off, none⟩ ∧ b < w.heap.size ∧ g ≠ some b ∧ B ≤ b ∧ ∀ j u, p.xs[j]? = some u → w.cell? ⟨b, off + j, none⟩ = some u)
theorem Part.ok.grown {w w' : World} {B : Nat} {g : Option Nat} {p : Part} (h : p.ok w B g) (hg : w.grownBy w' g) : p.ok w' B g :=
  ⟨h.1, fun hn => by
    obtain ⟨b, off, e, hb, hne, hB, hc⟩ := h.2 hn
    exact ⟨b, off, e, Nat.lt_of_lt_of_le hb hg.size, hne, hB, fun j u hu => hg.cell (hc j u hu) (fun e => hne e.symm)⟩⟩
theorem Part.ok.less {w : World} {B B' : Nat} {g : Option Nat} {p : Part} (h : p.ok w B g) (hB : B' ≤ B) : p.ok w B' g :=
  ⟨h.1, fun hn => by
    obtain ⟨b, off, e, hb, hne, h2, hc⟩ := h.2 hn
    exact ⟨b, off, e, hb, hne, by omega, hc⟩⟩
theorem Part.ok.store {w : World} {B : Nat} {g : Option Nat} {p : Part} (h : p.ok w B g) {a : Addr} (ha : a.block < B) (u : Value) : p.ok (w.setCell a u) B g :=
  ⟨h.1, fun hn => by
    obtain ⟨b, off, e, hb, hne, h2, hc⟩ := h.2 hn
    exact ⟨b, off, e, by simpa using hb, hne, h2, fun j v hv => (World.cell?_setCell_other (w := w) (a := a) (b := ⟨b, off + j, none⟩) (v := u) (by intro e; subst e; simp at ha; omega)).trans (hc j v hv)⟩⟩
theorem Part.ok.to {w : World} {B : Nat} {g : Option Nat} {p : Part} (h : p.ok w B g) : p.rd w w.heap.size :=
  ⟨h.1, fun hn => by
    obtain ⟨b, off, e, hb, hne, _, hc⟩ := h.2 hn
    exact ⟨b, off, e, hb, hc⟩⟩
/-- What a call has made lies in no older block. -/
theorem Part.of_own {w : World} {base B sz n c : Nat} {e : TypeId} {A : Option Addr} {xs : List Value} (h : w.ownsRow base e sz (.slice A n c) n xs) (hB : B ≤ base) {g : Option Nat} (hg : ∀ k, g = some k → k < base) : (Part.mk A sz n xs).ok w B g :=
  ⟨h.1, fun hn => by
    obtain ⟨b, off, e, hb, hc⟩ := (rd_own h).2 hn
    subst e
    have h2 := (h.lt b rfl).1
    refine ⟨b, off, rfl, hb, fun e2 => ?_, by omega, hc⟩
    have h1 := hg b e2
    omega⟩
section
variable {β : Type} {cells : β → List Value} {parts : β → List Part}
/-- A row of the call's own; its elements lead to rows that lie elsewhere. -/
def Heaped (cells : β → List Value) (parts : β → List Part) (w : World) (base : Nat) (e : TypeId) (sz : Nat) (A : Option Addr) (c : Nat) (l : List β) : Prop :=
  w.ownsRow base e sz (.slice A l.length c) l.length (l.flatMap cells) ∧ ∀ x ∈ l, ∀ p ∈ parts x, p.ok w base (Value.slice A l.length c).ownBlock
/-- The same, read. -/
def Led (cells : β → List Value) (parts : β → List Part) (w : World) (B : Nat) (sz : Nat) (A : Option Addr) (l : List β) : Prop :=
  Rd w B A sz l.length (l.flatMap cells) ∧ ∀ x ∈ l, ∀ p ∈ parts x, p.rd w B
theorem Led.below {w w' : World} {B sz : Nat} {A : Option Addr} {l : List β} (h : Led cells parts w B sz A l) (hb : Below B w w') : Led cells parts w' B sz A l :=
  ⟨h.1.below hb, fun x hx p hp => Rd.below (h.2 x hx p hp) hb⟩
theorem Led.more {w : World} {B B' sz : Nat} {A : Option Addr} {l : List β} (h : Led cells parts w B sz A l) (hb : B ≤ B') : Led cells parts w B' sz A l :=
  ⟨h.1.more hb, fun x hx p hp => Rd.more (h.2 x hx p hp) hb⟩
theorem Led.nil {w : World} {B sz : Nat} {A : Option Addr} : Led cells parts w B sz A [] := ⟨Rd.nil_, fun x hx => by cases hx⟩
theorem Heaped.nil {w : World} {base sz : Nat} {e : TypeId} : Heaped cells parts w base e sz none 0 [] := ⟨World.ownsRow_nil _ _ _ _, fun x hx => by cases hx⟩
theorem Heaped.led {w : World} {base sz c : Nat} {e : TypeId} {A : Option Addr} {l : List β} (h : Heaped cells parts w base e sz A c l) : Led cells parts w w.heap.size sz A l :=
  ⟨rd_own h.1, fun x hx p hp => (h.2 x hx p hp).to⟩
theorem Heaped.lt {w : World} {base sz c : Nat} {e : TypeId} {A : Option Addr} {l : List β} (h : Heaped cells parts w base e sz A c l) : ∀ k, (Value.slice A l.length c).ownBlock = some k → k < w.heap.size := fun k hk => (h.1.lt k hk).2
theorem Heaped.below {w w' : World} {base base' sz c : Nat} {e : TypeId} {A : Option Addr} {l : List β} (h : Heaped cells parts w base e sz A c l) (hb : Below w.heap.size w w') (hbb : base' ≤ base) : Heaped cells parts w' base' e sz A c l :=
  ⟨own_below h.1 hb hbb, fun x hx p hp => ((h.2 x hx p hp).less hbb).grown ⟨hb.os, hb.tape, hb.output, hb.size, fun i hi _ => hb.block i hi⟩⟩
theorem Heaped.store {w : World} {base sz c : Nat} {e : TypeId} {A : Option Addr} {l : List β} (h : Heaped cells parts w base e sz A c l) {a : Addr} (ha : a.block < base) (u : Value) : Heaped cells parts (w.setCell a u) base e sz A c l :=
  ⟨ownsRow_setCell_below h.1 ha u, fun x hx p hp => (h.2 x hx p hp).store ha u⟩
theorem Heaped.less {w : World} {base base' sz c : Nat} {e : TypeId} {A : Option Addr} {l : List β} (h : Heaped cells parts w base e sz A c l) (hb : base' ≤ base) : Heaped cells parts w base' e sz A c l :=
  h.below (Below.refl _ _) hb
theorem Heaped.alloc {w : World} {base sz c : Nat} {e : TypeId} {A : Option Addr} {l : List β} (h : Heaped cells parts w base e sz A c l) (o : Obj) : Heaped cells parts (w.alloc o) base e sz A c l :=
  h.below ((Below.refl _ _).alloc (Nat.le_refl _) o) (Nat.le_refl _)
end
end Go.Proofs.Ytdmakcenfbfpaaa
