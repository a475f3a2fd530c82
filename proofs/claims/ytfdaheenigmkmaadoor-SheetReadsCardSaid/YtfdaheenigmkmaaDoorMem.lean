/- LibB, LibC, LibD, LibE, LibF, LibG, LibH, LibI, Grid, LibJ, LibK: joined. -/
import Derived.Test.YtfdaheenigmkmaaDoorBase
import Derived.Deep.RegionLaw
import Derived.Deep.AppendLies
import Derived.WalkSpells
import Derived.Handy
import Derived.OwnWalk
/- More words for memory: an append inside a region that draws its order. -/
namespace Go.Proofs.YtfdaheenigmkmaaDoor
open Go.RowKit
section
variable {w w' : World} {B sz n : Nat} {A : Option Addr} {xs : List Value}
theorem Rd.alloc (h : Rd w B A sz n xs) (hB : B ≤ w.heap.size) (o : Obj) : Rd (w.alloc o) B A sz n xs := h.below ((Below.refl B w).alloc hB o)
theorem Rd.drew (h : Rd w B A sz n xs) : Rd w.drew B A sz n xs := h
theorem Rd.drewN (h : Rd w B A sz n xs) (k : Nat) : Rd (w.drewN k) B A sz n xs := h
theorem Rd.setCell (h : Rd w B A sz n xs) {p : Addr} (hp : B ≤ p.block) (u : Value) : Rd (w.setCell p u) B A sz n xs := h.below ((Below.refl B w).setCell hp u)
end
/-- 'append([]T(nil), x...)' as one step of a region that draws. -/
theorem step_app0 {P : Program} {ops : Array Oper} {o : Oper} {a : Act} {w : World} {K : Act → World → Prop} {Q : Exit → Act → World → Prop} {E : Prop} (hgd : o.guard = none) {s x : Operand} {t : TypeId}
    (ho : o.op = .call { callee := .builtin .append, args := #[s, x], argTypes := #[t, t] }) {e : TypeId} {sz bs : Nat} (he : ElemTy P t e sz bs) (hs : a.eval s = .slice none 0 0)
    {B : Nat} {A : Option Addr} {m c : Nat} {news : List Value} (hx : a.eval x = .slice A m c) (hr : Rd w B A sz m news) (h1 : ∀ u ∈ news, u.oneCell' = true) (hb : m * bs ≤ 140737488355328)
    (h : ∀ A' c' w', w'.ownsRow w.heap.size e sz (.slice A' m c') m news → Below w.heap.size w w' → K (a.put o.dst (.slice A' m c')) w') :
    if Region.wanted o (yielded ops a.tmps) = true then Oper.wp P o a w K Q else E := by
  have hw : Region.wanted o (yielded ops a.tmps) = true := by simp [Region.wanted, hgd]
  rw [if_pos hw]
  obtain ⟨v', w', hrun, h2, h3, h4⟩ := run_app w (ty := o.type) (c := c) he (World.ownsRow_nil w w.heap.size e sz) hr h1 (by simpa using hb) (Nat.le_refl _)
  rw [Nat.zero_add, List.nil_append] at h2
  obtain ⟨A', c', rfl⟩ := own_slice h2
  unfold Oper.wp execOp
  simp only [ho, resolve, invoke, builtin, Sem.run_bind, Sem.run_pure, Result.andThen_ok, List.map_toArray, List.map_cons, List.map_nil, hs, hx, hrun]
  exact h A' c' w' h2 ((Below.refl _ _).grown h3 (Nat.le_refl _) (by simp [Value.ownBlock]))
/-- 'append(v, x...)' onto a row of the call's own, as one step of a region that draws. -/
theorem step_app1 {P : Program} {ops : Array Oper} {o : Oper} {a : Act} {w : World} {K : Act → World → Prop} {Q : Exit → Act → World → Prop} {E : Prop} (hgd : o.guard = none) {s x : Operand} {t : TypeId}
    (ho : o.op = .call { callee := .builtin .append, args := #[s, x], argTypes := #[t, t] }) {e : TypeId} {sz bs base : Nat} (he : ElemTy P t e sz bs)
    {A0 : Option Addr} {c0 n : Nat} {xs : List Value} (hs : a.eval s = .slice A0 n c0) (hown : w.ownsRow base e sz (.slice A0 n c0) n xs)
    {B : Nat} {A : Option Addr} {m c : Nat} {news : List Value} (hx : a.eval x = .slice A m c) (hr : Rd w B A sz m news) (h1 : ∀ u ∈ news, u.oneCell' = true) (hb : (n + m) * bs ≤ 140737488355328) (hbase : base ≤ w.heap.size)
    (h : ∀ A' c' w', w'.ownsRow base e sz (.slice A' (n + m) c') (n + m) (xs ++ news) → Below base w w' → w.grownBy w' (Value.slice A0 n c0).ownBlock → K (a.put o.dst (.slice A' (n + m) c')) w') :
    if Region.wanted o (yielded ops a.tmps) = true then Oper.wp P o a w K Q else E := by
  have hw : Region.wanted o (yielded ops a.tmps) = true := by simp [Region.wanted, hgd]
  rw [if_pos hw]
  obtain ⟨v', w', hrun, h2, h3, h4⟩ := run_app w (ty := o.type) (c := c) he hown hr h1 hb hbase
  obtain ⟨A', c', rfl⟩ := own_slice h2
  unfold Oper.wp execOp
  simp only [ho, resolve, invoke, builtin, Sem.run_bind, Sem.run_pure, Result.andThen_ok, List.map_toArray, List.map_cons, List.map_nil, hs, hx, hrun]
  exact h A' c' w' h2 ((Below.refl _ _).grown h3 hbase (fun k hk => (hown.lt k hk).1)) h3
end Go.Proofs.YtfdaheenigmkmaaDoor

/- Words for memory, third part: make, a cell of an own row read and stored, readings handed on. -/
namespace Go.Proofs.YtfdaheenigmkmaaDoor
open Go.RowKit Go.ChangeShapes Go.WideShapes Go.ChangeAt
section
variable {w w' : World} {B base sz n c : Nat} {e : TypeId} {A : Option Addr} {xs : List Value}
theorem rdb (h : Rd w B A sz n xs) (hs : 0 < sz) (hb : Below B w w') : Rd w' w'.heap.size A sz n xs := (h.below hb).any hs
theorem own_rdb (h : w.ownsRow base e sz (.slice A n c) n xs) (hs : 0 < sz) (hb : Below w.heap.size w w') : Rd w' w'.heap.size A sz n xs := rdb (rd_own h) hs hb
end
/-- A cell that was there reads as it did. -/
theorem keepb {W W' : World} (b : Below W.heap.size W W') {p : Addr} {v : Value} (h : W.cell? p = some v) : W'.cell? p = some v :=
  (b.cell (World.block_lt_of_cell? W _ h)).trans h
theorem keepf {W W' : World} (b : Below W.heap.size W W') {p : Addr} (h : W.frozen? p = false) (hp : p.block < W.heap.size) : W'.frozen? p = false := (b.frozen hp).trans h
/-- 'make([]T, n)' at an element type whose zero is one cell. -/
theorem wp_make1 {P : Program} {w : World} {ops : Array Oper} {rest : List Oper} {o : Oper} {a : Act} {Q : Exit → Act → World → Prop} (hgd : o.guard = none) {l c : Operand} {t e : TypeId} {bs : Nat} {z : Value}
    (ho : o.op = .makeSlice t l c) (ht : P.underlying t = some (.slice e)) (hi : (P.info? e).map (fun i => (i.zero, i.size, i.bytes)) = some (some z, 1, bs)) (hz : z.cells = #[z])
    (n : Nat) (hl : a.eval l = .int .i64 (n : Int)) (hc : a.eval c = .int .i64 (n : Int)) (hb : bs * n ≤ 281474976710656) (hn : n ≤ 9223372036854775807)
    (h : ∀ w', w'.ownsRow w.heap.size e 1 (.slice (some ⟨w.heap.size, 0, none⟩) n n) n (List.replicate n z) → Below w.heap.size w w' → w'.heap.size = w.heap.size + 1 → wpList P ops Q rest (a.put o.dst (.slice (some ⟨w.heap.size, 0, none⟩) n n)) w') :
    wpList P ops Q (o :: rest) a w := by
  obtain ⟨i, h0, h1, h2, h3⟩ := info_parts hi
  refine wpList_plain hgd fun K hK => ?_
  have hr := run_make (P := P) w t e i z ht h0 h1 .i64 .i64 n n (by omega) (Int.le_refl _) (by rw [h3]; omega) (by omega)
  simp only [Int.toNat_natCast] at hr
  have ho1 := World.ownsRow_lit (base := w.heap.size) (e := e) (size := 1) w (madeCells z.cells (n * 1)) n (Nat.le_refl _) (by simp [maxLen]; omega) (by rw [size_madeCells])
  rw [hz, toList_madeCells_one, Nat.mul_one] at ho1
  have hfin := hK _ _ (h _ ho1 ((Below.refl _ _).alloc (Nat.le_refl _) _) (by simp))
  rw [h2, hz, Nat.mul_one] at hr
  unfold Oper.wp
  simp [execOp, ho, hl, hc, hr, Result.andThen]
  exact hfin
theorem inf_int : (Tryd.prog.info? 3).map (fun i => (i.zero, i.size, i.bytes)) = some (some (.int .i64 0), 1, 8) := by kernel_rfl
theorem inf_bool : (Tryd.prog.info? 4).map (fun i => (i.zero, i.size, i.bytes)) = some (some (.bool false), 1, 1) := by kernel_rfl
theorem inf_ints : (Tryd.prog.info? 42).map (fun i => (i.zero, i.size, i.bytes)) = some (some (.slice none 0 0), 1, 24) := by kernel_rfl
theorem flat_i64 : ∀ l : List Int, l.flatMap i64c = l.map (Value.int .i64)
  | [] => rfl
  | a :: l => by rw [List.flatMap_cons, flat_i64 l]; rfl
theorem flat_i64_set (l : List Int) (s : Nat) (x : Int) : (l.flatMap i64c).set s (.int .i64 x) = (l.set s x).flatMap i64c := by
  rw [flat_i64, flat_i64, List.map_set]
theorem flat_i64_get {l : List Int} {s : Nat} {x : Int} (h : l[s]? = some x) : (l.flatMap i64c)[s]? = some (.int .i64 x) := by
  rw [flat_i64, List.getElem?_map, h]; rfl
theorem replicate_i64 (n : Nat) (x : Int) : List.replicate n (Value.int .i64 x) = (List.replicate n x).flatMap i64c := by
  rw [flat_i64, List.map_replicate]
/-- A cell of a row of the call's own: what it holds; that it may be written; what is owned behind the store. -/
theorem own_at {w : World} {base g n cap sz j : Nat} {e : TypeId} {xs : List Value} {v : Value} (h : w.ownsRow base e sz (.slice (some ⟨g, 0, none⟩) n cap) n xs) (hj : xs[j]? = some v) :
    w.cell? ⟨g, j, none⟩ = some v ∧ w.frozen? ⟨g, j, none⟩ = false := by
  have h1 := (List.getElem?_eq_some_iff.1 hj).1
  rw [h.1] at h1
  exact ⟨(h.cellAt j h1).trans hj, h.frozenAt j⟩
end Go.Proofs.YtfdaheenigmkmaaDoor

/- Words for memory, fourth part: a part of a list, read. -/
namespace Go.Proofs.YtfdaheenigmkmaaDoor
open Go.RowKit Go.ChangeShapes Go.WideShapes Go.ChangeAt
/-- A quiet callee, its contract spelt 'w = w''. -/
theorem qsame {P : Program} {f : FuncId} {args : Array Value} {w : World} {n : Nat} {v : Value}
    (h : Calls P f args (w.drewN n) fun e w' => e = .returned v ∧ w.drewN n = w') : Calls P f args (w.drewN n) fun e w'' => e = .returned v ∧ ∃ m, w'' = w.drewN m :=
  h.mono fun _ _ ⟨he, hm⟩ => ⟨he, n, hm.symm⟩
/-- A new block, read, at an address that is spelt otherwise. -/
theorem rd_newAt (w : World) (cs : Array Value) (e : TypeId) (sz n g : Nat) (hg : w.heap.size = g) (h : cs.size = n * sz) : Rd (w.alloc (.cells cs e)) (g + 1) (some ⟨g, 0, none⟩) sz n cs.toList := by
  subst hg; exact rd_new w cs e sz n h
theorem own_cap {w : World} {base sz n c : Nat} {e : TypeId} {A : Option Addr} {xs : List Value} (h : w.ownsRow base e sz (.slice A n c) n xs) : n ≤ c := by
  rcases h.2 with ⟨h1, h2⟩ | ⟨g, cap, cur, h1, _, _, h2, _⟩
  · omega
  · injection h1 with _ _ h3
    omega
theorem drop_flat {α : Type} {cells : α → List Value} {sz : Nat} (h : ∀ x, (cells x).length = sz) : ∀ (l : List α) (k : Nat), (l.flatMap cells).drop (k * sz) = (l.drop k).flatMap cells
  | _, 0 => by simp
  | [], k + 1 => by simp
  | a :: l, k + 1 => by
    rw [List.flatMap_cons, List.drop_succ_cons, ← drop_flat h l k, Nat.add_mul, Nat.one_mul, Nat.add_comm, ← List.drop_drop]
    congr 1
    rw [← h a, List.drop_left]
theorem take_flat {α : Type} {cells : α → List Value} {sz : Nat} (h : ∀ x, (cells x).length = sz) : ∀ (l : List α) (k : Nat), (l.flatMap cells).take (k * sz) = (l.take k).flatMap cells
  | _, 0 => by simp
  | [], k + 1 => by simp
  | a :: l, k + 1 => by
    rw [List.flatMap_cons, List.take_succ_cons, List.flatMap_cons, ← take_flat h l k, Nat.add_mul, Nat.one_mul, Nat.add_comm, List.take_append, h a]
    rw [List.take_of_length_le (by rw [h a]; omega)]
    congr 2
    omega
end Go.Proofs.YtfdaheenigmkmaaDoor

/- Words for memory, fifth part: a row of the call's own whose elements lead to other rows. -/
namespace Go.Proofs.YtfdaheenigmkmaaDoor
open Go.RowKit Go.ChangeShapes Go.WideShapes Go.ChangeAt
set_option linter.unusedVariables false
set_option linter.unusedSimpArgs false
/-- A row that an element leads to. -/
structure Part where
  A : Option Addr
  sz : Nat
  n : Nat
  xs : List Value
def Part.rd (w : World) (B : Nat) (p : Part) : Prop := Rd w B p.A p.sz p.n p.xs
/-- It is read, lies in blocks from 'B' on, and in no block 'g'. -/
def Part.ok (w : World) (B : Nat) (g : Option Nat) (p : Part) : Prop :=
  p.xs.length = p.n * p.sz ∧ (0 < p.n → ∃ b off, p.A = some ⟨b, off, none⟩ ∧ b < w.heap.size ∧ g ≠ some b ∧ B ≤ b ∧ ∀ j u, p.xs[j]? = some u → w.cell? ⟨b, off + j, none⟩ = some u)
theorem Part.ok.grown {w w' : World} {B : Nat} {g : Option Nat} {p : Part} (h : p.ok w B g) (hg : w.grownBy w' g) : p.ok w' B g :=
  ⟨h.1, fun hn => by
    obtain ⟨b, off, e, hb, hne, hB, hc⟩ := h.2 hn
    exact ⟨b, off, e, Nat.lt_of_lt_of_le hb hg.size, hne, hB, fun j u hu => hg.cell (hc j u hu) (fun e => hne e.symm)⟩⟩
theorem Part.ok.less {w : World} {B B' : Nat} {g : Option Nat} {p : Part} (h : p.ok w B g) (hB : B' ≤ B) : p.ok w B' g :=
  ⟨h.1, fun hn => by
    obtain ⟨b, off, e, hb, hne, h2, hc⟩ := h.2 hn
    exact ⟨b, off, e, hb, hne, by omega, hc⟩⟩
theorem Part.ok.store {w : World} {B : Nat} {g : Option Nat} {p : Part} (h : p.ok w B g) {a : Addr} (ha : a.block < B) (u : Value) : p.ok (w.setCell a u) B g :=
  ⟨h.1, fun hn => by
    obtain ⟨b, off, e, hb, hne, h2, hc⟩ := h.2 hn
    exact ⟨b, off, e, by simpa using hb, hne, h2, fun j v hv => (World.cell?_setCell_other (w := w) (a := a) (b := ⟨b, off + j, none⟩) (v := u) (by intro e; subst e; simp at ha; omega)).trans (hc j v hv)⟩⟩
theorem Part.ok.to {w : World} {B : Nat} {g : Option Nat} {p : Part} (h : p.ok w B g) : p.rd w w.heap.size :=
  ⟨h.1, fun hn => by
    obtain ⟨b, off, e, hb, hne, _, hc⟩ := h.2 hn
    exact ⟨b, off, e, hb, hc⟩⟩
/-- What a call has made lies in no older block. -/
theorem Part.of_own {w : World} {base B sz n c : Nat} {e : TypeId} {A : Option Addr} {xs : List Value} (h : w.ownsRow base e sz (.slice A n c) n xs) (hB : B ≤ base) {g : Option Nat} (hg : ∀ k, g = some k → k < base) : (Part.mk A sz n xs).ok w B g :=
  ⟨h.1, fun hn => by
    obtain ⟨b, off, e, hb, hc⟩ := (rd_own h).2 hn
    subst e
    have h2 := (h.lt b rfl).1
    refine ⟨b, off, rfl, hb, fun e2 => ?_, by omega, hc⟩
    have h1 := hg b e2
    omega⟩
section
variable {β : Type} {cells : β → List Value} {parts : β → List Part}
/-- A row of the call's own; its elements lead to rows that lie elsewhere. -/
def Heaped (cells : β → List Value) (parts : β → List Part) (w : World) (base : Nat) (e : TypeId) (sz : Nat) (A : Option Addr) (c : Nat) (l : List β) : Prop :=
  w.ownsRow base e sz (.slice A l.length c) l.length (l.flatMap cells) ∧ ∀ x ∈ l, ∀ p ∈ parts x, p.ok w base (Value.slice A l.length c).ownBlock
/-- The same, read. -/
def Led (cells : β → List Value) (parts : β → List Part) (w : World) (B : Nat) (sz : Nat) (A : Option Addr) (l : List β) : Prop :=
  Rd w B A sz l.length (l.flatMap cells) ∧ ∀ x ∈ l, ∀ p ∈ parts x, p.rd w B
theorem Led.below {w w' : World} {B sz : Nat} {A : Option Addr} {l : List β} (h : Led cells parts w B sz A l) (hb : Below B w w') : Led cells parts w' B sz A l :=
  ⟨h.1.below hb, fun x hx p hp => Rd.below (h.2 x hx p hp) hb⟩
theorem Led.more {w : World} {B B' sz : Nat} {A : Option Addr} {l : List β} (h : Led cells parts w B sz A l) (hb : B ≤ B') : Led cells parts w B' sz A l :=
  ⟨h.1.more hb, fun x hx p hp => Rd.more (h.2 x hx p hp) hb⟩
theorem Led.nil {w : World} {B sz : Nat} {A : Option Addr} : Led cells parts w B sz A [] := ⟨Rd.nil_, fun x hx => by cases hx⟩
theorem Heaped.nil {w : World} {base sz : Nat} {e : TypeId} : Heaped cells parts w base e sz none 0 [] := ⟨World.ownsRow_nil _ _ _ _, fun x hx => by cases hx⟩
theorem Heaped.led {w : World} {base sz c : Nat} {e : TypeId} {A : Option Addr} {l : List β} (h : Heaped cells parts w base e sz A c l) : Led cells parts w w.heap.size sz A l :=
  ⟨rd_own h.1, fun x hx p hp => (h.2 x hx p hp).to⟩
theorem Heaped.lt {w : World} {base sz c : Nat} {e : TypeId} {A : Option Addr} {l : List β} (h : Heaped cells parts w base e sz A c l) : ∀ k, (Value.slice A l.length c).ownBlock = some k → k < w.heap.size := fun k hk => (h.1.lt k hk).2
theorem Heaped.below {w w' : World} {base base' sz c : Nat} {e : TypeId} {A : Option Addr} {l : List β} (h : Heaped cells parts w base e sz A c l) (hb : Below w.heap.size w w') (hbb : base' ≤ base) : Heaped cells parts w' base' e sz A c l :=
  ⟨own_below h.1 hb hbb, fun x hx p hp => ((h.2 x hx p hp).less hbb).grown ⟨hb.os, hb.tape, hb.output, hb.size, fun i hi _ => hb.block i hi⟩⟩
theorem Heaped.store {w : World} {base sz c : Nat} {e : TypeId} {A : Option Addr} {l : List β} (h : Heaped cells parts w base e sz A c l) {a : Addr} (ha : a.block < base) (u : Value) : Heaped cells parts (w.setCell a u) base e sz A c l :=
  ⟨ownsRow_setCell_below h.1 ha u, fun x hx p hp => (h.2 x hx p hp).store ha u⟩
theorem Heaped.less {w : World} {base base' sz c : Nat} {e : TypeId} {A : Option Addr} {l : List β} (h : Heaped cells parts w base e sz A c l) (hb : base' ≤ base) : Heaped cells parts w base' e sz A c l :=
  h.below (Below.refl _ _) hb
theorem Heaped.alloc {w : World} {base sz c : Nat} {e : TypeId} {A : Option Addr} {l : List β} (h : Heaped cells parts w base e sz A c l) (o : Obj) : Heaped cells parts (w.alloc o) base e sz A c l :=
  h.below ((Below.refl _ _).alloc (Nat.le_refl _) o) (Nat.le_refl _)
end
end Go.Proofs.YtfdaheenigmkmaaDoor

/- Words for memory, sixth part: a cell of an own row, wherever it lies. -/
namespace Go.Proofs.YtfdaheenigmkmaaDoor
open Go.RowKit Go.ChangeShapes Go.WideShapes Go.ChangeAt
set_option linter.unusedVariables false
set_option linter.unusedSimpArgs false
theorem own_atA {w : World} {base n c j : Nat} {e : TypeId} {A : Option Addr} {xs : List Value} {v : Value} (h : w.ownsRow base e 1 (.slice A n c) n xs) (hj : xs[j]? = some v) :
    ∃ g, A = some ⟨g, 0, none⟩ ∧ base ≤ g ∧ g < w.heap.size ∧ w.cell? ⟨g, j, none⟩ = some v ∧ w.frozen? ⟨g, j, none⟩ = false ∧ ∀ (w' : World) (x : Value), w'.heap = w.heap → (w'.setCell ⟨g, j, none⟩ x).ownsRow base e 1 (.slice A n c) n (xs.set j x) := by
  rcases h.2 with ⟨hv, h0⟩ | ⟨g, cap, cur, hv, hb, hg, r⟩
  · have := h.1
    have h1 := (List.getElem?_eq_some_iff.1 hj).1
    omega
  · injection hv with h1 h2 h3
    subst h1
    have h' : w.ownsRow base e 1 (.slice (some ⟨g, 0, none⟩) n c) n xs := h
    obtain ⟨d0, d1⟩ := own_at h' hj
    refine ⟨g, rfl, hb, (Array.getElem?_eq_some_iff.1 hg).1, d0, d1, fun w' x hw => ?_⟩
    have h2 : w'.ownsRow base e 1 (.slice (some ⟨g, 0, none⟩) n c) n xs := ⟨h.1, by rw [hw]; exact h'.2⟩
    exact (h2.stored j x).1
section
variable {β : Type} {cells : β → List Value} {parts : β → List Part}
theorem heap_push {w w' : World} {base sz : Nat} {e : TypeId} {A0 A' : Option Addr} {c0 c' : Nat} {l : List β} (hown : Heaped cells parts w base e sz A0 c0 l) (y : β) (hp : ∀ p ∈ parts y, p.ok w base (Value.slice A0 l.length c0).ownBlock)
    (h2 : w'.ownsRow base e sz (.slice A' (l.length + 1) c') (l.length + 1) (l.flatMap cells ++ cells y)) (h3 : w.grownBy w' (Value.slice A0 l.length c0).ownBlock)
    (h4 : (Value.slice A' (l.length + 1) c').ownBlock = (Value.slice A0 l.length c0).ownBlock ∨ (Value.slice A' (l.length + 1) c').ownBlock = some w.heap.size) : Heaped cells parts w' base e sz A' c' (l ++ [y]) := by
  have e1 : (l ++ [y]).length = l.length + 1 := by simp
  have e2 : (l ++ [y]).flatMap cells = l.flatMap cells ++ cells y := by simp
  refine ⟨by rw [e1, e2]; exact h2, fun z hz p hp2 => ?_⟩
  rw [e1]
  have hz0 : p.ok w base (Value.slice A0 l.length c0).ownBlock := by
    rcases List.mem_append.1 hz with hz | hz
    · exact hown.2 z hz p hp2
    · obtain rfl := List.mem_singleton.1 hz
      exact hp p hp2
  rcases h4 with h4 | h4
  · rw [h4]
    exact hz0.grown h3
  · rw [h4]
    have hg := hz0.grown h3
    refine ⟨hg.1, fun hn => ?_⟩
    obtain ⟨b, off, e, hb, hne, hB, hc⟩ := hz0.2 hn
    obtain ⟨b', off', e', hb', hne', hB', hc'⟩ := hg.2 hn
    rw [e] at e'
    injection e' with e'
    injection e' with e1 e2
    subst e1 e2
    exact ⟨b, off, e, hb', fun e => by injection e with e; omega, hB, hc'⟩
/-- 'append(v, x)' onto such a row, as one step of a region that draws. -/
theorem step_heap {P : Program} {ops : Array Oper} {o : Oper} {a : Act} {w : World} {K : Act → World → Prop} {Q : Exit → Act → World → Prop} {E : Prop} (hgd : o.guard = none) {s x : Operand} {t : TypeId}
    (ho : o.op = .call { callee := .builtin .append, args := #[s, x], argTypes := #[t, t] }) {e : TypeId} {sz bs base : Nat} (he : ElemTy P t e sz bs)
    {A0 : Option Addr} {c0 n : Nat} {l : List β} (hs : a.eval s = .slice A0 n c0) (hn : n = l.length) (hown : Heaped cells parts w base e sz A0 c0 l) (y : β) (hp : ∀ p ∈ parts y, p.ok w base (Value.slice A0 l.length c0).ownBlock)
    {B : Nat} {A : Option Addr} {c : Nat} (hx : a.eval x = .slice A 1 c) (hr : Rd w B A sz 1 (cells y)) (h1 : ∀ u ∈ cells y, u.oneCell' = true) (hb : (n + 1) * bs ≤ 140737488355328) (hbase : base ≤ w.heap.size)
    (h : ∀ A' c' w', Heaped cells parts w' base e sz A' c' (l ++ [y]) → Below base w w' → w.grownBy w' (Value.slice A0 n c0).ownBlock → K (a.put o.dst (.slice A' (n + 1) c')) w') :
    if Region.wanted o (yielded ops a.tmps) = true then Oper.wp P o a w K Q else E := by
  subst hn
  have hw : Region.wanted o (yielded ops a.tmps) = true := by simp [Region.wanted, hgd]
  rw [if_pos hw]
  obtain ⟨v', w', hrun, h2, h3, h4⟩ := run_app w (ty := o.type) (c := c) he hown.1 hr h1 hb hbase
  obtain ⟨A', c', rfl⟩ := own_slice h2
  unfold Oper.wp execOp
  simp only [ho, resolve, invoke, builtin, Sem.run_bind, Sem.run_pure, Result.andThen_ok, List.map_toArray, List.map_cons, List.map_nil, hs, hx, hrun]
  exact h A' c' w' (heap_push hown y hp h2 h3 h4) ((Below.refl _ _).grown h3 hbase (fun k hk => (hown.1.lt k hk).1)) h3
end
theorem Heaped.drew {β : Type} {cells : β → List Value} {parts : β → List Part} {w : World} {base sz c : Nat} {e : TypeId} {A : Option Addr} {l : List β} (h : Heaped cells parts w base e sz A c l) : Heaped cells parts w.drew base e sz A c l :=
  h.below (Below.refl w.heap.size w).drew (Nat.le_refl _)
theorem Part.ok.below {w w' : World} {B : Nat} {g : Option Nat} {p : Part} (h : p.ok w B g) (hb : Below w.heap.size w w') : p.ok w' B g :=
  h.grown ⟨hb.os, hb.tape, hb.output, hb.size, fun i hi _ => hb.block i hi⟩
theorem Part.ok.alloc {w : World} {B : Nat} {g : Option Nat} {p : Part} (h : p.ok w B g) (o : Obj) : p.ok (w.alloc o) B g := h.below ((Below.refl _ _).alloc (Nat.le_refl _) o)
theorem Part.ok.drew {w : World} {B : Nat} {g : Option Nat} {p : Part} (h : p.ok w B g) : p.ok w.drew B g := h.below (Below.refl w.heap.size w).drew
/-- A part that is made anew behind a row. -/
theorem Heaped.ok {β : Type} {cells : β → List Value} {parts : β → List Part} {w w' : World} {base base' sz sz' n c c' : Nat} {e e' : TypeId} {A A' : Option Addr} {l : List β} {xs : List Value} (h : Heaped cells parts w base e sz A c l) (ho : w'.ownsRow base' e' sz' (.slice A' n c') n xs) (hb : w.heap.size ≤ base') (hB : base ≤ base') : (Part.mk A' sz' n xs).ok w' base (Value.slice A l.length c).ownBlock :=
  Part.of_own ho hB fun k hk => Nat.lt_of_lt_of_le (h.lt k hk) hb
/-- 'append(v, x)' at such a row; x's cells lie in a block of their own. -/
theorem wp_heap {β : Type} {cells : β → List Value} {parts : β → List Part} {P : Program} (w : World) {ops : Array Oper} {rest : List Oper} {o : Oper} {a : Act} {Q : Exit → Act → World → Prop} (hgd : o.guard = none) {s x : Operand} {t : TypeId}
    (ho : o.op = .call { callee := .builtin .append, args := #[s, x], argTypes := #[t, t] }) {e : TypeId} {sz bs base : Nat} (he : ElemTy P t e sz bs)
    {A0 : Option Addr} {c0 n : Nat} {l : List β} (hs : a.eval s = .slice A0 n c0) (hn : n = l.length) (hown : Heaped cells parts w base e sz A0 c0 l) (y : β) (hp : ∀ p ∈ parts y, p.ok w base (Value.slice A0 l.length c0).ownBlock)
    {B : Nat} {A : Option Addr} {c : Nat} (hx : a.eval x = .slice A 1 c) (hr : Rd w B A sz 1 (cells y)) (h1 : ∀ u ∈ cells y, u.oneCell' = true) (hb : (n + 1) * bs ≤ 140737488355328) (hbase : base ≤ w.heap.size)
    (h : ∀ A' c' w', Heaped cells parts w' base e sz A' c' (l ++ [y]) → Below base w w' → w.grownBy w' (Value.slice A0 n c0).ownBlock → wpList P ops Q rest (a.put o.dst (.slice A' (n + 1) c')) w') : wpList P ops Q (o :: rest) a w := by
  subst hn
  refine wp_app w hgd ho he hs hown.1 hx hr h1 hb hbase fun v' w' h2 h3 h4 => ?_
  obtain ⟨A', c', rfl⟩ := own_slice h2
  exact h A' c' w' (heap_push hown y hp h2 h3 h4) ((Below.refl _ _).grown h3 hbase (fun k hk => (hown.1.lt k hk).1)) h3
end Go.Proofs.YtfdaheenigmkmaaDoor

/- Words for memory, seventh part: an own row whose block is as it was. -/
namespace Go.Proofs.YtfdaheenigmkmaaDoor
open Go.RowKit Go.ChangeShapes Go.WideShapes Go.ChangeAt
set_option linter.unusedVariables false
set_option linter.unusedSimpArgs false
theorem own_blk {w w' : World} {base e sz g n c : Nat} {xs : List Value} (h : w.ownsRow base e sz (.slice (some ⟨g, 0, none⟩) n c) n xs) (hb : w'.heap[g]? = w.heap[g]?) : w'.ownsRow base e sz (.slice (some ⟨g, 0, none⟩) n c) n xs := by
  refine ⟨h.1, ?_⟩
  rcases h.2 with ⟨h0, _⟩ | ⟨g', cap, cur, h1, h2, h3, r⟩
  · cases h0
  · injection h1 with h1 h4 h5
    injection h1 with h1
    injection h1 with h1
    subst h1
    exact .inr ⟨g, cap, cur, by rw [h5], h2, by rw [hb]; exact h3, r⟩
/-- A row stays where another row grows. -/
theorem own_grown {w w' : World} {base e sz n : Nat} {v : Value} {xs : List Value} {g : Option Nat} (h : w.ownsRow base e sz v n xs) (hg : w.grownBy w' g) (hne : ∀ x, v.ownBlock = some x → g ≠ some x) : w'.ownsRow base e sz v n xs := by
  refine ⟨h.1, ?_⟩
  rcases h.2 with h0 | ⟨g', cap, cur, h1, h2, h3, r⟩
  · exact .inl h0
  · refine .inr ⟨g', cap, cur, h1, h2, ?_, r⟩
    rw [hg.block g' (Array.getElem?_eq_some_iff.1 h3).1 (fun e => hne g' (by rw [h1]; rfl) e.symm)]
    exact h3
/-- 'append(v, x...)', v a row of the call's own; where the new row lies. -/
theorem wp_app3 {P : Program} (w : World) {ops : Array Oper} {rest : List Oper} {o : Oper} {a : Act} {Q : Exit → Act → World → Prop} (hgd : o.guard = none) {s x : Operand} {t : TypeId}
    (ho : o.op = .call { callee := .builtin .append, args := #[s, x], argTypes := #[t, t] }) {e : TypeId} {sz bs base : Nat} (he : ElemTy P t e sz bs)
    {A0 : Option Addr} {c0 n : Nat} {xs : List Value} (hs : a.eval s = .slice A0 n c0) (hown : w.ownsRow base e sz (.slice A0 n c0) n xs)
    {B : Nat} {A : Option Addr} {m c : Nat} {news : List Value} (hx : a.eval x = .slice A m c) (hr : Rd w B A sz m news) (h1 : ∀ u ∈ news, u.oneCell' = true) (hb : (n + m) * bs ≤ 140737488355328) (hbase : base ≤ w.heap.size)
    (h : ∀ A' c' w', w'.ownsRow base e sz (.slice A' (n + m) c') (n + m) (xs ++ news) → Below base w w' → w.grownBy w' (Value.slice A0 n c0).ownBlock → ((Value.slice A' (n + m) c').ownBlock = (Value.slice A0 n c0).ownBlock ∨ (Value.slice A' (n + m) c').ownBlock = some w.heap.size) → wpList P ops Q rest (a.put o.dst (.slice A' (n + m) c')) w') : wpList P ops Q (o :: rest) a w := by
  refine wp_app w hgd ho he hs hown hx hr h1 hb hbase fun v' w' h2 h3 h4 => ?_
  obtain ⟨A', c', rfl⟩ := own_slice h2
  exact h A' c' w' h2 ((Below.refl _ _).grown h3 hbase (fun k hk => (hown.lt k hk).1)) h3 h4
end Go.Proofs.YtfdaheenigmkmaaDoor

/- Words for memory, eighth part: a cell of an element of an own row, stored. -/
namespace Go.Proofs.YtfdaheenigmkmaaDoor
open Go.RowKit Go.ChangeShapes Go.WideShapes Go.ChangeAt
set_option linter.unusedVariables false
set_option linter.unusedSimpArgs false
theorem flat_set {α : Type} {cells : α → List Value} {sz : Nat} (h : ∀ x, (cells x).length = sz) {v : Value} {y : α} {j : Nat} (hj : j < sz) : ∀ (l : List α) (k : Nat) (x : α), l[k]? = some x → cells y = (cells x).set j v → (l.set k y).flatMap cells = (l.flatMap cells).set (k * sz + j) v
  | [], k, x, hx, _ => by simp at hx
  | a :: l, 0, x, hx, he => by
    simp at hx
    subst hx
    rw [List.set_cons_zero, List.flatMap_cons, List.flatMap_cons, he, Nat.zero_mul, Nat.zero_add, List.set_append_left _ _ (by rw [h]; exact hj)]
  | a :: l, k + 1, x, hx, he => by
    rw [List.set_cons_succ, List.flatMap_cons, List.flatMap_cons, flat_set h hj l k x (by simpa using hx) he, List.set_append_right _ _ (by rw [h, Nat.add_mul]; omega), h]
    congr 1
    have : (k + 1) * sz + j - sz = k * sz + j := by rw [Nat.add_mul]; omega
    rw [this]
theorem Part.ok.storeOwn {w : World} {B g : Nat} {p : Part} (h : p.ok w B (some g)) (o : Nat) (u : Value) : p.ok (w.setCell ⟨g, o, none⟩ u) B (some g) :=
  ⟨h.1, fun hn => by
    obtain ⟨b, off, e, hb, hne, h2, hc⟩ := h.2 hn
    refine ⟨b, off, e, by simpa using hb, hne, h2, fun j v hv => ?_⟩
    exact (World.cell?_setCell_other (w := w) (a := ⟨g, o, none⟩) (b := ⟨b, off + j, none⟩) (v := u) (by intro e; injection e with e; exact hne (by rw [e]))).trans (hc j v hv)⟩
section
variable {β : Type} {cells : β → List Value} {parts : β → List Part}
/-- A cell of the element 'k' of such a row is stored. -/
theorem heap_set {w : World} {base sz c : Nat} {e : TypeId} {A : Option Addr} {l : List β} (hlen : ∀ x, (cells x).length = sz) (hown : Heaped cells parts w base e sz A c l) {k j : Nat} {x y : β} {v : Value} (hx : l[k]? = some x) (hj : j < sz) (hy : cells y = (cells x).set j v)
    (hp : ∀ p ∈ parts y, p.ok w base (Value.slice A l.length c).ownBlock) :
    ∃ g, A = some ⟨g, 0, none⟩ ∧ base ≤ g ∧ g < w.heap.size ∧ (∀ i u, (cells x)[i]? = some u → w.cell? ⟨g, k * sz + i, none⟩ = some u) ∧ (∀ i, w.frozen? ⟨g, i, none⟩ = false) ∧ Heaped cells parts (w.setCell ⟨g, k * sz + j, none⟩ v) base e sz A c (l.set k y) := by
  have hk := (List.getElem?_eq_some_iff.1 hx).1
  obtain ⟨h1, h2⟩ := hown
  rcases h1.2 with ⟨hv, h0⟩ | ⟨g, cap, cur, hv, hb, hg, r⟩
  · omega
  · injection hv with e1 e2 e3
    subst e1
    have h1' : w.ownsRow base e sz (.slice (some ⟨g, 0, none⟩) l.length c) l.length (l.flatMap cells) := h1
    have hgs := (Array.getElem?_eq_some_iff.1 hg).1
    refine ⟨g, rfl, hb, hgs, fun i u hu => ?_, fun i => h1'.frozenAt i, ?_⟩
    · have hh := (flatMap_get (cells := cells) (sz := sz) (l := l) (fun x _ => hlen x)).2 k x i u hx hu
      have hlt := (List.getElem?_eq_some_iff.1 hh).1
      rw [h1'.1] at hlt
      exact (h1'.cellAt _ hlt).trans hh
    · have hs := (h1'.stored (k * sz + j) v).1
      rw [← flat_set hlen hj l k x hx hy] at hs
      refine ⟨by rw [List.length_set]; exact hs, fun z hz p hpz => ?_⟩
      rw [List.length_set]
      rcases List.mem_or_eq_of_mem_set hz with hz | rfl
      · exact (h2 z hz p hpz).storeOwn _ _
      · exact (hp p hpz).storeOwn _ _
end
end Go.Proofs.YtfdaheenigmkmaaDoor

/- Words for memory, ninth part: an own row made shorter; what is behind is cleared. -/
namespace Go.Proofs.YtfdaheenigmkmaaDoor
open Go.RowKit Go.ChangeShapes Go.WideShapes Go.ChangeAt
set_option linter.unusedVariables false
set_option linter.unusedSimpArgs false
theorem own_shrink {w : World} {base sz n m c : Nat} {e : TypeId} {A : Option Addr} {xs : List Value} (h : w.ownsRow base e sz (.slice A n c) n xs) (hm : m ≤ n) : w.ownsRow base e sz (.slice A m c) m (xs.take (m * sz)) := by
  refine ⟨by rw [List.length_take, h.1, Nat.min_eq_left (Nat.mul_le_mul_right _ hm)], ?_⟩
  rcases h.2 with ⟨hv, h0⟩ | ⟨g, cap, cur, hv, hb, hg, hnc, hcm, hcs, ht⟩
  · injection hv with e1 e2 e3
    subst e1 e3
    have : m = 0 := by omega
    subst this
    exact .inl ⟨rfl, rfl⟩
  · injection hv with e1 e2 e3
    subst e1 e3
    refine .inr ⟨g, c, cur, rfl, hb, hg, by omega, hcm, hcs, ?_⟩
    rw [← ht, List.take_take, Nat.min_eq_left (Nat.mul_le_mul_right _ hm)]
theorem flat_take {α : Type} {cells : α → List Value} {sz : Nat} (h : ∀ x, (cells x).length = sz) (l : List α) (m : Nat) : (l.flatMap cells).take (m * sz) = (l.take m).flatMap cells := by
  exact take_flat h l m
section
variable {β : Type} {cells : β → List Value} {parts : β → List Part}
theorem Heaped.shrink {w : World} {base sz c : Nat} {e : TypeId} {A : Option Addr} {l : List β} (h : Heaped cells parts w base e sz A c l) (hl : ∀ x, (cells x).length = sz) (m : Nat) (hm : m ≤ l.length) : Heaped cells parts w base e sz A c (l.take m) := by
  have e1 : (l.take m).length = m := by rw [List.length_take]; omega
  refine ⟨by rw [e1, ← flat_take hl]; exact own_shrink h.1 hm, fun x hx p hp => ?_⟩
  rw [e1]
  have := h.2 x (List.mem_of_mem_take hx) p hp
  cases A with
  | none => exact this
  | some a => exact this
end
theorem Heaped.sameHeap {β : Type} {cells : β → List Value} {parts : β → List Part} {w w' : World} {base sz c : Nat} {e : TypeId} {A : Option Addr} {l : List β} (h : Heaped cells parts w base e sz A c l) (he : w'.heap = w.heap) : Heaped cells parts w' base e sz A c l :=
  ⟨⟨h.1.1, by rw [he]; exact h.1.2⟩, fun x hx p hp => ⟨(h.2 x hx p hp).1, fun hn => by
    obtain ⟨b, off, e, hb, hne, hB, hc⟩ := (h.2 x hx p hp).2 hn
    exact ⟨b, off, e, by rw [he]; exact hb, hne, hB, fun j u hu => (World.cell?_of_block (w := w) (by rw [he])).trans (hc j u hu)⟩⟩⟩
theorem grown_setCells (g : Nat) : ∀ (vs : List Value) (o : Nat) (w : World), w.grownBy (w.setCells g o vs) (some g)
  | [], o, w => ⟨rfl, rfl, rfl, Nat.le_refl _, fun _ _ _ => rfl⟩
  | v :: vs, o, w => by
    have h := grown_setCells g vs (o + 1) (w.setCell ⟨g, o, none⟩ v)
    refine ⟨h.os, h.tape, h.output, by have := h.size; simp at this; exact this, fun k hk hne => ?_⟩
    exact (h.block k (by simpa using hk) hne).trans (heap_setCell_other w ⟨g, o, none⟩ k v (fun e => hne (by simp [e])))
theorem own_setCells {w : World} {base sz n c g : Nat} {e : TypeId} : ∀ (vs xs : List Value) (o : Nat) (w : World), w.ownsRow base e sz (.slice (some ⟨g, 0, none⟩) n c) n xs → ∃ ys, (w.setCells g o vs).ownsRow base e sz (.slice (some ⟨g, 0, none⟩) n c) n ys ∧ ys.take o = xs.take o
  | [], xs, o, w, h => ⟨xs, h, rfl⟩
  | v :: vs, xs, o, w, h => by
    obtain ⟨ys, h1, h2⟩ := own_setCells (w := w) vs (xs.set o v) (o + 1) (w.setCell ⟨g, o, none⟩ v) (h.stored o v).1
    refine ⟨ys, h1, ?_⟩
    have h3 := congrArg (List.take o) h2
    rw [List.take_take, List.take_take, Nat.min_eq_left (by omega), List.take_set_of_le (by omega)] at h3
    exact h3
theorem own_setAll {base sz n c g : Nat} {e : TypeId} : ∀ (vs xs : List Value) (o : Nat) (w : World), o + vs.length ≤ xs.length → w.ownsRow base e sz (.slice (some ⟨g, 0, none⟩) n c) n xs → (w.setCells g o vs).ownsRow base e sz (.slice (some ⟨g, 0, none⟩) n c) n (xs.take o ++ (vs ++ xs.drop (o + vs.length)))
  | [], xs, o, w, ho, h => by
    rw [List.nil_append, List.length_nil, Nat.add_zero, List.take_append_drop]
    exact h
  | v :: vs, xs, o, w, ho, h => by
    rw [List.length_cons] at ho
    have h1 := own_setAll vs (xs.set o v) (o + 1) (w.setCell ⟨g, o, none⟩ v) (by rw [List.length_set]; omega) (h.stored o v).1
    have e1 : (xs.set o v).take (o + 1) = xs.take o ++ [v] := by
      rw [List.take_add_one, List.take_set_of_le (Nat.le_refl _), List.getElem?_set_self (by omega)]; rfl
    have e2 : (xs.set o v).drop (o + 1 + vs.length) = xs.drop (o + (v :: vs).length) := by
      rw [List.drop_set_of_lt (by omega), List.length_cons]; congr 1; omega
    rw [e1, e2, List.append_assoc] at h1
    exact h1
theorem flat_put {α : Type} {cells : α → List Value} {sz : Nat} (h : ∀ x, (cells x).length = sz) (l : List α) (k : Nat) (y : α) (hk : k < l.length) : (l.flatMap cells).take (k * sz) ++ (cells y ++ (l.flatMap cells).drop (k * sz + (cells y).length)) = (l.set k y).flatMap cells := by
  have e0 : l.flatMap cells = (l.take (k + 1)).flatMap cells ++ (l.drop (k + 1)).flatMap cells := by rw [← List.flatMap_append, List.take_append_drop]
  have el : ((l.take (k + 1)).flatMap cells).length = k * sz + (cells y).length := by
    rw [(flatMap_get (cells := cells) (sz := sz) (fun x _ => h x)).1, List.length_take, Nat.min_eq_left (by omega), h, Nat.add_mul, Nat.one_mul]
  rw [flat_take h, List.set_eq_take_append_cons_drop, if_pos hk, List.flatMap_append, List.flatMap_cons]
  congr 2
  rw [e0, ← el, List.drop_left]
section
variable {β : Type} {cells : β → List Value} {parts : β → List Part}
/-- All cells of the element 'k' of such a row are stored. -/
theorem heap_put {w : World} {base sz c : Nat} {e : TypeId} {A : Option Addr} {l : List β} (hlen : ∀ x, (cells x).length = sz) (hown : Heaped cells parts w base e sz A c l) {k : Nat} {x : β} (hx : l[k]? = some x) (y : β) (hp : ∀ p ∈ parts y, p.ok w base (Value.slice A l.length c).ownBlock) (hsz : 0 < sz) :
    ∃ g, A = some ⟨g, 0, none⟩ ∧ base ≤ g ∧ g < w.heap.size ∧ (∀ i u, (cells x)[i]? = some u → w.cell? ⟨g, k * sz + i, none⟩ = some u) ∧ (∀ i, w.frozen? ⟨g, i, none⟩ = false) ∧ Heaped cells parts (w.setCells g (k * sz) (cells y)) base e sz A c (l.set k y) := by
  have hk := (List.getElem?_eq_some_iff.1 hx).1
  obtain ⟨h1, h2⟩ := hown
  rcases h1.2 with ⟨hv, h0⟩ | ⟨g, cap, cur, hv, hb, hg, r⟩
  · omega
  · injection hv with e1 e2 e3
    subst e1
    have h1' : w.ownsRow base e sz (.slice (some ⟨g, 0, none⟩) l.length c) l.length (l.flatMap cells) := h1
    have hgs := (Array.getElem?_eq_some_iff.1 hg).1
    refine ⟨g, rfl, hb, hgs, fun i u hu => ?_, fun i => h1'.frozenAt i, ?_⟩
    · have hh := (flatMap_get (cells := cells) (sz := sz) (l := l) (fun x _ => hlen x)).2 k x i u hx hu
      have hlt := (List.getElem?_eq_some_iff.1 hh).1
      rw [h1'.1] at hlt
      exact (h1'.cellAt _ hlt).trans hh
    · have hle : k * sz + (cells y).length ≤ (l.flatMap cells).length := by
        rw [h1.1, hlen]
        have := Nat.mul_le_mul_right sz (show k + 1 ≤ l.length by omega)
        rw [Nat.add_mul, Nat.one_mul] at this
        exact this
      have hs := own_setAll (cells y) (l.flatMap cells) (k * sz) w hle h1'
      rw [flat_put hlen l k y hk] at hs
      have hgr := grown_setCells g (cells y) (k * sz) w
      refine ⟨by rw [List.length_set]; exact hs, fun z hz p hpz => ?_⟩
      rw [List.length_set]
      rcases List.mem_or_eq_of_mem_set hz with hz | rfl
      · exact (h2 z hz p hpz).grown hgr
      · exact (hp p hpz).grown hgr
end
/-- 'clear(s[i:])' at an own row: what is ahead stays. -/
theorem run_clear_own {P : Program} {w : World} {t e et : TypeId} {z : Value} {base sz n c g : Nat} {xs : List Value} (ht : P.underlying t = some (.slice et)) (hv : ∀ w, (zeroValue et).run P w = .ok z w) (hz : z.cells.size = sz) (h1 : z.cells.all (·.oneCell') = true)
    (h : w.ownsRow base e sz (.slice (some ⟨g, 0, none⟩) n c) n xs) {i k o c' : Nat} (hi : i + k = n) (ho : o = i * sz) :
    ∃ w', (∀ ty, (Builtin.clear_ #[t] ty #[.slice (some ⟨g, o, none⟩) k c']).run P w = .ok (.tuple #[]) w') ∧ w'.ownsRow base e sz (.slice (some ⟨g, 0, none⟩) i c) i (xs.take (i * sz)) ∧ w.grownBy w' (some g) := by
  subst ho
  rcases Nat.eq_zero_or_pos k with rfl | hk
  · refine ⟨w, fun ty => by simp [Builtin.clear_, run_underlying ht], own_shrink h (by omega), ⟨rfl, rfl, rfl, Nat.le_refl _, fun _ _ _ => rfl⟩⟩
  · have hxl := h.1
    have hlen : (Builtin.zeroCells z.cells k).toList.length = k * sz := by simp [Builtin.zeroCells, hz, Nat.mul_comm]
    have hone : ∀ v ∈ (Builtin.zeroCells z.cells k).toList, v.oneCell' = true := by
      intro v hv
      simp only [Builtin.zeroCells, Array.toList_map, List.mem_map] at hv
      obtain ⟨j, hj, rfl⟩ := hv
      have hjr : j < k * sz := by
        have := hj
        simp [hz, Nat.mul_comm] at this
        rw [Nat.mul_comm] at this
        exact this
      have hs0 : 0 < sz := by
        rcases Nat.eq_zero_or_pos sz with h0 | h0
        · subst h0; omega
        · exact h0
      have hjs : j % z.cells.size < z.cells.size := by rw [hz]; exact Nat.mod_lt _ hs0
      have := Array.all_eq_true.1 h1 (j % z.cells.size) hjs
      rw [getElem!_pos z.cells _ hjs]
      exact this
    have hst := run_storeCells_cells (P := P) g (i * sz) (Builtin.zeroCells z.cells k).toList 0 w (fun j hj => by
        rw [hlen] at hj
        have hb : i * sz + 0 + j < xs.length := by rw [hxl, ← hi, Nat.add_mul]; omega
        rw [h.cellAt _ (by rw [hxl] at hb; exact hb)]
        rw [List.getElem?_eq_getElem hb]; rfl) (fun j hj => h.frozenAt _) hone
    simp only [Nat.add_zero] at hst
    obtain ⟨ys, hy1, hy2⟩ := own_setCells (w := w) (Builtin.zeroCells z.cells k).toList xs (i * sz) w h
    obtain ⟨m, rfl⟩ : ∃ m, k = m + 1 := ⟨k - 1, by omega⟩
    refine ⟨w.setCells g (i * sz) (Builtin.zeroCells z.cells (m + 1)).toList, fun ty => ?_, ?_, grown_setCells _ _ _ _⟩
    · simp [Builtin.clear_, run_underlying ht, hv, hst]
    · have := own_shrink (m := i) hy1 (by omega)
      rw [hy2] at this
      exact this
end Go.Proofs.YtfdaheenigmkmaaDoor

/- Lists of lists in memory. -/
namespace Go.Proofs.YtfdaheenigmkmaaDoor
open Go.RowKit Go.ChangeShapes Go.WideShapes Go.ChangeAt
set_option linter.unusedVariables false
set_option linter.unusedSimpArgs false
/-- A list, and where it lies. -/
structure ML (α : Type) where
  A : Option Addr
  c : Nat
  l : List α
def ML.cells {α : Type} (x : ML α) : List Value := [.slice x.A x.l.length x.c]
def ML.rd {α : Type} (cells : α → List Value) (sz : Nat) (w : World) (B : Nat) (x : ML α) : Prop := Rd w B x.A sz x.l.length (x.l.flatMap cells)
def ML.wf {α : Type} (cells : α → List Value) (sz bs : Nat) (wf : α → Prop) (w : World) (x : ML α) : Prop := x.rd cells sz w w.heap.size ∧ x.l.length ≤ x.c ∧ x.c * bs ≤ 140737488351232 ∧ ∀ n ∈ x.l, wf n
def ML.parts {α : Type} (cells : α → List Value) (sz : Nat) (x : ML α) : List Part := [⟨x.A, sz, x.l.length, x.l.flatMap cells⟩]
/-- Lists at 'A'. -/
abbrev Grid {α : Type} (cells : α → List Value) (sz : Nat) (w : World) (B : Nat) (A : Option Addr) (l : List (ML α)) : Prop := Led ML.cells (ML.parts cells sz) w B 1 A l
section
variable {α : Type} {cells : α → List Value} {sz : Nat}
theorem Grid.any {w : World} {B : Nat} {A : Option Addr} {l : List (ML α)} (h : Grid cells sz w B A l) (hs : 0 < sz) : Grid cells sz w w.heap.size A l :=
  ⟨h.1.any (by decide), fun x hx p hp => by have := h.2 x hx p hp; obtain rfl := List.mem_singleton.1 hp; exact Rd.any (sz := sz) this hs⟩
theorem Grid.b {w w' : World} {B : Nat} {A : Option Addr} {l : List (ML α)} (h : Grid cells sz w B A l) (hs : 0 < sz) (hb : Below B w w') : Grid cells sz w' w'.heap.size A l := Grid.any (Led.below h hb) hs
theorem Grid.data {w : World} {B : Nat} {A : Option Addr} {l : List (ML α)} (h : Grid cells sz w B A l) {x : ML α} (hx : x ∈ l) : x.rd cells sz w B := h.2 x hx _ (List.mem_singleton.2 rfl)
theorem grid_of {w : World} {bs bs' : Nat} {wf : α → Prop} {A : Option Addr} {c : Nat} {l : List (ML α)} (h : Flat w w.heap.size bs 1 ML.cells A c l) (hw : ∀ x ∈ l, x.wf cells sz bs' wf w) : Grid cells sz w w.heap.size A l :=
  ⟨h.2.2.2, fun x hx p hp => by obtain rfl := List.mem_singleton.1 hp; exact (hw x hx).1⟩
theorem one_ML (l : List (ML α)) : ∀ u ∈ l.flatMap ML.cells, u.oneCell' = true := by
  intro u hu; obtain ⟨x, _, h⟩ := List.mem_flatMap.1 hu; simp [ML.cells] at h; subst h; rfl
theorem flat_ML : ∀ l : List (ML α), l.flatMap ML.cells = l.map fun x => Value.slice x.A x.l.length x.c
  | [] => rfl
  | a :: l => by rw [List.flatMap_cons, flat_ML l]; rfl
/-- The cell of a list. -/
theorem ml_cell {w : World} {B n k : Nat} {A : Option Addr} {l : List (ML α)} {e : ML α} (h : Rd w B A 1 n (l.flatMap ML.cells)) (hl : l.length = n) (hk : l[k]? = some e) :
    ∃ b off, A = some ⟨b, off, none⟩ ∧ b < B ∧ w.cell? ⟨b, off + k, none⟩ = some (.slice e.A e.l.length e.c) := by
  have hk' := (List.getElem?_eq_some_iff.1 hk).1
  obtain ⟨b, off, rfl, hb, hc⟩ := h.2 (by omega)
  exact ⟨b, off, rfl, hb, hc _ _ (by rw [flat_ML, List.getElem?_map, hk]; rfl)⟩
end
section
variable {H : Type} {enc : TypeId × Value → H} {P : Program} {W : World}
theorem opn_ML {t : TypeId} {sz bs : Nat} {α : Type} {cells : α → List Value} {wf : α → Prop} (h : Opn enc P W t (FlatArg W bs sz cells wf)) : Opn enc P W t (fun cs (x : ML α) => cs = x.cells ∧ x.wf cells sz bs wf W) :=
  h.mono (fun cs l h => by
    obtain ⟨A, c, h1, ⟨f1, f2, f3, f4⟩, w1⟩ := h
    exact ⟨⟨A, c, l⟩, h1, f4, f1, f2, w1⟩)
end
end Go.Proofs.YtfdaheenigmkmaaDoor

/- Words for memory, tenth part: own rows that lie apart, and a row of them. -/
namespace Go.Proofs.YtfdaheenigmkmaaDoor
open Go.RowKit Go.ChangeShapes Go.WideShapes Go.ChangeAt
set_option linter.unusedVariables false
set_option linter.unusedSimpArgs false
def ML.blk {α : Type} (x : ML α) : Option Nat := (Value.slice x.A x.l.length x.c).ownBlock
section
variable {α : Type} {cells : α → List Value}
/-- A list lies in a row of the call's own. -/
def ML.own (cells : α → List Value) (e : TypeId) (sz : Nat) (w : World) (base : Nat) (x : ML α) : Prop := w.ownsRow base e sz (.slice x.A x.l.length x.c) x.l.length (x.l.flatMap cells)
/-- Rows of the call's own that lie apart; none in the block g. -/
structure OwnRows (cells : α → List Value) (e : TypeId) (sz : Nat) (w : World) (base : Nat) (g : Option Nat) (rs : List (ML α)) : Prop where
  own : ∀ (i : Nat) (x : ML α), rs[i]? = some x → x.own cells e sz w base
  off : ∀ (i : Nat) (x : ML α) (k : Nat), rs[i]? = some x → x.blk = some k → g ≠ some k
  apart : ∀ (i j : Nat) (x y : ML α) (k : Nat), i ≠ j → rs[i]? = some x → rs[j]? = some y → x.blk = some k → y.blk ≠ some k
theorem OwnRows.below {w w' : World} {base base' sz : Nat} {e : TypeId} {g : Option Nat} {rs : List (ML α)} (h : OwnRows cells e sz w base g rs) (hb : Below w.heap.size w w') (hbb : base' ≤ base) : OwnRows cells e sz w' base' g rs :=
  ⟨fun i x hx => own_below (h.own i x hx) hb hbb, h.off, h.apart⟩
theorem OwnRows.grown {w w' : World} {base sz : Nat} {e : TypeId} {g : Option Nat} {rs : List (ML α)} (h : OwnRows cells e sz w base g rs) (hg : w.grownBy w' g) : OwnRows cells e sz w' base g rs :=
  ⟨fun i x hx => own_grown (h.own i x hx) hg (fun k hk => h.off i x k hx hk), h.off, h.apart⟩
theorem OwnRows.lt {w : World} {base sz : Nat} {e : TypeId} {g : Option Nat} {rs : List (ML α)} (h : OwnRows cells e sz w base g rs) {i k : Nat} {x : ML α} (hx : rs[i]? = some x) (hk : x.blk = some k) : base ≤ k ∧ k < w.heap.size := World.ownsRow.lt (h.own i x hx) k hk
/-- One of them grew. -/
theorem OwnRows.put {w w' : World} {base sz : Nat} {e : TypeId} {g : Option Nat} {rs : List (ML α)} (h : OwnRows cells e sz w base g rs) {i : Nat} {x : ML α} (hx : rs[i]? = some x) {y : ML α} (hy : y.own cells e sz w' base) (h3 : w.grownBy w' x.blk)
    (h4 : y.blk = x.blk ∨ y.blk = some w.heap.size) (hgl : ∀ k, g = some k → k < w.heap.size) : OwnRows cells e sz w' base g (rs.set i y) := by
  have hi := (List.getElem?_eq_some_iff.1 hx).1
  have key : ∀ (j : Nat) (z : ML α), (rs.set i y)[j]? = some z → (j = i ∧ z = y) ∨ (j ≠ i ∧ rs[j]? = some z) := by
    intro j z hz
    rw [List.getElem?_set] at hz
    by_cases e : i = j
    · subst e
      rw [if_pos rfl, if_pos hi] at hz
      injection hz with hz
      exact .inl ⟨rfl, hz.symm⟩
    · rw [if_neg e] at hz
      exact .inr ⟨fun e2 => e e2.symm, hz⟩
  refine ⟨fun j z hz => ?_, fun j z k hz hk => ?_, fun j m z u k hjm hz hu hk hu2 => ?_⟩
  · rcases key j z hz with ⟨rfl, rfl⟩ | ⟨hj, hz⟩
    · exact hy
    · exact own_grown (h.own j z hz) h3 (fun k hk => h.apart j i z x k hj hz hx hk)
  · rcases key j z hz with ⟨rfl, rfl⟩ | ⟨hj, hz⟩
    · rcases h4 with h4 | h4
      · rw [h4] at hk; exact h.off j x k hx hk
      · rw [h4] at hk; injection hk with hk
        intro e; have := hgl k e; omega
    · exact h.off j z k hz hk
  · rcases key j z hz with ⟨e1, e2⟩ | ⟨hj, hz'⟩
    · rcases key m u hu with ⟨e3, _⟩ | ⟨hm, hu'⟩
      · exact hjm (e1.trans e3.symm)
      · rw [e2] at hk
        rcases h4 with h4 | h4
        · rw [h4] at hk; exact h.apart i m x u k (fun e => hm e.symm) hx hu' hk hu2
        · rw [h4] at hk; injection hk with hk
          have := (h.lt hu' hu2).2; omega
    · rcases key m u hu with ⟨e3, e4⟩ | ⟨hm, hu'⟩
      · rw [e4] at hu2
        rcases h4 with h4 | h4
        · rw [h4] at hu2; exact h.apart j i z x k hj hz' hx hk hu2
        · rw [h4] at hu2; injection hu2 with hu2
          have := (h.lt hz' hk).2; omega
      · exact h.apart j m z u k hjm hz' hu' hk hu2
/-- A row of the call's own; its elements lead to rows of its own that lie apart. -/
def OwnGrid {β : Type} (bc : β → List Value) (inner : β → ML α) (cells : α → List Value) (eo ei : TypeId) (szo sz : Nat) (w : World) (base : Nat) (A : Option Addr) (c : Nat) (l : List β) : Prop :=
  Heaped bc (fun _ => []) w base eo szo A c l ∧ OwnRows cells ei sz w base (Value.slice A l.length c).ownBlock (l.map inner)
section
variable {β : Type} {bc : β → List Value} {inner : β → ML α} {eo ei : TypeId} {szo sz : Nat}
theorem OwnGrid.below {w w' : World} {base base' c : Nat} {A : Option Addr} {l : List β} (h : OwnGrid bc inner cells eo ei szo sz w base A c l) (hb : Below w.heap.size w w') (hbb : base' ≤ base) : OwnGrid bc inner cells eo ei szo sz w' base' A c l :=
  ⟨h.1.below hb hbb, h.2.below hb hbb⟩
theorem OwnGrid.row {w : World} {base c i : Nat} {A : Option Addr} {l : List β} {x : β} (h : OwnGrid bc inner cells eo ei szo sz w base A c l) (hx : l[i]? = some x) : (inner x).own cells ei sz w base :=
  h.2.own i (inner x) (by rw [List.getElem?_map, hx]; rfl)
/-- The row of the element i grew, and its slice is stored. -/
theorem OwnGrid.put {w w' : World} {base c i j : Nat} {A : Option Addr} {l : List β} {x y : β} {v : Value} (h : OwnGrid bc inner cells eo ei szo sz w base A c l) (hx : l[i]? = some x) (hy : (inner y).own cells ei sz w' base) (h3 : w.grownBy w' (inner x).blk)
    (h4 : (inner y).blk = (inner x).blk ∨ (inner y).blk = some w.heap.size) (hlen : ∀ x, (bc x).length = szo) (hj : j < szo) (he : bc y = (bc x).set j v) :
    ∃ g, A = some ⟨g, 0, none⟩ ∧ base ≤ g ∧ g < w.heap.size ∧ (∀ i' u, (bc x)[i']? = some u → w'.cell? ⟨g, i * szo + i', none⟩ = some u) ∧ (∀ i', w'.frozen? ⟨g, i', none⟩ = false) ∧ OwnGrid bc inner cells eo ei szo sz (w'.setCell ⟨g, i * szo + j, none⟩ v) base A c (l.set i y) := by
  have hxi : (l.map inner)[i]? = some (inner x) := by rw [List.getElem?_map, hx]; rfl
  have hH : Heaped bc (fun _ => []) w' base eo szo A c l := ⟨own_grown h.1.1 h3 (fun k hk hk2 => h.2.off i (inner x) k hxi hk2 hk), fun _ _ _ hp => by cases hp⟩
  have hR := h.2.put hxi hy h3 h4 (fun k hk => h.1.lt k hk)
  obtain ⟨g, rfl, hb, hg, hc, hf, hH2⟩ := heap_set (v := v) (y := y) hlen hH hx hj he (fun _ hp => by cases hp)
  refine ⟨g, rfl, hb, ?_, hc, hf, hH2, ?_⟩
  · exact h.1.lt g rfl
  · rw [List.length_set, List.map_set]
    exact hR.grown (grown_setCells g [v] (i * szo + j) w')
end
theorem OwnGrid.led {eo ei : TypeId} {sz : Nat} {w : World} {base c : Nat} {A : Option Addr} {l : List (ML α)} (h : OwnGrid ML.cells id cells eo ei 1 sz w base A c l) : Grid cells sz w w.heap.size A l :=
  ⟨rd_own h.1.1, fun x hx p hp => by
    obtain rfl := List.mem_singleton.1 hp
    obtain ⟨i, hi⟩ := List.mem_iff_getElem?.1 hx
    exact rd_own (h.row hi)⟩
end
/-- 'append(v, x...)', v a row of the call's own, as one step of a region that draws; where the new row lies. -/
theorem step_app3 {P : Program} {ops : Array Oper} {o : Oper} {a : Act} {w : World} {K : Act → World → Prop} {Q : Exit → Act → World → Prop} {E : Prop} (hgd : o.guard = none) {s x : Operand} {t : TypeId}
    (ho : o.op = .call { callee := .builtin .append, args := #[s, x], argTypes := #[t, t] }) {e : TypeId} {sz bs base : Nat} (he : ElemTy P t e sz bs)
    {A0 : Option Addr} {c0 n : Nat} {xs : List Value} (hs : a.eval s = .slice A0 n c0) (hown : w.ownsRow base e sz (.slice A0 n c0) n xs)
    {B : Nat} {A : Option Addr} {m c : Nat} {news : List Value} (hx : a.eval x = .slice A m c) (hr : Rd w B A sz m news) (h1 : ∀ u ∈ news, u.oneCell' = true) (hb : (n + m) * bs ≤ 140737488355328) (hbase : base ≤ w.heap.size)
    (h : ∀ A' c' w', w'.ownsRow base e sz (.slice A' (n + m) c') (n + m) (xs ++ news) → Below base w w' → w.grownBy w' (Value.slice A0 n c0).ownBlock → ((Value.slice A' (n + m) c').ownBlock = (Value.slice A0 n c0).ownBlock ∨ (Value.slice A' (n + m) c').ownBlock = some w.heap.size) → K (a.put o.dst (.slice A' (n + m) c')) w') :
    if Region.wanted o (yielded ops a.tmps) = true then Oper.wp P o a w K Q else E := by
  have hw : Region.wanted o (yielded ops a.tmps) = true := by simp [Region.wanted, hgd]
  rw [if_pos hw]
  obtain ⟨v', w', hrun, h2, h3, h4⟩ := run_app w (ty := o.type) (c := c) he hown hr h1 hb hbase
  obtain ⟨A', c', rfl⟩ := own_slice h2
  unfold Oper.wp execOp
  simp only [ho, resolve, invoke, builtin, Sem.run_bind, Sem.run_pure, Result.andThen_ok, List.map_toArray, List.map_cons, List.map_nil, hs, hx, hrun]
  exact h A' c' w' h2 ((Below.refl _ _).grown h3 hbase (fun k hk => (hown.lt k hk).1)) h3 h4
end Go.Proofs.YtfdaheenigmkmaaDoor

/- Words for memory, eleventh part: small words; a row of rows of the call's own that grows. -/
namespace Go.Proofs.YtfdaheenigmkmaaDoor
open Go.RowKit Go.ChangeShapes Go.WideShapes Go.ChangeAt
set_option linter.unusedVariables false
set_option linter.unusedSimpArgs false
theorem take_nextV {α : Type} {l : List α} {k : Nat} {x : α} (h : l[k]? = some x) : l.take (k + 1) = l.take k ++ [x] := by
  rw [List.take_add_one, h]; rfl
theorem one_cellV (v : Value) (h : v.oneCell' = true) : ∀ u ∈ (#[v] : Array Value).toList, u.oneCell' = true := by
  intro u hu; simp at hu; subst hu; exact h
section
variable {α : Type} {cells : α → List Value}
/-- The row's own block grew or moved. -/
theorem OwnRows.regrow {w w' : World} {base sz : Nat} {e : TypeId} {g g' : Option Nat} {rs : List (ML α)} (h : OwnRows cells e sz w base g rs) (hg : w.grownBy w' g) (h4 : g' = g ∨ g' = some w.heap.size) : OwnRows cells e sz w' base g' rs :=
  ⟨fun i x hx => own_grown (h.own i x hx) hg (fun k hk => h.off i x k hx hk), fun i x k hx hk => by
    rcases h4 with rfl | rfl
    · exact h.off i x k hx hk
    · have := (h.lt hx hk).2
      intro e; injection e with e; omega, h.apart⟩
theorem OwnRows.snoc {w : World} {base sz : Nat} {e : TypeId} {g : Option Nat} {rs : List (ML α)} (h : OwnRows cells e sz w base g rs) {y : ML α} (hy : y.own cells e sz w base) (h1 : ∀ k, y.blk = some k → g ≠ some k) (h2 : ∀ (i : Nat) (x : ML α) (k : Nat), rs[i]? = some x → x.blk = some k → y.blk ≠ some k) : OwnRows cells e sz w base g (rs ++ [y]) := by
  have key : ∀ (j : Nat) (z : ML α), (rs ++ [y])[j]? = some z → (j = rs.length ∧ z = y) ∨ (j < rs.length ∧ rs[j]? = some z) := by
    intro j z hz
    rcases Nat.lt_or_ge j rs.length with hj | hj
    · rw [List.getElem?_append_left hj] at hz; exact .inr ⟨hj, hz⟩
    · rw [List.getElem?_append_right hj] at hz
      rcases Nat.eq_zero_or_pos (j - rs.length) with h0 | h0
      · rw [h0] at hz; simp at hz; exact .inl ⟨by omega, hz.symm⟩
      · rw [List.getElem?_eq_none (by simp; omega)] at hz; cases hz
  refine ⟨fun j z hz => ?_, fun j z k hz hk => ?_, fun j m z u k hjm hz hu hk hu2 => ?_⟩
  · rcases key j z hz with ⟨_, rfl⟩ | ⟨_, hz⟩
    · exact hy
    · exact h.own j z hz
  · rcases key j z hz with ⟨_, rfl⟩ | ⟨_, hz⟩
    · exact h1 k hk
    · exact h.off j z k hz hk
  · rcases key j z hz with ⟨e1, rfl⟩ | ⟨_, hz'⟩
    · rcases key m u hu with ⟨e3, _⟩ | ⟨_, hu'⟩
      · exact hjm (e1.trans e3.symm)
      · exact h2 m u k hu' hu2 hk
    · rcases key m u hu with ⟨_, rfl⟩ | ⟨_, hu'⟩
      · exact h2 j z k hz' hk hu2
      · exact h.apart j m z u k hjm hz' hu' hk hu2
theorem OwnRows.alloc {w : World} {base sz : Nat} {e : TypeId} {g : Option Nat} {rs : List (ML α)} (h : OwnRows cells e sz w base g rs) (o : Obj) : OwnRows cells e sz (w.alloc o) base g rs := h.below ((Below.refl _ _).alloc (Nat.le_refl _) o) (Nat.le_refl _)
theorem OwnRows.store {w : World} {base sz : Nat} {e : TypeId} {g : Option Nat} {rs : List (ML α)} (h : OwnRows cells e sz w base g rs) {a : Addr} (ha : a.block < base) (u : Value) : OwnRows cells e sz (w.setCell a u) base g rs :=
  ⟨fun i x hx => ownsRow_setCell_below (h.own i x hx) ha u, h.off, h.apart⟩
section
variable {β : Type} {bc : β → List Value} {inner : β → ML α} {eo ei : TypeId} {szo sz : Nat}
theorem OwnGrid.alloc {w : World} {base c : Nat} {A : Option Addr} {l : List β} (h : OwnGrid bc inner cells eo ei szo sz w base A c l) (o : Obj) : OwnGrid bc inner cells eo ei szo sz (w.alloc o) base A c l := ⟨h.1.alloc o, h.2.alloc o⟩
theorem OwnGrid.store {w : World} {base c : Nat} {A : Option Addr} {l : List β} (h : OwnGrid bc inner cells eo ei szo sz w base A c l) {a : Addr} (ha : a.block < base) (u : Value) : OwnGrid bc inner cells eo ei szo sz (w.setCell a u) base A c l := ⟨h.1.store ha u, h.2.store ha u⟩
theorem OwnGrid.less {w : World} {base base' c : Nat} {A : Option Addr} {l : List β} (h : OwnGrid bc inner cells eo ei szo sz w base A c l) (hb : base' ≤ base) : OwnGrid bc inner cells eo ei szo sz w base' A c l := h.below (Below.refl _ _) hb
theorem OwnGrid.nil {w : World} {base : Nat} : OwnGrid bc inner cells eo ei szo sz w base none 0 [] :=
  ⟨Heaped.nil, fun i x hx => (by simp at hx), fun i x k hx => (by simp at hx), fun i j x y k _ hx => (by simp at hx)⟩
/-- What was made behind the grid lies apart from it. -/
def Aside (inner : β → ML α) (A : Option Addr) (c : Nat) (l : List β) (y : ML α) : Prop :=
  (∀ k, y.blk = some k → (Value.slice A l.length c).ownBlock ≠ some k) ∧ ∀ (i : Nat) (x : ML α) (k : Nat), (l.map inner)[i]? = some x → x.blk = some k → y.blk ≠ some k
theorem OwnGrid.aside {w w' : World} {base base' c : Nat} {A : Option Addr} {l : List β} (h : OwnGrid bc inner cells eo ei szo sz w base A c l) {y : ML α} (hy : y.own cells ei sz w' base') (hb : w.heap.size ≤ base') : Aside inner A c l y := by
  refine ⟨fun k hk e => ?_, fun i x k hx hk e => ?_⟩
  · have h1 := (World.ownsRow.lt hy k hk).1
    have h2 := h.1.lt k e
    omega
  · have h1 := (World.ownsRow.lt hy k e).1
    have h2 := (h.2.lt hx hk).2
    omega
theorem aside_nil {A : Option Addr} {c c' : Nat} {l : List β} : Aside inner A c l ⟨none, c', []⟩ := ⟨fun k hk => (by cases hk), fun i x k hx hk e => (by cases e)⟩
theorem grid_push {w w' : World} {base : Nat} {A0 A' : Option Addr} {c0 c' : Nat} {l : List β} (h : OwnGrid bc inner cells eo ei szo sz w base A0 c0 l) (y : β) (hy : (inner y).own cells ei sz w base) (ha : Aside inner A0 c0 l (inner y))
    (h2 : w'.ownsRow base eo szo (.slice A' (l.length + 1) c') (l.length + 1) (l.flatMap bc ++ bc y)) (h3 : w.grownBy w' (Value.slice A0 l.length c0).ownBlock)
    (h4 : (Value.slice A' (l.length + 1) c').ownBlock = (Value.slice A0 l.length c0).ownBlock ∨ (Value.slice A' (l.length + 1) c').ownBlock = some w.heap.size) : OwnGrid bc inner cells eo ei szo sz w' base A' c' (l ++ [y]) := by
  refine ⟨heap_push h.1 y (fun p hp => by cases hp) h2 h3 h4, ?_⟩
  have e1 : (l ++ [y]).length = l.length + 1 := by simp
  rw [e1, List.map_append, List.map_singleton]
  exact (h.2.snoc hy ha.1 ha.2).regrow h3 h4
/-- 'append(v, x)' at such a row; x's cells lie in a block of their own. -/
theorem wp_grid {P : Program} (w : World) {ops : Array Oper} {rest : List Oper} {o : Oper} {a : Act} {Q : Exit → Act → World → Prop} (hgd : o.guard = none) {s x : Operand} {t : TypeId}
    (ho : o.op = .call { callee := .builtin .append, args := #[s, x], argTypes := #[t, t] }) {bs base : Nat} (he : ElemTy P t eo szo bs)
    {A0 : Option Addr} {c0 n : Nat} {l : List β} (hs : a.eval s = .slice A0 n c0) (hn : n = l.length) (hown : OwnGrid bc inner cells eo ei szo sz w base A0 c0 l) (y : β) (hy : (inner y).own cells ei sz w base) (ha : Aside inner A0 c0 l (inner y))
    {B : Nat} {A : Option Addr} {c : Nat} (hx : a.eval x = .slice A 1 c) (hr : Rd w B A szo 1 (bc y)) (h1 : ∀ u ∈ bc y, u.oneCell' = true) (hb : (n + 1) * bs ≤ 140737488355328) (hbase : base ≤ w.heap.size)
    (h : ∀ A' c' w', OwnGrid bc inner cells eo ei szo sz w' base A' c' (l ++ [y]) → Below base w w' → w.grownBy w' (Value.slice A0 n c0).ownBlock → wpList P ops Q rest (a.put o.dst (.slice A' (n + 1) c')) w') : wpList P ops Q (o :: rest) a w := by
  subst hn
  refine wp_app w hgd ho he hs hown.1.1 hx hr h1 hb hbase fun v' w' h2 h3 h4 => ?_
  obtain ⟨A', c', rfl⟩ := own_slice h2
  exact h A' c' w' (grid_push hown y hy ha h2 h3 h4) ((Below.refl _ _).grown h3 hbase (fun k hk => (hown.1.1.lt k hk).1)) h3
/-- 'append(v, x)' at such a row; where the new row lies. -/
theorem wp_grid3 {P : Program} (w : World) {ops : Array Oper} {rest : List Oper} {o : Oper} {a : Act} {Q : Exit → Act → World → Prop} (hgd : o.guard = none) {s x : Operand} {t : TypeId}
    (ho : o.op = .call { callee := .builtin .append, args := #[s, x], argTypes := #[t, t] }) {bs base : Nat} (he : ElemTy P t eo szo bs)
    {A0 : Option Addr} {c0 n : Nat} {l : List β} (hs : a.eval s = .slice A0 n c0) (hn : n = l.length) (hown : OwnGrid bc inner cells eo ei szo sz w base A0 c0 l) (y : β) (hy : (inner y).own cells ei sz w base) (ha : Aside inner A0 c0 l (inner y))
    {B : Nat} {A : Option Addr} {c : Nat} (hx : a.eval x = .slice A 1 c) (hr : Rd w B A szo 1 (bc y)) (h1 : ∀ u ∈ bc y, u.oneCell' = true) (hb : (n + 1) * bs ≤ 140737488355328) (hbase : base ≤ w.heap.size)
    (h : ∀ A' c' w', OwnGrid bc inner cells eo ei szo sz w' base A' c' (l ++ [y]) → Below base w w' → w.grownBy w' (Value.slice A0 n c0).ownBlock → ((Value.slice A' (n + 1) c').ownBlock = (Value.slice A0 n c0).ownBlock ∨ (Value.slice A' (n + 1) c').ownBlock = some w.heap.size) → wpList P ops Q rest (a.put o.dst (.slice A' (n + 1) c')) w') : wpList P ops Q (o :: rest) a w := by
  subst hn
  refine wp_app w hgd ho he hs hown.1.1 hx hr h1 hb hbase fun v' w' h2 h3 h4 => ?_
  obtain ⟨A', c', rfl⟩ := own_slice h2
  exact h A' c' w' (grid_push hown y hy ha h2 h3 h4) ((Below.refl _ _).grown h3 hbase (fun k hk => (hown.1.1.lt k hk).1)) h3 h4
/-- The same, as one step of a region that draws. -/
theorem step_grid {P : Program} {ops : Array Oper} {o : Oper} {a : Act} {w : World} {K : Act → World → Prop} {Q : Exit → Act → World → Prop} {E : Prop} (hgd : o.guard = none) {s x : Operand} {t : TypeId}
    (ho : o.op = .call { callee := .builtin .append, args := #[s, x], argTypes := #[t, t] }) {bs base : Nat} (he : ElemTy P t eo szo bs)
    {A0 : Option Addr} {c0 n : Nat} {l : List β} (hs : a.eval s = .slice A0 n c0) (hn : n = l.length) (hown : OwnGrid bc inner cells eo ei szo sz w base A0 c0 l) (y : β) (hy : (inner y).own cells ei sz w base) (ha : Aside inner A0 c0 l (inner y))
    {B : Nat} {A : Option Addr} {c : Nat} (hx : a.eval x = .slice A 1 c) (hr : Rd w B A szo 1 (bc y)) (h1 : ∀ u ∈ bc y, u.oneCell' = true) (hb : (n + 1) * bs ≤ 140737488355328) (hbase : base ≤ w.heap.size)
    (h : ∀ A' c' w', OwnGrid bc inner cells eo ei szo sz w' base A' c' (l ++ [y]) → Below base w w' → w.grownBy w' (Value.slice A0 n c0).ownBlock → K (a.put o.dst (.slice A' (n + 1) c')) w') :
    if Region.wanted o (yielded ops a.tmps) = true then Oper.wp P o a w K Q else E := by
  subst hn
  have hw : Region.wanted o (yielded ops a.tmps) = true := by simp [Region.wanted, hgd]
  rw [if_pos hw]
  obtain ⟨v', w', hrun, h2, h3, h4⟩ := run_app w (ty := o.type) (c := c) he hown.1.1 hr h1 hb hbase
  obtain ⟨A', c', rfl⟩ := own_slice h2
  unfold Oper.wp execOp
  simp only [ho, resolve, invoke, builtin, Sem.run_bind, Sem.run_pure, Result.andThen_ok, List.map_toArray, List.map_cons, List.map_nil, hs, hx, hrun]
  exact h A' c' w' (grid_push hown y hy ha h2 h3 h4) ((Below.refl _ _).grown h3 hbase (fun k hk => (hown.1.1.lt k hk).1)) h3
end
end
end Go.Proofs.YtfdaheenigmkmaaDoor

