/- Words for memory: blocks bear tags; what writes one tag leaves all others as they were. -/
import Derived.Test.YteefemiieidpaaaMem
namespace Go.Proofs.Yteefemiieidpaaa
open Go.RowKit Go.ChangeShapes Go.WideShapes Go.ChangeAt
set_option linter.unusedVariables false
set_option linter.unusedSimpArgs false
abbrev Tags := Nat → Nat
/-- From block n on all bear t. -/
def upd (n : Nat) (T : Tags) (t : Nat) : Tags := fun b => if b < n then T b else t
def Agree (n : Nat) (T T' : Tags) : Prop := ∀ b, b < n → T' b = T b
theorem Agree.refl {n : Nat} {T : Tags} : Agree n T T := fun _ _ => rfl
theorem Agree.trans {n m : Nat} {T T' T'' : Tags} (h : Agree n T T') (h2 : Agree m T' T'') (hm : n ≤ m) : Agree n T T'' := fun b hb => (h2 b (by omega)).trans (h b hb)
theorem Agree.less {n m : Nat} {T T' : Tags} (h : Agree n T T') (hm : m ≤ n) : Agree m T T' := fun b hb => h b (by omega)
theorem agree_upd {n m : Nat} {T : Tags} {t : Nat} (h : m ≤ n) : Agree m T (upd n T t) := fun b hb => by unfold upd; rw [if_pos (by omega)]
theorem upd_new {n b : Nat} {T : Tags} {t : Nat} (h : n ≤ b) : upd n T t b = t := by unfold upd; rw [if_neg (by omega)]
theorem upd_old {n b : Nat} {T : Tags} {t : Nat} (h : b < n) : upd n T t b = T b := by unfold upd; rw [if_pos h]
/-- Blocks whose tags are not of S are as they were. -/
structure Keep (S : Nat → Prop) (T : Tags) (w w' : World) : Prop where
  os : w'.os = w.os
  tape : w'.tape = w.tape
  output : w'.output = w.output
  size : w.heap.size ≤ w'.heap.size
  block : ∀ b, b < w.heap.size → ¬ S (T b) → w'.heap[b]? = w.heap[b]?
section
variable {S S' : Nat → Prop} {T T' T'' : Tags} {w w' w'' : World}
theorem Keep.refl : Keep S T w w := ⟨rfl, rfl, rfl, Nat.le_refl _, fun _ _ _ => rfl⟩
theorem Keep.trans (h : Keep S T w w') (h2 : Keep S T' w' w'') (ha : Agree w.heap.size T T') : Keep S T w w'' :=
  ⟨h2.os.trans h.os, h2.tape.trans h.tape, h2.output.trans h.output, Nat.le_trans h.size h2.size, fun b hb hs => (h2.block b (Nat.lt_of_lt_of_le hb h.size) (by rw [ha b hb]; exact hs)).trans (h.block b hb hs)⟩
theorem Keep.more (h : Keep S T w w') (hs : ∀ t, S t → S' t) : Keep S' T w w' := ⟨h.os, h.tape, h.output, h.size, fun b hb hn => h.block b hb fun hh => hn (hs _ hh)⟩
theorem Keep.tags (h : Keep S T w w') (ha : Agree w.heap.size T T') : Keep S T' w w' := ⟨h.os, h.tape, h.output, h.size, fun b hb hn => h.block b hb (by rw [← ha b hb]; exact hn)⟩
theorem Keep.below (h : Below w.heap.size w w') : Keep S T w w' := ⟨h.os, h.tape, h.output, h.size, fun b hb _ => h.block b hb⟩
theorem Keep.grown {g : Option Nat} (h : w.grownBy w' g) (hg : ∀ k, g = some k → S (T k)) : Keep S T w w' := ⟨h.os, h.tape, h.output, h.size, fun b hb hn => h.block b hb (fun e => hn (hg b e.symm))⟩
theorem Keep.alloc (h : Keep S T w w') (o : Obj) : Keep S T w (w'.alloc o) := h.trans (Keep.below ((Below.refl _ _).alloc (Nat.le_refl _) o)) Agree.refl
theorem Keep.drew (h : Keep S T w w') : Keep S T w w'.drew := ⟨h.os, h.tape, h.output, h.size, h.block⟩
theorem Keep.setCell (h : Keep S T w w') {p : Addr} (hp : p.block < w.heap.size → S (T p.block)) (u : Value) : Keep S T w (w'.setCell p u) := by
  refine ⟨h.os, h.tape, h.output, by simpa using h.size, fun b hb hn => ?_⟩
  rw [← h.block b hb hn]
  simp only [World.setCell, Array.getElem?_modify]
  rw [if_neg]
  intro e; subst e; exact hn (hp hb)
/-- Older blocks that bear 0 are kept. -/
theorem Keep.old {B : Nat} (h : Keep S T w w') (h0 : ∀ b, b < B → T b = 0) (hs : ¬ S 0) (hB : B ≤ w.heap.size) : Below B w w' :=
  ⟨h.os, h.tape, h.output, h.size, fun b hb => h.block b (by omega) (by rw [h0 b hb]; exact hs)⟩
end
/-- A row that is read, in a block that bears t. -/
def TRow (w : World) (T : Tags) (t : Nat) (A : Option Addr) (sz n : Nat) (xs : List Value) : Prop :=
  xs.length = n * sz ∧ (0 < n → ∃ b off, A = some ⟨b, off, none⟩ ∧ b < w.heap.size ∧ T b = t ∧ ∀ j u, xs[j]? = some u → w.cell? ⟨b, off + j, none⟩ = some u)
/-- A row that may grow, in a block of its own that bears t. -/
def TOwn (w : World) (T : Tags) (t : Nat) (e : TypeId) (sz : Nat) (A : Option Addr) (c n : Nat) (xs : List Value) : Prop :=
  w.ownsRow 0 e sz (.slice A n c) n xs ∧ ∀ k, (Value.slice A n c).ownBlock = some k → T k = t
section
variable {S : Nat → Prop} {T T' : Tags} {w w' : World} {t sz n c : Nat} {e : TypeId} {A : Option Addr} {xs : List Value}
theorem cell_blk {b o : Nat} (h : w'.heap[b]? = w.heap[b]?) : w'.cell? ⟨b, o, none⟩ = w.cell? ⟨b, o, none⟩ := by
  unfold World.cell?
  simp only [h]
theorem TRow.keep (h : TRow w T t A sz n xs) (hk : Keep S T w w') (hs : ¬ S t) (ha : Agree w.heap.size T T') : TRow w' T' t A sz n xs :=
  ⟨h.1, fun hn => by
    obtain ⟨b, off, e, hb, ht, hc⟩ := h.2 hn
    refine ⟨b, off, e, Nat.lt_of_lt_of_le hb hk.size, (ha b hb).trans ht, fun j u hu => ?_⟩
    rw [cell_blk (hk.block b hb (by rw [ht]; exact hs))]
    exact hc j u hu⟩
theorem TRow.rd (h : TRow w T t A sz n xs) : Rd w w.heap.size A sz n xs :=
  ⟨h.1, fun hn => by obtain ⟨b, off, e, hb, _, hc⟩ := h.2 hn; exact ⟨b, off, e, hb, hc⟩⟩
theorem TRow.nil_ : TRow w T t A sz 0 [] := ⟨by simp, fun h => absurd h (by omega)⟩
theorem TOwn.nil_ : TOwn w T t e sz none 0 0 [] := ⟨World.ownsRow_nil _ _ _ _, fun k hk => by cases hk⟩
theorem TOwn.keep (h : TOwn w T t e sz A c n xs) (hk : Keep S T w w') (hs : ¬ S t) (ha : Agree w.heap.size T T') : TOwn w' T' t e sz A c n xs := by
  refine ⟨⟨h.1.1, ?_⟩, fun k hk2 => by rw [ha k (h.1.lt k hk2).2]; exact h.2 k hk2⟩
  rcases h.1.2 with h0 | ⟨g, cap, cur, h1, h2, h3, r⟩
  · exact .inl h0
  · have hg := (Array.getElem?_eq_some_iff.1 h3).1
    exact .inr ⟨g, cap, cur, h1, h2, by rw [hk.block g hg (by rw [h.2 g (by rw [h1]; rfl)]; exact hs)]; exact h3, r⟩
theorem TOwn.row (h : TOwn w T t e sz A c n xs) : TRow w T t A sz n xs :=
  ⟨h.1.1, fun hn => by
    obtain ⟨b, off, e, hb, hc⟩ := (rd_own h.1).2 hn
    exact ⟨b, off, e, hb, h.2 b (by rw [e]; rfl), hc⟩⟩
theorem TOwn.lt (h : TOwn w T t e sz A c n xs) : ∀ k, (Value.slice A n c).ownBlock = some k → k < w.heap.size := fun k hk => (h.1.lt k hk).2
theorem TOwn.cap (h : TOwn w T t e sz A c n xs) : n ≤ c := own_cap h.1
theorem TOwn.of_own {B N : Nat} (h : w.ownsRow B e sz (.slice A n c) n xs) (hB : N ≤ B) : TOwn w (upd N T t) t e sz A c n xs :=
  ⟨own_more h (Nat.zero_le _), fun k hk => upd_new (by have := (h.lt k hk).1; omega)⟩
theorem TRow.of_own {B N : Nat} (h : w.ownsRow B e sz (.slice A n c) n xs) (hB : N ≤ B) : TRow w (upd N T t) t A sz n xs := (TOwn.of_own h hB).row
theorem TRow.of_rd {B : Nat} (h : Rd w B A sz n xs) (ht : ∀ b, b < B → T b = t) (hB : B ≤ w.heap.size) : TRow w T t A sz n xs :=
  ⟨h.1, fun hn => by obtain ⟨b, off, e, hb, hc⟩ := h.2 hn; exact ⟨b, off, e, by omega, ht b hb, hc⟩⟩
/-- Its block is none of the older ones. -/
theorem TRow.part {B : Nat} (h : TRow w T t A sz n xs) (h0 : ∀ b, b < B → T b = 0) (ht : t ≠ 0) : (Part.mk A sz n xs).ok w B none :=
  ⟨h.1, fun hn => by
    obtain ⟨b, off, e, hb, htb, hc⟩ := h.2 hn
    exact ⟨b, off, e, hb, (fun e => by cases e), Nat.le_of_not_lt (fun h1 => ht (htb.symm.trans (h0 b h1))), hc⟩⟩
theorem TRow.of_part {B N : Nat} {g : Option Nat} (h : (Part.mk A sz n xs).ok w B g) (hB : N ≤ B) : TRow w (upd N T t) t A sz n xs :=
  ⟨h.1, fun hn => by obtain ⟨b, off, e, hb, _, h2, hc⟩ := h.2 hn; exact ⟨b, off, e, hb, upd_new (by omega), hc⟩⟩
theorem TRow.below (h : TRow w T t A sz n xs) (hb : Below w.heap.size w w') : TRow w' T t A sz n xs := h.keep (S := fun _ => False) (Keep.below hb) (fun h => h) Agree.refl
theorem TOwn.below (h : TOwn w T t e sz A c n xs) (hb : Below w.heap.size w w') : TOwn w' T t e sz A c n xs := h.keep (S := fun _ => False) (Keep.below hb) (fun h => h) Agree.refl
theorem TRow.alloc (h : TRow w T t A sz n xs) (o : Obj) : TRow (w.alloc o) T t A sz n xs := h.below ((Below.refl _ _).alloc (Nat.le_refl _) o)
theorem TOwn.alloc (h : TOwn w T t e sz A c n xs) (o : Obj) : TOwn (w.alloc o) T t e sz A c n xs := h.below ((Below.refl _ _).alloc (Nat.le_refl _) o)
theorem TRow.drew (h : TRow w T t A sz n xs) : TRow w.drew T t A sz n xs := h
theorem TOwn.drew (h : TOwn w T t e sz A c n xs) : TOwn w.drew T t e sz A c n xs := h.below (Below.refl w.heap.size w).drew
/-- It has grown. -/
theorem TOwn.push {A' : Option Addr} {c' m : Nat} {news : List Value} (h : TOwn w T t e sz A c n xs) (h2 : w'.ownsRow 0 e sz (.slice A' (n + m) c') (n + m) (xs ++ news)) (h3 : w.grownBy w' (Value.slice A n c).ownBlock)
    (h4 : (Value.slice A' (n + m) c').ownBlock = (Value.slice A n c).ownBlock ∨ (Value.slice A' (n + m) c').ownBlock = some w.heap.size) : TOwn w' (upd w.heap.size T t) t e sz A' c' (n + m) (xs ++ news) ∧ Keep (fun x => x = t) T w w' := by
  refine ⟨⟨h2, fun k hk => ?_⟩, Keep.grown h3 h.2⟩
  rcases h4 with h4 | h4
  · rw [h4] at hk
    rw [upd_old (h.lt k hk)]; exact h.2 k hk
  · rw [h4] at hk
    injection hk with hk
    subst hk
    exact upd_new (Nat.le_refl _)
end
/-- 'append(v, x...)' at such a row. -/
theorem wp_appT {P : Program} (w : World) {ops : Array Oper} {rest : List Oper} {o : Oper} {a : Act} {Q : Exit → Act → World → Prop} (hgd : o.guard = none) {s x : Operand} {t : TypeId}
    (ho : o.op = .call { callee := .builtin .append, args := #[s, x], argTypes := #[t, t] }) {e : TypeId} {sz bs : Nat} (he : ElemTy P t e sz bs) {T : Tags} {tg : Nat}
    {A0 : Option Addr} {c0 n : Nat} {xs : List Value} (hs : a.eval s = .slice A0 n c0) (hown : TOwn w T tg e sz A0 c0 n xs)
    {B : Nat} {A : Option Addr} {m c : Nat} {news : List Value} (hx : a.eval x = .slice A m c) (hr : Rd w B A sz m news) (h1 : ∀ u ∈ news, u.oneCell' = true) (hb : (n + m) * bs ≤ 140737488355328)
    (h : ∀ A' c' w', TOwn w' (upd w.heap.size T tg) tg e sz A' c' (n + m) (xs ++ news) → Keep (fun x => x = tg) T w w' → wpList P ops Q rest (a.put o.dst (.slice A' (n + m) c')) w') : wpList P ops Q (o :: rest) a w := by
  refine wp_app3 w hgd ho he hs hown.1 hx hr h1 hb (Nat.zero_le _) fun A' c' w' h2 _ h3 h4 => ?_
  obtain ⟨k1, k2⟩ := hown.push h2 h3 h4
  exact h A' c' w' k1 k2
/-- The same as one step of a region that draws. -/
theorem step_appT {P : Program} {ops : Array Oper} {o : Oper} {a : Act} {w : World} {K : Act → World → Prop} {Q : Exit → Act → World → Prop} {E : Prop} (hgd : o.guard = none) {s x : Operand} {t : TypeId}
    (ho : o.op = .call { callee := .builtin .append, args := #[s, x], argTypes := #[t, t] }) {e : TypeId} {sz bs : Nat} (he : ElemTy P t e sz bs) {T : Tags} {tg : Nat}
    {A0 : Option Addr} {c0 n : Nat} {xs : List Value} (hs : a.eval s = .slice A0 n c0) (hown : TOwn w T tg e sz A0 c0 n xs)
    {B : Nat} {A : Option Addr} {m c : Nat} {news : List Value} (hx : a.eval x = .slice A m c) (hr : Rd w B A sz m news) (h1 : ∀ u ∈ news, u.oneCell' = true) (hb : (n + m) * bs ≤ 140737488355328)
    (h : ∀ A' c' w', TOwn w' (upd w.heap.size T tg) tg e sz A' c' (n + m) (xs ++ news) → Keep (fun x => x = tg) T w w' → K (a.put o.dst (.slice A' (n + m) c')) w') :
    if Region.wanted o (yielded ops a.tmps) = true then Oper.wp P o a w K Q else E := by
  refine step_app3 hgd ho he hs hown.1 hx hr h1 hb (Nat.zero_le _) fun A' c' w' h2 _ h3 h4 => ?_
  obtain ⟨k1, k2⟩ := hown.push h2 h3 h4
  exact h A' c' w' k1 k2
/-- A block that is known whole and bears t. -/
structure TObj (w : World) (T : Tags) (t : Nat) (b : Nat) (cs : Array Value) (e : TypeId) : Prop where
  blk : w.heap[b]? = some (.cells cs e (0, 0))
  tag : T b = t
section
variable {S : Nat → Prop} {T T' : Tags} {w w' : World} {t b : Nat} {cs : Array Value} {e : TypeId}
theorem TObj.lt (h : TObj w T t b cs e) : b < w.heap.size := (Array.getElem?_eq_some_iff.1 h.blk).1
theorem TObj.keep (h : TObj w T t b cs e) (hk : Keep S T w w') (hs : ¬ S t) (ha : Agree w.heap.size T T') : TObj w' T' t b cs e :=
  ⟨by rw [hk.block b h.lt (by rw [h.tag]; exact hs)]; exact h.blk, (ha b h.lt).trans h.tag⟩
theorem TObj.cell (h : TObj w T t b cs e) {i : Nat} {v : Value} (hi : cs[i]? = some v) : w.cell? ⟨b, i, none⟩ = some v := (cell_of_row _ _ i cs e (0, 0) h.blk).trans hi
theorem TObj.free (h : TObj w T t b cs e) (o : Nat) : w.frozen? ⟨b, o, none⟩ = false := by
  unfold World.frozen?
  simp [h.blk]
theorem TObj.store (h : TObj w T t b cs e) (i : Nat) (v : Value) : TObj (w.setCell ⟨b, i, none⟩ v) T t b (cs.setIfInBounds i v) e := by
  refine ⟨?_, h.tag⟩
  simp only [World.setCell, Array.getElem?_modify]
  rw [h.blk]
  simp
theorem TObj.new (w : World) (T : Tags) (t : Nat) (cs : Array Value) (e : TypeId) : TObj (w.alloc (.cells cs e)) (upd w.heap.size T t) t w.heap.size cs e := ⟨heap_alloc_new w _, upd_new (Nat.le_refl _)⟩
theorem TObj.below (h : TObj w T t b cs e) (hb : Below w.heap.size w w') : TObj w' T t b cs e := h.keep (S := fun _ => False) (Keep.below hb) (fun h => h) Agree.refl
theorem TObj.alloc (h : TObj w T t b cs e) (o : Obj) : TObj (w.alloc o) T t b cs e := h.below ((Below.refl _ _).alloc (Nat.le_refl _) o)
theorem TObj.drew (h : TObj w T t b cs e) : TObj w.drew T t b cs e := ⟨h.blk, h.tag⟩
end
end Go.Proofs.Yteefemiieidpaaa
