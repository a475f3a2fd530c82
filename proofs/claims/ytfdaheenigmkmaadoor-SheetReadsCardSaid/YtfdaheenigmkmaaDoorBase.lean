/- Data, Lib, Open, Types, Copy, Same, In: joined. -/
import Derived.Test.YtfdaheenigmkmaaDoorRows
import Derived.WalkKit
import Derived.ProofKit
import Derived.OpenShut
import Derived.Deep.Draws
import Derived.Maps.AppendAt
import Derived.Deep.AppendLies
import Derived.Deep.QuietTactic
import Derived.BigQuiet
import Derived.SizedLaws
import Derived.Deep.Slices
/- Plain data: the data that the program speaks of. No program in sight. -/
namespace Go.Proofs.YtfdaheenigmkmaaDoor
/-- The bounds of Go's int. -/
def I64 (n : Int) : Prop := -9223372036854775808 ≤ n ∧ n ≤ 9223372036854775807
structure Mail where
  to : Int
  val : Int
def Mail.wf (x : Mail) : Prop := I64 x.to ∧ I64 x.val
structure Edge where
  src : Int
  dst : Int
  wt : Int
def Edge.wf (x : Edge) : Prop := I64 x.src ∧ I64 x.dst ∧ I64 x.wt
structure Hop where
  to : Int
  wt : Int
def Hop.wf (x : Hop) : Prop := I64 x.to ∧ I64 x.wt
structure Val where
  a : Int
  label : Int
def Val.wf (x : Val) : Prop := I64 x.a ∧ I64 x.label
structure Move where
  kind : Int
  at_ : Int
  keep : Int
def Move.wf (x : Move) : Prop := I64 x.kind ∧ I64 x.at_ ∧ I64 x.keep
structure Ack where
  epoch : Int
  no : Int
def Ack.wf (x : Ack) : Prop := I64 x.epoch ∧ I64 x.no
structure Rcv where
  epoch : Int
  want : Int
def Rcv.wf (x : Rcv) : Prop := I64 x.epoch ∧ I64 x.want
structure Packet where
  epoch : Int
  no : Int
  load : Mail
def Packet.wf (x : Packet) : Prop := I64 x.epoch ∧ I64 x.no ∧ x.load.wf
structure Graph where
  n : Int
  edges : List Edge
structure Sender where
  epoch : Int
  base : Int
  loads : List Mail
structure Job where
  graph : Graph
  kind : Int
  source : Int
structure Task where
  job : Job
  workers : Int
  every : Int
  budget : Int
end Go.Proofs.YtfdaheenigmkmaaDoor

/- Words for memory that all texts of this seat share: cells that are read, rows that are owned, the append. -/
namespace Go.Proofs.YtfdaheenigmkmaaDoor
open Go.RowKit

/-- A fact behind a name, so that the walk does not rewrite by it. -/
theorem hid {p : Prop} (h : p) : Hid p := h

/-- The ending of a walk with one, two or three results that are numbers. -/
theorem ret1 {k1 : IntKind} {a a' : Int} (h1 : a = a') : Ending.returned (.int k1 a) = .returned (.int k1 a') := by rw [h1]
theorem ret2 {k1 k2 : IntKind} {a a' b b' : Int} (h1 : a = a') (h2 : b = b') : Ending.returned (.tuple #[.int k1 a, .int k2 b]) = .returned (.tuple #[.int k1 a', .int k2 b']) := by rw [h1, h2]
theorem ret3 {k1 k2 k3 : IntKind} {a a' b b' c c' : Int} (h1 : a = a') (h2 : b = b') (h3 : c = c') : Ending.returned (.tuple #[.int k1 a, .int k2 b, .int k3 c]) = .returned (.tuple #[.int k1 a', .int k2 b', .int k3 c']) := by rw [h1, h2, h3]
theorem retb {a a' : Bool} (h1 : a = a') : Ending.returned (.bool a) = .returned (.bool a') := by rw [h1]

theorem addr_add (b o : Nat) (j : Nat) : (⟨b, o, none⟩ : Addr).add j = ⟨b, o + j, none⟩ := by
  unfold Addr.add; split <;> simp_all

/-- A slice at 'A' of 'n' elements of 'sz' cells each holds the cells 'xs', in blocks below 'B'. -/
def Rd (w : World) (B : Nat) (A : Option Addr) (sz n : Nat) (xs : List Value) : Prop :=
  xs.length = n * sz ∧ (0 < n → ∃ b off, A = some ⟨b, off, none⟩ ∧ b < B ∧ ∀ j u, xs[j]? = some u → w.cell? ⟨b, off + j, none⟩ = some u)

section
variable {w w' : World} {B B' sz n : Nat} {A : Option Addr} {xs : List Value}
theorem Rd.nil_ : Rd w B A sz 0 [] := ⟨by simp, fun h => absurd h (by omega)⟩
theorem Rd.keep (h : Rd w B A sz n xs) (hk : ∀ p : Addr, p.block < B → w'.cell? p = w.cell? p) : Rd w' B A sz n xs :=
  ⟨h.1, fun hn => by
    obtain ⟨b, off, e, hb, hc⟩ := h.2 hn
    exact ⟨b, off, e, hb, fun j u hu => (hk _ hb).trans (hc j u hu)⟩⟩
theorem Rd.any (h : Rd w B A sz n xs) (hs : 0 < sz) : Rd w w.heap.size A sz n xs :=
  ⟨h.1, fun hn => by
    obtain ⟨b, off, e, hb, hc⟩ := h.2 hn
    obtain ⟨u, hu⟩ : ∃ u, xs[0]? = some u := ⟨_, List.getElem?_eq_getElem (by rw [h.1]; exact Nat.mul_pos hn hs)⟩
    exact ⟨b, off, e, World.block_lt_of_cell? w _ (hc 0 u hu), hc⟩⟩
theorem Rd.more (h : Rd w B A sz n xs) (hB : B ≤ B') : Rd w B' A sz n xs :=
  ⟨h.1, fun hn => by
    obtain ⟨b, off, e, hb, hc⟩ := h.2 hn
    exact ⟨b, off, e, by omega, hc⟩⟩
theorem Rd.below (h : Rd w B A sz n xs) (hb : Below B w w') : Rd w' B A sz n xs := h.keep fun _ hp => hb.cell hp
theorem below_drewN {a w : World} (h : Below B a w) (k : Nat) : Below B a (w.drewN k) := ⟨h.os, h.tape, h.output, h.size, h.block⟩
/-- The cell 'j' of the element 'k'. -/
theorem Rd.at_ {k : Nat} (h : Rd w B A sz n xs) (hk : k < n) : ∃ b off, A = some ⟨b, off, none⟩ ∧ b < B ∧ ∀ j u, xs[j]? = some u → w.cell? ⟨b, off + j, none⟩ = some u := h.2 (by omega)
theorem Rd.cut {k cap : Nat} (h : Rd w B A sz n xs) (hk : k ≤ n) (hc : n ≤ cap) :
    Rd w B (if cap = k then A else A.map (·.add (k * sz))) sz (n - k) (xs.drop (k * sz)) := by
  refine ⟨by rw [List.length_drop, h.1, Nat.sub_mul], fun hn => ?_⟩
  obtain ⟨b, off, rfl, hb, hcell⟩ := h.2 (by omega)
  rw [if_neg (by omega)]
  refine ⟨b, off + k * sz, by simp [addr_add], hb, fun j u hu => ?_⟩
  rw [Nat.add_assoc]
  exact hcell _ u (by rw [← hu, List.getElem?_drop])
theorem Rd.take {k : Nat} (h : Rd w B A sz n xs) (hk : k ≤ n) : Rd w B A sz k (xs.take (k * sz)) := by
  refine ⟨by rw [List.length_take, h.1]; exact Nat.min_eq_left (Nat.mul_le_mul_right _ hk), fun hn => ?_⟩
  obtain ⟨b, off, rfl, hb, hcell⟩ := h.2 (by omega)
  refine ⟨b, off, rfl, hb, fun j u hu => hcell j u ?_⟩
  rw [List.getElem?_take] at hu
  split at hu
  · exact hu
  · cases hu
end

/-- The slice type 't' over the element type 'e': 'sz' cells, 'bs' bytes an element. -/
def ElemTy (P : Program) (t e : TypeId) (sz bs : Nat) : Prop :=
  P.underlying t = some (.slice e) ∧ 0 < sz ∧ 0 < bs ∧ ∃ i z, P.info? e = some i ∧ i.zero = some z ∧ i.size = sz ∧ i.bytes = bs ∧ z.cells.size = sz
theorem elemTy {P : Program} {t e : TypeId} {sz bs : Nat} {z : Value} (ht : P.underlying t = some (.slice e)) (hs : 0 < sz) (hb : 0 < bs) (h : (P.info? e).map (fun i => (i.zero, i.size, i.bytes)) = some (some z, sz, bs)) (hz : z.cells.size = sz) : ElemTy P t e sz bs := by
  obtain ⟨i, h0, h1, h2, h3⟩ := info_parts h
  exact ⟨ht, hs, hb, i, z, h0, h1, h2, h3, hz⟩

section
variable {P : Program} (w : World)
/-- 'append(v, x...)', v the call's own row, x whatever is read. -/
theorem run_app {t ty e : TypeId} {sz bs base : Nat} (he : ElemTy P t e sz bs) {v : Value} {n : Nat} {xs : List Value} (hown : w.ownsRow base e sz v n xs)
    {B : Nat} {A : Option Addr} {m c : Nat} {news : List Value} (hr : Rd w B A sz m news) (h1 : ∀ u ∈ news, u.oneCell' = true) (hb : (n + m) * bs ≤ 140737488355328) (hbase : base ≤ w.heap.size) :
    ∃ v' w', (Builtin.append_ #[t, t] ty #[v, .slice A m c]).run P w = .ok v' w' ∧ w'.ownsRow base e sz v' (n + m) (xs ++ news) ∧ w.grownBy w' v.ownBlock ∧ (v'.ownBlock = v.ownBlock ∨ v'.ownBlock = some w.heap.size) := by
  obtain ⟨ht, hsz, hbs, i, z, hi, hz, hsize, hby, hzs⟩ := he
  have hmax : n + m ≤ maxLen := by
    have : (n + m) * 1 ≤ (n + m) * bs := Nat.mul_le_mul_left _ hbs
    simp only [maxLen]; omega
  cases A with
  | none =>
    have hm : m = 0 := by
      rcases Nat.eq_zero_or_pos m with h | h
      · exact h
      · obtain ⟨b, off, e, _⟩ := hr.2 h
        cases e
    subst hm
    have hn : news = [] := List.eq_nil_of_length_eq_zero (by simpa using hr.1)
    subst hn
    refine ⟨v, w, ?_, by simpa using hown, World.grownBy.refl w _, .inl rfl⟩
    rcases hown.2 with ⟨rfl, rfl⟩ | ⟨g, cap, cur, rfl, _, _, hnc, _⟩
    · simp [Builtin.append_, run_underlying ht, sizeOf, typeInfo, hi, Builtin.lenOf, Builtin.firstCells]
    · simp [Builtin.append_, run_underlying ht, sizeOf, typeInfo, hi, Builtin.lenOf, Builtin.firstCells, hnc, storeCells]
  | some ad =>
    have hcells : ∀ j u, news[j]? = some u → w.cell? (ad.add j) = some u := by
      intro j u hu
      have hj := (List.getElem?_eq_some_iff.1 hu).1
      have hm : 0 < m := by
        rcases Nat.eq_zero_or_pos m with h | h
        · subst h
          have := hr.1
          omega
        · exact h
      obtain ⟨b, off, e, _, hc⟩ := hr.2 hm
      injection e with e
      subst e
      rw [addr_add]
      exact hc j u hu
    obtain ⟨v', w', hrun, h2, h3, _, h5⟩ := run_append_own_at (P := P) w base t ty e i z sz bs ht hi hz hsize hby hzs hsz v n xs hown ad m c news hr.1 hcells h1 hmax hb hbase
    exact ⟨v', w', hrun, h2, h3, h5⟩
/-- The same, as a step of the walk. -/
theorem wp_app {ops : Array Oper} {rest : List Oper} {o : Oper} {a : Act} {Q : Exit → Act → World → Prop} (hgd : o.guard = none) {s x : Operand} {t : TypeId}
    (ho : o.op = .call { callee := .builtin .append, args := #[s, x], argTypes := #[t, t] }) {e : TypeId} {sz bs base : Nat} (he : ElemTy P t e sz bs)
    {v : Value} {n : Nat} {xs : List Value} (hs : a.eval s = v) (hown : w.ownsRow base e sz v n xs)
    {B : Nat} {A : Option Addr} {m c : Nat} {news : List Value} (hx : a.eval x = .slice A m c) (hr : Rd w B A sz m news) (h1 : ∀ u ∈ news, u.oneCell' = true) (hb : (n + m) * bs ≤ 140737488355328) (hbase : base ≤ w.heap.size)
    (h : ∀ v' w', w'.ownsRow base e sz v' (n + m) (xs ++ news) → w.grownBy w' v.ownBlock → (v'.ownBlock = v.ownBlock ∨ v'.ownBlock = some w.heap.size) → wpList P ops Q rest (a.put o.dst v') w') : wpList P ops Q (o :: rest) a w := by
  refine wpList_plain hgd fun K hK => ?_
  obtain ⟨v', w', hrun, h2, h3, h4⟩ := run_app w (ty := o.type) (c := c) he hown hr h1 hb hbase
  unfold Oper.wp execOp
  simp only [ho, resolve, invoke, builtin, Sem.run_bind, Sem.run_pure, Result.andThen_ok, List.map_toArray, List.map_cons, List.map_nil, hs, hx, hrun]
  exact hK _ _ (h v' w' h2 h3 h4)
end
/-- A row of the call's own, read. -/
theorem rd_own {w : World} {base e sz n c : Nat} {A : Option Addr} {xs : List Value} (h : w.ownsRow base e sz (.slice A n c) n xs) : Rd w w.heap.size A sz n xs := by
  refine ⟨h.1, fun hn => ?_⟩
  rcases h.2 with ⟨hv, h0⟩ | ⟨g, cap, cur, hv, hb, hg, _, _, _, htake⟩
  · omega
  · injection hv with hA _ _
    subst hA
    refine ⟨g, 0, rfl, (Array.getElem?_eq_some_iff.1 hg).1, fun j u hu => ?_⟩
    have hu' := hu
    rw [← htake, List.getElem?_take] at hu
    split at hu
    · rw [Nat.zero_add, cell_of_row w g j cur e (0, 0) hg]
      simpa using hu
    · cases hu
/-- The shape of an owned row's value. -/
theorem own_slice {w : World} {base e sz n : Nat} {v : Value} {xs : List Value} (h : w.ownsRow base e sz v n xs) : ∃ A c, v = .slice A n c := by
  rcases h.2 with ⟨rfl, rfl⟩ | ⟨g, cap, cur, rfl, _⟩
  · exact ⟨_, _, rfl⟩
  · exact ⟨_, _, rfl⟩
theorem own_below {w w' : World} {base base' e sz n : Nat} {v : Value} {xs : List Value} (h : w.ownsRow base e sz v n xs) (hb : Below w.heap.size w w') (hbb : base' ≤ base) : w'.ownsRow base' e sz v n xs := by
  refine ⟨h.1, ?_⟩
  rcases h.2 with h0 | ⟨g, cap, cur, rfl, h1, h2, r⟩
  · exact .inl h0
  · exact .inr ⟨g, cap, cur, rfl, by omega, by rw [hb.block g (Array.getElem?_eq_some_iff.1 h2).1]; exact h2, r⟩
theorem own_more {w : World} {base base' e sz n : Nat} {v : Value} {xs : List Value} (h : w.ownsRow base e sz v n xs) (hbb : base' ≤ base) : w.ownsRow base' e sz v n xs := own_below h (Below.refl _ _) hbb
/-- 'append([]T(nil), x...)'. -/
theorem wp_app0 {P : Program} (w : World) {ops : Array Oper} {rest : List Oper} {o : Oper} {a : Act} {Q : Exit → Act → World → Prop} (hgd : o.guard = none) {s x : Operand} {t : TypeId}
    (ho : o.op = .call { callee := .builtin .append, args := #[s, x], argTypes := #[t, t] }) {e : TypeId} {sz bs base : Nat} (he : ElemTy P t e sz bs) (hs : a.eval s = .slice none 0 0)
    {B : Nat} {A : Option Addr} {m c : Nat} {news : List Value} (hx : a.eval x = .slice A m c) (hr : Rd w B A sz m news) (h1 : ∀ u ∈ news, u.oneCell' = true) (hb : m * bs ≤ 140737488355328) (hbase : base ≤ w.heap.size)
    (h : ∀ A' c' w', w'.ownsRow base e sz (.slice A' m c') m news → Below w.heap.size w w' → wpList P ops Q rest (a.put o.dst (.slice A' m c')) w') : wpList P ops Q (o :: rest) a w := by
  refine wp_app w hgd ho he hs (World.ownsRow_nil w base e sz) hx hr h1 (by simpa using hb) hbase fun v' w' h2 h3 _ => ?_
  rw [Nat.zero_add, List.nil_append] at h2
  obtain ⟨A', c', rfl⟩ := own_slice h2
  exact h A' c' w' h2 ((Below.refl _ _).grown h3 (Nat.le_refl _) (by simp [Value.ownBlock]))
/-- 'append(v, x...)', v a row of the call's own. -/
theorem wp_app1 {P : Program} (w : World) {ops : Array Oper} {rest : List Oper} {o : Oper} {a : Act} {Q : Exit → Act → World → Prop} (hgd : o.guard = none) {s x : Operand} {t : TypeId}
    (ho : o.op = .call { callee := .builtin .append, args := #[s, x], argTypes := #[t, t] }) {e : TypeId} {sz bs base : Nat} (he : ElemTy P t e sz bs)
    {A0 : Option Addr} {c0 n : Nat} {xs : List Value} (hs : a.eval s = .slice A0 n c0) (hown : w.ownsRow base e sz (.slice A0 n c0) n xs)
    {B : Nat} {A : Option Addr} {m c : Nat} {news : List Value} (hx : a.eval x = .slice A m c) (hr : Rd w B A sz m news) (h1 : ∀ u ∈ news, u.oneCell' = true) (hb : (n + m) * bs ≤ 140737488355328) (hbase : base ≤ w.heap.size)
    (h : ∀ A' c' w', w'.ownsRow base e sz (.slice A' (n + m) c') (n + m) (xs ++ news) → Below base w w' → w.grownBy w' (Value.slice A0 n c0).ownBlock → wpList P ops Q rest (a.put o.dst (.slice A' (n + m) c')) w') : wpList P ops Q (o :: rest) a w := by
  refine wp_app w hgd ho he hs hown hx hr h1 hb hbase fun v' w' h2 h3 _ => ?_
  obtain ⟨A', c', rfl⟩ := own_slice h2
  exact h A' c' w' h2 ((Below.refl _ _).grown h3 hbase (fun k hk => (hown.lt k hk).1)) h3
/-- What the walk wants of a world that a call has left: old cells read as they did. -/
theorem bcell {W w1 : World} (h : Below W.heap.size W w1) : (∀ b o, b < W.heap.size → w1.cell? ⟨b, o, none⟩ = W.cell? ⟨b, o, none⟩) ∧ (∀ b o, b < W.heap.size → w1.frozen? ⟨b, o, none⟩ = W.frozen? ⟨b, o, none⟩) :=
  ⟨fun b o hb => h.cell (p := ⟨b, o, none⟩) hb, fun b o hb => h.frozen (p := ⟨b, o, none⟩) hb⟩
section
variable {a b c : World}
theorem bA (h : Below a.heap.size a b) (o : Obj) : Below a.heap.size a (b.alloc o) := h.alloc h.size o
theorem bD (h : Below a.heap.size a b) : Below a.heap.size a b.drew := h.drew
theorem bN (h : Below a.heap.size a b) (k : Nat) : Below a.heap.size a (b.drewN k) := below_drewN h k
theorem bT (h : Below a.heap.size a b) (k : Below b.heap.size b c) : Below a.heap.size a c := h.trans (k.mono h.size)
theorem bS (h : Below a.heap.size a b) {p : Addr} (hp : a.heap.size ≤ p.block) (u : Value) : Below a.heap.size a (b.setCell p u) := h.setCell hp u
end
/-- A new block, read. -/
theorem rd_new (w : World) (cs : Array Value) (e : TypeId) (sz n : Nat) (h : cs.size = n * sz) : Rd (w.alloc (.cells cs e)) (w.heap.size + 1) (some ⟨w.heap.size, 0, none⟩) sz n cs.toList := by
  refine ⟨by simpa using h, fun _ => ⟨w.heap.size, 0, rfl, by omega, fun j u hu => ?_⟩⟩
  rw [Nat.zero_add, cell_of_row _ _ j cs e (0, 0) (heap_alloc_new w _)]
  simpa using hu
/-- A list and an error number come back; the list is new memory. -/
def RetL (E sz : Nat) (w : World) (n : Nat) (xs : List Value) (err : Int) (e : Ending) (w' : World) : Prop :=
  ∃ A c, e = .returned (.tuple #[.slice A n c, .int .i64 err]) ∧ w'.ownsRow w.heap.size E sz (.slice A n c) n xs ∧ Below w.heap.size w w'
theorem ints_one (k : IntKind) (l : List Int) : ∀ u ∈ l.map (Value.int k), u.oneCell' = true := ints_oneCell k l
end Go.Proofs.YtfdaheenigmkmaaDoor

/- Arguments opened: what a reading of the row says of a value, type by type. No program in sight. -/
namespace Go.Proofs.YtfdaheenigmkmaaDoor
open Go.RowKit Go.ChangeShapes Go.WideShapes

/-- What is read at type 't' (within the reach) is told by 'R'. -/
def Opn {H : Type} (enc : TypeId × Value → H) (P : Program) (W : World) (t : TypeId) {α : Type} (R : List Value → α → Prop) : Prop :=
  ∀ (fuel : Nat) (cs : List Value) (x : DataW H × List MemPlace), DataW.trod enc P W 0 (fun _ => true) true fuel t cs = some x → (∀ n ∈ x.1.weights P t, n ≤ reachBytes) → ∃ a : α, R cs a

section
variable {H : Type} {enc : TypeId × Value → H} {P : Program} {W : World}

def intR (k : IntKind) (cs : List Value) (n : Int) : Prop := cs = [.int k n] ∧ (Lit.int k n).wf = true
def boolR (cs : List Value) (b : Bool) : Prop := cs = [.bool b]
def strR (cs : List Value) (s : ByteArray) : Prop := cs = [.string s] ∧ s.size ≤ 140737488351232

theorem opn_int {t : TypeId} {k : IntKind} (ht : P.underlying t = some (.int k)) : Opn enc P W t (intR k) := by
  intro fuel cs x h _
  obtain ⟨n, rfl, _, hw⟩ := DataW.trod_int ht h
  exact ⟨n, rfl, hw⟩
theorem opn_bool {t : TypeId} (ht : P.underlying t = some .bool) : Opn enc P W t boolR := by
  intro fuel cs x h _
  obtain ⟨b, rfl, _⟩ := DataW.trod_bool ht h
  exact ⟨b, rfl⟩
theorem opn_string {t : TypeId} (ht : P.underlying t = some .string) : Opn enc P W t strR := by
  intro fuel cs x h hw
  obtain ⟨s, rfl, rfl, _⟩ := DataW.trod_string ht h
  refine ⟨s, rfl, ?_⟩
  have := hw s.data.toList.length (by simp [DataW.weights])
  simpa [reachBytes] using this

/-- A slice: its elements' cells, each told by 'R'; its capacity times 'bs' bytes within the reach. -/
def sliceR (W : World) (sz bs : Nat) {α : Type} (R : List Value → α → Prop) (cs : List Value) (l : List α) : Prop :=
  ∃ A c, cs = [.slice A l.length c] ∧ l.length ≤ c ∧ c * bs ≤ 140737488351232 ∧ c ≤ maxLen ∧ (A = none → c = 0) ∧
    (0 < l.length → ∃ b off, A = some ⟨b, off, none⟩ ∧ b < W.heap.size ∧ ∀ i x, l[i]? = some x → ∃ cs', cs'.length = sz ∧ R cs' x ∧ ∀ j u, cs'[j]? = some u → W.cell? ⟨b, off + (i * sz + j), none⟩ = some u)

theorem choose_list {α : Type} (n : Nat) (p : Nat → α → Prop) (h : ∀ i, i < n → ∃ a, p i a) : ∃ l : List α, l.length = n ∧ ∀ i x, l[i]? = some x → p i x := by
  induction n with
  | zero => exact ⟨[], rfl, fun i x hx => by simp at hx⟩
  | succ n ih =>
    obtain ⟨l, hl, hp⟩ := ih (fun i hi => h i (by omega))
    obtain ⟨a, ha⟩ := h n (by omega)
    refine ⟨l ++ [a], by simp [hl], fun i x hx => ?_⟩
    by_cases hi : i < n
    · rw [List.getElem?_append_left (by omega)] at hx
      exact hp i x hx
    · rw [List.getElem?_append_right (by omega)] at hx
      by_cases e : i = n
      · subst e
        simp [hl] at hx
        subst hx
        exact ha
      · rw [List.getElem?_eq_none (by simp; omega)] at hx
        cases hx

theorem weights_mem_all {t : TypeId} : ∀ {ds : List (DataW H)} {d : DataW H}, d ∈ ds → ∀ n ∈ d.weights P t, n ∈ DataW.weightsAll P t ds
  | [], d, h, _, _ => by cases h
  | d0 :: ds, d, h, n, hn => by
    simp only [DataW.weightsAll, List.mem_append]
    rcases List.mem_cons.1 h with rfl | h
    · exact .inl hn
    · exact .inr (weights_mem_all h n hn)

theorem opn_slice {t e : TypeId} {sz bs : Nat} {α : Type} {R : List Value → α → Prop} (ht : P.underlying t = some (.slice e)) (hc : P.cellsOf e = sz) (hb : P.bytesOf e = bs) (hsz : 0 < sz) (he : Opn enc P W e R) :
    Opn enc P W t (sliceR W sz bs R) := by
  intro fuel cs x h hw
  rcases Go.Deep.open_slice ht h with ⟨rfl, rfl⟩ | ⟨a, len, cap, m, n, D, Pl, rfl, _, hl, hm, hmm, rfl, hi⟩
  · exact ⟨[], none, 0, rfl, by simp, by omega, by simp [maxLen], fun _ => rfl, fun h => absurd h (by simp)⟩
  · have hm' : m = cap := by simpa using hmm
    have hbytes : cap * bs ≤ 140737488351232 := by
      have := hw ((len + (m - len)) * bs) (by simp [DataW.weights, ht, hb])
      rw [hm'] at this
      have e : len + (cap - len) = cap := by omega
      rw [e] at this
      simpa [reachBytes] using this
    have hel : ∀ i, i < len → ∃ v : α, ∃ cs', W.cells? 0 (a.add (i * P.cellsOf e)) (P.cellsOf e) = some cs' ∧ R cs' v := by
      intro i hil
      obtain ⟨cs', h1, h2⟩ := hi i (by omega)
      obtain ⟨v, hv⟩ := he _ _ _ h2 (fun k hk => hw k (by
        simp only [DataW.weights, ht, List.mem_cons, List.mem_append]
        right; left
        exact weights_mem_all (by simp; exact ⟨i, hil, rfl⟩) k hk))
      exact ⟨v, cs', h1, hv⟩
    obtain ⟨l, hll, hp⟩ := choose_list len _ hel
    refine ⟨l, some a, cap, by rw [hll], by omega, hbytes, hm, (by intro h; cases h), fun h0 => ?_⟩
    obtain ⟨x0, hx0⟩ : ∃ x, l[0]? = some x := ⟨_, List.getElem?_eq_getElem (by omega)⟩
    obtain ⟨cs0, hc0, _⟩ := hp 0 x0 hx0
    obtain ⟨_, hcl0, hat0⟩ := World.cells?_some hc0
    have hcell0 := hat0 0 (by omega)
    obtain ⟨b, off, spot⟩ := a
    have hs0 : W.cell? ⟨b, off, spot⟩ ≠ none := by
      have e0 : (⟨b, off, spot⟩ : Addr).add (0 * P.cellsOf e + 0) = ⟨b, off, spot⟩ := by simp [Addr.add]
      have : ((⟨b, off, spot⟩ : Addr).add (0 * P.cellsOf e)).add 0 = ⟨b, off, spot⟩ := by simp [Addr.add]
      rw [this] at hcell0
      rw [hcell0, List.getElem?_eq_getElem (by omega)]
      simp
    obtain ⟨u0, hu0⟩ := Option.ne_none_iff_exists'.1 hs0
    have hspot : spot = none := by simpa using World.cell?_spot hu0
    subst hspot
    refine ⟨b, off, rfl, World.block_lt_of_cell? W _ hu0, fun i x hx => ?_⟩
    obtain ⟨cs', hcc, hR⟩ := hp i x hx
    obtain ⟨_, hcl, hat⟩ := World.cells?_some hcc
    refine ⟨cs', by rw [hcl, hc], hR, fun j u hu => ?_⟩
    have hj : j < P.cellsOf e := by rw [← hcl]; exact (List.getElem?_eq_some_iff.1 hu).1
    have := hat j hj
    rw [addr_add, addr_add, hc] at this
    rw [← Nat.add_assoc, this, hu]

/-- A struct's fields, one behind the other. -/
def OpnF (enc : TypeId × Value → H) (P : Program) (W : World) (fs : List Field) (off : Nat) {α : Type} (R : List Value → α → Prop) : Prop :=
  ∀ (fuel : Nat) (cs : List Value) (xs : List (DataW H × List MemPlace)), xs.length = fs.length →
    (∀ (i : Nat) (f : Field), fs[i]? = some f → DataW.trod enc P W 0 (fun _ => true) true fuel f.type ((cs.drop f.offset).take (P.cellsOf f.type)) = xs[i]?) →
    cs.length = off + (fs.map fun f => P.cellsOf f.type).sum →
    (∀ n ∈ DataW.weightsEach P (fs.map (·.type)) (xs.map (·.1)), n ≤ reachBytes) → ∃ a : α, R (cs.drop off) a

def nilR (cs : List Value) (_ : Unit) : Prop := cs = []
def consR {α β : Type} (n : Nat) (R : List Value → α → Prop) (S : List Value → β → Prop) (cs : List Value) (a : α × β) : Prop := R (cs.take n) a.1 ∧ S (cs.drop n) a.2

theorem opnF_nil {off : Nat} : OpnF enc P W [] off nilR := by
  intro fuel cs xs _ _ hl _
  exact ⟨(), List.drop_eq_nil_of_le (by simp at hl; omega)⟩
theorem opnF_cons {f : Field} {fs : List Field} {off n : Nat} {α β : Type} {R : List Value → α → Prop} {S : List Value → β → Prop} (ho : f.offset = off) (hn : P.cellsOf f.type = n)
    (h0 : Opn enc P W f.type R) (h1 : OpnF enc P W fs (off + n) S) : OpnF enc P W (f :: fs) off (consR n R S) := by
  intro fuel cs xs hx ht hl hw
  match xs, hx with
  | x :: xs, hx =>
    have t0 := ht 0 f rfl
    rw [ho, hn] at t0
    obtain ⟨a, ha⟩ := h0 _ _ _ t0 (fun k hk => hw k (by simp only [List.map_cons, DataW.weightsEach, List.mem_append]; exact .inl hk))
    obtain ⟨b, hb⟩ := h1 fuel cs xs (by simpa using hx) (fun i g hg => by simpa using ht (i + 1) g (by simpa using hg)) (by simp only [List.map_cons, List.sum_cons, hn] at hl; omega)
      (fun k hk => hw k (by simp only [List.map_cons, DataW.weightsEach, List.mem_append]; exact .inr hk))
    exact ⟨(a, b), ha, by rw [List.drop_drop]; exact hb⟩
theorem opn_struct {t : TypeId} {fs : Array Field} {α : Type} {R : List Value → α → Prop} (ht : P.underlying t = some (.struct fs)) (hc : P.cellsOf t = (fs.toList.map fun f => P.cellsOf f.type).sum) (h : OpnF enc P W fs.toList 0 R) : Opn enc P W t R := by
  intro fuel cs x hx hw
  obtain ⟨xs, n, rfl, rfl, hcl, hxl, hat⟩ := DataW.trod_struct ht hx
  obtain ⟨a, ha⟩ := h n cs xs (by simpa using hxl) (fun i f hf => hat i f (by simpa using hf)) (by rw [hcl, hc]; omega) (fun k hk => hw k (by simpa [DataW.weights, ht] using hk))
  exact ⟨a, by simpa using ha⟩
theorem Opn.mono {t : TypeId} {α β : Type} {R : List Value → α → Prop} {S : List Value → β → Prop} (h : Opn enc P W t R) (hs : ∀ cs a, R cs a → ∃ b, S cs b) : Opn enc P W t S := by
  intro fuel cs x hx hw
  obtain ⟨a, ha⟩ := h fuel cs x hx hw
  exact hs cs a ha
/-- From a row's argument to what it says. -/
theorem Opn.arg {t : TypeId} {α : Type} {R : List Value → α → Prop} (h : Opn enc P W t R) {v : Value} {d : DataW H} {p : List MemPlace} (ht : DataW.Trod enc P W 0 (fun _ => true) true t v d p)
    {ts : List TypeId} {ds : List (DataW H)} {j : Nat} (hsz : (DataW.weightsEach P ts ds).all (· ≤ reachBytes) = true) (htj : ts[j]? = some t) (hdj : ds[j]? = some d) : ∃ a : α, R v.cells.toList a := by
  obtain ⟨fuel, hf⟩ := ht
  exact h fuel _ _ hf (fun n hn => by simpa using List.all_eq_true.1 hsz n (DataW.weights_mem_each htj hdj n hn))
end
end Go.Proofs.YtfdaheenigmkmaaDoor

/- The cells of the data, and what a reading of the row says of each of the program's types. -/
namespace Go.Proofs.YtfdaheenigmkmaaDoor
open Go.RowKit Go.ChangeShapes Go.WideShapes
set_option linter.unusedVariables false
set_option linter.unusedSimpArgs false
theorem i64_of {n : Int} (h : (Lit.int .i64 n).wf = true) : I64 n := by
  simpa [Lit.wf, IntKind.min, IntKind.max, IntKind.bits, IntKind.signed, I64] using h
theorem u64_of {n : Int} (h : (Lit.int .u64 n).wf = true) : 0 ≤ n ∧ n ≤ 18446744073709551615 := by
  simpa [Lit.wf, IntKind.min, IntKind.max, IntKind.bits, IntKind.signed] using h
theorem u8_of {n : Int} (h : (Lit.int .u8 n).wf = true) : 0 ≤ n ∧ n ≤ 255 := by
  simpa [Lit.wf, IntKind.min, IntKind.max, IntKind.bits, IntKind.signed] using h
/-- A slice of plain elements, as an argument: within the reach; its cells. -/
def Flat (w : World) (B bs sz : Nat) {α : Type} (cells : α → List Value) (A : Option Addr) (c : Nat) (l : List α) : Prop :=
  l.length ≤ c ∧ c * bs ≤ 140737488351232 ∧ (A = none → c = 0) ∧ Rd w B A sz l.length (l.flatMap cells)
theorem flatMap_get {α : Type} {cells : α → List Value} {sz : Nat} : ∀ {l : List α}, (∀ x ∈ l, (cells x).length = sz) → (l.flatMap cells).length = l.length * sz ∧ ∀ i x j u, l[i]? = some x → (cells x)[j]? = some u → (l.flatMap cells)[i * sz + j]? = some u
  | [], _ => ⟨by simp, fun i x j u h => by simp at h⟩
  | a :: l, h => by
    obtain ⟨h1, h2⟩ := flatMap_get (l := l) (fun x hx => h x (List.mem_cons_of_mem _ hx))
    have ha := h a (List.mem_cons_self ..)
    refine ⟨by simp only [List.flatMap_cons, List.length_append, h1, ha, List.length_cons, Nat.add_mul]; omega, fun i x j u hx hu => ?_⟩
    rw [List.flatMap_cons]
    cases i with
    | zero =>
      simp at hx
      subst hx
      have hj := (List.getElem?_eq_some_iff.1 hu).1
      rw [Nat.zero_mul, Nat.zero_add, List.getElem?_append_left hj]
      exact hu
    | succ i =>
      rw [List.getElem?_append_right (by rw [ha, Nat.add_mul]; omega), ha]
      have e : (i + 1) * sz + j - sz = i * sz + j := by rw [Nat.add_mul]; omega
      rw [e]
      exact h2 i x j u (by simpa using hx) hu
theorem flatMap_inv {α : Type} {cells : α → List Value} {sz : Nat} (hsz : 0 < sz) {l : List α} (h : ∀ x ∈ l, (cells x).length = sz) {k : Nat} {u : Value} (hu : (l.flatMap cells)[k]? = some u) : ∃ x, l[k / sz]? = some x ∧ (cells x)[k % sz]? = some u := by
  obtain ⟨h1, h2⟩ := flatMap_get h
  have hk : k < l.length * sz := by rw [← h1]; exact (List.getElem?_eq_some_iff.1 hu).1
  have hd : k / sz < l.length := Nat.div_lt_of_lt_mul (by rw [Nat.mul_comm]; exact hk)
  obtain ⟨x, hx⟩ : ∃ x, l[k / sz]? = some x := ⟨_, List.getElem?_eq_getElem hd⟩
  have hm := Nat.mod_lt k hsz
  have hlen := h x (List.mem_of_getElem? hx)
  obtain ⟨v, hv⟩ : ∃ v, (cells x)[k % sz]? = some v := ⟨_, List.getElem?_eq_getElem (by omega)⟩
  have := h2 _ x _ v hx hv
  have e : k / sz * sz + k % sz = k := by rw [Nat.mul_comm]; exact Nat.div_add_mod k sz
  rw [e, hu] at this
  exact ⟨x, hx, by rw [hv]; exact this.symm⟩
theorem flat_of {W : World} {sz bs : Nat} {α : Type} {R : List Value → α → Prop} {cells : α → List Value} {wf : α → Prop} (hsz : 0 < sz) (hR : ∀ cs x, R cs x → cs = cells x ∧ wf x) (hlen : ∀ x, (cells x).length = sz) {cs : List Value} {l : List α} (h : sliceR W sz bs R cs l) :
    ∃ A c, cs = [.slice A l.length c] ∧ Flat W W.heap.size bs sz cells A c l ∧ ∀ x ∈ l, wf x := by
  obtain ⟨A, c, rfl, h1, h2, h3, h4, h5⟩ := h
  refine ⟨A, c, rfl, ⟨h1, h2, h4, (flatMap_get (fun x _ => hlen x)).1, fun hn => ?_⟩, fun x hx => ?_⟩
  · obtain ⟨b, off, rfl, hb, hc⟩ := h5 hn
    refine ⟨b, off, rfl, hb, fun k u hu => ?_⟩
    obtain ⟨x, hx, hxu⟩ := flatMap_inv hsz (fun x _ => hlen x) hu
    obtain ⟨cs', _, hr, hcell⟩ := hc _ x hx
    obtain ⟨rfl, _⟩ := hR _ _ hr
    have := hcell _ u hxu
    have e : k / sz * sz + k % sz = k := by rw [Nat.mul_comm]; exact Nat.div_add_mod k sz
    rwa [e] at this
  · obtain ⟨i, hi, rfl⟩ := List.getElem_of_mem hx
    obtain ⟨b, off, rfl, hb, hc⟩ := h5 (by omega)
    obtain ⟨cs', _, hr, _⟩ := hc i _ (List.getElem?_eq_getElem hi)
    exact (hR _ _ hr).2
def u8c (n : Int) : List Value := [.int .u8 n]
def i64c (n : Int) : List Value := [.int .i64 n]
def slc (A : Option Addr) (n c : Nat) : List Value := [.slice A n c]
def Mail.cells (x : Mail) : List Value := [.int .i64 x.to, .int .i64 x.val]
def Edge.cells (x : Edge) : List Value := [.int .i64 x.src, .int .i64 x.dst, .int .i64 x.wt]
def Hop.cells (x : Hop) : List Value := [.int .i64 x.to, .int .i64 x.wt]
def Val.cells (x : Val) : List Value := [.int .i64 x.a, .int .i64 x.label]
def Move.cells (x : Move) : List Value := [.int .i64 x.kind, .int .i64 x.at_, .int .i64 x.keep]
def Ack.cells (x : Ack) : List Value := [.int .i64 x.epoch, .int .i64 x.no]
def Rcv.cells (x : Rcv) : List Value := [.int .i64 x.epoch, .int .i64 x.want]
def Packet.cells (x : Packet) : List Value := [.int .i64 x.epoch, .int .i64 x.no, .int .i64 x.load.to, .int .i64 x.load.val]
section
variable {H : Type} {enc : TypeId × Value → H} {W : World}
theorem opn_byte : Opn enc Tryd.prog W 5 (fun cs n => cs = u8c n ∧ 0 ≤ n ∧ n ≤ 255) := (opn_int Tryd.underlying5).mono fun _ n h => ⟨n, h.1, u8_of h.2⟩
theorem opn_i64 : Opn enc Tryd.prog W 3 (fun cs n => cs = i64c n ∧ I64 n) := (opn_int Tryd.underlying3).mono fun _ n h => ⟨n, h.1, i64_of h.2⟩
theorem opn_Edge : Opn enc Tryd.prog W 45 (fun cs (x : Edge) => cs = x.cells ∧ x.wf) :=
  (opn_struct Tryd.underlying45 (by kernel_rfl) (opnF_cons (n := 1) rfl (by kernel_rfl) opn_i64 (opnF_cons (n := 1) rfl (by kernel_rfl) opn_i64 (opnF_cons (n := 1) rfl (by kernel_rfl) opn_i64 opnF_nil)))).mono (fun cs x h => by
    obtain ⟨a, b, c, _⟩ := x
    simp only [consR, nilR, i64c] at h
    obtain ⟨⟨h0, w0⟩, ⟨h1, w1⟩, ⟨h2, w2⟩, hn⟩ := h
    refine ⟨⟨a, b, c⟩, ?_, w0, w1, w2⟩
    rw [← List.take_append_drop 1 cs, h0, ← List.take_append_drop 1 (List.drop 1 cs), h1, ← List.take_append_drop 1 (List.drop 1 (List.drop 1 cs)), h2, hn]
    rfl)
theorem opn_Move : Opn enc Tryd.prog W 38 (fun cs (x : Move) => cs = x.cells ∧ x.wf) :=
  (opn_struct Tryd.underlying38 (by kernel_rfl) (opnF_cons (n := 1) rfl (by kernel_rfl) opn_i64 (opnF_cons (n := 1) rfl (by kernel_rfl) opn_i64 (opnF_cons (n := 1) rfl (by kernel_rfl) opn_i64 opnF_nil)))).mono (fun cs x h => by
    obtain ⟨a, b, c, _⟩ := x
    simp only [consR, nilR, i64c] at h
    obtain ⟨⟨h0, w0⟩, ⟨h1, w1⟩, ⟨h2, w2⟩, hn⟩ := h
    refine ⟨⟨a, b, c⟩, ?_, w0, w1, w2⟩
    rw [← List.take_append_drop 1 cs, h0, ← List.take_append_drop 1 (List.drop 1 cs), h1, ← List.take_append_drop 1 (List.drop 1 (List.drop 1 cs)), h2, hn]
    rfl)
/-- A slice of plain elements that came in. -/
def FlatArg (W : World) (bs sz : Nat) {α : Type} (cells : α → List Value) (wf : α → Prop) (cs : List Value) (l : List α) : Prop :=
  ∃ A c, cs = [.slice A l.length c] ∧ Flat W W.heap.size bs sz cells A c l ∧ ∀ x ∈ l, wf x
theorem opn_flat {P : Program} {t e : TypeId} {sz bs : Nat} {α : Type} {cells : α → List Value} {wf : α → Prop} (ht : P.underlying t = some (.slice e)) (hc : P.cellsOf e = sz) (hb : P.bytesOf e = bs) (hsz : 0 < sz) (hlen : ∀ x, (cells x).length = sz)
    (he : Opn enc P W e (fun cs x => cs = cells x ∧ wf x)) : Opn enc P W t (FlatArg W bs sz cells wf) :=
  (opn_slice ht hc hb hsz he).mono fun cs l h => ⟨l, flat_of hsz (fun _ _ h => h) hlen h⟩
theorem glue {cs a b : List Value} {n : Nat} (h0 : cs.take n = a) (h1 : cs.drop n = b) : cs = a ++ b := by rw [← h0, ← h1, List.take_append_drop]
abbrev BytesArg (W : World) := FlatArg W 1 1 u8c (fun n => 0 ≤ n ∧ n ≤ 255)
theorem opn_bytes : Opn enc Tryd.prog W 68 (BytesArg W) := opn_flat Tryd.underlying68 (by kernel_rfl) (by kernel_rfl) (by decide) (fun _ => rfl) opn_byte
abbrev IntsArg (W : World) := FlatArg W 8 1 i64c I64
theorem opn_ints : Opn enc Tryd.prog W 42 (IntsArg W) := opn_flat Tryd.underlying42 (by kernel_rfl) (by kernel_rfl) (by decide) (fun _ => rfl) opn_i64
abbrev MailsArg (W : World) := FlatArg W 16 2 Mail.cells Mail.wf
abbrev EdgesArg (W : World) := FlatArg W 24 3 Edge.cells Edge.wf
theorem opn_edges : Opn enc Tryd.prog W 28 (EdgesArg W) := opn_flat Tryd.underlying28 (by kernel_rfl) (by kernel_rfl) (by decide) (fun _ => rfl) opn_Edge
abbrev MovesArg (W : World) := FlatArg W 24 3 Move.cells Move.wf
theorem opn_moves : Opn enc Tryd.prog W 22 (MovesArg W) := opn_flat Tryd.underlying22 (by kernel_rfl) (by kernel_rfl) (by decide) (fun _ => rfl) opn_Move
abbrev ValsArg (W : World) := FlatArg W 16 2 Val.cells Val.wf
def GraphArg (W : World) (cs : List Value) (g : Graph) : Prop :=
  ∃ A c, cs = [.int .i64 g.n, .slice A g.edges.length c] ∧ I64 g.n ∧ Flat W W.heap.size 24 3 Edge.cells A c g.edges ∧ ∀ x ∈ g.edges, x.wf
theorem opn_Graph : Opn enc Tryd.prog W 30 (GraphArg W) :=
  (opn_struct Tryd.underlying30 (by kernel_rfl) (opnF_cons (n := 1) rfl (by kernel_rfl) opn_i64 (opnF_cons (n := 1) rfl (by kernel_rfl) opn_edges opnF_nil))).mono (fun cs x h => by
    obtain ⟨a, b, _⟩ := x
    obtain ⟨⟨h0, w0⟩, ⟨A, c, h1, w1, w2⟩, hn⟩ := h
    exact ⟨⟨a, b⟩, A, c, glue h0 (glue h1 hn), w0, w1, w2⟩)
def JobArg (W : World) (cs : List Value) (j : Job) : Prop :=
  ∃ A c, cs = [.int .i64 j.graph.n, .slice A j.graph.edges.length c, .int .i64 j.kind, .int .i64 j.source] ∧ I64 j.graph.n ∧ Flat W W.heap.size 24 3 Edge.cells A c j.graph.edges ∧ (∀ x ∈ j.graph.edges, x.wf) ∧ I64 j.kind ∧ I64 j.source
def TaskArg (W : World) (cs : List Value) (t : Task) : Prop :=
  ∃ A c, cs = [.int .i64 t.job.graph.n, .slice A t.job.graph.edges.length c, .int .i64 t.job.kind, .int .i64 t.job.source, .int .i64 t.workers, .int .i64 t.every, .int .i64 t.budget] ∧ I64 t.job.graph.n ∧ Flat W W.heap.size 24 3 Edge.cells A c t.job.graph.edges ∧ (∀ x ∈ t.job.graph.edges, x.wf) ∧ I64 t.job.kind ∧ I64 t.job.source ∧ I64 t.workers ∧ I64 t.every ∧ I64 t.budget
def SenderArg (W : World) (cs : List Value) (s : Sender) : Prop :=
  ∃ A c, cs = [.int .i64 s.epoch, .int .i64 s.base, .slice A s.loads.length c] ∧ I64 s.epoch ∧ I64 s.base ∧ Flat W W.heap.size 16 2 Mail.cells A c s.loads ∧ ∀ x ∈ s.loads, x.wf
end
end Go.Proofs.YtfdaheenigmkmaaDoor

/- The copies that the statements make of their arguments, and the comparisons that they end in. -/
namespace Go.Proofs.YtfdaheenigmkmaaDoor
open Go.ChangeShapes Go.WideShapes Go.ChangeAt Go.RowKit
set_option linter.unusedVariables false
set_option linter.unusedSimpArgs false
theorem one_u8 (l : List Int) : ∀ u ∈ l.flatMap u8c, u.oneCell' = true := by
  intro u hu; obtain ⟨x, _, h⟩ := List.mem_flatMap.1 hu; simp [u8c] at h; subst h; rfl
theorem one_i64 (l : List Int) : ∀ u ∈ l.flatMap i64c, u.oneCell' = true := by
  intro u hu; obtain ⟨x, _, h⟩ := List.mem_flatMap.1 hu; simp [i64c] at h; subst h; rfl
theorem one_Mail (l : List Mail) : ∀ u ∈ l.flatMap Mail.cells, u.oneCell' = true := by
  intro u hu; obtain ⟨x, _, h⟩ := List.mem_flatMap.1 hu; simp [Mail.cells] at h; rcases h with rfl | rfl <;> rfl
theorem one_Edge (l : List Edge) : ∀ u ∈ l.flatMap Edge.cells, u.oneCell' = true := by
  intro u hu; obtain ⟨x, _, h⟩ := List.mem_flatMap.1 hu; simp [Edge.cells] at h; rcases h with rfl | rfl | rfl <;> rfl
theorem one_Hop (l : List Hop) : ∀ u ∈ l.flatMap Hop.cells, u.oneCell' = true := by
  intro u hu; obtain ⟨x, _, h⟩ := List.mem_flatMap.1 hu; simp [Hop.cells] at h; rcases h with rfl | rfl <;> rfl
theorem one_Val (l : List Val) : ∀ u ∈ l.flatMap Val.cells, u.oneCell' = true := by
  intro u hu; obtain ⟨x, _, h⟩ := List.mem_flatMap.1 hu; simp [Val.cells] at h; rcases h with rfl | rfl <;> rfl
theorem one_Move (l : List Move) : ∀ u ∈ l.flatMap Move.cells, u.oneCell' = true := by
  intro u hu; obtain ⟨x, _, h⟩ := List.mem_flatMap.1 hu; simp [Move.cells] at h; rcases h with rfl | rfl | rfl <;> rfl
theorem one_Packet (l : List Packet) : ∀ u ∈ l.flatMap Packet.cells, u.oneCell' = true := by
  intro u hu; obtain ⟨x, _, h⟩ := List.mem_flatMap.1 hu; simp [Packet.cells] at h; rcases h with rfl | rfl | rfl | rfl <;> rfl
theorem el_bytes : ElemTy Tryd.prog 68 5 1 1 := elemTy (z := .int .u8 0) Tryd.underlying68 (by decide) (by decide) (by kernel_rfl) rfl
theorem el_ints : ElemTy Tryd.prog 42 3 1 8 := elemTy (z := .int .i64 0) Tryd.underlying42 (by decide) (by decide) (by kernel_rfl) rfl
theorem el_edges : ElemTy Tryd.prog 28 45 3 24 := elemTy (z := .agg #[.int .i64 0, .int .i64 0, .int .i64 0]) Tryd.underlying28 (by decide) (by decide) (by kernel_rfl) rfl
theorem el_moves : ElemTy Tryd.prog 22 38 3 24 := elemTy (z := .agg #[.int .i64 0, .int .i64 0, .int .i64 0]) Tryd.underlying22 (by decide) (by decide) (by kernel_rfl) rfl
end Go.Proofs.YtfdaheenigmkmaaDoor

/- The comparisons of the statements: of alike lists they say true. -/
namespace Go.Proofs.YtfdaheenigmkmaaDoor
open Go.ChangeShapes Go.WideShapes Go.ChangeAt Go.RowKit
set_option linter.unusedVariables false
set_option linter.unusedSimpArgs false
set_option maxHeartbeats 1000000 in
theorem sameMoves_walk (l : List Move) (w : World) (A A' : Option Addr) (c c' : Nat) (h1 : Rd w w.heap.size A 3 l.length (l.flatMap Move.cells)) (h2 : Rd w w.heap.size A' 3 l.length (l.flatMap Move.cells)) (hn : l.length ≤ 140737488355328) :
    Calls Tryd.prog 7 #[.slice A l.length c, .slice A' l.length c'] w fun e w' => e = .returned (.bool true) ∧ Below w.heap.size w w' := by
  generalize hL : l.length = n at *
  have HL := hid hL
  clear hL
  go_enter Tryd.func7, Tryd.ntmps7
  go_wp2
  go_loopw [5] (fun i wr => ∃ k : Nat, k ≤ n ∧ i = .int .i64 k ∧ Below w.heap.size w wr) (fun i _ => n - (intOf i).toNat)
  case atStart => exact ⟨0, by omega, rfl, Below.refl _ _⟩
  case round =>
    obtain ⟨k, hk, rfl, hbel⟩ := hrel
    by_cases hlt : k < n
    · obtain ⟨b, off, rfl, hb, hc⟩ := (h1.below hbel).at_ hlt
      obtain ⟨b', off', rfl, hb', hc'⟩ := (h2.below hbel).at_ hlt
      obtain ⟨x, hx⟩ : ∃ x, l[k]? = some x := ⟨_, List.getElem?_eq_getElem (by rw [HL.out]; exact hlt)⟩
      have hg := (flatMap_get (l := l) (cells := Move.cells) (sz := 3) (fun _ _ => rfl)).2 k x
      have c0 := hc _ _ (hg 0 _ hx rfl)
      have d0 := hc' _ _ (hg 0 _ hx rfl)
      have c1 := hc _ _ (hg 1 _ hx rfl)
      have d1 := hc' _ _ (hg 1 _ hx rfl)
      have c2 := hc _ _ (hg 2 _ hx rfl)
      have d2 := hc' _ _ (hg 2 _ hx rfl)
      simp only [Nat.add_zero, ← Nat.add_assoc] at c0 c1 c2 d0 d1 d2
      clear hx hg hc hc' h1 h2
      have z0 : (0 : Int) ≤ k := by omega
      have z1 : (k : Int) < n := by omega
      go_wp2
      go_quiet (fail)
      go_wp2
      go_roundw
      case rel => exact ⟨k + 1, by omega, by go_num, below_drewN hbel _⟩
      case measure => simp [intOf]; omega
    · go_wp2
      go_ret
      exact ⟨rfl, hbel⟩
end Go.Proofs.YtfdaheenigmkmaaDoor

/- The document's 'In'. -/
namespace Go.Proofs.YtfdaheenigmkmaaDoor
open Go.ChangeShapes Go.WideShapes Go.ChangeAt Go.RowKit
set_option linter.unusedVariables false
set_option linter.unusedSimpArgs false
def inB (n lo hi : Int) : Bool := decide (lo ≤ n ∧ n ≤ hi)
theorem inB_yes {n lo hi : Int} (h : lo ≤ n ∧ n ≤ hi) : inB n lo hi = true := by simp [inB, h]
theorem inB_no {n lo hi : Int} (h : ¬ (lo ≤ n ∧ n ≤ hi)) : inB n lo hi = false := by simp only [inB, decide_eq_false_iff_not]; exact h
theorem In_walk (n lo hi : Int) (w : World) :
    Calls Tryd.prog 32 #[.int .i64 n, .int .i64 lo, .int .i64 hi] w fun e w' => e = .returned (.bool (inB n lo hi)) ∧ w = w' := by
  by_cases h : lo ≤ n
  · by_cases h2 : n ≤ hi
    · have H := hid (inB_yes ⟨h, h2⟩)
      go_enter Tryd.func32, Tryd.ntmps32
      go_wp2
      go_ret
      exact ⟨retb H.out.symm, rfl⟩
    · have H := hid (inB_no (n := n) (lo := lo) (hi := hi) (by omega))
      go_enter Tryd.func32, Tryd.ntmps32
      go_wp2
      go_ret
      exact ⟨retb H.out.symm, rfl⟩
  · have H := hid (inB_no (n := n) (lo := lo) (hi := hi) (by omega))
    go_enter Tryd.func32, Tryd.ntmps32
    go_wp2
    go_ret
    exact ⟨retb H.out.symm, rfl⟩
end Go.Proofs.YtfdaheenigmkmaaDoor

