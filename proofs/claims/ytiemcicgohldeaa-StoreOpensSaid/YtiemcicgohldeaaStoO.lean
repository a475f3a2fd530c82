/- store.Open. -/
import Derived.Test.YtiemcicgohldeaaStoG
import Derived.Test.YtiemcicgohldeaaTag
import Derived.Test.YtiemcicgohldeaaSameS
namespace Go.Proofs.Ytiemcicgohldeaa
open Go.ChangeShapes Go.WideShapes Go.ChangeAt Go.RowKit
set_option linter.unusedVariables false
set_option linter.unusedSimpArgs false
theorem unwV_byteS {b : List Int} (hb : ∀ x ∈ b, 0 ≤ x ∧ x ≤ 255) : ∀ x ∈ (unwV b).1, 0 ≤ x ∧ x ≤ 255 := by
  rcases unwV_cases b hb with ⟨e, h1, h2, h3⟩ | ⟨n, k, h1, h2, h4, h5, ⟨h6, h7⟩ | ⟨h6, h7, h8⟩ | ⟨h6, h7⟩⟩
  · rw [h3]; intro x hx; cases hx
  · rw [h7]; intro x hx; cases hx
  · rw [h8]; intro x hx; cases hx
  · unfold unwV
    rw [h1]
    simp only
    rw [if_neg (by omega), if_neg (by omega), if_neg (by omega)]
    split
    · exact fun x hx => hb x (List.mem_of_mem_drop (List.mem_of_mem_take hx))
    · intro x hx; cases hx
structure PartV where
  worker : Int
  workers : Int
  n : Int
  outs : List (List Hop)
  ins : List (List Hop)
def zeroP : PartV := ⟨0, 0, 0, [], []⟩
/-- So many vertices' hops, out and in; and the bytes left. -/
def partGo (n : Int) : Nat → List Int → Option (List (List Hop) × List (List Hop) × List Int)
  | 0, l => some ([], [], l)
  | k + 1, l => match hopsE n l with
    | none => none
    | some (o, r) => match hopsE n r with
      | none => none
      | some (i, r2) => match partGo n k r2 with
        | none => none
        | some (os, is, r3) => some (o :: os, i :: is, r3)
def headV (l : List Int) : Option (Int × Int × Int × List Int) := match smallE l 7 with
  | none => none
  | some (a, k1) => match smallE (l.drop k1) 8 with
    | none => none
    | some (b, k2) => match smallE ((l.drop k1).drop k2) 200 with
      | none => none
      | some (n, k3) => some (a, b, n, ((l.drop k1).drop k2).drop k3)
def hopsMany : List (List Hop) → Nat
  | [] => 0
  | x :: l => x.length + hopsMany l
/-- What store.Open answers. -/
def openV (l : List Int) : PartV × Int :=
  if (unwV l).2.2 ≠ 0 then (zeroP, (unwV l).2.2) else if (unwV l).2.1 ≠ l.length then (zeroP, 3) else
  match headV (unwV l).1 with
  | none => (zeroP, 3)
  | some (a, b, n, r) => if (mineV a n b).2 ≠ 0 then (zeroP, 3) else match partGo n (mineV a n b).1.length r with
    | none => (zeroP, 3)
    | some (os, is, r') => if r' = [] ∧ hopsMany os ≤ 600 ∧ hopsMany is ≤ 600 then (⟨a, b, n, os, is⟩, 0) else (zeroP, 3)
/-- A list of rows, all in blocks from B on. -/
def NewGrid {α : Type} (cells : α → List Value) (sz : Nat) (w : World) (B : Nat) (A : Option Addr) (m : List (ML α)) : Prop :=
  (Part.mk A 1 m.length (m.flatMap ML.cells)).ok w B none ∧ ∀ x ∈ m, (Part.mk x.A sz x.l.length (x.l.flatMap cells)).ok w B none
/-- A part and an error number come back. -/
def RetPt (w : World) (p : PartV × Int) (e : Ending) (w' : World) : Prop :=
  ∃ A c B d mo mi, e = .returned (.tuple #[.agg #[.int .i64 p.1.worker, .int .i64 p.1.workers, .int .i64 p.1.n, .slice A p.1.outs.length c, .slice B p.1.ins.length d], .int .i64 p.2]) ∧ lists mo = p.1.outs ∧ lists mi = p.1.ins ∧
    NewGrid Hop.cells 2 w' w.heap.size A mo ∧ NewGrid Hop.cells 2 w' w.heap.size B mi ∧ Below w.heap.size w w'
theorem newGrid_nil {α : Type} {cells : α → List Value} {sz : Nat} {w : World} {B : Nat} : NewGrid cells sz w B none [] := ⟨⟨rfl, fun h => absurd h (by simp)⟩, fun x hx => by cases hx⟩
theorem retPt_zero {w w' : World} {r : Int} (b : Below w.heap.size w w') : RetPt w (zeroP, r) (.returned (.tuple #[.agg #[.int .i64 0, .int .i64 0, .int .i64 0, .slice none 0 0, .slice none 0 0], .int .i64 r])) w' :=
  ⟨none, 0, none, 0, [], [], rfl, rfl, rfl, newGrid_nil, newGrid_nil, b⟩
set_option maxRecDepth 100000 in
set_option maxHeartbeats 2000000 in
theorem open_err (l : List Int) (w : World) (A : Option Addr) (L c : Nat) (hr : Rd w w.heap.size A 1 L (l.flatMap u8c)) (hL : l.length = L) (hb : ∀ x ∈ l, 0 ≤ x ∧ x ≤ 255) (hn : L ≤ 140737488355328) (hcap : L ≤ c) (he : (unwV l).2.2 ≠ 0) :
    Calls Try.prog 7 #[.slice A L c] w (RetPt w (zeroP, (unwV l).2.2)) := by
  have b0 := bA (bA (Below.refl w.heap.size w) (.cells #[.int .i64 0, .int .i64 0, .int .i64 0, .slice none 0 0, .slice none 0 0] 26)) (.cells #[.int .i64 0] 27)
  have HU := hid (unwrap_walk l ((w.alloc (.cells #[.int .i64 0, .int .i64 0, .int .i64 0, .slice none 0 0, .slice none 0 0] 26)).alloc (.cells #[.int .i64 0] 27)) A L c (rdb hr (by decide) b0) hL hb hn hcap)
  have heb : ((unwV l).2.2 == 0) = false := by simpa using he
  have heb2 : ((unwV l).2.2 != 0) = true := by simpa using he
  have hmf : ∀ (fn : Fn) (first cap : Array Value) (w : World), (Instr.makeFunc fn first cap).run Try.prog w = .ok (.func fn first cap) w := fun _ _ _ _ => rfl
  generalize unwV l = u at *
  obtain ⟨ink, k, e⟩ := u
  dsimp only at *
  go_enter_defers Try.func7, Try.ntmps7
  go_wp2_with fail
  refine HU.out.mono ?_
  rintro e1 w1 ⟨A1, c1, rfl, o1, b1⟩
  have hs1 : w.heap.size + 1 < w1.heap.size := by have := b1.size; simp at this; omega
  have p0 : w1.cell? ⟨w.heap.size, 0, none⟩ = some (.int .i64 0) := keepb b1 (by go_simp)
  have p1 : w1.cell? ⟨w.heap.size, 1, none⟩ = some (.int .i64 0) := keepb b1 (by go_simp)
  have p2 : w1.cell? ⟨w.heap.size, 2, none⟩ = some (.int .i64 0) := keepb b1 (by go_simp)
  have p3 : w1.cell? ⟨w.heap.size, 3, none⟩ = some (.slice none 0 0) := keepb b1 (by go_simp)
  have p4 : w1.cell? ⟨w.heap.size, 4, none⟩ = some (.slice none 0 0) := keepb b1 (by go_simp)
  have q0 : w1.cell? ⟨w.heap.size + 1, 0, none⟩ = some (.int .i64 0) := keepb b1 (by go_simp)
  have pf : ∀ o, w1.frozen? ⟨w.heap.size, o, none⟩ = false := fun o => keepf b1 (by go_simp) (by simp; omega)
  have qf : w1.frozen? ⟨w.heap.size + 1, 0, none⟩ = false := keepf b1 (by go_simp) (by simp)
  go_wp2_with fail
  go_region
  all_goals
    go_wp2_with fail
    refine ⟨.tuple #[.agg #[.int .i64 0, .int .i64 0, .int .i64 0, .slice none 0 0, .slice none 0 0], .int .i64 e], ?_, ?_⟩
    · simp [results, Try.results7, go_sem, *]
    · refine retPt_zero ?_
      refine bD ?_
      repeat (with_reducible refine bS ?_ (by simp) _)
      exact bT b0 b1
/-- The part and the error number as they stand in their cells. -/
structure PC (N : Nat) (V : World) (a b n : Int) (A : Option Addr) (na c : Nat) (B : Option Addr) (nb d : Nat) : Prop where
  c0 : V.cell? ⟨N, 0, none⟩ = some (.int .i64 a)
  c1 : V.cell? ⟨N, 1, none⟩ = some (.int .i64 b)
  c2 : V.cell? ⟨N, 2, none⟩ = some (.int .i64 n)
  c3 : V.cell? ⟨N, 3, none⟩ = some (.slice A na c)
  c4 : V.cell? ⟨N, 4, none⟩ = some (.slice B nb d)
  fz : ∀ o, V.frozen? ⟨N, o, none⟩ = false
  e0 : V.cell? ⟨N + 1, 0, none⟩ = some (.int .i64 0)
  ez : V.frozen? ⟨N + 1, 0, none⟩ = false
theorem PC.below {N : Nat} {V V' : World} {a b n : Int} {A : Option Addr} {na c : Nat} {B : Option Addr} {nb d : Nat} (h : PC N V a b n A na c B nb d) (hb : Below (N + 2) V V') : PC N V' a b n A na c B nb d :=
  ⟨(hb.cell (p := ⟨N, 0, none⟩) (by simp)).trans h.c0, (hb.cell (p := ⟨N, 1, none⟩) (by simp)).trans h.c1, (hb.cell (p := ⟨N, 2, none⟩) (by simp)).trans h.c2, (hb.cell (p := ⟨N, 3, none⟩) (by simp)).trans h.c3, (hb.cell (p := ⟨N, 4, none⟩) (by simp)).trans h.c4, fun o => (hb.frozen (p := ⟨N, o, none⟩) (by simp)).trans (h.fz o), (hb.cell (p := ⟨N + 1, 0, none⟩) (by simp)).trans h.e0, (hb.frozen (p := ⟨N + 1, 0, none⟩) (by simp)).trans h.ez⟩
theorem cellO {V : World} {b o b' o' : Nat} {u v : Value} (h : V.cell? ⟨b, o, none⟩ = some u) (hne : b ≠ b' ∨ o ≠ o') : (V.setCell ⟨b', o', none⟩ v).cell? ⟨b, o, none⟩ = some u :=
  (World.cell?_setCell_other (w := V) (a := ⟨b', o', none⟩) (b := ⟨b, o, none⟩) (v := v) (by intro e; injection e with e1 e2; rcases hne with h | h <;> omega)).trans h
theorem frozO {V : World} {b o : Nat} {p : Addr} {v : Value} (h : V.frozen? ⟨b, o, none⟩ = false) : (V.setCell p v).frozen? ⟨b, o, none⟩ = false := by simpa using h
theorem PC.store {N : Nat} {V : World} {a b n : Int} {A : Option Addr} {na c : Nat} {B : Option Addr} {nb d : Nat} (h : PC N V a b n A na c B nb d) :
    PC N (V.setCell ⟨N + 1, 0, none⟩ (.int .i64 0)) a b n A na c B nb d ∧ (∀ x, PC N (V.setCell ⟨N, 0, none⟩ (.int .i64 x)) x b n A na c B nb d) ∧ (∀ x, PC N (V.setCell ⟨N, 1, none⟩ (.int .i64 x)) a x n A na c B nb d) ∧ (∀ x, PC N (V.setCell ⟨N, 2, none⟩ (.int .i64 x)) a b x A na c B nb d) ∧
    (∀ A' na' c', PC N (V.setCell ⟨N, 3, none⟩ (.slice A' na' c')) a b n A' na' c' B nb d) ∧ (∀ B' nb' d', PC N (V.setCell ⟨N, 4, none⟩ (.slice B' nb' d')) a b n A na c B' nb' d') := by
  refine ⟨⟨?_, ?_, ?_, ?_, ?_, ?_, ?_, ?_⟩, fun x => ⟨?_, ?_, ?_, ?_, ?_, ?_, ?_, ?_⟩, fun x => ⟨?_, ?_, ?_, ?_, ?_, ?_, ?_, ?_⟩, fun x => ⟨?_, ?_, ?_, ?_, ?_, ?_, ?_, ?_⟩, fun A' na' c' => ⟨?_, ?_, ?_, ?_, ?_, ?_, ?_, ?_⟩, fun A' na' c' => ⟨?_, ?_, ?_, ?_, ?_, ?_, ?_, ?_⟩⟩ <;>
    first
      | exact fun o => frozO (h.fz o)
      | exact frozO h.ez
      | exact cellO h.c0 (by omega)
      | exact cellO h.c1 (by omega)
      | exact cellO h.c2 (by omega)
      | exact cellO h.c3 (by omega)
      | exact cellO h.c4 (by omega)
      | exact cellO h.e0 (by omega)
      | exact World.cell?_setCell_same _ _ _ h.c0
      | exact World.cell?_setCell_same _ _ _ h.c1
      | exact World.cell?_setCell_same _ _ _ h.c2
      | exact World.cell?_setCell_same _ _ _ h.c3
      | exact World.cell?_setCell_same _ _ _ h.c4
      | exact World.cell?_setCell_same _ _ _ h.e0
theorem gbBelow {w w' : World} {G B : Nat} (h : w.grownBy w' (some G)) (hG : B ≤ G) (hB : B ≤ w.heap.size) : Below B w w' := ⟨h.os, h.tape, h.output, h.size, fun k hk => h.block k (by omega) (fun e => by injection e with e; omega)⟩
theorem EO.store {w : World} {M L G : Nat} {A : Option Addr} {c : Nat} {l : List Int} (h : EO w M L G A c l) {p : Addr} (hp : p.block < M) (hM : M ≤ G) (u : Value) : EO (w.setCell p u) M L G A c l := by
  have hne : ¬ p.block = G := by omega
  refine ⟨h.le, ?_, by simpa using h.fz, ⟨h.rd.1, fun hn => ?_⟩, h.cap, h.lo, h.top, h.byte⟩
  · exact (World.cell?_setCell_other (w := w) (a := p) (b := ⟨G, 0, none⟩) (v := u) (by intro e; subst e; exact hne rfl)).trans h.all
  · obtain ⟨b, off, e, hb, hc⟩ := h.rd.2 hn
    have h1 := h.lo hn b off e
    exact ⟨b, off, e, hb, fun j v hv => (World.cell?_setCell_other (w := w) (a := p) (b := ⟨b, off + j, none⟩) (v := u) (by intro e; subst e; simp at hp; omega)).trans (hc j v hv)⟩
theorem EO.new {w : World} {M : Nat} {A : Option Addr} {c : Nat} {l : List Int} {n : Nat} (hn : l.length = n) {e u8 : TypeId} (h : w.ownsRow M u8 1 (.slice A n c) n (l.map (Value.int .u8))) (hl : ∀ x ∈ l, 0 ≤ x ∧ x ≤ 255) {G : Nat} (hG : w.heap.size = G) : EO (w.alloc (.cells #[.slice A n c] e)) M G G A c l := by
  subst hn hG
  have htop : c ≤ 9223372036854775807 ∨ l.length = 0 ∧ c = 0 := by
    rcases h.2 with ⟨h1, h2⟩ | ⟨g, cap, cur, h1, _, _, _, h2, _⟩
    · injection h1 with _ _ h1; exact .inr ⟨h2, h1⟩
    · injection h1 with _ _ h1; unfold maxLen at h2; exact .inl (by omega)
  exact ⟨Nat.le_refl _, by go_simp, by go_simp, (rd_own h).alloc (Nat.le_refl _) _, own_cap h, fun hp b off e => (h.lt b (by rw [e]; rfl)).1, by omega, hl⟩
/-- What stands while store.Open reads hops. -/
structure OI (N G : Nat) (w wr : World) (T : Tags) (a b n : Int) (A : Option Addr) (c : Nat) (B : Option Addr) (d : Nat) (mo mi : List (ML Hop)) (Bq : Option Addr) (cr : Nat) (r : List Int) : Prop where
  pc : PC N wr a b n A mo.length c B mi.length d
  eo : EO wr (N + 2) G G Bq cr r
  out : TOwn wr T 2 64 1 A c mo.length (mo.flatMap ML.cells)
  inn : TOwn wr T 3 64 1 B d mi.length (mi.flatMap ML.cells)
  ro : ∀ x ∈ mo, TRow wr T 1 x.A 2 x.l.length (x.l.flatMap Hop.cells)
  ri : ∀ x ∈ mi, TRow wr T 1 x.A 2 x.l.length (x.l.flatMap Hop.cells)
  t0 : ∀ b, b ≤ G → T b = 0
  bl : Below N w wr
  nl : N + 2 ≤ G
section
variable {N G : Nat} {w wr w' : World} {T : Tags} {a b n : Int} {A : Option Addr} {c : Nat} {B : Option Addr} {d : Nat} {mo mi : List (ML Hop)} {Bq : Option Addr} {cr : Nat} {r : List Int}
theorem OI.gs (h : OI N G w wr T a b n A c B d mo mi Bq cr r) : G < wr.heap.size := World.block_lt_of_cell? _ _ h.eo.all
theorem OI.keep {T' : Tags} {S : Nat → Prop} (h : OI N G w wr T a b n A c B d mo mi Bq cr r) (hk : Keep S T wr w') (h0 : ¬ S 0) (h1 : ¬ S 1) (h2 : ¬ S 2) (h3 : ¬ S 3) (ha : Agree wr.heap.size T T') : OI N G w w' T' a b n A c B d mo mi Bq cr r := by
  have hg := h.gs
  have hb : Below (G + 1) wr w' := hk.old (fun b hb => h.t0 b (by omega)) h0 (by omega)
  exact ⟨h.pc.below (hb.mono (by have := h.nl; omega)), h.eo.below hb (by omega), h.out.keep hk h2 ha, h.inn.keep hk h3 ha, fun x hx => (h.ro x hx).keep hk h1 ha, fun x hx => (h.ri x hx).keep hk h1 ha, fun b hb2 => (ha b (by omega)).trans (h.t0 b hb2), h.bl.trans (hb.mono (by have := h.nl; omega)), h.nl⟩
theorem OI.alloc (h : OI N G w wr T a b n A c B d mo mi Bq cr r) (o : Obj) : OI N G w (wr.alloc o) T a b n A c B d mo mi Bq cr r := h.keep (S := fun _ => False) (Keep.refl.alloc o) (fun h => h) (fun h => h) (fun h => h) (fun h => h) Agree.refl
theorem OI.drew (h : OI N G w wr T a b n A c B d mo mi Bq cr r) : OI N G w wr.drew T a b n A c B d mo mi Bq cr r := h.keep (S := fun _ => False) Keep.refl.drew (fun h => h) (fun h => h) (fun h => h) (fun h => h) Agree.refl
/-- The eye has moved on, new rows were made. -/
theorem OI.hops {Bq' : Option Addr} {cr' : Nat} {r' : List Int} (h : OI N G w wr T a b n A c B d mo mi Bq cr r) (hg : wr.grownBy w' (some G)) (he : EO w' (N + 2) G G Bq' cr' r') : OI N G w w' (upd wr.heap.size T 1) a b n A c B d mo mi Bq' cr' r' := by
  have hG := h.gs
  have hk : Keep (fun x => x = 0) T wr w' := Keep.grown hg (fun k hk => by injection hk with hk; subst hk; exact h.t0 _ (Nat.le_refl _))
  have hb : Below (N + 2) wr w' := gbBelow hg h.nl (by have := h.nl; omega)
  have ha : Agree wr.heap.size T (upd wr.heap.size T 1) := agree_upd (Nat.le_refl _)
  exact ⟨h.pc.below hb, he, h.out.keep hk (by decide) ha, h.inn.keep hk (by decide) ha, fun x hx => (h.ro x hx).keep hk (by decide) ha, fun x hx => (h.ri x hx).keep hk (by decide) ha, fun b hb2 => (ha b (by omega)).trans (h.t0 b hb2), h.bl.trans (hb.mono (by omega)), h.nl⟩
theorem OI.pushO {y : ML Hop} {A' : Option Addr} {c' : Nat} (h : OI N G w wr T a b n A c B d mo mi Bq cr r) (hy : TRow wr T 1 y.A 2 y.l.length (y.l.flatMap Hop.cells)) (ho : TOwn w' (upd wr.heap.size T 2) 2 64 1 A' c' (mo.length + 1) (mo.flatMap ML.cells ++ ML.cells y)) (hk : Keep (fun x => x = 2) T wr w') :
    PC N w' a b n A mo.length c B mi.length d ∧ OI N G w (w'.setCell ⟨N, 3, none⟩ (.slice A' (mo.length + 1) c')) (upd wr.heap.size T 2) a b n A' c' B d (mo ++ [y]) mi Bq cr r := by
  have hG := h.gs
  have hb : Below (G + 1) wr w' := hk.old (fun b hb => h.t0 b (by omega)) (by decide) (by omega)
  have ha : Agree wr.heap.size T (upd wr.heap.size T 2) := agree_upd (Nat.le_refl _)
  have hpc := h.pc.below (hb.mono (show N + 2 ≤ G + 1 by have := h.nl; omega))
  have hz : T N = 0 := h.t0 N (by have := h.nl; omega)
  have hz2 : upd wr.heap.size T 2 N = 0 := (ha N (by have := h.nl; omega)).trans hz
  have ks : Keep (fun x => x = 0) (upd wr.heap.size T 2) w' (w'.setCell ⟨N, 3, none⟩ (.slice A' (mo.length + 1) c')) := Keep.refl.setCell (fun _ => hz2) _
  have e1 : (mo ++ [y]).length = mo.length + 1 := by simp
  have e2 : (mo ++ [y]).flatMap ML.cells = mo.flatMap ML.cells ++ ML.cells y := by simp
  refine ⟨hpc, ⟨?_, (h.eo.below hb (by omega)).store (by simp) h.nl _, ?_, (h.inn.keep hk (by decide) ha).keep ks (by decide) Agree.refl, fun x hx => ?_, fun x hx => ((h.ri x hx).keep hk (by decide) ha).keep ks (by decide) Agree.refl, fun b hb2 => (ha b (by omega)).trans (h.t0 b hb2), ?_, h.nl⟩⟩
  · rw [e1]; exact hpc.store.2.2.2.2.1 _ _ _
  · rw [e1, e2]; exact ho.keep ks (by decide) Agree.refl
  · rcases List.mem_append.1 hx with hx | hx
    · exact ((h.ro x hx).keep hk (by decide) ha).keep ks (by decide) Agree.refl
    · obtain rfl := List.mem_singleton.1 hx
      exact (hy.keep hk (by decide) ha).keep ks (by decide) Agree.refl
  · exact (h.bl.trans (hb.mono (by have := h.nl; omega))).setCell (Nat.le_refl _) _
theorem OI.pushI {y : ML Hop} {A' : Option Addr} {c' : Nat} (h : OI N G w wr T a b n A c B d mo mi Bq cr r) (hy : TRow wr T 1 y.A 2 y.l.length (y.l.flatMap Hop.cells)) (ho : TOwn w' (upd wr.heap.size T 3) 3 64 1 A' c' (mi.length + 1) (mi.flatMap ML.cells ++ ML.cells y)) (hk : Keep (fun x => x = 3) T wr w') :
    PC N w' a b n A mo.length c B mi.length d ∧ OI N G w (w'.setCell ⟨N, 4, none⟩ (.slice A' (mi.length + 1) c')) (upd wr.heap.size T 3) a b n A c A' c' mo (mi ++ [y]) Bq cr r := by
  have hG := h.gs
  have hb : Below (G + 1) wr w' := hk.old (fun b hb => h.t0 b (by omega)) (by decide) (by omega)
  have ha : Agree wr.heap.size T (upd wr.heap.size T 3) := agree_upd (Nat.le_refl _)
  have hpc := h.pc.below (hb.mono (show N + 2 ≤ G + 1 by have := h.nl; omega))
  have hz : T N = 0 := h.t0 N (by have := h.nl; omega)
  have hz2 : upd wr.heap.size T 3 N = 0 := (ha N (by have := h.nl; omega)).trans hz
  have ks : Keep (fun x => x = 0) (upd wr.heap.size T 3) w' (w'.setCell ⟨N, 4, none⟩ (.slice A' (mi.length + 1) c')) := Keep.refl.setCell (fun _ => hz2) _
  have e1 : (mi ++ [y]).length = mi.length + 1 := by simp
  have e2 : (mi ++ [y]).flatMap ML.cells = mi.flatMap ML.cells ++ ML.cells y := by simp
  refine ⟨hpc, ⟨?_, (h.eo.below hb (by omega)).store (by simp) h.nl _, (h.out.keep hk (by decide) ha).keep ks (by decide) Agree.refl, ?_, fun x hx => ((h.ro x hx).keep hk (by decide) ha).keep ks (by decide) Agree.refl, fun x hx => ?_, fun b hb2 => (ha b (by omega)).trans (h.t0 b hb2), ?_, h.nl⟩⟩
  · rw [e1]; exact hpc.store.2.2.2.2.2 _ _ _
  · rw [e1, e2]; exact ho.keep ks (by decide) Agree.refl
  · rcases List.mem_append.1 hx with hx | hx
    · exact ((h.ri x hx).keep hk (by decide) ha).keep ks (by decide) Agree.refl
    · obtain rfl := List.mem_singleton.1 hx
      exact (hy.keep hk (by decide) ha).keep ks (by decide) Agree.refl
  · exact (h.bl.trans (hb.mono (by have := h.nl; omega))).setCell (Nat.le_refl _) _
end
def putP (os is : List (List Hop)) : Option (List (List Hop) × List (List Hop) × List Int) → Option (List (List Hop) × List (List Hop) × List Int)
  | none => none
  | some (a, b, r) => some (os ++ a, is ++ b, r)
theorem putP_nil (o : Option (List (List Hop) × List (List Hop) × List Int)) : putP [] [] o = o := by rcases o with _ | ⟨a, b, r⟩ <;> rfl
theorem partGo_none1 {n : Int} {m : Nat} {r : List Int} (h : hopsE n r = none) : partGo n (m + 1) r = none := by unfold partGo; rw [h]
theorem partGo_none2 {n : Int} {m : Nat} {r r1 : List Int} {o : List Hop} (h : hopsE n r = some (o, r1)) (h2 : hopsE n r1 = none) : partGo n (m + 1) r = none := by unfold partGo; rw [h]; dsimp only; rw [h2]
theorem partGo_some {n : Int} {m : Nat} {r r1 r2 : List Int} {o i : List Hop} (os is : List (List Hop)) (h : hopsE n r = some (o, r1)) (h2 : hopsE n r1 = some (i, r2)) : putP os is (partGo n (m + 1) r) = putP (os ++ [o]) (is ++ [i]) (partGo n m r2) := by
  conv => lhs; unfold partGo
  rw [h]; dsimp only; rw [h2]; dsimp only
  rcases partGo n m r2 with _ | ⟨a, b, r⟩ <;> simp [putP]
theorem hopGo_len (n : Int) : ∀ (to : List Int) (p : Option Hop) (l : List Int) (hs : List Hop) (r : List Int), hopGo n to p l = some (hs, r) → hs.length = to.length ∧ r.length ≤ l.length
  | [], p, l, hs, r, h => by simp only [hopGo, Option.some.injEq, Prod.mk.injEq] at h; obtain ⟨rfl, rfl⟩ := h; exact ⟨rfl, Nat.le_refl _⟩
  | v :: to, p, l, hs, r, h => by
    unfold hopGo at h
    split at h
    · cases h
    · split at h
      · split at h
        · cases h
        · rename_i h2
          simp only [Option.some.injEq, Prod.mk.injEq] at h
          obtain ⟨rfl, rfl⟩ := h
          obtain ⟨h3, h4⟩ := hopGo_len n to _ _ _ _ h2
          rw [List.length_drop] at h4
          exact ⟨by simp [h3], by omega⟩
      · cases h
theorem hopsE_len {n : Int} {l : List Int} {hs : List Hop} {r : List Int} (h : hopsE n l = some (hs, r)) : hs.length ≤ 600 ∧ r.length ≤ l.length := by
  unfold hopsE at h
  split at h
  · rename_i h2
    obtain ⟨h3, h4⟩ := hopGo_len _ _ _ _ _ _ h
    rw [List.length_drop] at h4
    exact ⟨by omega, by omega⟩
  · cases h
theorem hopsMany_snoc (l : List (List Hop)) (x : List Hop) : hopsMany (l ++ [x]) = hopsMany l + x.length := by
  induction l with
  | nil => simp [hopsMany]
  | cons a l ih => simp only [List.cons_append, hopsMany, ih]; omega
theorem lists_snocP (m : List (ML Hop)) (x : ML Hop) : lists (m ++ [x]) = lists m ++ [x.l] := by simp [lists]
/-- The relation of store.Open's loop. -/
def OpR (N G : Nat) (a b n : Int) (M : Nat) (r0 : List Int) (w : World) (v9 v10 v56 : Value) (wr : World) : Prop :=
  ∃ (T : Tags) (A : Option Addr) (c : Nat) (B : Option Addr) (d : Nat) (mo mi : List (ML Hop)) (Bq : Option Addr) (cr : Nat) (r : List Int), v56 = .int .i64 (mo.length : Nat) ∧ v9 = .int .i64 (hopsMany (lists mo) : Nat) ∧ v10 = .int .i64 (hopsMany (lists mi) : Nat) ∧
    Hid (mi.length = mo.length) ∧ mo.length ≤ M ∧ Hid (OI N G w wr T a b n A c B d mo mi Bq cr r) ∧ Hid (partGo n M r0 = putP (lists mo) (lists mi) (partGo n (M - mo.length) r)) ∧ hopsMany (lists mo) ≤ 600 * mo.length ∧ hopsMany (lists mi) ≤ 600 * mo.length ∧ r.length ≤ 20000
theorem results_openA {t t' : Array Value} (h2 : t'.getD 2 undef = t.getD 2 undef) (h3 : t'.getD 3 undef = t.getD 3 undef) : results Try.f7 t' = results Try.f7 t := by
  unfold results
  simp only [Try.results7]
  rw [Array.getD_eq_getD_getElem?, Array.getD_eq_getD_getElem?] at h2 h3
  simp [h2, h3]
theorem leaves_open {t t' : Array Value} (h2 : t'.getD 2 undef = t.getD 2 undef) (h3 : t'.getD 3 undef = t.getD 3 undef) {R : Ending → World → Prop} : ∀ (ds : List Deferred) (u : FrameMode) (w : World), Leaves Try.prog Try.f7 t' R ds u w → Leaves Try.prog Try.f7 t R ds u w
  | [], .returning, w, h => by
    obtain ⟨v, h1, h4⟩ := h
    exact ⟨v, by rw [← results_openA h2 h3]; exact h1, h4⟩
  | [], .panicking chain, w, h => h
  | [], .run, w, h => h
  | d :: ds, u, w, h => by
    obtain ⟨hu, fv, cap, f, args, h1, h4, h5⟩ := h
    refine ⟨hu, fv, cap, f, args, h1, h4, h5.mono fun e u' w' h6 => ?_⟩
    cases e with
    | returned v => exact leaves_open h2 h3 ds _ _ h6
    | panicked c => exact leaves_open h2 h3 ds _ _ h6
    | outgrown => exact h6
theorem open_put {d : Option Nat} (hd : (d == some 2 || d == some 3) = false) {v : Value} {R : Ending → World → Prop} {c : List PanicEntry} {a : Act} {w : World} (h : bodyPostD Try.prog Try.f7 R (.panic c) (a.put d v) w) : bodyPostD Try.prog Try.f7 R (.panic c) a w := by
  cases d with
  | none => exact h
  | some k =>
    have h2 : k ≠ 2 ∧ k ≠ 3 := by simpa using hd
    refine leaves_open ?_ ?_ _ _ _ h
    · simp [Act.put, Array.getD_eq_getD_getElem?, Array.getElem?_setIfInBounds, h2.1]
    · simp [Act.put, Array.getD_eq_getD_getElem?, Array.getElem?_setIfInBounds, h2.2]
theorem el_hgO : ElemTy Try.prog 24 64 1 24 := elemTy (z := .slice none 0 0) Try.underlying24 (by decide) (by decide) (by kernel_rfl) rfl
theorem open_bad {w V : World} {a b n : Int} {A : Option Addr} {na c : Nat} {B : Option Addr} {nb d : Nat} (hp : PC w.heap.size V a b n A na c B nb d) (hb : Below w.heap.size w V) (tmps : Array Value) (h2 : tmps[2]? = some (.pointer (some ⟨w.heap.size, 0, none⟩))) (h3 : tmps[3]? = some (.pointer (some ⟨w.heap.size + 1, 0, none⟩))) :
    bodyPostD Try.prog Try.f7 (RetPt w (zeroP, 3)) (.panic badP) { tmps := tmps, defers := [{ target := .fn (.func 20) #[.pointer (some ⟨w.heap.size, 0, none⟩), .pointer (some ⟨w.heap.size + 1, 0, none⟩)], args := #[] }] } V := by
  refine leaves_cons (f := 20) (args := #[.pointer (some ⟨w.heap.size, 0, none⟩), .pointer (some ⟨w.heap.size + 1, 0, none⟩)]) (by simp) (by simp [go_sem]) ?_
  refine (openC_panic w.heap.size (w.heap.size + 1) (by omega) [] V (fun o ho => ?_) hp.fz _ hp.e0 hp.ez).mono ?_
  · obtain rfl | rfl | rfl | rfl | rfl : o = 0 ∨ o = 1 ∨ o = 2 ∨ o = 3 ∨ o = 4 := by omega
    · exact ⟨_, hp.c0⟩
    · exact ⟨_, hp.c1⟩
    · exact ⟨_, hp.c2⟩
    · exact ⟨_, hp.c3⟩
    · exact ⟨_, hp.c4⟩
  · rintro e u' w' ⟨rfl, rfl, ⟨d0, d1, d2, d3, d4, d5⟩, bb⟩
    refine ⟨.tuple #[.agg #[.int .i64 0, .int .i64 0, .int .i64 0, .slice none 0 0, .slice none 0 0], .int .i64 3], ?_, retPt_zero (hb.trans (bb.mono (by omega)))⟩
    simp [results, Try.results7, go_sem, Array.getD_eq_getD_getElem?, h2, h3, d0, d1, d2, d3, d4, d5]
theorem open_good {N : Nat} {V : World} {a b n : Int} {A : Option Addr} {na c : Nat} {B : Option Addr} {nb d : Nat} (hp : PC N V a b n A na c B nb d) (tmps : Array Value) (h2 : tmps[2]? = some (.pointer (some ⟨N, 0, none⟩))) (h3 : tmps[3]? = some (.pointer (some ⟨N + 1, 0, none⟩)))
    {R : Ending → World → Prop} (hR : R (.returned (.tuple #[.agg #[.int .i64 a, .int .i64 b, .int .i64 n, .slice A na c, .slice B nb d], .int .i64 0])) V) :
    bodyPostD Try.prog Try.f7 R .ret { tmps := tmps, defers := [{ target := .fn (.func 20) #[.pointer (some ⟨N, 0, none⟩), .pointer (some ⟨N + 1, 0, none⟩)], args := #[] }] } V := by
  refine leaves_cons (f := 20) (args := #[.pointer (some ⟨N, 0, none⟩), .pointer (some ⟨N + 1, 0, none⟩)]) (by simp) (by simp [go_sem]) ?_
  refine (openC_idle _ _ _).mono ?_
  rintro e u' w' ⟨rfl, rfl, rfl⟩
  refine ⟨_, ?_, hR⟩
  simp [results, Try.results7, go_sem, Array.getD_eq_getD_getElem?, h2, h3, hp.c0, hp.c1, hp.c2, hp.c3, hp.c4, hp.e0]
set_option maxRecDepth 100000 in
set_option maxHeartbeats 4000000 in
theorem open_ok (l : List Int) (w : World) (A : Option Addr) (L c : Nat) (hr : Rd w w.heap.size A 1 L (l.flatMap u8c)) (hL : l.length = L) (hb : ∀ x ∈ l, 0 ≤ x ∧ x ≤ 255) (hn : L ≤ 140737488355328) (hcap : L ≤ c) (he : (unwV l).2.2 = 0) :
    Calls Try.prog 7 #[.slice A L c] w (RetPt w (openV l)) := by
  have b0 := bA (bA (Below.refl w.heap.size w) (.cells #[.int .i64 0, .int .i64 0, .int .i64 0, .slice none 0 0, .slice none 0 0] 26)) (.cells #[.int .i64 0] 27)
  have HU := hid (unwrap_walk l ((w.alloc (.cells #[.int .i64 0, .int .i64 0, .int .i64 0, .slice none 0 0, .slice none 0 0] 26)).alloc (.cells #[.int .i64 0] 27)) A L c (rdb hr (by decide) b0) hL hb hn hcap)
  have hmf : ∀ (fn : Fn) (first cap : Array Value) (w : World), (Instr.makeFunc fn first cap).run Try.prog w = .ok (.func fn first cap) w := fun _ _ _ _ => rfl
  have hul := unwV_len l hb
  have HBY := hid (unwV_byteS hb)
  have HV : Hid (openV l = _) := hid (by conv => lhs; unfold openV)
  rw [if_neg (by rw [he]; simp)] at HV
  generalize unwV l = u at *
  obtain ⟨ink, kz, e⟩ := u
  dsimp only at *
  subst he
  obtain ⟨k, rfl⟩ := Int.eq_ofNat_of_zero_le hul.2.1
  go_enter_defers Try.func7, Try.ntmps7
  go_wp2_with fail
  refine HU.out.mono ?_
  rintro e1 w1 ⟨A1, c1, rfl, o1, b1⟩
  have hs1 : w.heap.size + 1 < w1.heap.size := by have := b1.size; simp at this; omega
  have p0 : w1.cell? ⟨w.heap.size, 0, none⟩ = some (.int .i64 0) := keepb b1 (by go_simp)
  have p1 : w1.cell? ⟨w.heap.size, 1, none⟩ = some (.int .i64 0) := keepb b1 (by go_simp)
  have p2 : w1.cell? ⟨w.heap.size, 2, none⟩ = some (.int .i64 0) := keepb b1 (by go_simp)
  have p3 : w1.cell? ⟨w.heap.size, 3, none⟩ = some (.slice none 0 0) := keepb b1 (by go_simp)
  have p4 : w1.cell? ⟨w.heap.size, 4, none⟩ = some (.slice none 0 0) := keepb b1 (by go_simp)
  have q0 : w1.cell? ⟨w.heap.size + 1, 0, none⟩ = some (.int .i64 0) := keepb b1 (by go_simp)
  have pf : ∀ o, w1.frozen? ⟨w.heap.size, o, none⟩ = false := fun o => keepf b1 (by go_simp) (by simp; omega)
  have qf : w1.frozen? ⟨w.heap.size + 1, 0, none⟩ = false := keepf b1 (by go_simp) (by simp)
  have HNO := hid (fun p V => want_no p V)
  have HYES := hid (fun p V => want_yes p V)
  have hs0 : (w1.setCell ⟨w.heap.size + 1, 0, none⟩ (.int .i64 0)).heap.size = w1.heap.size := by simp
  have HE0 := hid (EO.new (M := w.heap.size + 2) (e := 58) rfl (by rw [← flat_u8S]; exact ownsRow_setCell_below (a := ⟨w.heap.size + 1, 0, none⟩) (own_more o1 (by simp)) (by simp) (.int .i64 0)) HBY.out hs0)
  have HP0 : Hid (PC w.heap.size ((w1.setCell ⟨w.heap.size + 1, 0, none⟩ (.int .i64 0)).alloc (.cells #[.slice A1 ink.length c1] 58)) 0 0 0 none 0 0 none 0 0) := hid (PC.below (PC.store ⟨p0, p1, p2, p3, p4, pf, q0, qf⟩).1 ((Below.refl _ _).alloc (by simp; omega) _))
  have HB0 : Hid (Below w.heap.size w ((w1.setCell ⟨w.heap.size + 1, 0, none⟩ (.int .i64 0)).alloc (.cells #[.slice A1 ink.length c1] 58))) := hid (bA (bS (bT b0 b1) (by simp) _) _)
  have HS0 : Hid (w.heap.size + 2 ≤ w1.heap.size) := hid (by omega)
  by_cases hk : k = L
  · obtain rfl : k = L := hk
    have hkb : ((k : Int) == (k : Int)) = true := by simp
    have HV2 := hid (HV.out.trans (if_neg (by simp [hL])))
    have HSZ0 : Hid (w1.heap.size ≤ ((w1.setCell ⟨w.heap.size + 1, 0, none⟩ (.int .i64 0)).alloc (.cells #[.slice A1 ink.length c1] 58)).heap.size) := hid (by simp)
    go_wp2_with fail
    refine (HYES.out _ _).mono ?_
    rintro e w2 ⟨rfl, rfl⟩
    generalize (w1.setCell ⟨w.heap.size + 1, 0, none⟩ (.int .i64 0)).alloc (.cells #[.slice A1 ink.length c1] 58) = W0 at *
    have HG3 := hid (eyeGet_walk HE0.out HSZ0.out 7 (by omega) HE0.out.top)
    cases h3 : smallE ink 7 with
    | none =>
      rw [h3] at HG3
      have HBAD := hid (show openV l = (zeroP, 3) by rw [HV2.out]; unfold headV; rw [h3])
      clear h3
      go_wp2_with fail
      refine HG3.out.mono ?_
      rintro e w3 ⟨rfl, rfl⟩
      go_wp2_with fail
      rw [HBAD.out]
      exact open_bad HP0.out HB0.out _ rfl rfl
    | some y =>
      obtain ⟨a, k3⟩ := y
      rw [h3] at HG3
      have HH3 := hid h3
      clear h3
      go_wp2_with fail
      refine HG3.out.mono ?_
      rintro e w3 ⟨rfl, B3, hE, hG⟩
      have HE3 := hid hE
      have HSZ3 := hid (Nat.le_trans HSZ0.out hG.size)
      have hbl := gbBelow hG (show w.heap.size + 2 ≤ w1.heap.size by have := HS0.out; omega) (Nat.le_trans HS0.out HSZ0.out)
      have HP3 := hid (HP0.out.below hbl)
      have HB3 := hid (HB0.out.trans (hbl.mono (Nat.le_add_right _ _)))
      clear hE hG hbl
      have HG4 := hid (eyeGet_walk HE3.out HSZ3.out 8 (by omega) HE3.out.top)
      cases h4 : smallE (ink.drop k3) 8 with
      | none =>
        rw [h4] at HG4
        have HBAD := hid (show openV l = (zeroP, 3) by rw [HV2.out]; unfold headV; rw [HH3.out]; dsimp only; rw [h4])
        clear h4
        go_wp2_with fail
        refine HG4.out.mono ?_
        rintro e w3 ⟨rfl, rfl⟩
        go_wp2_with fail
        rw [HBAD.out]
        exact open_bad HP3.out HB3.out _ rfl rfl
      | some y =>
        obtain ⟨b, k4⟩ := y
        rw [h4] at HG4
        have HH4 := hid h4
        clear h4
        go_wp2_with fail
        refine HG4.out.mono ?_
        rintro e w4 ⟨rfl, B4, hE, hG⟩
        have HE4 := hid hE
        have HSZ4 := hid (Nat.le_trans HSZ3.out hG.size)
        have hbl := gbBelow hG (show w.heap.size + 2 ≤ w1.heap.size by have := HS0.out; omega) (Nat.le_trans HS0.out HSZ3.out)
        have HP4 := hid (HP3.out.below hbl)
        have HB4 := hid (HB3.out.trans (hbl.mono (Nat.le_add_right _ _)))
        clear hE hG hbl
        have HG5 := hid (eyeGet_walk HE4.out HSZ4.out 200 (by omega) HE4.out.top)
        cases h5 : smallE ((ink.drop k3).drop k4) 200 with
        | none =>
          rw [h5] at HG5
          have HBAD := hid (show openV l = (zeroP, 3) by rw [HV2.out]; unfold headV; rw [HH3.out]; dsimp only; rw [HH4.out]; dsimp only; rw [h5])
          clear h5
          go_wp2_with fail
          refine HG5.out.mono ?_
          rintro e w3 ⟨rfl, rfl⟩
          go_wp2_with fail
          rw [HBAD.out]
          exact open_bad HP4.out HB4.out _ rfl rfl
        | some y =>
          obtain ⟨n, k5⟩ := y
          rw [h5] at HG5
          have HH5 := hid h5
          clear h5
          go_wp2_with fail
          refine HG5.out.mono ?_
          rintro e w5 ⟨rfl, B5, hE, hG⟩
          have HE5 := hid hE
          have HSZ5 := hid (Nat.le_trans HSZ4.out hG.size)
          have hbl := gbBelow hG (show w.heap.size + 2 ≤ w1.heap.size by have := HS0.out; omega) (Nat.le_trans HS0.out HSZ4.out)
          have HP5 := hid (HP4.out.below hbl)
          have HB5 := hid (HB4.out.trans (hbl.mono (Nat.le_add_right _ _)))
          clear hE hG hbl
          have HV3 := hid (show openV l = ((if (mineV a n b).2 ≠ 0 then (zeroP, 3) else match partGo n (mineV a n b).1.length (((ink.drop k3).drop k4).drop k5) with
            | none => (zeroP, 3)
            | some (os, is, r') => if r' = [] ∧ hopsMany os ≤ 600 ∧ hopsMany is ≤ 600 then (⟨a, b, n, os, is⟩, 0) else (zeroP, 3)) : PartV × Int) by rw [HV2.out]; unfold headV; rw [HH3.out]; dsimp only; rw [HH4.out]; dsimp only; rw [HH5.out])
          obtain ⟨p0, p1, p2, p3, p4, pf, q0, qf⟩ := HP5.out
          have hs5 : w.heap.size < w5.heap.size := by have := HSZ5.out; omega
          have HP6 := hid ((((HP5.out.store.2.1 a).store.2.2.1 b).store.2.2.2.1 n))
          have HB6 : Hid (Below w.heap.size w (((w5.setCell ⟨w.heap.size, 0, none⟩ (.int .i64 a)).setCell ⟨w.heap.size, 1, none⟩ (.int .i64 b)).setCell ⟨w.heap.size, 2, none⟩ (.int .i64 n))) := hid (bS (bS (bS HB5.out (Nat.le_refl _) _) (Nat.le_refl _) _) (Nat.le_refl _) _)
          have HE6 : Hid (EO (((w5.setCell ⟨w.heap.size, 0, none⟩ (.int .i64 a)).setCell ⟨w.heap.size, 1, none⟩ (.int .i64 b)).setCell ⟨w.heap.size, 2, none⟩ (.int .i64 n)) (w.heap.size + 2) w1.heap.size w1.heap.size B5 (c1 - k3 - k4 - k5) (((ink.drop k3).drop k4).drop k5)) := hid (((HE5.out.store (by simp) HS0.out _).store (by simp) HS0.out _).store (by simp) HS0.out _)
          have HSZ6 : Hid (w1.heap.size ≤ (((w5.setCell ⟨w.heap.size, 0, none⟩ (.int .i64 a)).setCell ⟨w.heap.size, 1, none⟩ (.int .i64 b)).setCell ⟨w.heap.size, 2, none⟩ (.int .i64 n)).heap.size) := hid (by simpa using HSZ5.out)
          have HMI := hid (fun W => mine_walk a n b W)
          have hml := mineV_len a n b
          go_wp2_with fail
          generalize ((w5.setCell ⟨w.heap.size, 0, none⟩ (.int .i64 a)).setCell ⟨w.heap.size, 1, none⟩ (.int .i64 b)).setCell ⟨w.heap.size, 2, none⟩ (.int .i64 n) = W6 at *
          clear p0 p1 p2 p3 p4 pf q0 qf
          refine (HMI.out _).mono ?_
          generalize mineV a n b = mv at *
          obtain ⟨mine, f⟩ := mv
          dsimp only at *
          rintro e w7 ⟨A7, c7, rfl, o7, b7⟩
          have HP7 := hid (HP6.out.below (b7.mono (Nat.le_trans HS0.out HSZ6.out)))
          have HB7 := hid (bT HB6.out b7)
          have HE7 := hid (HE6.out.below b7 (Nat.lt_of_le_of_lt (Nat.le_refl _) (World.block_lt_of_cell? _ _ HE6.out.all)))
          have HSZ7 := hid (Nat.le_trans HSZ6.out b7.size)
          clear o7 b7
          by_cases hf : f = 0
          · subst hf
            go_wp2_with fail
            refine (HYES.out _ _).mono ?_
            rintro e w8 ⟨rfl, rfl⟩
            go_wp2_with fail
            have hrz : (((ink.drop k3).drop k4).drop k5).length ≤ 20000 := by simp only [List.length_drop]; omega
            have HV4 := hid (HV3.out.trans (if_neg (by simp)))
            generalize ((ink.drop k3).drop k4).drop k5 = r0 at *
            have HS7 := hid (show w7.heap.size = w7.heap.size from rfl)
            clear HH3 HH4 HH5 HV HV2 HV3 HBY HE0 HP0 HB0 HSZ0 HG3 HG4 HG5 HE3 HE4 HE5 HP3 HP4 HP5 HB3 HB4 HB5 HSZ3 HSZ4 HSZ5 HE6 HP6 HB6 HSZ6 HMI HU
            go_loopw [9, 10, 56] (fun v9 v10 v56 wr => OpR w.heap.size w1.heap.size a b n mine.length r0 w v9 v10 v56 wr) (fun _ _ v56 _ => mine.length - (intOf v56).toNat)
            case atStart =>
              refine ⟨fun _ => 0, none, 0, none, 0, [], [], B5, _, r0, rfl, rfl, rfl, hid rfl, Nat.zero_le _, hid ⟨HP7.out, HE7.out, TOwn.nil_, TOwn.nil_, (fun x hx => by cases hx), (fun x hx => by cases hx), fun _ _ => rfl, HB7.out, HS0.out⟩, hid (putP_nil _).symm, by simp [lists, hopsMany], by simp [lists, hopsMany], hrz⟩
            case round =>
              obtain ⟨T, A', c', B', d', mo, mi, Bq, cr, r, rfl, rfl, rfl, HML, hlm, HOI, HPG, hm1, hm2, hrl⟩ := hrel
              clear HP7 HE7 HB7
              by_cases hlt : mo.length < mine.length
              · have hlz : (mo.length : Int) < (mine.length : Int) := by omega
                have HM1 : Hid (mine.length - mo.length = (mine.length - (mo.length + 1)) + 1) := hid (by omega)
                have HH1 := hid (eyeHops_walk HOI.out.drew.eo (by have := HOI.out.gs; simp; omega) n (by omega))
                have hn24 : (mo.length + 1) * 24 ≤ 140737488355328 := by omega
                have hn24' : (mi.length + 1) * 24 ≤ 140737488355328 := by have := HML.out; omega
                obtain ⟨p0, p1, p2, p3, p4, pf, q0, qf⟩ := HOI.out.pc
                cases h1 : hopsE n r with
                | none =>
                  rw [h1] at HH1
                  have HBAD := hid (show openV l = (zeroP, 3) by rw [HV4.out, HPG.out, HM1.out, partGo_none1 h1]; rfl)
                  clear h1
                  go_wp2_with fail
                  refine wp_region_F (S := (fun V => V.cell? ⟨w.heap.size, 3, none⟩ = some (.slice A' mo.length c') ∧ V.cell? ⟨w.heap.size, 2, none⟩ = some (.int .i64 n))) [7, 9] (by kernel_rfl) ⟨p3, p2⟩ (fun hHeld => ?_)
                  refine wpAnyF_pure (i := 0) (v := ?vg1_1_0) rfl (by kernel_rfl) (by kernel_rfl) (by kernel_rfl) (fun _ _ _ h => open_put (by kernel_rfl) h) (Or.inl ⟨by rfl, ?hyg1_1_0⟩) ?restg1_1_0
                  case hyg1_1_0 => (intro w hSw; clear hSw; go_simp; (all_goals with_reducible rfl))
                  try simp only [Act.put, List.setIfInBounds_toArray, List.set_cons_zero, List.set_cons_succ, List.getElem_toArray, List.getElem_cons_succ, List.getElem_cons_zero]
                  refine wpAnyF_pure (i := 2) (v := ?vg1_2_2) rfl (by kernel_rfl) (by kernel_rfl) (by kernel_rfl) (fun _ _ _ h => open_put (by kernel_rfl) h) (Or.inl ⟨by rfl, ?hyg1_2_2⟩) ?restg1_2_2
                  case hyg1_2_2 => (intro w hSw; clear hSw; go_simp; (all_goals with_reducible rfl))
                  try simp only [Act.put, List.setIfInBounds_toArray, List.set_cons_zero, List.set_cons_succ, List.getElem_toArray, List.getElem_cons_succ, List.getElem_cons_zero]
                  refine wpAnyF_pure (i := 3) (v := ?vg1_3_3) rfl (by kernel_rfl) (by kernel_rfl) (by kernel_rfl) (fun _ _ _ h => open_put (by kernel_rfl) h) (Or.inl ⟨by rfl, ?hyg1_3_3⟩) ?restg1_3_3
                  case hyg1_3_3 => (intro w hSw; clear hSw; go_simp; (all_goals with_reducible rfl))
                  try simp only [Act.put, List.setIfInBounds_toArray, List.set_cons_zero, List.set_cons_succ, List.getElem_toArray, List.getElem_cons_succ, List.getElem_cons_zero]
                  refine wpAnyF_take [7, 8, 9] (i := 1) (v := ?vg1_4_1) rfl (by kernel_rfl) (by kernel_rfl) (by kernel_rfl) (by kernel_rfl) (fun _ _ _ h => open_put (by kernel_rfl) h) (Or.inl ⟨by rfl, ?hyg1_4_1⟩) (by assumption) ?restg1_4_1
                  case hyg1_4_1 => (intro w hSw; (try dsimp only at hSw); go_simp; (all_goals with_reducible rfl))
                  try simp only [Act.put, List.setIfInBounds_toArray, List.set_cons_zero, List.set_cons_succ, List.getElem_toArray, List.getElem_cons_succ, List.getElem_cons_zero]
                  refine wpAnyF_take [5, 6, 7, 8, 9] (i := 4) (v := ?vg1_5_4) rfl (by kernel_rfl) (by kernel_rfl) (by kernel_rfl) (by kernel_rfl) (fun _ _ _ h => open_put (by kernel_rfl) h) (Or.inl ⟨by rfl, ?hyg1_5_4⟩) (by assumption) ?restg1_5_4
                  case hyg1_5_4 => (intro w hSw; (try dsimp only at hSw); go_simp; (all_goals with_reducible rfl))
                  try simp only [Act.put, List.setIfInBounds_toArray, List.set_cons_zero, List.set_cons_succ, List.getElem_toArray, List.getElem_cons_succ, List.getElem_cons_zero]
                  refine wpAnyF_one (i := 5) (by kernel_rfl) rfl (fun K hK => ?_)
                  go_simp
                  go_at_call 24
                  refine HH1.out.mono ?_
                  rintro e w9 ⟨rfl, g9⟩
                  go_wp2_with fail
                  rw [HBAD.out]
                  exact open_bad (HOI.out.drew.pc.below (gbBelow g9 HS0.out (by have := HOI.out.gs; have := HS0.out; simp; omega))) ((HOI.out.drew.bl).trans ((gbBelow g9 HS0.out (by have := HOI.out.gs; have := HS0.out; simp; omega)).mono (by omega))) _ rfl rfl
                | some y =>
                  obtain ⟨o, r1⟩ := y
                  rw [h1] at HH1
                  have HHE := hid h1
                  have hol := hopsE_len h1
                  clear h1
                  go_wp2_with fail
                  refine wp_region_F (S := (fun V => V.cell? ⟨w.heap.size, 3, none⟩ = some (.slice A' mo.length c') ∧ V.cell? ⟨w.heap.size, 2, none⟩ = some (.int .i64 n))) [7, 9] (by kernel_rfl) ⟨p3, p2⟩ (fun hHeld => ?_)
                  refine wpAnyF_pure (i := 0) (v := ?vg2_1_0) rfl (by kernel_rfl) (by kernel_rfl) (by kernel_rfl) (fun _ _ _ h => open_put (by kernel_rfl) h) (Or.inl ⟨by rfl, ?hyg2_1_0⟩) ?restg2_1_0
                  case hyg2_1_0 => (intro w hSw; clear hSw; go_simp; (all_goals with_reducible rfl))
                  try simp only [Act.put, List.setIfInBounds_toArray, List.set_cons_zero, List.set_cons_succ, List.getElem_toArray, List.getElem_cons_succ, List.getElem_cons_zero]
                  refine wpAnyF_pure (i := 2) (v := ?vg2_2_2) rfl (by kernel_rfl) (by kernel_rfl) (by kernel_rfl) (fun _ _ _ h => open_put (by kernel_rfl) h) (Or.inl ⟨by rfl, ?hyg2_2_2⟩) ?restg2_2_2
                  case hyg2_2_2 => (intro w hSw; clear hSw; go_simp; (all_goals with_reducible rfl))
                  try simp only [Act.put, List.setIfInBounds_toArray, List.set_cons_zero, List.set_cons_succ, List.getElem_toArray, List.getElem_cons_succ, List.getElem_cons_zero]
                  refine wpAnyF_pure (i := 3) (v := ?vg2_3_3) rfl (by kernel_rfl) (by kernel_rfl) (by kernel_rfl) (fun _ _ _ h => open_put (by kernel_rfl) h) (Or.inl ⟨by rfl, ?hyg2_3_3⟩) ?restg2_3_3
                  case hyg2_3_3 => (intro w hSw; clear hSw; go_simp; (all_goals with_reducible rfl))
                  try simp only [Act.put, List.setIfInBounds_toArray, List.set_cons_zero, List.set_cons_succ, List.getElem_toArray, List.getElem_cons_succ, List.getElem_cons_zero]
                  refine wpAnyF_take [7, 8, 9] (i := 1) (v := ?vg2_4_1) rfl (by kernel_rfl) (by kernel_rfl) (by kernel_rfl) (by kernel_rfl) (fun _ _ _ h => open_put (by kernel_rfl) h) (Or.inl ⟨by rfl, ?hyg2_4_1⟩) (by assumption) ?restg2_4_1
                  case hyg2_4_1 => (intro w hSw; (try dsimp only at hSw); go_simp; (all_goals with_reducible rfl))
                  try simp only [Act.put, List.setIfInBounds_toArray, List.set_cons_zero, List.set_cons_succ, List.getElem_toArray, List.getElem_cons_succ, List.getElem_cons_zero]
                  refine wpAnyF_take [5, 6, 7, 8, 9] (i := 4) (v := ?vg2_5_4) rfl (by kernel_rfl) (by kernel_rfl) (by kernel_rfl) (by kernel_rfl) (fun _ _ _ h => open_put (by kernel_rfl) h) (Or.inl ⟨by rfl, ?hyg2_5_4⟩) (by assumption) ?restg2_5_4
                  case hyg2_5_4 => (intro w hSw; (try dsimp only at hSw); go_simp; (all_goals with_reducible rfl))
                  try simp only [Act.put, List.setIfInBounds_toArray, List.set_cons_zero, List.set_cons_succ, List.getElem_toArray, List.getElem_cons_succ, List.getElem_cons_zero]
                  refine wpAnyF_one (i := 5) (by kernel_rfl) rfl (fun K hK => ?_)
                  go_simp
                  go_at_call 24
                  refine HH1.out.mono ?_
                  rintro e w9 ⟨A9, c9, B9, cr9, rfl, o9, e9, g9⟩
                  have HO9 := hid (HOI.out.drew.hops g9 e9)
                  have HY9 := hid (show TRow w9 (upd wr.heap.size T 1) 1 A9 2 o.length (o.flatMap Hop.cells) from TRow.of_own o9 (Nat.le_refl _))
                  go_wp2_with fail
                  refine hK.out _ _ ⟨HO9.out.pc.c3, HO9.out.pc.c2⟩ (fun hHeld => ?_)
                  clear hK K
                  try simp only [Act.put, List.setIfInBounds_toArray, List.set_cons_zero, List.set_cons_succ, List.getElem_toArray, List.getElem_cons_succ, List.getElem_cons_zero]
                  refine wpAnyF_one (i := 6) (by kernel_rfl) rfl (fun K hK => ?_)
                  go_simp
                  refine hK.out _ _ ⟨(HO9.out.alloc _).pc.c3, (HO9.out.alloc _).pc.c2⟩ (fun hHeld => ?_)
                  clear hK K
                  try simp only [Act.put, List.setIfInBounds_toArray, List.set_cons_zero, List.set_cons_succ, List.getElem_toArray, List.getElem_cons_succ, List.getElem_cons_zero]
                  refine wpAnyF_oneD (i := 7) (by kernel_rfl) (by kernel_rfl) rfl (fun K hK => ?_)
                  refine step_appT rfl rfl el_hgO rfl (HO9.out.alloc _).out rfl (rd_newAt _ _ _ 1 1 _ (by simp) rfl) (one_ML [(⟨A9, c9, o⟩ : ML Hop)]) hn24 ?_
                  intro A10 c10 w10 o10 k10
                  have HO10 := hid ((HO9.out.alloc _).pushO (y := ⟨A9, c9, o⟩) (HY9.out.alloc _) o10 k10)
                  have p3x := HO10.out.1.c3
                  have pfx := HO10.out.1.fz
                  refine hK.out _ _ ?_
                  clear hK K
                  try simp only [Act.put, List.setIfInBounds_toArray, List.set_cons_zero, List.set_cons_succ, List.getElem_toArray, List.getElem_cons_succ, List.getElem_cons_zero]
                  refine wpAnyF_pure (i := 8) (v := ?vg2_9_8) rfl (by kernel_rfl) (by kernel_rfl) (by kernel_rfl) (fun _ _ _ h => open_put (by kernel_rfl) h) (Or.inl ⟨by rfl, ?hyg2_9_8⟩) ?restg2_9_8
                  case hyg2_9_8 => (intro w hSw; clear hSw; go_simp; (all_goals with_reducible rfl))
                  try simp only [Act.put, List.setIfInBounds_toArray, List.set_cons_zero, List.set_cons_succ, List.getElem_toArray, List.getElem_cons_succ, List.getElem_cons_zero]
                  refine wpAnyF_oneD (i := 9) (by kernel_rfl) (by kernel_rfl) rfl (fun K hK => ?_)
                  go_simp
                  refine hK.out _ _ ?_
                  clear hK K
                  try simp only [Act.put, List.setIfInBounds_toArray, List.set_cons_zero, List.set_cons_succ, List.getElem_toArray, List.getElem_cons_succ, List.getElem_cons_zero]
                  refine wpAnyF_done (by kernel_rfl) ?_ _
                  have HOI2 := hid HO10.out.2
                  have hel : (mo ++ [(⟨A9, c9, o⟩ : ML Hop)]).length = mo.length + 1 := by simp
                  clear HO9 HY9 o10 k10 HO10 p3x pfx p0 p1 p2 p3 p4 pf q0 qf o9 e9 g9 HOI HH1
                  generalize w10.setCell ⟨w.heap.size, 3, none⟩ (.slice A10 (mo.length + 1) c10) = w11 at *
                  generalize upd (w9.alloc (.cells #[.slice A9 o.length c9] 64)).heap.size (upd wr.drew.heap.size T 1) 2 = T11 at *
                  have HH2 := hid (eyeHops_walk HOI2.out.drew.eo (by have := HOI2.out.gs; simp; omega) n (by omega))
                  obtain ⟨p0, p1, p2, p3, p4, pf, q0, qf⟩ := HOI2.out.pc
                  rw [hel] at p3
                  have HEL := hid hel
                  clear hel
                  cases h1 : hopsE n r1 with
                  | none =>
                    rw [h1] at HH2
                    have HBAD := hid (show openV l = (zeroP, 3) by rw [HV4.out, HPG.out, HM1.out, partGo_none2 HHE.out h1]; rfl)
                    clear h1
                    go_wp2_with fail
                    refine wp_region_F (S := (fun V => V.cell? ⟨w.heap.size, 4, none⟩ = some (.slice B' mi.length d') ∧ V.cell? ⟨w.heap.size, 2, none⟩ = some (.int .i64 n))) [7, 9] (by kernel_rfl) ⟨p4, p2⟩ (fun hHeld => ?_)
                    refine wpAnyF_pure (i := 0) (v := ?vg3_1_0) rfl (by kernel_rfl) (by kernel_rfl) (by kernel_rfl) (fun _ _ _ h => open_put (by kernel_rfl) h) (Or.inl ⟨by rfl, ?hyg3_1_0⟩) ?restg3_1_0
                    case hyg3_1_0 => (intro w hSw; clear hSw; go_simp; (all_goals with_reducible rfl))
                    try simp only [Act.put, List.setIfInBounds_toArray, List.set_cons_zero, List.set_cons_succ, List.getElem_toArray, List.getElem_cons_succ, List.getElem_cons_zero]
                    refine wpAnyF_pure (i := 2) (v := ?vg3_2_2) rfl (by kernel_rfl) (by kernel_rfl) (by kernel_rfl) (fun _ _ _ h => open_put (by kernel_rfl) h) (Or.inl ⟨by rfl, ?hyg3_2_2⟩) ?restg3_2_2
                    case hyg3_2_2 => (intro w hSw; clear hSw; go_simp; (all_goals with_reducible rfl))
                    try simp only [Act.put, List.setIfInBounds_toArray, List.set_cons_zero, List.set_cons_succ, List.getElem_toArray, List.getElem_cons_succ, List.getElem_cons_zero]
                    refine wpAnyF_pure (i := 3) (v := ?vg3_3_3) rfl (by kernel_rfl) (by kernel_rfl) (by kernel_rfl) (fun _ _ _ h => open_put (by kernel_rfl) h) (Or.inl ⟨by rfl, ?hyg3_3_3⟩) ?restg3_3_3
                    case hyg3_3_3 => (intro w hSw; clear hSw; go_simp; (all_goals with_reducible rfl))
                    try simp only [Act.put, List.setIfInBounds_toArray, List.set_cons_zero, List.set_cons_succ, List.getElem_toArray, List.getElem_cons_succ, List.getElem_cons_zero]
                    refine wpAnyF_take [7, 8, 9] (i := 1) (v := ?vg3_4_1) rfl (by kernel_rfl) (by kernel_rfl) (by kernel_rfl) (by kernel_rfl) (fun _ _ _ h => open_put (by kernel_rfl) h) (Or.inl ⟨by rfl, ?hyg3_4_1⟩) (by assumption) ?restg3_4_1
                    case hyg3_4_1 => (intro w hSw; (try dsimp only at hSw); go_simp; (all_goals with_reducible rfl))
                    try simp only [Act.put, List.setIfInBounds_toArray, List.set_cons_zero, List.set_cons_succ, List.getElem_toArray, List.getElem_cons_succ, List.getElem_cons_zero]
                    refine wpAnyF_take [5, 6, 7, 8, 9] (i := 4) (v := ?vg3_5_4) rfl (by kernel_rfl) (by kernel_rfl) (by kernel_rfl) (by kernel_rfl) (fun _ _ _ h => open_put (by kernel_rfl) h) (Or.inl ⟨by rfl, ?hyg3_5_4⟩) (by assumption) ?restg3_5_4
                    case hyg3_5_4 => (intro w hSw; (try dsimp only at hSw); go_simp; (all_goals with_reducible rfl))
                    try simp only [Act.put, List.setIfInBounds_toArray, List.set_cons_zero, List.set_cons_succ, List.getElem_toArray, List.getElem_cons_succ, List.getElem_cons_zero]
                    refine wpAnyF_one (i := 5) (by kernel_rfl) rfl (fun K hK => ?_)
                    go_simp
                    go_at_call 24
                    refine HH2.out.mono ?_
                    rintro e w19 ⟨rfl, g19⟩
                    go_wp2_with fail
                    rw [HBAD.out]
                    exact open_bad (HOI2.out.drew.pc.below (gbBelow g19 HS0.out (by have := HOI2.out.gs; have := HS0.out; simp; omega))) ((HOI2.out.drew.bl).trans ((gbBelow g19 HS0.out (by have := HOI2.out.gs; have := HS0.out; simp; omega)).mono (by omega))) _ rfl rfl
                  | some y2 =>
                    obtain ⟨o2, r2⟩ := y2
                    rw [h1] at HH2
                    have HHE2 := hid h1
                    have hol2 := hopsE_len h1
                    clear h1
                    go_wp2_with fail
                    refine wp_region_F (S := (fun V => V.cell? ⟨w.heap.size, 4, none⟩ = some (.slice B' mi.length d') ∧ V.cell? ⟨w.heap.size, 2, none⟩ = some (.int .i64 n))) [7, 9] (by kernel_rfl) ⟨p4, p2⟩ (fun hHeld => ?_)
                    refine wpAnyF_pure (i := 0) (v := ?vg4_1_0) rfl (by kernel_rfl) (by kernel_rfl) (by kernel_rfl) (fun _ _ _ h => open_put (by kernel_rfl) h) (Or.inl ⟨by rfl, ?hyg4_1_0⟩) ?restg4_1_0
                    case hyg4_1_0 => (intro w hSw; clear hSw; go_simp; (all_goals with_reducible rfl))
                    try simp only [Act.put, List.setIfInBounds_toArray, List.set_cons_zero, List.set_cons_succ, List.getElem_toArray, List.getElem_cons_succ, List.getElem_cons_zero]
                    refine wpAnyF_pure (i := 2) (v := ?vg4_2_2) rfl (by kernel_rfl) (by kernel_rfl) (by kernel_rfl) (fun _ _ _ h => open_put (by kernel_rfl) h) (Or.inl ⟨by rfl, ?hyg4_2_2⟩) ?restg4_2_2
                    case hyg4_2_2 => (intro w hSw; clear hSw; go_simp; (all_goals with_reducible rfl))
                    try simp only [Act.put, List.setIfInBounds_toArray, List.set_cons_zero, List.set_cons_succ, List.getElem_toArray, List.getElem_cons_succ, List.getElem_cons_zero]
                    refine wpAnyF_pure (i := 3) (v := ?vg4_3_3) rfl (by kernel_rfl) (by kernel_rfl) (by kernel_rfl) (fun _ _ _ h => open_put (by kernel_rfl) h) (Or.inl ⟨by rfl, ?hyg4_3_3⟩) ?restg4_3_3
                    case hyg4_3_3 => (intro w hSw; clear hSw; go_simp; (all_goals with_reducible rfl))
                    try simp only [Act.put, List.setIfInBounds_toArray, List.set_cons_zero, List.set_cons_succ, List.getElem_toArray, List.getElem_cons_succ, List.getElem_cons_zero]
                    refine wpAnyF_take [7, 8, 9] (i := 1) (v := ?vg4_4_1) rfl (by kernel_rfl) (by kernel_rfl) (by kernel_rfl) (by kernel_rfl) (fun _ _ _ h => open_put (by kernel_rfl) h) (Or.inl ⟨by rfl, ?hyg4_4_1⟩) (by assumption) ?restg4_4_1
                    case hyg4_4_1 => (intro w hSw; (try dsimp only at hSw); go_simp; (all_goals with_reducible rfl))
                    try simp only [Act.put, List.setIfInBounds_toArray, List.set_cons_zero, List.set_cons_succ, List.getElem_toArray, List.getElem_cons_succ, List.getElem_cons_zero]
                    refine wpAnyF_take [5, 6, 7, 8, 9] (i := 4) (v := ?vg4_5_4) rfl (by kernel_rfl) (by kernel_rfl) (by kernel_rfl) (by kernel_rfl) (fun _ _ _ h => open_put (by kernel_rfl) h) (Or.inl ⟨by rfl, ?hyg4_5_4⟩) (by assumption) ?restg4_5_4
                    case hyg4_5_4 => (intro w hSw; (try dsimp only at hSw); go_simp; (all_goals with_reducible rfl))
                    try simp only [Act.put, List.setIfInBounds_toArray, List.set_cons_zero, List.set_cons_succ, List.getElem_toArray, List.getElem_cons_succ, List.getElem_cons_zero]
                    refine wpAnyF_one (i := 5) (by kernel_rfl) rfl (fun K hK => ?_)
                    go_simp
                    go_at_call 24
                    refine HH2.out.mono ?_
                    rintro e w19 ⟨A19, c19, B19, cr19, rfl, o19, e19, g19⟩
                    have HO19 := hid (HOI2.out.drew.hops g19 e19)
                    have HY19 := hid (show TRow w19 (upd w11.heap.size T11 1) 1 A19 2 o2.length (o2.flatMap Hop.cells) from TRow.of_own o19 (Nat.le_refl _))
                    go_wp2_with fail
                    refine hK.out _ _ ⟨HO19.out.pc.c4, HO19.out.pc.c2⟩ (fun hHeld => ?_)
                    clear hK K
                    try simp only [Act.put, List.setIfInBounds_toArray, List.set_cons_zero, List.set_cons_succ, List.getElem_toArray, List.getElem_cons_succ, List.getElem_cons_zero]
                    refine wpAnyF_one (i := 6) (by kernel_rfl) rfl (fun K hK => ?_)
                    go_simp
                    refine hK.out _ _ ⟨(HO19.out.alloc _).pc.c4, (HO19.out.alloc _).pc.c2⟩ (fun hHeld => ?_)
                    clear hK K
                    try simp only [Act.put, List.setIfInBounds_toArray, List.set_cons_zero, List.set_cons_succ, List.getElem_toArray, List.getElem_cons_succ, List.getElem_cons_zero]
                    refine wpAnyF_oneD (i := 7) (by kernel_rfl) (by kernel_rfl) rfl (fun K hK => ?_)
                    refine step_appT rfl rfl el_hgO rfl (HO19.out.alloc _).inn rfl (rd_newAt _ _ _ 1 1 _ (by simp) rfl) (one_ML [(⟨A19, c19, o2⟩ : ML Hop)]) hn24' ?_
                    intro A20 c20 w20 o20 k20
                    have HO20 := hid ((HO19.out.alloc _).pushI (y := ⟨A19, c19, o2⟩) (HY19.out.alloc _) o20 k20)
                    have p4x := HO20.out.1.c4
                    have pfx := HO20.out.1.fz
                    refine hK.out _ _ ?_
                    clear hK K
                    try simp only [Act.put, List.setIfInBounds_toArray, List.set_cons_zero, List.set_cons_succ, List.getElem_toArray, List.getElem_cons_succ, List.getElem_cons_zero]
                    refine wpAnyF_pure (i := 8) (v := ?vg4_9_8) rfl (by kernel_rfl) (by kernel_rfl) (by kernel_rfl) (fun _ _ _ h => open_put (by kernel_rfl) h) (Or.inl ⟨by rfl, ?hyg4_9_8⟩) ?restg4_9_8
                    case hyg4_9_8 => (intro w hSw; clear hSw; go_simp; (all_goals with_reducible rfl))
                    try simp only [Act.put, List.setIfInBounds_toArray, List.set_cons_zero, List.set_cons_succ, List.getElem_toArray, List.getElem_cons_succ, List.getElem_cons_zero]
                    refine wpAnyF_oneD (i := 9) (by kernel_rfl) (by kernel_rfl) rfl (fun K hK => ?_)
                    go_simp
                    refine hK.out _ _ ?_
                    clear hK K
                    try simp only [Act.put, List.setIfInBounds_toArray, List.set_cons_zero, List.set_cons_succ, List.getElem_toArray, List.getElem_cons_succ, List.getElem_cons_zero]
                    refine wpAnyF_done (by kernel_rfl) ?_ _
                    have HOI3 := hid HO20.out.2
                    clear HO19 HY19 o20 k20 HO20 p4x pfx p0 p1 p2 p3 p4 pf q0 qf o19 e19 g19 HOI2 HH2
                    generalize w20.setCell ⟨w.heap.size, 4, none⟩ (.slice A20 (mi.length + 1) c20) = w21 at *
                    generalize upd (w19.alloc (.cells #[.slice A19 o2.length c19] 64)).heap.size (upd w11.drew.heap.size T11 1) 3 = T21 at *
                    obtain ⟨p0, p1, p2, p3, p4, pf, q0, qf⟩ := HOI3.out.pc
                    rw [HEL.out] at p3
                    have hel2 : (mi ++ [(⟨A19, c19, o2⟩ : ML Hop)]).length = mi.length + 1 := by simp
                    rw [hel2] at p4
                    obtain ⟨g1, f1, rfl, _, e1⟩ := ml_cell (rd_own HOI3.out.out.1) rfl (show (mo ++ [(⟨A9, c9, o⟩ : ML Hop)])[mo.length]? = some ⟨A9, c9, o⟩ by simp)
                    obtain ⟨g2, f2, rfl, _, e2⟩ := ml_cell (rd_own HOI3.out.inn.1) rfl (show (mi ++ [(⟨A19, c19, o2⟩ : ML Hop)])[mi.length]? = some ⟨A19, c19, o2⟩ by simp)
                    dsimp only at e1 e2
                    have hml1 : mo.length ≤ 200 := by omega
                    have hml2 : mi.length ≤ 200 := by have := HML.out; omega
                    clear hel2
                    go_wp2_with fail
                    go_roundw
                    case rel =>
                      refine ⟨T21, _, _, _, _, mo ++ [⟨A9, c9, o⟩], mi ++ [⟨A19, c19, o2⟩], _, _, r2, ?_, ?_, ?_, hid (by simp [HML.out]), by simp; omega, HOI3, hid ?_, ?_, ?_, by omega⟩
                      · rw [HEL.out]; go_num
                      · rw [lists_snocP, hopsMany_snoc]; go_num
                      · rw [lists_snocP, hopsMany_snoc]; go_num
                      · rw [HPG.out, HM1.out, partGo_some _ _ HHE.out HHE2.out, lists_snocP, lists_snocP, HEL.out]
                      · rw [lists_snocP, hopsMany_snoc]; simp; omega
                      · rw [lists_snocP, hopsMany_snoc]; simp; omega
                    case measure => simp [intOf]; omega
              · have hje : mo.length = mine.length := by omega
                have HFIN : Hid (partGo n mine.length r0 = some (lists mo, lists mi, r)) := hid (by rw [HPG.out, hje, Nat.sub_self]; show some (lists mo ++ [], lists mi ++ [], r) = _; rw [List.append_nil, List.append_nil])
                obtain ⟨p0, p1, p2, p3, p4, pf, q0, qf⟩ := HOI.out.pc
                have ee := HOI.out.eo.all
                have hlt' : ¬ ((mo.length : Int) < (mine.length : Int)) := by omega
                have hgs := HOI.out.gs
                have hns : w.heap.size + 1 < wr.heap.size := by have := HOI.out.nl; omega
                have HJE := hid hje
                clear hje
                by_cases hr0 : r.length = 0
                · have hrb : ((r.length : Int) == 0) = true := by simp [hr0]
                  have HR0 := hid (List.length_eq_zero_iff.1 hr0)
                  clear hr0
                  by_cases ho6 : hopsMany (lists mo) ≤ 600
                  · have hob : decide ((hopsMany (lists mo) : Int) ≤ 600) = true := by simp; omega
                    by_cases hi6 : hopsMany (lists mi) ≤ 600
                    · have hib : decide ((hopsMany (lists mi) : Int) ≤ 600) = true := by simp; omega
                      have HOK := hid (show openV l = (⟨a, b, n, lists mo, lists mi⟩, 0) by rw [HV4.out, HFIN.out]; dsimp only; rw [if_pos ⟨HR0.out, ho6, hi6⟩])
                      go_wp2_with fail
                      refine (HYES.out _ _).mono ?_
                      rintro e w8 ⟨rfl, rfl⟩
                      go_wp2_with fail
                      rw [HOK.out]
                      have HPC := ((((((HOI.out.pc.store.2.1 a).store.2.2.1 b).store.2.2.2.1 n).store.2.2.2.2.1 A' mo.length c').store.2.2.2.2.2 B' mi.length d').store.1)
                      refine open_good HPC _ rfl rfl ?_
                      have hN : T w.heap.size = 0 := HOI.out.t0 _ (by have := HOI.out.nl; omega)
                      have hN1 : T (w.heap.size + 1) = 0 := HOI.out.t0 _ (by have := HOI.out.nl; omega)
                      have hk := ((((((Keep.refl (S := fun x => x = 0) (T := T) (w := wr)).setCell (p := ⟨w.heap.size, 0, none⟩) (fun _ => hN) (.int .i64 a)).setCell (p := ⟨w.heap.size, 1, none⟩) (fun _ => hN) (.int .i64 b)).setCell (p := ⟨w.heap.size, 2, none⟩) (fun _ => hN) (.int .i64 n)).setCell (p := ⟨w.heap.size, 3, none⟩) (fun _ => hN) (.slice A' mo.length c')).setCell (p := ⟨w.heap.size, 4, none⟩) (fun _ => hN) (.slice B' mi.length d')).setCell (p := ⟨w.heap.size + 1, 0, none⟩) (fun _ => hN1) (.int .i64 0)
                      have ht : ∀ b, b < w.heap.size → T b = 0 := fun b hb => HOI.out.t0 b (by have := HOI.out.nl; omega)
                      have hln : (lists mo).length = mo.length := by simp [lists]
                      have hln2 : (lists mi).length = mi.length := by simp [lists]
                      refine ⟨A', c', B', d', mo, mi, by rw [hln, hln2], rfl, rfl, ⟨(HOI.out.out.row.keep hk (by decide) Agree.refl).part ht (by decide), fun x hx => ((HOI.out.ro x hx).keep hk (by decide) Agree.refl).part ht (by decide)⟩, ⟨(HOI.out.inn.row.keep hk (by decide) Agree.refl).part ht (by decide), fun x hx => ((HOI.out.ri x hx).keep hk (by decide) Agree.refl).part ht (by decide)⟩, ?_⟩
                      exact bS (bS (bS (bS (bS (bS HOI.out.bl (Nat.le_refl _) _) (Nat.le_refl _) _) (Nat.le_refl _) _) (Nat.le_refl _) _) (Nat.le_refl _) _) (Nat.le_succ _) _
                    · have hib : decide ((hopsMany (lists mi) : Int) ≤ 600) = false := by simp; omega
                      have HBAD := hid (show openV l = (zeroP, 3) by rw [HV4.out, HFIN.out]; dsimp only; rw [if_neg (fun h => hi6 h.2.2)])
                      go_wp2_with fail
                      refine (HNO.out _ _).mono ?_
                      rintro e w8 ⟨rfl, rfl⟩
                      go_wp2_with fail
                      rw [HBAD.out]
                      exact open_bad HOI.out.pc HOI.out.bl _ rfl rfl
                  · have hob : decide ((hopsMany (lists mo) : Int) ≤ 600) = false := by simp; omega
                    have HBAD := hid (show openV l = (zeroP, 3) by rw [HV4.out, HFIN.out]; dsimp only; rw [if_neg (fun h => ho6 h.2.1)])
                    go_wp2_with fail
                    refine (HNO.out _ _).mono ?_
                    rintro e w8 ⟨rfl, rfl⟩
                    go_wp2_with fail
                    rw [HBAD.out]
                    exact open_bad HOI.out.pc HOI.out.bl _ rfl rfl
                · have hrb : ((r.length : Int) == 0) = false := by rw [beq_eq_false_iff_ne]; omega
                  have HBAD := hid (show openV l = (zeroP, 3) by rw [HV4.out, HFIN.out]; dsimp only; rw [if_neg (fun h => hr0 (by rw [h.1]; rfl))])
                  go_wp2_with fail
                  refine (HNO.out _ _).mono ?_
                  rintro e w8 ⟨rfl, rfl⟩
                  go_wp2_with fail
                  rw [HBAD.out]
                  exact open_bad HOI.out.pc HOI.out.bl _ rfl rfl
          · have hfb : (f == 0) = false := by simpa using hf
            have HBAD := hid (HV3.out.trans (if_pos hf))
            go_wp2_with fail
            refine (HNO.out _ _).mono ?_
            rintro e w8 ⟨rfl, rfl⟩
            go_wp2_with fail
            rw [HBAD.out]
            exact open_bad HP7.out HB7.out _ rfl rfl
  · have hkb : ((k : Int) == (L : Int)) = false := by simpa using fun h : (k : Int) = L => hk (by omega)
    go_wp2_with fail
    refine (HNO.out _ _).mono ?_
    rintro e w2 ⟨rfl, rfl⟩
    go_wp2_with fail
    rw [HV.out, if_pos (by omega)]
    exact open_bad HP0.out HB0.out _ rfl rfl
theorem open_walk (l : List Int) (w : World) (A : Option Addr) (L c : Nat) (hr : Rd w w.heap.size A 1 L (l.flatMap u8c)) (hL : l.length = L) (hb : ∀ x ∈ l, 0 ≤ x ∧ x ≤ 255) (hn : L ≤ 140737488355328) (hcap : L ≤ c) :
    Calls Try.prog 7 #[.slice A L c] w (RetPt w (openV l)) := by
  by_cases he : (unwV l).2.2 = 0
  · exact open_ok l w A L c hr hL hb hn hcap he
  · have h := open_err l w A L c hr hL hb hn hcap he
    have e : openV l = (zeroP, (unwV l).2.2) := by unfold openV; rw [if_pos he]
    rw [e]; exact h
end Go.Proofs.Ytiemcicgohldeaa
