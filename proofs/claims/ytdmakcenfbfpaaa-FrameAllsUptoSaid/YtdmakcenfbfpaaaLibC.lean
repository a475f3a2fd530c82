/- Words for memory, third part: make, a cell of an own row read and stored, readings handed on. -/
import Derived.Test.YtdmakcenfbfpaaaLibB
import Derived.Handy
import Derived.OwnWalk
namespace Go.Proofs.Ytdmakcenfbfpaaa
open Go.RowKit Go.ChangeShapes Go.WideShapes Go.ChangeAt
section
variable {w w' : World} {B base sz n c : Nat} {e : TypeId} {A : Option Addr} {xs : List Value}
theorem rdb (h : Rd w B A sz n xs) (hs : 0 < sz) (hb : Below B w w') : Rd w' w'.heap.size A sz n xs := (h.below hb).any hs
theorem own_rdb (h : w.ownsRow base e sz (.slice A n c) n xs) (hs : 0 < sz) (hb : Below w.heap.size w w') : Rd w' w'.heap.size A sz n xs := rdb (rd_own h) hs hb
end
/-- A cell that was there reads as it did. -/
theorem keepb {W W' : World} (b : Below W.heap.size W W') {p : Addr} {v : Value} (h : W.cell? p = some v) : W'.cell? p = some v :=
  (b.cell (World.block_lt_of_cell? W _ h)).trans h
theorem keepf {W W' : World} (b : Below W.heap.size W W') {p : Addr} (h : W.frozen? p = false) (hp : p.block < W.heap.size) : W'.frozen? p = false := (b.frozen hp).trans h
/-- 'make([]T, n)' at an element type whose zero is one cell. -/
theorem wp_make1 {P : Program} {w : World} {ops : Array Oper} {rest : List Oper} {o : Oper} {a : Act} {Q : Exit → Act → World → Prop} (hgd : o.guard = none) {l c : Operand} {t e : TypeId} {bs : Nat} {z : Value}
    (ho : o.op = .makeSlice t l c) (ht : P.underlying t = some (.slice e)) (hi : (P.info? e).map (fun i => (i.zero, i.size, i.bytes)) = some (some z, 1, bs)) (hz : z.cells = #[z])
    (n : Nat) (hl : a.eval l = .int .i64 (n : Int)) (hc : a.eval c = .int .i64 (n : Int)) (hb : bs * n ≤ 281474976710656) (hn : n ≤ 9223372036854775807)
    (h : ∀ w', w'.ownsRow w.heap.size e 1 (.slice (some ⟨w.heap.size, 0, none⟩) n n) n (List.replicate n z) → Below w.heap.size w w' → w'.heap.size = w.heap.size + 1 → wpList P ops Q rest (a.put o.dst (.slice (some ⟨w.heap.size, 0, none⟩) n n)) w') :
    wpList P ops Q (o :: rest) a w := by
  obtain ⟨i, h0, h1, h2, h3⟩ := info_parts hi
  refine wpList_plain hgd fun K hK => ?_
  have hr := run_make (P := P) w t e i z ht h0 h1 .i64 .i64 n n (by omega) (Int.le_refl _) (by rw [h3]; omega) (by omega)
  simp only [Int.toNat_natCast] at hr
  have ho1 := World.ownsRow_lit (base := w.heap.size) (e := e) (size := 1) w (madeCells z.cells (n * 1)) n (Nat.le_refl _) (by simp [maxLen]; omega) (by rw [size_madeCells])
  rw [hz, toList_madeCells_one, Nat.mul_one] at ho1
  have hfin := hK _ _ (h _ ho1 ((Below.refl _ _).alloc (Nat.le_refl _) _) (by simp))
  rw [h2, hz, Nat.mul_one] at hr
  unfold Oper.wp
  simp [execOp, ho, hl, hc, hr, Result.andThen]
  exact hfin
theorem inf_int : (Try.prog.info? 3).map (fun i => (i.zero, i.size, i.bytes)) = some (some (.int .i64 0), 1, 8) := by kernel_rfl
theorem inf_bool : (Try.prog.info? 4).map (fun i => (i.zero, i.size, i.bytes)) = some (some (.bool false), 1, 1) := by kernel_rfl
theorem inf_ints : (Try.prog.info? 43).map (fun i => (i.zero, i.size, i.bytes)) = some (some (.slice none 0 0), 1, 24) := by kernel_rfl
theorem inf_hops : (Try.prog.info? 82).map (fun i => (i.zero, i.size, i.bytes)) = some (some (.slice none 0 0), 1, 24) := by kernel_rfl
theorem flat_i64 : ∀ l : List Int, l.flatMap i64c = l.map (Value.int .i64)
  | [] => rfl
  | a :: l => by rw [List.flatMap_cons, flat_i64 l]; rfl
theorem flat_i64_set (l : List Int) (s : Nat) (x : Int) : (l.flatMap i64c).set s (.int .i64 x) = (l.set s x).flatMap i64c := by
  rw [flat_i64, flat_i64, List.map_set]
theorem flat_i64_get {l : List Int} {s : Nat} {x : Int} (h : l[s]? = some x) : (l.flatMap i64c)[s]? = some (.int .i64 x) := by
  rw [flat_i64, List.getElem?_map, h]; rfl
theorem replicate_i64 (n : Nat) (x : Int) : List.replicate n (Value.int .i64 x) = (List.replicate n x).flatMap i64c := by
  rw [flat_i64, List.map_replicate]
/-- A cell of a row of the call's own: what it holds; that it may be written; what is owned behind the store. -/
theorem own_at {w : World} {base g n cap sz j : Nat} {e : TypeId} {xs : List Value} {v : Value} (h : w.ownsRow base e sz (.slice (some ⟨g, 0, none⟩) n cap) n xs) (hj : xs[j]? = some v) :
    w.cell? ⟨g, j, none⟩ = some v ∧ w.frozen? ⟨g, j, none⟩ = false := by
  have h1 := (List.getElem?_eq_some_iff.1 hj).1
  rw [h.1] at h1
  exact ⟨(h.cellAt j h1).trans hj, h.frozenAt j⟩
end Go.Proofs.Ytdmakcenfbfpaaa
