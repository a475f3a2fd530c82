/- Boards in memory. -/
import Derived.Test.YtaipjckcckfnaaaLibE
namespace Go.Proofs.Ytaipjckcckfnaaa
open Go.RowKit Go.ChangeShapes Go.WideShapes Go.ChangeAt
set_option linter.unusedVariables false
structure Report where
  worker : Int
  epoch : Int
  step : Int
  sent : List Int
  got : List Int
  waking : Int
  opn : Int
/-- A report, and where its counts lie. -/
structure MRep where
  A : Option Addr
  c : Nat
  A' : Option Addr
  c' : Nat
  r : Report
def MRep.cells (x : MRep) : List Value := [.int .i64 x.r.worker, .int .i64 x.r.epoch, .int .i64 x.r.step, .slice x.A x.r.sent.length x.c, .slice x.A' x.r.got.length x.c', .int .i64 x.r.waking, .int .i64 x.r.opn]
def MRep.rd (w : World) (B : Nat) (x : MRep) : Prop := Rd w B x.A 1 x.r.sent.length (x.r.sent.flatMap i64c) ∧ Rd w B x.A' 1 x.r.got.length (x.r.got.flatMap i64c)
def MRep.wf (w : World) (x : MRep) : Prop := x.rd w w.heap.size ∧ (x.r.sent.length * 8 ≤ 140737488351232 ∧ x.r.got.length * 8 ≤ 140737488351232) ∧ (∀ n ∈ x.r.sent, I64 n) ∧ (∀ n ∈ x.r.got, I64 n) ∧ I64 x.r.worker ∧ I64 x.r.epoch ∧ I64 x.r.step ∧ I64 x.r.waking ∧ I64 x.r.opn
def MRep.parts (x : MRep) : List Part := [⟨x.A, 1, x.r.sent.length, x.r.sent.flatMap i64c⟩, ⟨x.A', 1, x.r.got.length, x.r.got.flatMap i64c⟩]
theorem MRep.mem {x : MRep} {p : Part → Prop} (h1 : p ⟨x.A, 1, x.r.sent.length, x.r.sent.flatMap i64c⟩) (h2 : p ⟨x.A', 1, x.r.got.length, x.r.got.flatMap i64c⟩) : ∀ q ∈ x.parts, p q := by
  intro q hq
  simp only [MRep.parts, List.mem_cons, List.not_mem_nil, or_false] at hq
  rcases hq with rfl | rfl
  · exact h1
  · exact h2
/-- Reports at 'A'. -/
abbrev Reps (w : World) (B : Nat) (A : Option Addr) (l : List MRep) : Prop := Led MRep.cells MRep.parts w B 7 A l
theorem Reps.data {w : World} {B : Nat} {A : Option Addr} {l : List MRep} (h : Reps w B A l) {x : MRep} (hx : x ∈ l) : x.rd w B :=
  ⟨h.2 x hx ⟨x.A, 1, x.r.sent.length, x.r.sent.flatMap i64c⟩ (List.mem_cons_self ..), h.2 x hx ⟨x.A', 1, x.r.got.length, x.r.got.flatMap i64c⟩ (List.mem_cons_of_mem _ (List.mem_cons_self ..))⟩
theorem Reps.any {w : World} {B : Nat} {A : Option Addr} {l : List MRep} (h : Reps w B A l) : Reps w w.heap.size A l :=
  ⟨h.1.any (by decide), fun x hx => MRep.mem (Rd.any (sz := 1) (Reps.data h hx).1 (by decide)) (Rd.any (sz := 1) (Reps.data h hx).2 (by decide))⟩
theorem Reps.b {w w' : World} {B : Nat} {A : Option Addr} {l : List MRep} (h : Reps w B A l) (hb : Below B w w') : Reps w' w'.heap.size A l := Reps.any (Led.below h hb)
theorem reps_of {w : World} {bs : Nat} {A : Option Addr} {c : Nat} {l : List MRep} (h : Flat w w.heap.size bs 7 MRep.cells A c l) (hw : ∀ x ∈ l, x.wf w) : Reps w w.heap.size A l :=
  ⟨h.2.2.2, fun x hx => MRep.mem (hw x hx).1.1 (hw x hx).1.2⟩
structure Board where
  workers : Int
  epoch : Int
  step : Int
  reps : List MRep
section
variable {H : Type} {enc : TypeId × Value → H} {W : World}
def RepArg (W : World) (cs : List Value) (x : MRep) : Prop := cs = x.cells ∧ x.wf W
theorem opn_Report : Opn enc Try.prog W 33 (RepArg W) :=
  (opn_struct Try.underlying33 (by kernel_rfl) (opnF_cons (n := 1) rfl (by kernel_rfl) opn_i64 (opnF_cons (n := 1) rfl (by kernel_rfl) opn_i64 (opnF_cons (n := 1) rfl (by kernel_rfl) opn_i64 (opnF_cons (n := 1) rfl (by kernel_rfl) opn_ints (opnF_cons (n := 1) rfl (by kernel_rfl) opn_ints (opnF_cons (n := 1) rfl (by kernel_rfl) opn_i64 (opnF_cons (n := 1) rfl (by kernel_rfl) opn_i64 opnF_nil)))))))).mono (fun cs x h => by
    obtain ⟨a, b, d, e, f, g, i, _⟩ := x
    obtain ⟨⟨h0, z0⟩, ⟨h1, z1⟩, ⟨h2, z2⟩, ⟨A, c, h3, ⟨f1, f2, f3, f4⟩, w3⟩, ⟨A', c', h4, ⟨g1, g2, g3, g4⟩, w4⟩, ⟨h5, z5⟩, ⟨h6, z6⟩, hn⟩ := h
    exact ⟨⟨A, c, A', c', ⟨a, b, d, e, f, g, i⟩⟩, glue h0 (glue h1 (glue h2 (glue h3 (glue h4 (glue h5 (glue h6 hn)))))), ⟨f4, g4⟩, ⟨Nat.le_trans (Nat.mul_le_mul_right 8 f1) f2, Nat.le_trans (Nat.mul_le_mul_right 8 g1) g2⟩, w3, w4, z0, z1, z2, z5, z6⟩)
theorem opn_reports : Opn enc Try.prog W 22 (FlatArg W 88 7 MRep.cells (MRep.wf W)) := opn_flat Try.underlying22 (by kernel_rfl) (by kernel_rfl) (by decide) (fun _ => rfl) opn_Report
def BoardArg (W : World) (cs : List Value) (x : Board) : Prop :=
  ∃ A c, cs = [.int .i64 x.workers, .int .i64 x.epoch, .int .i64 x.step, .slice A x.reps.length c] ∧ I64 x.workers ∧ I64 x.epoch ∧ I64 x.step ∧ Flat W W.heap.size 88 7 MRep.cells A c x.reps ∧ ∀ y ∈ x.reps, y.wf W
theorem opn_Board : Opn enc Try.prog W 24 (BoardArg W) :=
  (opn_struct Try.underlying24 (by kernel_rfl) (opnF_cons (n := 1) rfl (by kernel_rfl) opn_i64 (opnF_cons (n := 1) rfl (by kernel_rfl) opn_i64 (opnF_cons (n := 1) rfl (by kernel_rfl) opn_i64 (opnF_cons (n := 1) rfl (by kernel_rfl) opn_reports opnF_nil))))).mono (fun cs x h => by
    obtain ⟨a, b, d, e, _⟩ := x
    obtain ⟨⟨h0, z0⟩, ⟨h1, z1⟩, ⟨h2, z2⟩, ⟨A, c, h3, w3, w4⟩, hn⟩ := h
    exact ⟨⟨a, b, d, e⟩, A, c, glue h0 (glue h1 (glue h2 (glue h3 hn))), z0, z1, z2, w3, w4⟩)
end
theorem el_reports : ElemTy Try.prog 22 33 7 88 := elemTy (z := .agg #[.int .i64 0, .int .i64 0, .int .i64 0, .slice none 0 0, .slice none 0 0, .int .i64 0, .int .i64 0]) Try.underlying22 (by decide) (by decide) (by kernel_rfl) rfl
theorem one_Report (l : List MRep) : ∀ u ∈ l.flatMap MRep.cells, u.oneCell' = true := by
  intro u hu; obtain ⟨x, _, h⟩ := List.mem_flatMap.1 hu; simp [MRep.cells] at h; rcases h with rfl | rfl | rfl | rfl | rfl | rfl | rfl <;> rfl
/-- The seven cells of a report. -/
theorem rep_cells {w : World} {B n k : Nat} {A : Option Addr} {l : List MRep} {e : MRep} (h : Rd w B A 7 n (l.flatMap MRep.cells)) (hl : l.length = n) (hk : l[k]? = some e) :
    ∃ b off, A = some ⟨b, off, none⟩ ∧ b < B ∧ w.cell? ⟨b, off + k * 7, none⟩ = some (.int .i64 e.r.worker) ∧ w.cell? ⟨b, off + k * 7 + 1, none⟩ = some (.int .i64 e.r.epoch) ∧ w.cell? ⟨b, off + k * 7 + 2, none⟩ = some (.int .i64 e.r.step) ∧
      w.cell? ⟨b, off + k * 7 + 3, none⟩ = some (.slice e.A e.r.sent.length e.c) ∧ w.cell? ⟨b, off + k * 7 + 4, none⟩ = some (.slice e.A' e.r.got.length e.c') ∧ w.cell? ⟨b, off + k * 7 + 5, none⟩ = some (.int .i64 e.r.waking) ∧ w.cell? ⟨b, off + k * 7 + 6, none⟩ = some (.int .i64 e.r.opn) := by
  have hk' := (List.getElem?_eq_some_iff.1 hk).1
  obtain ⟨b, off, rfl, hb, hc⟩ := h.2 (by omega)
  obtain ⟨_, hg⟩ := flatMap_get (cells := MRep.cells) (sz := 7) (l := l) (fun _ _ => rfl)
  refine ⟨b, off, rfl, hb, ?_, ?_, ?_, ?_, ?_, ?_, ?_⟩
  · exact hc _ _ (hg k e 0 _ hk rfl)
  · rw [Nat.add_assoc]; exact hc _ _ (hg k e 1 _ hk rfl)
  · rw [Nat.add_assoc]; exact hc _ _ (hg k e 2 _ hk rfl)
  · rw [Nat.add_assoc]; exact hc _ _ (hg k e 3 _ hk rfl)
  · rw [Nat.add_assoc]; exact hc _ _ (hg k e 4 _ hk rfl)
  · rw [Nat.add_assoc]; exact hc _ _ (hg k e 5 _ hk rfl)
  · rw [Nat.add_assoc]; exact hc _ _ (hg k e 6 _ hk rfl)
end Go.Proofs.Ytaipjckcckfnaaa
