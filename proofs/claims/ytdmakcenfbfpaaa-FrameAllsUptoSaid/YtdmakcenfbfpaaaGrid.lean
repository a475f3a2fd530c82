/- Lists of lists in memory. -/
import Derived.Test.YtdmakcenfbfpaaaLibE
namespace Go.Proofs.Ytdmakcenfbfpaaa
open Go.RowKit Go.ChangeShapes Go.WideShapes Go.ChangeAt
set_option linter.unusedVariables false
set_option linter.unusedSimpArgs false
/-- A list, and where it lies. -/
structure ML (α : Type) where
  A : Option Addr
  c : Nat
  l : List α
def ML.cells {α : Type} (x : ML α) : List Value := [.slice x.A x.l.length x.c]
def ML.rd {α : Type} (cells : α → List Value) (sz : Nat) (w : World) (B : Nat) (x : ML α) : Prop := Rd w B x.A sz x.l.length (x.l.flatMap cells)
def ML.wf {α : Type} (cells : α → List Value) (sz bs : Nat) (wf : α → Prop) (w : World) (x : ML α) : Prop := x.rd cells sz w w.heap.size ∧ x.l.length ≤ x.c ∧ x.c * bs ≤ 140737488351232 ∧ ∀ n ∈ x.l, wf n
def ML.parts {α : Type} (cells : α → List Value) (sz : Nat) (x : ML α) : List Part := [⟨x.A, sz, x.l.length, x.l.flatMap cells⟩]
/-- Lists at 'A'. -/
abbrev Grid {α : Type} (cells : α → List Value) (sz : Nat) (w : World) (B : Nat) (A : Option Addr) (l : List (ML α)) : Prop := Led ML.cells (ML.parts cells sz) w B 1 A l
section
variable {α : Type} {cells : α → List Value} {sz : Nat}
theorem Grid.any {w : World} {B : Nat} {A : Option Addr} {l : List (ML α)} (h : Grid cells sz w B A l) (hs : 0 < sz) : Grid cells sz w w.heap.size A l :=
  ⟨h.1.any (by decide), fun x hx p hp => by have := h.2 x hx p hp; obtain rfl := List.mem_singleton.1 hp; exact Rd.any (sz := sz) this hs⟩
theorem Grid.b {w w' : World} {B : Nat} {A : Option Addr} {l : List (ML α)} (h : Grid cells sz w B A l) (hs : 0 < sz) (hb : Below B w w') : Grid cells sz w' w'.heap.size A l := Grid.any (Led.below h hb) hs
theorem Grid.data {w : World} {B : Nat} {A : Option Addr} {l : List (ML α)} (h : Grid cells sz w B A l) {x : ML α} (hx : x ∈ l) : x.rd cells sz w B := h.2 x hx _ (List.mem_singleton.2 rfl)
theorem grid_of {w : World} {bs bs' : Nat} {wf : α → Prop} {A : Option Addr} {c : Nat} {l : List (ML α)} (h : Flat w w.heap.size bs 1 ML.cells A c l) (hw : ∀ x ∈ l, x.wf cells sz bs' wf w) : Grid cells sz w w.heap.size A l :=
  ⟨h.2.2.2, fun x hx p hp => by obtain rfl := List.mem_singleton.1 hp; exact (hw x hx).1⟩
theorem one_ML (l : List (ML α)) : ∀ u ∈ l.flatMap ML.cells, u.oneCell' = true := by
  intro u hu; obtain ⟨x, _, h⟩ := List.mem_flatMap.1 hu; simp [ML.cells] at h; subst h; rfl
theorem flat_ML : ∀ l : List (ML α), l.flatMap ML.cells = l.map fun x => Value.slice x.A x.l.length x.c
  | [] => rfl
  | a :: l => by rw [List.flatMap_cons, flat_ML l]; rfl
/-- The cell of a list. -/
theorem ml_cell {w : World} {B n k : Nat} {A : Option Addr} {l : List (ML α)} {e : ML α} (h : Rd w B A 1 n (l.flatMap ML.cells)) (hl : l.length = n) (hk : l[k]? = some e) :
    ∃ b off, A = some ⟨b, off, none⟩ ∧ b < B ∧ w.cell? ⟨b, off + k, none⟩ = some (.slice e.A e.l.length e.c) := by
  have hk' := (List.getElem?_eq_some_iff.1 hk).1
  obtain ⟨b, off, rfl, hb, hc⟩ := h.2 (by omega)
  exact ⟨b, off, rfl, hb, hc _ _ (by rw [flat_ML, List.getElem?_map, hk]; rfl)⟩
end
section
variable {H : Type} {enc : TypeId × Value → H} {P : Program} {W : World}
theorem opn_ML {t : TypeId} {sz bs : Nat} {α : Type} {cells : α → List Value} {wf : α → Prop} (h : Opn enc P W t (FlatArg W bs sz cells wf)) : Opn enc P W t (fun cs (x : ML α) => cs = x.cells ∧ x.wf cells sz bs wf W) :=
  h.mono (fun cs l h => by
    obtain ⟨A, c, h1, ⟨f1, f2, f3, f4⟩, w1⟩ := h
    exact ⟨⟨A, c, l⟩, h1, f4, f1, f2, w1⟩)
end
theorem el_grid_u8 : ElemTy Try.prog 33 25 1 24 := elemTy (z := .slice none 0 0) Try.underlying33 (by decide) (by decide) (by kernel_rfl) rfl
theorem el_grid_mail : ElemTy Try.prog 49 51 1 24 := elemTy (z := .slice none 0 0) Try.underlying49 (by decide) (by decide) (by kernel_rfl) rfl
end Go.Proofs.Ytdmakcenfbfpaaa
