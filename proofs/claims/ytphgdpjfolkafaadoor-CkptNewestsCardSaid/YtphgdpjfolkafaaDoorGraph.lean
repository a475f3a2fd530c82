/- graph.Check and the document's answer. -/
import Derived.Test.YtphgdpjfolkafaaDoorBase
namespace Go.Proofs.YtphgdpjfolkafaaDoor
open Go.ChangeShapes Go.WideShapes Go.ChangeAt Go.RowKit
set_option linter.unusedVariables false
set_option linter.unusedSimpArgs false
def edgeOk (n : Int) (e : Edge) : Prop := (0 ≤ e.src ∧ e.src < n) ∧ (0 ≤ e.dst ∧ e.dst < n) ∧ 0 ≤ e.wt ∧ e.wt ≤ 1099511627776
def graphFits (g : Graph) : Prop := 0 ≤ g.n ∧ g.n ≤ 200 ∧ g.edges.length ≤ 600
open Classical in
noncomputable def graphV (g : Graph) : Int := if graphFits g then (if ∀ e ∈ g.edges, edgeOk g.n e then 0 else 2) else 1
theorem graphV_ok {g : Graph} : graphV g = 0 ↔ graphFits g ∧ ∀ e ∈ g.edges, edgeOk g.n e := by
  unfold graphV
  split
  · split <;> simp_all
  · simp_all
/-- The cells of the edge 'k' of a graph that is read. -/
theorem edge_cells {w : World} {B n k : Nat} {A : Option Addr} {l : List Edge} {e : Edge} (h : Rd w B A 3 n (l.flatMap Edge.cells)) (hl : l.length = n) (hk : l[k]? = some e) :
    ∃ b off, A = some ⟨b, off, none⟩ ∧ b < B ∧ w.cell? ⟨b, off + k * 3, none⟩ = some (.int .i64 e.src) ∧ w.cell? ⟨b, off + k * 3 + 1, none⟩ = some (.int .i64 e.dst) ∧ w.cell? ⟨b, off + k * 3 + 2, none⟩ = some (.int .i64 e.wt) := by
  have hkl := (List.getElem?_eq_some_iff.1 hk).1
  obtain ⟨b, off, rfl, hb, hc⟩ := h.at_ (show k < n by omega)
  have hg := (flatMap_get (l := l) (cells := Edge.cells) (sz := 3) (fun _ _ => rfl)).2 k e
  have c0 := hc _ _ (hg 0 _ hk rfl)
  have c1 := hc _ _ (hg 1 _ hk rfl)
  have c2 := hc _ _ (hg 2 _ hk rfl)
  simp only [Nat.add_zero, ← Nat.add_assoc] at c0 c1 c2
  exact ⟨b, off, rfl, hb, c0, c1, c2⟩
def insideB (v n : Int) : Bool := decide (0 ≤ v ∧ v < n)
def GraphRel (l : List Edge) (n : Int) (v : Value) (w : World) (i : Value) (wr : World) : Prop :=
  ∃ k : Nat, k ≤ l.length ∧ i = .int .i64 k ∧ Hid (∀ (j : Nat) (e : Edge), j < k → l[j]? = some e → edgeOk n e) ∧ Below w.heap.size w wr ∧ w.heap.size < wr.heap.size ∧ wr.cell? ⟨w.heap.size, 0, none⟩ = some (.int .i64 n) ∧ wr.cell? ⟨w.heap.size, 1, none⟩ = some v
theorem notAll {l : List Edge} {n : Int} {k : Nat} {e : Edge} (he : l[k]? = some e) (h : ¬ edgeOk n e) : ¬ ∀ e ∈ l, edgeOk n e := fun ha => h (ha e (List.mem_of_getElem? he))
theorem okNext {l : List Edge} {n : Int} {k : Nat} {e : Edge} (he : l[k]? = some e) (h : edgeOk n e) (H : ∀ (j : Nat) (e : Edge), j < k → l[j]? = some e → edgeOk n e) : ∀ (j : Nat) (e : Edge), j < k + 1 → l[j]? = some e → edgeOk n e := by
  intro j e' hj he'
  by_cases hjk : j < k
  · exact H j e' hjk he'
  · obtain rfl : j = k := by omega
    rw [he] at he'
    injection he' with he'
    subst he'
    exact h
theorem allOk {l : List Edge} {n : Int} (h : ∀ (j : Nat) (e : Edge), j < l.length → l[j]? = some e → edgeOk n e) : ∀ e ∈ l, edgeOk n e := by
  intro e he
  obtain ⟨i, hi, rfl⟩ := List.getElem_of_mem he
  exact h i _ hi (List.getElem?_eq_getElem hi)
end Go.Proofs.YtphgdpjfolkafaaDoor
