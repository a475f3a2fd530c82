/- What a call on a pen leaves as it was. Plain. -/
import Derived.Test.YtifpngjipkmdcaaCka
namespace Go.Proofs.Ytifpngjipkmdcaa
open Go.ChangeShapes Go.WideShapes Go.ChangeAt Go.RowKit
set_option linter.unusedVariables false
set_option linter.unusedSimpArgs false
/-- What a call on a heap at G leaves as it was: all but G, the heap's row, and what is new. -/
def PFL (w w' : World) (L G : Nat) (a a' : Option Nat) : Prop :=
  Below L w w' ∧ (∀ k, k < w.heap.size → k ≠ G → a ≠ some k → w'.heap[k]? = w.heap[k]?) ∧ (∀ k, a' = some k → a = some k ∨ w.heap.size ≤ k)
theorem PFL.trans {w w1 w2 : World} {L G : Nat} {a a1 a2 : Option Nat} (h : PFL w w1 L G a a1) (k : PFL w1 w2 L G a1 a2) : PFL w w2 L G a a2 := by
  refine ⟨h.1.trans k.1, fun i hi hG ha => ?_, fun i hi => ?_⟩
  · refine (k.2.1 i (Nat.lt_of_lt_of_le hi h.1.size) hG fun e => ?_).trans (h.2.1 i hi hG ha)
    rcases h.2.2 i e with e2 | e2
    · exact ha e2
    · omega
  · rcases k.2.2 i hi with e | e
    · exact h.2.2 i e
    · exact .inr (Nat.le_trans h.1.size e)
theorem PFL.below {w w' : World} {L G : Nat} {a : Option Nat} (h : Below w.heap.size w w') (hG : L ≤ w.heap.size) : PFL w w' L G a a :=
  ⟨h.mono hG, fun k hk _ _ => h.block k hk, fun k hk => .inl hk⟩
theorem own_pfl {w w' : World} {base e sz n L G : Nat} {v : Value} {xs : List Value} {a a' : Option Nat} (h : w.ownsRow base e sz v n xs) (hf : PFL w w' L G a a') (hne : ∀ x, v.ownBlock = some x → x ≠ G ∧ a ≠ some x) : w'.ownsRow base e sz v n xs := by
  refine ⟨h.1, ?_⟩
  rcases h.2 with h0 | ⟨g', cap, cur, h1, h2, h3, r⟩
  · exact .inl h0
  · refine .inr ⟨g', cap, cur, h1, h2, ?_, r⟩
    have := hne g' (by rw [h1]; rfl)
    rw [hf.2.1 g' (Array.getElem?_eq_some_iff.1 h3).1 this.1 this.2]
    exact h3
theorem pfl_of_grown {w w' : World} {L G g : Nat} (h : w.grownBy w' (some g)) (hg : L ≤ g) (hG : L ≤ w.heap.size) : PFL w w' L G (some g) (some g) :=
  ⟨⟨h.os, h.tape, h.output, h.size, fun k hk => h.block k (by omega) (fun e => by injection e with e; omega)⟩, fun k hk _ hne => h.block k hk (fun e => hne e.symm), fun k hk => .inl hk⟩
theorem pn_cell {w w' : World} {g : Option Nat} (h : w.grownBy w' g) {b o : Nat} (hb : b < w.heap.size) (hne : g ≠ some b) : w'.cell? ⟨b, o, none⟩ = w.cell? ⟨b, o, none⟩ :=
  World.cell?_of_block (w := w) (h.block b hb (fun e => hne e.symm))
theorem pn_frozen {w w' : World} {g : Option Nat} (h : w.grownBy w' g) {b o : Nat} (hb : b < w.heap.size) (hne : g ≠ some b) : w'.frozen? ⟨b, o, none⟩ = w.frozen? ⟨b, o, none⟩ :=
  World.frozen?_of_block (w := w) (h.block b hb (fun e => hne e.symm))
end Go.Proofs.Ytifpngjipkmdcaa
