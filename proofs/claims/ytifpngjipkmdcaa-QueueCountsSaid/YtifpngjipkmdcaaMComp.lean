/- slices.CompactFunc at mail, walked. -/
import Derived.Test.YtifpngjipkmdcaaMCompP
namespace Go.Proofs.Ytifpngjipkmdcaa
open Go.ChangeShapes Go.WideShapes Go.ChangeAt Go.RowKit
set_option linter.unusedVariables false
set_option linter.unusedSimpArgs false
theorem zero_Mail (w : World) : (zeroValue 62).run Try.prog w = .ok (.agg #[.int .i64 0, .int .i64 0]) w := by kernel_rfl
def noPartsM : Mail → List Part := fun _ => []
abbrev OwnM (w : World) (B : Nat) (A : Option Addr) (c : Nat) (l : List Mail) : Prop := Heaped Mail.cells noPartsM w B 62 2 A c l
def CmOut (l : List Mail) (B c g : Nat) (w : World) (i : Value) (wr : World) : Prop :=
  ∃ k : Nat, i = .int .i64 ((k : Int) + 1) ∧ k + 1 ≤ l.length ∧ Hid (Apts l (k + 1)) ∧ OwnM wr B (some ⟨g, 0, none⟩) c l ∧ Below B w wr
def CmIn (l : List Mail) (B c g K : Nat) (w : World) (i j : Value) (wr : World) : Prop :=
  ∃ (a m : Nat) (L : List Mail), i = .int .i64 a ∧ j = .int .i64 ((m : Int) + 1) ∧ Hid (CompIn l L a (K + m)) ∧ a < K + m + 1 ∧ K + m + 1 ≤ l.length ∧ OwnM wr B (some ⟨g, 0, none⟩) c L ∧ Below B w wr
end Go.Proofs.Ytifpngjipkmdcaa
