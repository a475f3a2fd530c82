/- Hops out of bytes. Plain. -/
import Derived.Test.YtiemcicgohldeaaStoX
namespace Go.Proofs.Ytiemcicgohldeaa
set_option linter.unusedVariables false
set_option linter.unusedSimpArgs false
/-- Whether a hop may stand behind another. -/
def behindB (p : Option Hop) (h : Hop) : Bool := match p with
  | none => true
  | some q => decide (q.to < h.to) || decide (q.wt ≤ h.wt)
/-- The hops to the ends given, weights out of the bytes; and the bytes left. -/
def hopGo (n : Int) : List Int → Option Hop → List Int → Option (List Hop × List Int)
  | [], _, l => some ([], l)
  | v :: to, p, l => match smallE l 1099511627776 with
    | none => none
    | some (x, k) => if v < n ∧ behindB p ⟨v, x⟩ = true then (match hopGo n to (some ⟨v, x⟩) (l.drop k) with | none => none | some (hs, r) => some (⟨v, x⟩ :: hs, r)) else none
/-- What eye.hops reads. -/
def hopsE (n : Int) (l : List Int) : Option (List Hop × List Int) := if (ungV l).2.2 = 0 ∧ (ungV l).1.length ≤ 600 then hopGo n (ungV l).1 none (l.drop (ungV l).2.1.toNat) else none
end Go.Proofs.Ytiemcicgohldeaa
