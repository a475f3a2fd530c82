/-
  No cell of these rows narrows 'for every input' (looked for: loops, veiled, ifaces, maps, wideKeys, modest, calm, conditions, laid).
  DERIVED. THE GIVEN ROWS OF THIS SEAT. 3 by the template 'for every input the law returns true; each argument reads behind the call as it read before'; 0 by the template 'total and deterministic' (their statements: YteefemiieidpaaaTotals.lean).
  GIVEN WITH THE SEED: the statements are not yours to turn. If you find one false, say at which input.
  Laid BY PROGRAM, IN A SANDBOX (cutbox-rows.mjs): the forced cells as the released guide's own fill.sh prints them over the translation 052724983ba8293a… (all of the seat's roots in one cut). By AI agents, Wed Nov 11 2026. No macro, syntax, notation, axiom, sorry.
-/
import Derived.Test.YteefemiieidpaaaChecked
import GoSem.Claim
import GoSem.ClaimJoined
import GoSem.ClaimMapViews
import Derived.JoinedTies
import Derived.KernelRfl
namespace Go.Proofs.Yteefemiieidpaaa
/- THE CELL 'sum', in the pinned program and in every row, IS THE sha256 OF THE DUMP (.gsa) THAT YteefemiieidpaaaProg.lean LOADS. Nothing in Lean hashes anything: it is a label: what it is worth is what the hold of that sum in a sandbox is worth. -/
noncomputable def Try.pinned : Pinned := { name := "yteefemiieidpaaa", sum := "052724983ba8293ad26fe6b57403f7b4b7c102c2637a5364de61ba26462053eb", checked := Try.checked }
namespace Rows
def none {H : Type} : Left H := { results := [], args := [] }

/-- 'pacelinelaw.RoundsNexts': WHATEVER THE INPUT: true; the input reads as it did. -/
def roundsNextsSpec : ChangeSpec := { name := "roundsNexts", fn := fun _ => fun
  | [d1, d2] => { results := [.lit (.bool true)], args := [d1, d2] }
  | _ => none }
def roundsNextsRow : OpenClaim := { program := "yteefemiieidpaaa", sum := "052724983ba8293ad26fe6b57403f7b4b7c102c2637a5364de61ba26462053eb", func := "paceline/pacelinelaw.RoundsNexts", spec := "roundsNexts", unfollowed := true, recurses := true, apart := false }
def RoundsNextsSaid : Prop := roundsNextsRow.holds Try.pinned (OpenSpec.ofChange roundsNextsSpec)

/-- ITS FALSE NEIGHBOUR: 'it returns false'. Refute it at one input. -/
def roundsNextsWrong : ChangeSpec := { name := "roundsNexts", fn := fun _ => fun
  | [d1, d2] => { results := [.lit (.bool false)], args := [d1, d2] }
  | _ => none }
def RoundsNextsWrongFalsely : Prop := roundsNextsRow.holds Try.pinned (OpenSpec.ofChange roundsNextsWrong)

/-- 'pacelinelaw.RoundsRuns': WHATEVER THE INPUT: true; the input reads as it did. -/
def roundsRunsSpec : ChangeSpec := { name := "roundsRuns", fn := fun _ => fun
  | [d] => { results := [.lit (.bool true)], args := [d] }
  | _ => none }
def roundsRunsRow : OpenClaim := { program := "yteefemiieidpaaa", sum := "052724983ba8293ad26fe6b57403f7b4b7c102c2637a5364de61ba26462053eb", func := "paceline/pacelinelaw.RoundsRuns", spec := "roundsRuns", unfollowed := true, recurses := true, apart := false }
def RoundsRunsSaid : Prop := roundsRunsRow.holds Try.pinned (OpenSpec.ofChange roundsRunsSpec)

/-- ITS FALSE NEIGHBOUR: 'it returns false'. Refute it at one input. -/
def roundsRunsWrong : ChangeSpec := { name := "roundsRuns", fn := fun _ => fun
  | [d] => { results := [.lit (.bool false)], args := [d] }
  | _ => none }
def RoundsRunsWrongFalsely : Prop := roundsRunsRow.holds Try.pinned (OpenSpec.ofChange roundsRunsWrong)

/-- 'pacelinelaw.EngineLimits': WHATEVER THE INPUT: true; the input reads as it did. -/
def engineLimitsSpec : ChangeSpec := { name := "engineLimits", fn := fun _ => fun
  | [d] => { results := [.lit (.bool true)], args := [d] }
  | _ => none }
def engineLimitsRow : OpenClaim := { program := "yteefemiieidpaaa", sum := "052724983ba8293ad26fe6b57403f7b4b7c102c2637a5364de61ba26462053eb", func := "paceline/pacelinelaw.EngineLimits", spec := "engineLimits", unfollowed := true, recurses := true, apart := false }
def EngineLimitsSaid : Prop := engineLimitsRow.holds Try.pinned (OpenSpec.ofChange engineLimitsSpec)

/-- ITS FALSE NEIGHBOUR: 'it returns false'. Refute it at one input. -/
def engineLimitsWrong : ChangeSpec := { name := "engineLimits", fn := fun _ => fun
  | [d] => { results := [.lit (.bool false)], args := [d] }
  | _ => none }
def EngineLimitsWrongFalsely : Prop := engineLimitsRow.holds Try.pinned (OpenSpec.ofChange engineLimitsWrong)

/- THE SECOND FORM. 'bulk': how many values and letters a reading holds, each counted each time it is reached (what is shared counts as often as it is met; a slice's spare places count too). A statement '..UptoSaid' is the law's where the arguments, and the package variables that the reading takes, are together of bulk at most 1048576: NARROWER than '..Said'. Prove '..Said' where nothing that the law and all that it calls make is longer than what came in: it says more and counts as full. Else prove '..UptoSaid'. A law counts once. -/
mutual
def uptoBulk {H : Type} : DataW H → Nat
  | .lit (.string bytes) => bytes.length + 1
  | .lit _ => 1
  | .nil => 1
  | .ptr d => uptoBulk d + 1
  | .slice elems spare => uptoBulkAll elems + uptoBulkAll spare + 1
  | .agg parts => uptoBulkAll parts + 1
  | .iface _ d => uptoBulk d + 1
  | .map entries => uptoBulkEntries entries + 1
  | .held _ => 1
def uptoBulkAll {H : Type} : List (DataW H) → Nat
  | [] => 0
  | d :: r => uptoBulk d + uptoBulkAll r
def uptoBulkEntries {H : Type} : List (Lit × DataW H) → Nat
  | [] => 0
  | x :: r => uptoBulkEntry x + uptoBulkEntries r
def uptoBulkEntry {H : Type} : Lit × DataW H → Nat
  | (.string bytes, d) => bytes.length + uptoBulk d + 1
  | (_, d) => uptoBulk d + 1
 end
def uptoSmall : (H : Type) → List (DataW H) → Bool := fun _ ds => decide (uptoBulkAll ds ≤ 1048576)
def OpenSpec.upto (s : _root_.Go.ChangeSpec) : _root_.Go.OpenSpec := { _root_.Go.OpenSpec.ofChange s with cond := some uptoSmall }

/-- 'pacelinelaw.RoundsNexts', WHERE WHAT IT READS IS OF BULK AT MOST 1048576: true; the input reads as it did. -/
def roundsNextsUptoRow : OpenClaim := { program := "yteefemiieidpaaa", sum := "052724983ba8293ad26fe6b57403f7b4b7c102c2637a5364de61ba26462053eb", func := "paceline/pacelinelaw.RoundsNexts", spec := "roundsNexts", unfollowed := true, recurses := true, apart := false, narrowed := true }
def RoundsNextsUptoSaid : Prop := roundsNextsUptoRow.holds Try.pinned (OpenSpec.upto roundsNextsSpec)

/-- 'pacelinelaw.RoundsRuns', WHERE WHAT IT READS IS OF BULK AT MOST 1048576: true; the input reads as it did. -/
def roundsRunsUptoRow : OpenClaim := { program := "yteefemiieidpaaa", sum := "052724983ba8293ad26fe6b57403f7b4b7c102c2637a5364de61ba26462053eb", func := "paceline/pacelinelaw.RoundsRuns", spec := "roundsRuns", unfollowed := true, recurses := true, apart := false, narrowed := true }
def RoundsRunsUptoSaid : Prop := roundsRunsUptoRow.holds Try.pinned (OpenSpec.upto roundsRunsSpec)

/-- 'pacelinelaw.EngineLimits', WHERE WHAT IT READS IS OF BULK AT MOST 1048576: true; the input reads as it did. -/
def engineLimitsUptoRow : OpenClaim := { program := "yteefemiieidpaaa", sum := "052724983ba8293ad26fe6b57403f7b4b7c102c2637a5364de61ba26462053eb", func := "paceline/pacelinelaw.EngineLimits", spec := "engineLimits", unfollowed := true, recurses := true, apart := false, narrowed := true }
def EngineLimitsUptoSaid : Prop := engineLimitsUptoRow.holds Try.pinned (OpenSpec.upto engineLimitsSpec)

end Rows
end Go.Proofs.Yteefemiieidpaaa
