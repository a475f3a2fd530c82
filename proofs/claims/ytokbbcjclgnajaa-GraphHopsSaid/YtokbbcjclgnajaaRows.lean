/-
  No cell of these rows narrows 'for every input' (looked for: loops, veiled, ifaces, maps, wideKeys, modest, calm, conditions, laid).
  DERIVED. THE GIVEN ROWS OF THIS SEAT. 4 by the template 'for every input the law returns true; each argument reads behind the call as it read before'; 0 by the template 'total and deterministic' (their statements: YtokbbcjclgnajaaTotals.lean).
  GIVEN WITH THE SEED: the statements are not yours to turn. If you find one false, say at which input.
  Laid BY PROGRAM, IN A SANDBOX (cutbox-rows.mjs): the forced cells as the released guide's own fill.sh prints them over the translation 5e82d9e521b7c0ba… (all of the seat's roots in one cut). By AI agents, Wed Nov 11 2026. No macro, syntax, notation, axiom, sorry.
-/
import Derived.Test.YtokbbcjclgnajaaChecked
import GoSem.Claim
import GoSem.ClaimJoined
import GoSem.ClaimMapViews
import Derived.JoinedTies
import Derived.KernelRfl
namespace Go.Proofs.Ytokbbcjclgnajaa
/- THE CELL 'sum', in the pinned program and in every row, IS THE sha256 OF THE DUMP (.gsa) THAT YtokbbcjclgnajaaProg.lean LOADS. Nothing in Lean hashes anything: it is a label: what it is worth is what the hold of that sum in a sandbox is worth. -/
noncomputable def Try.pinned : Pinned := { name := "ytokbbcjclgnajaa", sum := "5e82d9e521b7c0ba5445a98d74849ef79b0cc55f0e3619d6feef05a380503e12", checked := Try.checked }
namespace Rows
def none {H : Type} : Left H := { results := [], args := [] }

/-- 'pacelinelaw.GraphSorts': WHATEVER THE INPUT: true; the input reads as it did. -/
def graphSortsSpec : ChangeSpec := { name := "graphSorts", fn := fun _ => fun
  | [d] => { results := [.lit (.bool true)], args := [d] }
  | _ => none }
def graphSortsRow : OpenClaim := { program := "ytokbbcjclgnajaa", sum := "5e82d9e521b7c0ba5445a98d74849ef79b0cc55f0e3619d6feef05a380503e12", func := "paceline/pacelinelaw.GraphSorts", spec := "graphSorts", unfollowed := true, recurses := true, apart := false }
def GraphSortsSaid : Prop := graphSortsRow.holds Try.pinned (OpenSpec.ofChange graphSortsSpec)

/-- ITS FALSE NEIGHBOUR: 'it returns false'. Refute it at one input. -/
def graphSortsWrong : ChangeSpec := { name := "graphSorts", fn := fun _ => fun
  | [d] => { results := [.lit (.bool false)], args := [d] }
  | _ => none }
def GraphSortsWrongFalsely : Prop := graphSortsRow.holds Try.pinned (OpenSpec.ofChange graphSortsWrong)

/-- 'pacelinelaw.GraphReverses': WHATEVER THE INPUT: true; the input reads as it did. -/
def graphReversesSpec : ChangeSpec := { name := "graphReverses", fn := fun _ => fun
  | [d] => { results := [.lit (.bool true)], args := [d] }
  | _ => none }
def graphReversesRow : OpenClaim := { program := "ytokbbcjclgnajaa", sum := "5e82d9e521b7c0ba5445a98d74849ef79b0cc55f0e3619d6feef05a380503e12", func := "paceline/pacelinelaw.GraphReverses", spec := "graphReverses", unfollowed := true, recurses := true, apart := false }
def GraphReversesSaid : Prop := graphReversesRow.holds Try.pinned (OpenSpec.ofChange graphReversesSpec)

/-- ITS FALSE NEIGHBOUR: 'it returns false'. Refute it at one input. -/
def graphReversesWrong : ChangeSpec := { name := "graphReverses", fn := fun _ => fun
  | [d] => { results := [.lit (.bool false)], args := [d] }
  | _ => none }
def GraphReversesWrongFalsely : Prop := graphReversesRow.holds Try.pinned (OpenSpec.ofChange graphReversesWrong)

/-- 'pacelinelaw.GraphHops': WHATEVER THE INPUT: true; the input reads as it did. -/
def graphHopsSpec : ChangeSpec := { name := "graphHops", fn := fun _ => fun
  | [d1, d2] => { results := [.lit (.bool true)], args := [d1, d2] }
  | _ => none }
def graphHopsRow : OpenClaim := { program := "ytokbbcjclgnajaa", sum := "5e82d9e521b7c0ba5445a98d74849ef79b0cc55f0e3619d6feef05a380503e12", func := "paceline/pacelinelaw.GraphHops", spec := "graphHops", unfollowed := true, recurses := true, apart := false }
def GraphHopsSaid : Prop := graphHopsRow.holds Try.pinned (OpenSpec.ofChange graphHopsSpec)

/-- ITS FALSE NEIGHBOUR: 'it returns false'. Refute it at one input. -/
def graphHopsWrong : ChangeSpec := { name := "graphHops", fn := fun _ => fun
  | [d1, d2] => { results := [.lit (.bool false)], args := [d1, d2] }
  | _ => none }
def GraphHopsWrongFalsely : Prop := graphHopsRow.holds Try.pinned (OpenSpec.ofChange graphHopsWrong)

/-- 'pacelinelaw.PathsStrongs': WHATEVER THE INPUT: true; the input reads as it did. -/
def pathsStrongsSpec : ChangeSpec := { name := "pathsStrongs", fn := fun _ => fun
  | [d] => { results := [.lit (.bool true)], args := [d] }
  | _ => none }
def pathsStrongsRow : OpenClaim := { program := "ytokbbcjclgnajaa", sum := "5e82d9e521b7c0ba5445a98d74849ef79b0cc55f0e3619d6feef05a380503e12", func := "paceline/pacelinelaw.PathsStrongs", spec := "pathsStrongs", unfollowed := true, recurses := true, apart := false }
def PathsStrongsSaid : Prop := pathsStrongsRow.holds Try.pinned (OpenSpec.ofChange pathsStrongsSpec)

/-- ITS FALSE NEIGHBOUR: 'it returns false'. Refute it at one input. -/
def pathsStrongsWrong : ChangeSpec := { name := "pathsStrongs", fn := fun _ => fun
  | [d] => { results := [.lit (.bool false)], args := [d] }
  | _ => none }
def PathsStrongsWrongFalsely : Prop := pathsStrongsRow.holds Try.pinned (OpenSpec.ofChange pathsStrongsWrong)

/- THE SECOND FORM. 'bulk': how many values and letters a reading holds, each counted each time it is reached (what is shared counts as often as it is met; a slice's spare places count too). A statement '..UptoSaid' is the law's where the arguments, and the package variables that the reading takes, are together of bulk at most 1048576: NARROWER than '..Said'. Prove '..Said' where nothing that the law and all that it calls make is longer than what came in: it says more and counts as full. Else prove '..UptoSaid'. A law counts once. -/
mutual
def uptoBulk {H : Type} : DataW H → Nat
  | .lit (.string bytes) => bytes.length + 1
  | .lit _ => 1
  | .nil => 1
  | .ptr d => uptoBulk d + 1
  | .slice elems spare => uptoBulkAll elems + uptoBulkAll spare + 1
  | .agg parts => uptoBulkAll parts + 1
  | .iface _ d => uptoBulk d + 1
  | .map entries => uptoBulkEntries entries + 1
  | .held _ => 1
def uptoBulkAll {H : Type} : List (DataW H) → Nat
  | [] => 0
  | d :: r => uptoBulk d + uptoBulkAll r
def uptoBulkEntries {H : Type} : List (Lit × DataW H) → Nat
  | [] => 0
  | x :: r => uptoBulkEntry x + uptoBulkEntries r
def uptoBulkEntry {H : Type} : Lit × DataW H → Nat
  | (.string bytes, d) => bytes.length + uptoBulk d + 1
  | (_, d) => uptoBulk d + 1
 end
def uptoSmall : (H : Type) → List (DataW H) → Bool := fun _ ds => decide (uptoBulkAll ds ≤ 1048576)
def OpenSpec.upto (s : _root_.Go.ChangeSpec) : _root_.Go.OpenSpec := { _root_.Go.OpenSpec.ofChange s with cond := some uptoSmall }

/-- 'pacelinelaw.GraphSorts', WHERE WHAT IT READS IS OF BULK AT MOST 1048576: true; the input reads as it did. -/
def graphSortsUptoRow : OpenClaim := { program := "ytokbbcjclgnajaa", sum := "5e82d9e521b7c0ba5445a98d74849ef79b0cc55f0e3619d6feef05a380503e12", func := "paceline/pacelinelaw.GraphSorts", spec := "graphSorts", unfollowed := true, recurses := true, apart := false, narrowed := true }
def GraphSortsUptoSaid : Prop := graphSortsUptoRow.holds Try.pinned (OpenSpec.upto graphSortsSpec)

/-- 'pacelinelaw.GraphReverses', WHERE WHAT IT READS IS OF BULK AT MOST 1048576: true; the input reads as it did. -/
def graphReversesUptoRow : OpenClaim := { program := "ytokbbcjclgnajaa", sum := "5e82d9e521b7c0ba5445a98d74849ef79b0cc55f0e3619d6feef05a380503e12", func := "paceline/pacelinelaw.GraphReverses", spec := "graphReverses", unfollowed := true, recurses := true, apart := false, narrowed := true }
def GraphReversesUptoSaid : Prop := graphReversesUptoRow.holds Try.pinned (OpenSpec.upto graphReversesSpec)

/-- 'pacelinelaw.GraphHops', WHERE WHAT IT READS IS OF BULK AT MOST 1048576: true; the input reads as it did. -/
def graphHopsUptoRow : OpenClaim := { program := "ytokbbcjclgnajaa", sum := "5e82d9e521b7c0ba5445a98d74849ef79b0cc55f0e3619d6feef05a380503e12", func := "paceline/pacelinelaw.GraphHops", spec := "graphHops", unfollowed := true, recurses := true, apart := false, narrowed := true }
def GraphHopsUptoSaid : Prop := graphHopsUptoRow.holds Try.pinned (OpenSpec.upto graphHopsSpec)

/-- 'pacelinelaw.PathsStrongs', WHERE WHAT IT READS IS OF BULK AT MOST 1048576: true; the input reads as it did. -/
def pathsStrongsUptoRow : OpenClaim := { program := "ytokbbcjclgnajaa", sum := "5e82d9e521b7c0ba5445a98d74849ef79b0cc55f0e3619d6feef05a380503e12", func := "paceline/pacelinelaw.PathsStrongs", spec := "pathsStrongs", unfollowed := true, recurses := true, apart := false, narrowed := true }
def PathsStrongsUptoSaid : Prop := pathsStrongsUptoRow.holds Try.pinned (OpenSpec.upto pathsStrongsSpec)

end Rows
end Go.Proofs.Ytokbbcjclgnajaa
