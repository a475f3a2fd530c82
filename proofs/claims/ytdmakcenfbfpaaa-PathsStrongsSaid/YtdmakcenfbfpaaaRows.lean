/-
  No cell of these rows narrows 'for every input' (looked for: loops, veiled, ifaces, maps, wideKeys, modest, calm, conditions, laid).
  DERIVED. THE GIVEN ROWS OF THIS SEAT. 5 by the template 'for every input the law returns true; each argument reads behind the call as it read before'; 0 by the template 'total and deterministic' (their statements: YtdmakcenfbfpaaaTotals.lean).
  GIVEN WITH THE SEED: the statements are not yours to turn. If you find one false, say at which input.
  Laid BY PROGRAM, IN A SANDBOX (cutbox-rows.mjs): the forced cells as the released guide's own fill.sh prints them over the translation e484242d191c8b98… (all of the seat's roots in one cut). By AI agents, Wed Nov 11 2026. No macro, syntax, notation, axiom, sorry.
-/
import Derived.Test.YtdmakcenfbfpaaaChecked
import GoSem.Claim
import GoSem.ClaimJoined
import GoSem.ClaimMapViews
import Derived.JoinedTies
import Derived.KernelRfl
namespace Go.Proofs.Ytdmakcenfbfpaaa
/- THE CELL 'sum', in the pinned program and in every row, IS THE sha256 OF THE DUMP (.gsa) THAT YtdmakcenfbfpaaaProg.lean LOADS. Nothing in Lean hashes anything: it is a label: what it is worth is what the hold of that sum in a sandbox is worth. -/
noncomputable def Try.pinned : Pinned := { name := "ytdmakcenfbfpaaa", sum := "e484242d191c8b98b14f9450342e73d1b877da9492e48139e0a75dec7cfa89d3", checked := Try.checked }
namespace Rows
def none {H : Type} : Left H := { results := [], args := [] }

/-- 'pacelinelaw.DiskAppends': WHATEVER THE INPUT: true; the input reads as it did. -/
def diskAppendsSpec : ChangeSpec := { name := "diskAppends", fn := fun _ => fun
  | [d1, d2, d3] => { results := [.lit (.bool true)], args := [d1, d2, d3] }
  | _ => none }
def diskAppendsRow : OpenClaim := { program := "ytdmakcenfbfpaaa", sum := "e484242d191c8b98b14f9450342e73d1b877da9492e48139e0a75dec7cfa89d3", func := "paceline/pacelinelaw.DiskAppends", spec := "diskAppends", unfollowed := true, recurses := true, apart := false }
def DiskAppendsSaid : Prop := diskAppendsRow.holds Try.pinned (OpenSpec.ofChange diskAppendsSpec)

/-- ITS FALSE NEIGHBOUR: 'it returns false'. Refute it at one input. -/
def diskAppendsWrong : ChangeSpec := { name := "diskAppends", fn := fun _ => fun
  | [d1, d2, d3] => { results := [.lit (.bool false)], args := [d1, d2, d3] }
  | _ => none }
def DiskAppendsWrongFalsely : Prop := diskAppendsRow.holds Try.pinned (OpenSpec.ofChange diskAppendsWrong)

/-- 'pacelinelaw.FrameAlls': WHATEVER THE INPUT: true; the input reads as it did. -/
def frameAllsSpec : ChangeSpec := { name := "frameAlls", fn := fun _ => fun
  | [d] => { results := [.lit (.bool true)], args := [d] }
  | _ => none }
def frameAllsRow : OpenClaim := { program := "ytdmakcenfbfpaaa", sum := "e484242d191c8b98b14f9450342e73d1b877da9492e48139e0a75dec7cfa89d3", func := "paceline/pacelinelaw.FrameAlls", spec := "frameAlls", recurses := true, apart := false }
def FrameAllsSaid : Prop := frameAllsRow.holds Try.pinned (OpenSpec.ofChange frameAllsSpec)

/-- ITS FALSE NEIGHBOUR: 'it returns false'. Refute it at one input. -/
def frameAllsWrong : ChangeSpec := { name := "frameAlls", fn := fun _ => fun
  | [d] => { results := [.lit (.bool false)], args := [d] }
  | _ => none }
def FrameAllsWrongFalsely : Prop := frameAllsRow.holds Try.pinned (OpenSpec.ofChange frameAllsWrong)

/-- 'pacelinelaw.PathsDists': WHATEVER THE INPUT: true; the input reads as it did. -/
def pathsDistsSpec : ChangeSpec := { name := "pathsDists", fn := fun _ => fun
  | [d1, d2] => { results := [.lit (.bool true)], args := [d1, d2] }
  | _ => none }
def pathsDistsRow : OpenClaim := { program := "ytdmakcenfbfpaaa", sum := "e484242d191c8b98b14f9450342e73d1b877da9492e48139e0a75dec7cfa89d3", func := "paceline/pacelinelaw.PathsDists", spec := "pathsDists", unfollowed := true, recurses := true, apart := false }
def PathsDistsSaid : Prop := pathsDistsRow.holds Try.pinned (OpenSpec.ofChange pathsDistsSpec)

/-- ITS FALSE NEIGHBOUR: 'it returns false'. Refute it at one input. -/
def pathsDistsWrong : ChangeSpec := { name := "pathsDists", fn := fun _ => fun
  | [d1, d2] => { results := [.lit (.bool false)], args := [d1, d2] }
  | _ => none }
def PathsDistsWrongFalsely : Prop := pathsDistsRow.holds Try.pinned (OpenSpec.ofChange pathsDistsWrong)

/-- 'pacelinelaw.MergeLists': WHATEVER THE INPUT: true; the input reads as it did. -/
def mergeListsSpec : ChangeSpec := { name := "mergeLists", fn := fun _ => fun
  | [d] => { results := [.lit (.bool true)], args := [d] }
  | _ => none }
def mergeListsRow : OpenClaim := { program := "ytdmakcenfbfpaaa", sum := "e484242d191c8b98b14f9450342e73d1b877da9492e48139e0a75dec7cfa89d3", func := "paceline/pacelinelaw.MergeLists", spec := "mergeLists", unfollowed := true, recurses := true, apart := false }
def MergeListsSaid : Prop := mergeListsRow.holds Try.pinned (OpenSpec.ofChange mergeListsSpec)

/-- ITS FALSE NEIGHBOUR: 'it returns false'. Refute it at one input. -/
def mergeListsWrong : ChangeSpec := { name := "mergeLists", fn := fun _ => fun
  | [d] => { results := [.lit (.bool false)], args := [d] }
  | _ => none }
def MergeListsWrongFalsely : Prop := mergeListsRow.holds Try.pinned (OpenSpec.ofChange mergeListsWrong)

/-- 'pacelinelaw.PathsStrongs': WHATEVER THE INPUT: true; the input reads as it did. -/
def pathsStrongsSpec : ChangeSpec := { name := "pathsStrongs", fn := fun _ => fun
  | [d] => { results := [.lit (.bool true)], args := [d] }
  | _ => none }
def pathsStrongsRow : OpenClaim := { program := "ytdmakcenfbfpaaa", sum := "e484242d191c8b98b14f9450342e73d1b877da9492e48139e0a75dec7cfa89d3", func := "paceline/pacelinelaw.PathsStrongs", spec := "pathsStrongs", unfollowed := true, recurses := true, apart := false }
def PathsStrongsSaid : Prop := pathsStrongsRow.holds Try.pinned (OpenSpec.ofChange pathsStrongsSpec)

/-- ITS FALSE NEIGHBOUR: 'it returns false'. Refute it at one input. -/
def pathsStrongsWrong : ChangeSpec := { name := "pathsStrongs", fn := fun _ => fun
  | [d] => { results := [.lit (.bool false)], args := [d] }
  | _ => none }
def PathsStrongsWrongFalsely : Prop := pathsStrongsRow.holds Try.pinned (OpenSpec.ofChange pathsStrongsWrong)

/- THE SECOND FORM. 'bulk': how many values and letters a reading holds, each counted each time it is reached (what is shared counts as often as it is met; a slice's spare places count too). A statement '..UptoSaid' is the law's where the arguments, and the package variables that the reading takes, are together of bulk at most 1048576: NARROWER than '..Said'. Prove '..Said' where nothing that the law and all that it calls make is longer than what came in: it says more and counts as full. Else prove '..UptoSaid'. A law counts once. -/
mutual
def uptoBulk {H : Type} : DataW H → Nat
  | .lit (.string bytes) => bytes.length + 1
  | .lit _ => 1
  | .nil => 1
  | .ptr d => uptoBulk d + 1
  | .slice elems spare => uptoBulkAll elems + uptoBulkAll spare + 1
  | .agg parts => uptoBulkAll parts + 1
  | .iface _ d => uptoBulk d + 1
  | .map entries => uptoBulkEntries entries + 1
  | .held _ => 1
def uptoBulkAll {H : Type} : List (DataW H) → Nat
  | [] => 0
  | d :: r => uptoBulk d + uptoBulkAll r
def uptoBulkEntries {H : Type} : List (Lit × DataW H) → Nat
  | [] => 0
  | x :: r => uptoBulkEntry x + uptoBulkEntries r
def uptoBulkEntry {H : Type} : Lit × DataW H → Nat
  | (.string bytes, d) => bytes.length + uptoBulk d + 1
  | (_, d) => uptoBulk d + 1
 end
def uptoSmall : (H : Type) → List (DataW H) → Bool := fun _ ds => decide (uptoBulkAll ds ≤ 1048576)
def OpenSpec.upto (s : _root_.Go.ChangeSpec) : _root_.Go.OpenSpec := { _root_.Go.OpenSpec.ofChange s with cond := some uptoSmall }

/-- 'pacelinelaw.DiskAppends', WHERE WHAT IT READS IS OF BULK AT MOST 1048576: true; the input reads as it did. -/
def diskAppendsUptoRow : OpenClaim := { program := "ytdmakcenfbfpaaa", sum := "e484242d191c8b98b14f9450342e73d1b877da9492e48139e0a75dec7cfa89d3", func := "paceline/pacelinelaw.DiskAppends", spec := "diskAppends", unfollowed := true, recurses := true, apart := false, narrowed := true }
def DiskAppendsUptoSaid : Prop := diskAppendsUptoRow.holds Try.pinned (OpenSpec.upto diskAppendsSpec)

/-- 'pacelinelaw.FrameAlls', WHERE WHAT IT READS IS OF BULK AT MOST 1048576: true; the input reads as it did. -/
def frameAllsUptoRow : OpenClaim := { program := "ytdmakcenfbfpaaa", sum := "e484242d191c8b98b14f9450342e73d1b877da9492e48139e0a75dec7cfa89d3", func := "paceline/pacelinelaw.FrameAlls", spec := "frameAlls", recurses := true, apart := false, narrowed := true }
def FrameAllsUptoSaid : Prop := frameAllsUptoRow.holds Try.pinned (OpenSpec.upto frameAllsSpec)

/-- 'pacelinelaw.PathsDists', WHERE WHAT IT READS IS OF BULK AT MOST 1048576: true; the input reads as it did. -/
def pathsDistsUptoRow : OpenClaim := { program := "ytdmakcenfbfpaaa", sum := "e484242d191c8b98b14f9450342e73d1b877da9492e48139e0a75dec7cfa89d3", func := "paceline/pacelinelaw.PathsDists", spec := "pathsDists", unfollowed := true, recurses := true, apart := false, narrowed := true }
def PathsDistsUptoSaid : Prop := pathsDistsUptoRow.holds Try.pinned (OpenSpec.upto pathsDistsSpec)

/-- 'pacelinelaw.MergeLists', WHERE WHAT IT READS IS OF BULK AT MOST 1048576: true; the input reads as it did. -/
def mergeListsUptoRow : OpenClaim := { program := "ytdmakcenfbfpaaa", sum := "e484242d191c8b98b14f9450342e73d1b877da9492e48139e0a75dec7cfa89d3", func := "paceline/pacelinelaw.MergeLists", spec := "mergeLists", unfollowed := true, recurses := true, apart := false, narrowed := true }
def MergeListsUptoSaid : Prop := mergeListsUptoRow.holds Try.pinned (OpenSpec.upto mergeListsSpec)

/-- 'pacelinelaw.PathsStrongs', WHERE WHAT IT READS IS OF BULK AT MOST 1048576: true; the input reads as it did. -/
def pathsStrongsUptoRow : OpenClaim := { program := "ytdmakcenfbfpaaa", sum := "e484242d191c8b98b14f9450342e73d1b877da9492e48139e0a75dec7cfa89d3", func := "paceline/pacelinelaw.PathsStrongs", spec := "pathsStrongs", unfollowed := true, recurses := true, apart := false, narrowed := true }
def PathsStrongsUptoSaid : Prop := pathsStrongsUptoRow.holds Try.pinned (OpenSpec.upto pathsStrongsSpec)

end Rows
end Go.Proofs.Ytdmakcenfbfpaaa
