/-
  No cell of these rows narrows 'for every input' (looked for: loops, veiled, ifaces, maps, wideKeys, modest, calm, conditions, laid).
  DERIVED. THE GIVEN ROWS OF THIS SEAT. 3 by the template 'for every input the law returns true; each argument reads behind the call as it read before'; 0 by the template 'total and deterministic' (their statements: YtiemcicgohldeaaTotals.lean).
  GIVEN WITH THE SEED: the statements are not yours to turn. If you find one false, say at which input.
  Laid BY PROGRAM, IN A SANDBOX (cutbox-rows.mjs): the forced cells as the released guide's own fill.sh prints them over the translation eec25f5e0e586e10… (all of the seat's roots in one cut). By AI agents, Wed Nov 11 2026. No macro, syntax, notation, axiom, sorry.
-/
import Derived.Test.YtiemcicgohldeaaChecked
import GoSem.Claim
import GoSem.ClaimJoined
import GoSem.ClaimMapViews
import Derived.JoinedTies
import Derived.KernelRfl
namespace Go.Proofs.Ytiemcicgohldeaa
/- THE CELL 'sum', in the pinned program and in every row, IS THE sha256 OF THE DUMP (.gsa) THAT YtiemcicgohldeaaProg.lean LOADS. Nothing in Lean hashes anything: it is a label: what it is worth is what the hold of that sum in a sandbox is worth. -/
noncomputable def Try.pinned : Pinned := { name := "ytiemcicgohldeaa", sum := "eec25f5e0e586e1082f2f8b4a9b7ae7be09555f1862ee3b2bf25db839db400b0", checked := Try.checked }
namespace Rows
def none {H : Type} : Left H := { results := [], args := [] }

/-- 'pacelinelaw.StoreOpens': WHATEVER THE INPUT: true; the input reads as it did. -/
def storeOpensSpec : ChangeSpec := { name := "storeOpens", fn := fun _ => fun
  | [d] => { results := [.lit (.bool true)], args := [d] }
  | _ => none }
def storeOpensRow : OpenClaim := { program := "ytiemcicgohldeaa", sum := "eec25f5e0e586e1082f2f8b4a9b7ae7be09555f1862ee3b2bf25db839db400b0", func := "paceline/pacelinelaw.StoreOpens", spec := "storeOpens", unfollowed := true, recurses := true, apart := false }
def StoreOpensSaid : Prop := storeOpensRow.holds Try.pinned (OpenSpec.ofChange storeOpensSpec)

/-- ITS FALSE NEIGHBOUR: 'it returns false'. Refute it at one input. -/
def storeOpensWrong : ChangeSpec := { name := "storeOpens", fn := fun _ => fun
  | [d] => { results := [.lit (.bool false)], args := [d] }
  | _ => none }
def StoreOpensWrongFalsely : Prop := storeOpensRow.holds Try.pinned (OpenSpec.ofChange storeOpensWrong)

/-- 'pacelinelaw.StoreBuilds': WHATEVER THE INPUT: true; the input reads as it did. -/
def storeBuildsSpec : ChangeSpec := { name := "storeBuilds", fn := fun _ => fun
  | [d1, d2, d3] => { results := [.lit (.bool true)], args := [d1, d2, d3] }
  | _ => none }
def storeBuildsRow : OpenClaim := { program := "ytiemcicgohldeaa", sum := "eec25f5e0e586e1082f2f8b4a9b7ae7be09555f1862ee3b2bf25db839db400b0", func := "paceline/pacelinelaw.StoreBuilds", spec := "storeBuilds", unfollowed := true, recurses := true, apart := false }
def StoreBuildsSaid : Prop := storeBuildsRow.holds Try.pinned (OpenSpec.ofChange storeBuildsSpec)

/-- ITS FALSE NEIGHBOUR: 'it returns false'. Refute it at one input. -/
def storeBuildsWrong : ChangeSpec := { name := "storeBuilds", fn := fun _ => fun
  | [d1, d2, d3] => { results := [.lit (.bool false)], args := [d1, d2, d3] }
  | _ => none }
def StoreBuildsWrongFalsely : Prop := storeBuildsRow.holds Try.pinned (OpenSpec.ofChange storeBuildsWrong)

/-- 'pacelinelaw.QueuePushes': WHATEVER THE INPUT: true; the input reads as it did. -/
def queuePushesSpec : ChangeSpec := { name := "queuePushes", fn := fun _ => fun
  | [d1, d2] => { results := [.lit (.bool true)], args := [d1, d2] }
  | _ => none }
def queuePushesRow : OpenClaim := { program := "ytiemcicgohldeaa", sum := "eec25f5e0e586e1082f2f8b4a9b7ae7be09555f1862ee3b2bf25db839db400b0", func := "paceline/pacelinelaw.QueuePushes", spec := "queuePushes", unfollowed := true, recurses := true, apart := false }
def QueuePushesSaid : Prop := queuePushesRow.holds Try.pinned (OpenSpec.ofChange queuePushesSpec)

/-- ITS FALSE NEIGHBOUR: 'it returns false'. Refute it at one input. -/
def queuePushesWrong : ChangeSpec := { name := "queuePushes", fn := fun _ => fun
  | [d1, d2] => { results := [.lit (.bool false)], args := [d1, d2] }
  | _ => none }
def QueuePushesWrongFalsely : Prop := queuePushesRow.holds Try.pinned (OpenSpec.ofChange queuePushesWrong)

/- THE SECOND FORM. 'bulk': how many values and letters a reading holds, each counted each time it is reached (what is shared counts as often as it is met; a slice's spare places count too). A statement '..UptoSaid' is the law's where the arguments, and the package variables that the reading takes, are together of bulk at most 1048576: NARROWER than '..Said'. Prove '..Said' where nothing that the law and all that it calls make is longer than what came in: it says more and counts as full. Else prove '..UptoSaid'. A law counts once. -/
mutual
def uptoBulk {H : Type} : DataW H → Nat
  | .lit (.string bytes) => bytes.length + 1
  | .lit _ => 1
  | .nil => 1
  | .ptr d => uptoBulk d + 1
  | .slice elems spare => uptoBulkAll elems + uptoBulkAll spare + 1
  | .agg parts => uptoBulkAll parts + 1
  | .iface _ d => uptoBulk d + 1
  | .map entries => uptoBulkEntries entries + 1
  | .held _ => 1
def uptoBulkAll {H : Type} : List (DataW H) → Nat
  | [] => 0
  | d :: r => uptoBulk d + uptoBulkAll r
def uptoBulkEntries {H : Type} : List (Lit × DataW H) → Nat
  | [] => 0
  | x :: r => uptoBulkEntry x + uptoBulkEntries r
def uptoBulkEntry {H : Type} : Lit × DataW H → Nat
  | (.string bytes, d) => bytes.length + uptoBulk d + 1
  | (_, d) => uptoBulk d + 1
 end
def uptoSmall : (H : Type) → List (DataW H) → Bool := fun _ ds => decide (uptoBulkAll ds ≤ 1048576)
def OpenSpec.upto (s : _root_.Go.ChangeSpec) : _root_.Go.OpenSpec := { _root_.Go.OpenSpec.ofChange s with cond := some uptoSmall }

/-- 'pacelinelaw.StoreOpens', WHERE WHAT IT READS IS OF BULK AT MOST 1048576: true; the input reads as it did. -/
def storeOpensUptoRow : OpenClaim := { program := "ytiemcicgohldeaa", sum := "eec25f5e0e586e1082f2f8b4a9b7ae7be09555f1862ee3b2bf25db839db400b0", func := "paceline/pacelinelaw.StoreOpens", spec := "storeOpens", unfollowed := true, recurses := true, apart := false, narrowed := true }
def StoreOpensUptoSaid : Prop := storeOpensUptoRow.holds Try.pinned (OpenSpec.upto storeOpensSpec)

/-- 'pacelinelaw.StoreBuilds', WHERE WHAT IT READS IS OF BULK AT MOST 1048576: true; the input reads as it did. -/
def storeBuildsUptoRow : OpenClaim := { program := "ytiemcicgohldeaa", sum := "eec25f5e0e586e1082f2f8b4a9b7ae7be09555f1862ee3b2bf25db839db400b0", func := "paceline/pacelinelaw.StoreBuilds", spec := "storeBuilds", unfollowed := true, recurses := true, apart := false, narrowed := true }
def StoreBuildsUptoSaid : Prop := storeBuildsUptoRow.holds Try.pinned (OpenSpec.upto storeBuildsSpec)

/-- 'pacelinelaw.QueuePushes', WHERE WHAT IT READS IS OF BULK AT MOST 1048576: true; the input reads as it did. -/
def queuePushesUptoRow : OpenClaim := { program := "ytiemcicgohldeaa", sum := "eec25f5e0e586e1082f2f8b4a9b7ae7be09555f1862ee3b2bf25db839db400b0", func := "paceline/pacelinelaw.QueuePushes", spec := "queuePushes", unfollowed := true, recurses := true, apart := false, narrowed := true }
def QueuePushesUptoSaid : Prop := queuePushesUptoRow.holds Try.pinned (OpenSpec.upto queuePushesSpec)

end Rows
end Go.Proofs.Ytiemcicgohldeaa
