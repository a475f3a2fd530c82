/-
  No cell of these rows narrows 'for every input' (looked for: loops, veiled, ifaces, maps, wideKeys, modest, calm, conditions, laid).
  DERIVED. THE GIVEN ROWS OF THIS SEAT. 22 by the template 'for every input the law returns true; each argument reads behind the call as it read before'; 0 by the template 'total and deterministic' (their statements: YtafnbackjjaelaaTotals.lean).
  GIVEN WITH THE SEED: the statements are not yours to turn. If you find one false, say at which input.
  Laid BY PROGRAM, IN A SANDBOX (cutbox-rows.mjs): the forced cells as the released guide's own fill.sh prints them over the translation 04be1e0843d2789c… (all of the seat's roots in one cut). By AI agents, Wed Nov 11 2026. No macro, syntax, notation, axiom, sorry.
-/
import Derived.Test.YtafnbackjjaelaaChecked
import GoSem.Claim
import GoSem.ClaimJoined
import GoSem.ClaimMapViews
import Derived.JoinedTies
import Derived.KernelRfl
namespace Go.Proofs.Ytafnbackjjaelaa
/- THE CELL 'sum', in the pinned program and in every row, IS THE sha256 OF THE DUMP (.gsa) THAT YtafnbackjjaelaaProg.lean LOADS. Nothing in Lean hashes anything: it is a label: what it is worth is what the hold of that sum in a sandbox is worth. -/
noncomputable def Try.pinned : Pinned := { name := "ytafnbackjjaelaa", sum := "04be1e0843d2789c8e9e322189fa70925d0197a03ee6bb9042d74030b8fa2bad", checked := Try.checked }
namespace Rows
def none {H : Type} : Left H := { results := [], args := [] }

/-- 'pacelinelaw.EngineChecks': WHATEVER THE INPUT: true; the input reads as it did. -/
def engineChecksSpec : ChangeSpec := { name := "engineChecks", fn := fun _ => fun
  | [d] => { results := [.lit (.bool true)], args := [d] }
  | _ => none }
def engineChecksRow : OpenClaim := { program := "ytafnbackjjaelaa", sum := "04be1e0843d2789c8e9e322189fa70925d0197a03ee6bb9042d74030b8fa2bad", func := "paceline/pacelinelaw.EngineChecks", spec := "engineChecks", unfollowed := true, recurses := true, apart := false }
def EngineChecksSaid : Prop := engineChecksRow.holds Try.pinned (OpenSpec.ofChange engineChecksSpec)

/-- ITS FALSE NEIGHBOUR: 'it returns false'. Refute it at one input. -/
def engineChecksWrong : ChangeSpec := { name := "engineChecks", fn := fun _ => fun
  | [d] => { results := [.lit (.bool false)], args := [d] }
  | _ => none }
def EngineChecksWrongFalsely : Prop := engineChecksRow.holds Try.pinned (OpenSpec.ofChange engineChecksWrong)

/-- 'pacelinelaw.PathsWeaks': WHATEVER THE INPUT: true; the input reads as it did. -/
def pathsWeaksSpec : ChangeSpec := { name := "pathsWeaks", fn := fun _ => fun
  | [d] => { results := [.lit (.bool true)], args := [d] }
  | _ => none }
def pathsWeaksRow : OpenClaim := { program := "ytafnbackjjaelaa", sum := "04be1e0843d2789c8e9e322189fa70925d0197a03ee6bb9042d74030b8fa2bad", func := "paceline/pacelinelaw.PathsWeaks", spec := "pathsWeaks", unfollowed := true, recurses := true, apart := false }
def PathsWeaksSaid : Prop := pathsWeaksRow.holds Try.pinned (OpenSpec.ofChange pathsWeaksSpec)

/-- ITS FALSE NEIGHBOUR: 'it returns false'. Refute it at one input. -/
def pathsWeaksWrong : ChangeSpec := { name := "pathsWeaks", fn := fun _ => fun
  | [d] => { results := [.lit (.bool false)], args := [d] }
  | _ => none }
def PathsWeaksWrongFalsely : Prop := pathsWeaksRow.holds Try.pinned (OpenSpec.ofChange pathsWeaksWrong)

/-- 'pacelinelaw.RoundsBegins': WHATEVER THE INPUT: true; the input reads as it did. -/
def roundsBeginsSpec : ChangeSpec := { name := "roundsBegins", fn := fun _ => fun
  | [d] => { results := [.lit (.bool true)], args := [d] }
  | _ => none }
def roundsBeginsRow : OpenClaim := { program := "ytafnbackjjaelaa", sum := "04be1e0843d2789c8e9e322189fa70925d0197a03ee6bb9042d74030b8fa2bad", func := "paceline/pacelinelaw.RoundsBegins", spec := "roundsBegins", unfollowed := true, recurses := true, apart := false }
def RoundsBeginsSaid : Prop := roundsBeginsRow.holds Try.pinned (OpenSpec.ofChange roundsBeginsSpec)

/-- ITS FALSE NEIGHBOUR: 'it returns false'. Refute it at one input. -/
def roundsBeginsWrong : ChangeSpec := { name := "roundsBegins", fn := fun _ => fun
  | [d] => { results := [.lit (.bool false)], args := [d] }
  | _ => none }
def RoundsBeginsWrongFalsely : Prop := roundsBeginsRow.holds Try.pinned (OpenSpec.ofChange roundsBeginsWrong)

/-- 'pacelinelaw.FrameWraps': WHATEVER THE INPUT: true; the input reads as it did. -/
def frameWrapsSpec : ChangeSpec := { name := "frameWraps", fn := fun _ => fun
  | [d] => { results := [.lit (.bool true)], args := [d] }
  | _ => none }
def frameWrapsRow : OpenClaim := { program := "ytafnbackjjaelaa", sum := "04be1e0843d2789c8e9e322189fa70925d0197a03ee6bb9042d74030b8fa2bad", func := "paceline/pacelinelaw.FrameWraps", spec := "frameWraps", recurses := true, apart := false }
def FrameWrapsSaid : Prop := frameWrapsRow.holds Try.pinned (OpenSpec.ofChange frameWrapsSpec)

/-- ITS FALSE NEIGHBOUR: 'it returns false'. Refute it at one input. -/
def frameWrapsWrong : ChangeSpec := { name := "frameWraps", fn := fun _ => fun
  | [d] => { results := [.lit (.bool false)], args := [d] }
  | _ => none }
def FrameWrapsWrongFalsely : Prop := frameWrapsRow.holds Try.pinned (OpenSpec.ofChange frameWrapsWrong)

/-- 'pacelinelaw.PathsReaches': WHATEVER THE INPUT: true; the input reads as it did. -/
def pathsReachesSpec : ChangeSpec := { name := "pathsReaches", fn := fun _ => fun
  | [d1, d2] => { results := [.lit (.bool true)], args := [d1, d2] }
  | _ => none }
def pathsReachesRow : OpenClaim := { program := "ytafnbackjjaelaa", sum := "04be1e0843d2789c8e9e322189fa70925d0197a03ee6bb9042d74030b8fa2bad", func := "paceline/pacelinelaw.PathsReaches", spec := "pathsReaches", unfollowed := true, recurses := true, apart := false }
def PathsReachesSaid : Prop := pathsReachesRow.holds Try.pinned (OpenSpec.ofChange pathsReachesSpec)

/-- ITS FALSE NEIGHBOUR: 'it returns false'. Refute it at one input. -/
def pathsReachesWrong : ChangeSpec := { name := "pathsReaches", fn := fun _ => fun
  | [d1, d2] => { results := [.lit (.bool false)], args := [d1, d2] }
  | _ => none }
def PathsReachesWrongFalsely : Prop := pathsReachesRow.holds Try.pinned (OpenSpec.ofChange pathsReachesWrong)

/-- 'pacelinelaw.VarintUngaps': WHATEVER THE INPUT: true; the input reads as it did. -/
def varintUngapsSpec : ChangeSpec := { name := "varintUngaps", fn := fun _ => fun
  | [d] => { results := [.lit (.bool true)], args := [d] }
  | _ => none }
def varintUngapsRow : OpenClaim := { program := "ytafnbackjjaelaa", sum := "04be1e0843d2789c8e9e322189fa70925d0197a03ee6bb9042d74030b8fa2bad", func := "paceline/pacelinelaw.VarintUngaps", spec := "varintUngaps", apart := false }
def VarintUngapsSaid : Prop := varintUngapsRow.holds Try.pinned (OpenSpec.ofChange varintUngapsSpec)

/-- ITS FALSE NEIGHBOUR: 'it returns false'. Refute it at one input. -/
def varintUngapsWrong : ChangeSpec := { name := "varintUngaps", fn := fun _ => fun
  | [d] => { results := [.lit (.bool false)], args := [d] }
  | _ => none }
def VarintUngapsWrongFalsely : Prop := varintUngapsRow.holds Try.pinned (OpenSpec.ofChange varintUngapsWrong)

/-- 'pacelinelaw.DiskCrashes': WHATEVER THE INPUT: true; the input reads as it did. -/
def diskCrashesSpec : ChangeSpec := { name := "diskCrashes", fn := fun _ => fun
  | [d1, d2] => { results := [.lit (.bool true)], args := [d1, d2] }
  | _ => none }
def diskCrashesRow : OpenClaim := { program := "ytafnbackjjaelaa", sum := "04be1e0843d2789c8e9e322189fa70925d0197a03ee6bb9042d74030b8fa2bad", func := "paceline/pacelinelaw.DiskCrashes", spec := "diskCrashes", apart := false }
def DiskCrashesSaid : Prop := diskCrashesRow.holds Try.pinned (OpenSpec.ofChange diskCrashesSpec)

/-- ITS FALSE NEIGHBOUR: 'it returns false'. Refute it at one input. -/
def diskCrashesWrong : ChangeSpec := { name := "diskCrashes", fn := fun _ => fun
  | [d1, d2] => { results := [.lit (.bool false)], args := [d1, d2] }
  | _ => none }
def DiskCrashesWrongFalsely : Prop := diskCrashesRow.holds Try.pinned (OpenSpec.ofChange diskCrashesWrong)

/-- 'pacelinelaw.BoardReadies': WHATEVER THE INPUT: true; the input reads as it did. -/
def boardReadiesSpec : ChangeSpec := { name := "boardReadies", fn := fun _ => fun
  | [d] => { results := [.lit (.bool true)], args := [d] }
  | _ => none }
def boardReadiesRow : OpenClaim := { program := "ytafnbackjjaelaa", sum := "04be1e0843d2789c8e9e322189fa70925d0197a03ee6bb9042d74030b8fa2bad", func := "paceline/pacelinelaw.BoardReadies", spec := "boardReadies", apart := false }
def BoardReadiesSaid : Prop := boardReadiesRow.holds Try.pinned (OpenSpec.ofChange boardReadiesSpec)

/-- ITS FALSE NEIGHBOUR: 'it returns false'. Refute it at one input. -/
def boardReadiesWrong : ChangeSpec := { name := "boardReadies", fn := fun _ => fun
  | [d] => { results := [.lit (.bool false)], args := [d] }
  | _ => none }
def BoardReadiesWrongFalsely : Prop := boardReadiesRow.holds Try.pinned (OpenSpec.ofChange boardReadiesWrong)

/-- 'pacelinelaw.DiskReads': WHATEVER THE INPUT: true; the input reads as it did. -/
def diskReadsSpec : ChangeSpec := { name := "diskReads", fn := fun _ => fun
  | [d1, d2] => { results := [.lit (.bool true)], args := [d1, d2] }
  | _ => none }
def diskReadsRow : OpenClaim := { program := "ytafnbackjjaelaa", sum := "04be1e0843d2789c8e9e322189fa70925d0197a03ee6bb9042d74030b8fa2bad", func := "paceline/pacelinelaw.DiskReads", spec := "diskReads", unfollowed := true, recurses := true, apart := false }
def DiskReadsSaid : Prop := diskReadsRow.holds Try.pinned (OpenSpec.ofChange diskReadsSpec)

/-- ITS FALSE NEIGHBOUR: 'it returns false'. Refute it at one input. -/
def diskReadsWrong : ChangeSpec := { name := "diskReads", fn := fun _ => fun
  | [d1, d2] => { results := [.lit (.bool false)], args := [d1, d2] }
  | _ => none }
def DiskReadsWrongFalsely : Prop := diskReadsRow.holds Try.pinned (OpenSpec.ofChange diskReadsWrong)

/-- 'pacelinelaw.FrameUnwraps': WHATEVER THE INPUT: true; the input reads as it did. -/
def frameUnwrapsSpec : ChangeSpec := { name := "frameUnwraps", fn := fun _ => fun
  | [d] => { results := [.lit (.bool true)], args := [d] }
  | _ => none }
def frameUnwrapsRow : OpenClaim := { program := "ytafnbackjjaelaa", sum := "04be1e0843d2789c8e9e322189fa70925d0197a03ee6bb9042d74030b8fa2bad", func := "paceline/pacelinelaw.FrameUnwraps", spec := "frameUnwraps", recurses := true, apart := false }
def FrameUnwrapsSaid : Prop := frameUnwrapsRow.holds Try.pinned (OpenSpec.ofChange frameUnwrapsSpec)

/-- ITS FALSE NEIGHBOUR: 'it returns false'. Refute it at one input. -/
def frameUnwrapsWrong : ChangeSpec := { name := "frameUnwraps", fn := fun _ => fun
  | [d] => { results := [.lit (.bool false)], args := [d] }
  | _ => none }
def FrameUnwrapsWrongFalsely : Prop := frameUnwrapsRow.holds Try.pinned (OpenSpec.ofChange frameUnwrapsWrong)

/-- 'pacelinelaw.DiskSyncs': WHATEVER THE INPUT: true; the input reads as it did. -/
def diskSyncsSpec : ChangeSpec := { name := "diskSyncs", fn := fun _ => fun
  | [d1, d2] => { results := [.lit (.bool true)], args := [d1, d2] }
  | _ => none }
def diskSyncsRow : OpenClaim := { program := "ytafnbackjjaelaa", sum := "04be1e0843d2789c8e9e322189fa70925d0197a03ee6bb9042d74030b8fa2bad", func := "paceline/pacelinelaw.DiskSyncs", spec := "diskSyncs", unfollowed := true, recurses := true, apart := false }
def DiskSyncsSaid : Prop := diskSyncsRow.holds Try.pinned (OpenSpec.ofChange diskSyncsSpec)

/-- ITS FALSE NEIGHBOUR: 'it returns false'. Refute it at one input. -/
def diskSyncsWrong : ChangeSpec := { name := "diskSyncs", fn := fun _ => fun
  | [d1, d2] => { results := [.lit (.bool false)], args := [d1, d2] }
  | _ => none }
def DiskSyncsWrongFalsely : Prop := diskSyncsRow.holds Try.pinned (OpenSpec.ofChange diskSyncsWrong)

/-- 'pacelinelaw.BoardHears': WHATEVER THE INPUT: true; the input reads as it did. -/
def boardHearsSpec : ChangeSpec := { name := "boardHears", fn := fun _ => fun
  | [d1, d2] => { results := [.lit (.bool true)], args := [d1, d2] }
  | _ => none }
def boardHearsRow : OpenClaim := { program := "ytafnbackjjaelaa", sum := "04be1e0843d2789c8e9e322189fa70925d0197a03ee6bb9042d74030b8fa2bad", func := "paceline/pacelinelaw.BoardHears", spec := "boardHears", apart := false }
def BoardHearsSaid : Prop := boardHearsRow.holds Try.pinned (OpenSpec.ofChange boardHearsSpec)

/-- ITS FALSE NEIGHBOUR: 'it returns false'. Refute it at one input. -/
def boardHearsWrong : ChangeSpec := { name := "boardHears", fn := fun _ => fun
  | [d1, d2] => { results := [.lit (.bool false)], args := [d1, d2] }
  | _ => none }
def BoardHearsWrongFalsely : Prop := boardHearsRow.holds Try.pinned (OpenSpec.ofChange boardHearsWrong)

/-- 'pacelinelaw.DiskAppends': WHATEVER THE INPUT: true; the input reads as it did. -/
def diskAppendsSpec : ChangeSpec := { name := "diskAppends", fn := fun _ => fun
  | [d1, d2, d3] => { results := [.lit (.bool true)], args := [d1, d2, d3] }
  | _ => none }
def diskAppendsRow : OpenClaim := { program := "ytafnbackjjaelaa", sum := "04be1e0843d2789c8e9e322189fa70925d0197a03ee6bb9042d74030b8fa2bad", func := "paceline/pacelinelaw.DiskAppends", spec := "diskAppends", unfollowed := true, recurses := true, apart := false }
def DiskAppendsSaid : Prop := diskAppendsRow.holds Try.pinned (OpenSpec.ofChange diskAppendsSpec)

/-- ITS FALSE NEIGHBOUR: 'it returns false'. Refute it at one input. -/
def diskAppendsWrong : ChangeSpec := { name := "diskAppends", fn := fun _ => fun
  | [d1, d2, d3] => { results := [.lit (.bool false)], args := [d1, d2, d3] }
  | _ => none }
def DiskAppendsWrongFalsely : Prop := diskAppendsRow.holds Try.pinned (OpenSpec.ofChange diskAppendsWrong)

/-- 'pacelinelaw.FrameAlls': WHATEVER THE INPUT: true; the input reads as it did. -/
def frameAllsSpec : ChangeSpec := { name := "frameAlls", fn := fun _ => fun
  | [d] => { results := [.lit (.bool true)], args := [d] }
  | _ => none }
def frameAllsRow : OpenClaim := { program := "ytafnbackjjaelaa", sum := "04be1e0843d2789c8e9e322189fa70925d0197a03ee6bb9042d74030b8fa2bad", func := "paceline/pacelinelaw.FrameAlls", spec := "frameAlls", recurses := true, apart := false }
def FrameAllsSaid : Prop := frameAllsRow.holds Try.pinned (OpenSpec.ofChange frameAllsSpec)

/-- ITS FALSE NEIGHBOUR: 'it returns false'. Refute it at one input. -/
def frameAllsWrong : ChangeSpec := { name := "frameAlls", fn := fun _ => fun
  | [d] => { results := [.lit (.bool false)], args := [d] }
  | _ => none }
def FrameAllsWrongFalsely : Prop := frameAllsRow.holds Try.pinned (OpenSpec.ofChange frameAllsWrong)

/-- 'pacelinelaw.DiskRemoves': WHATEVER THE INPUT: true; the input reads as it did. -/
def diskRemovesSpec : ChangeSpec := { name := "diskRemoves", fn := fun _ => fun
  | [d1, d2] => { results := [.lit (.bool true)], args := [d1, d2] }
  | _ => none }
def diskRemovesRow : OpenClaim := { program := "ytafnbackjjaelaa", sum := "04be1e0843d2789c8e9e322189fa70925d0197a03ee6bb9042d74030b8fa2bad", func := "paceline/pacelinelaw.DiskRemoves", spec := "diskRemoves", unfollowed := true, recurses := true, apart := false }
def DiskRemovesSaid : Prop := diskRemovesRow.holds Try.pinned (OpenSpec.ofChange diskRemovesSpec)

/-- ITS FALSE NEIGHBOUR: 'it returns false'. Refute it at one input. -/
def diskRemovesWrong : ChangeSpec := { name := "diskRemoves", fn := fun _ => fun
  | [d1, d2] => { results := [.lit (.bool false)], args := [d1, d2] }
  | _ => none }
def DiskRemovesWrongFalsely : Prop := diskRemovesRow.holds Try.pinned (OpenSpec.ofChange diskRemovesWrong)

/-- 'pacelinelaw.MergeLeasts': WHATEVER THE INPUT: true; the input reads as it did. -/
def mergeLeastsSpec : ChangeSpec := { name := "mergeLeasts", fn := fun _ => fun
  | [d] => { results := [.lit (.bool true)], args := [d] }
  | _ => none }
def mergeLeastsRow : OpenClaim := { program := "ytafnbackjjaelaa", sum := "04be1e0843d2789c8e9e322189fa70925d0197a03ee6bb9042d74030b8fa2bad", func := "paceline/pacelinelaw.MergeLeasts", spec := "mergeLeasts", unfollowed := true, recurses := true, apart := false }
def MergeLeastsSaid : Prop := mergeLeastsRow.holds Try.pinned (OpenSpec.ofChange mergeLeastsSpec)

/-- ITS FALSE NEIGHBOUR: 'it returns false'. Refute it at one input. -/
def mergeLeastsWrong : ChangeSpec := { name := "mergeLeasts", fn := fun _ => fun
  | [d] => { results := [.lit (.bool false)], args := [d] }
  | _ => none }
def MergeLeastsWrongFalsely : Prop := mergeLeastsRow.holds Try.pinned (OpenSpec.ofChange mergeLeastsWrong)

/-- 'pacelinelaw.DiskRenames': WHATEVER THE INPUT: true; the input reads as it did. -/
def diskRenamesSpec : ChangeSpec := { name := "diskRenames", fn := fun _ => fun
  | [d1, d2, d3] => { results := [.lit (.bool true)], args := [d1, d2, d3] }
  | _ => none }
def diskRenamesRow : OpenClaim := { program := "ytafnbackjjaelaa", sum := "04be1e0843d2789c8e9e322189fa70925d0197a03ee6bb9042d74030b8fa2bad", func := "paceline/pacelinelaw.DiskRenames", spec := "diskRenames", unfollowed := true, recurses := true, apart := false }
def DiskRenamesSaid : Prop := diskRenamesRow.holds Try.pinned (OpenSpec.ofChange diskRenamesSpec)

/-- ITS FALSE NEIGHBOUR: 'it returns false'. Refute it at one input. -/
def diskRenamesWrong : ChangeSpec := { name := "diskRenames", fn := fun _ => fun
  | [d1, d2, d3] => { results := [.lit (.bool false)], args := [d1, d2, d3] }
  | _ => none }
def DiskRenamesWrongFalsely : Prop := diskRenamesRow.holds Try.pinned (OpenSpec.ofChange diskRenamesWrong)

/-- 'pacelinelaw.RoundsAnswers': WHATEVER THE INPUT: true; the input reads as it did. -/
def roundsAnswersSpec : ChangeSpec := { name := "roundsAnswers", fn := fun _ => fun
  | [d1, d2] => { results := [.lit (.bool true)], args := [d1, d2] }
  | _ => none }
def roundsAnswersRow : OpenClaim := { program := "ytafnbackjjaelaa", sum := "04be1e0843d2789c8e9e322189fa70925d0197a03ee6bb9042d74030b8fa2bad", func := "paceline/pacelinelaw.RoundsAnswers", spec := "roundsAnswers", unfollowed := true, recurses := true, apart := false }
def RoundsAnswersSaid : Prop := roundsAnswersRow.holds Try.pinned (OpenSpec.ofChange roundsAnswersSpec)

/-- ITS FALSE NEIGHBOUR: 'it returns false'. Refute it at one input. -/
def roundsAnswersWrong : ChangeSpec := { name := "roundsAnswers", fn := fun _ => fun
  | [d1, d2] => { results := [.lit (.bool false)], args := [d1, d2] }
  | _ => none }
def RoundsAnswersWrongFalsely : Prop := roundsAnswersRow.holds Try.pinned (OpenSpec.ofChange roundsAnswersWrong)

/-- 'pacelinelaw.PathsDists': WHATEVER THE INPUT: true; the input reads as it did. -/
def pathsDistsSpec : ChangeSpec := { name := "pathsDists", fn := fun _ => fun
  | [d1, d2] => { results := [.lit (.bool true)], args := [d1, d2] }
  | _ => none }
def pathsDistsRow : OpenClaim := { program := "ytafnbackjjaelaa", sum := "04be1e0843d2789c8e9e322189fa70925d0197a03ee6bb9042d74030b8fa2bad", func := "paceline/pacelinelaw.PathsDists", spec := "pathsDists", unfollowed := true, recurses := true, apart := false }
def PathsDistsSaid : Prop := pathsDistsRow.holds Try.pinned (OpenSpec.ofChange pathsDistsSpec)

/-- ITS FALSE NEIGHBOUR: 'it returns false'. Refute it at one input. -/
def pathsDistsWrong : ChangeSpec := { name := "pathsDists", fn := fun _ => fun
  | [d1, d2] => { results := [.lit (.bool false)], args := [d1, d2] }
  | _ => none }
def PathsDistsWrongFalsely : Prop := pathsDistsRow.holds Try.pinned (OpenSpec.ofChange pathsDistsWrong)

/-- 'pacelinelaw.MergeLists': WHATEVER THE INPUT: true; the input reads as it did. -/
def mergeListsSpec : ChangeSpec := { name := "mergeLists", fn := fun _ => fun
  | [d] => { results := [.lit (.bool true)], args := [d] }
  | _ => none }
def mergeListsRow : OpenClaim := { program := "ytafnbackjjaelaa", sum := "04be1e0843d2789c8e9e322189fa70925d0197a03ee6bb9042d74030b8fa2bad", func := "paceline/pacelinelaw.MergeLists", spec := "mergeLists", unfollowed := true, recurses := true, apart := false }
def MergeListsSaid : Prop := mergeListsRow.holds Try.pinned (OpenSpec.ofChange mergeListsSpec)

/-- ITS FALSE NEIGHBOUR: 'it returns false'. Refute it at one input. -/
def mergeListsWrong : ChangeSpec := { name := "mergeLists", fn := fun _ => fun
  | [d] => { results := [.lit (.bool false)], args := [d] }
  | _ => none }
def MergeListsWrongFalsely : Prop := mergeListsRow.holds Try.pinned (OpenSpec.ofChange mergeListsWrong)

/-- 'pacelinelaw.StoreOpens': WHATEVER THE INPUT: true; the input reads as it did. -/
def storeOpensSpec : ChangeSpec := { name := "storeOpens", fn := fun _ => fun
  | [d] => { results := [.lit (.bool true)], args := [d] }
  | _ => none }
def storeOpensRow : OpenClaim := { program := "ytafnbackjjaelaa", sum := "04be1e0843d2789c8e9e322189fa70925d0197a03ee6bb9042d74030b8fa2bad", func := "paceline/pacelinelaw.StoreOpens", spec := "storeOpens", unfollowed := true, recurses := true, apart := false }
def StoreOpensSaid : Prop := storeOpensRow.holds Try.pinned (OpenSpec.ofChange storeOpensSpec)

/-- ITS FALSE NEIGHBOUR: 'it returns false'. Refute it at one input. -/
def storeOpensWrong : ChangeSpec := { name := "storeOpens", fn := fun _ => fun
  | [d] => { results := [.lit (.bool false)], args := [d] }
  | _ => none }
def StoreOpensWrongFalsely : Prop := storeOpensRow.holds Try.pinned (OpenSpec.ofChange storeOpensWrong)

/-- 'pacelinelaw.MergeSorts': WHATEVER THE INPUT: true; the input reads as it did. -/
def mergeSortsSpec : ChangeSpec := { name := "mergeSorts", fn := fun _ => fun
  | [d] => { results := [.lit (.bool true)], args := [d] }
  | _ => none }
def mergeSortsRow : OpenClaim := { program := "ytafnbackjjaelaa", sum := "04be1e0843d2789c8e9e322189fa70925d0197a03ee6bb9042d74030b8fa2bad", func := "paceline/pacelinelaw.MergeSorts", spec := "mergeSorts", unfollowed := true, recurses := true, apart := false }
def MergeSortsSaid : Prop := mergeSortsRow.holds Try.pinned (OpenSpec.ofChange mergeSortsSpec)

/-- ITS FALSE NEIGHBOUR: 'it returns false'. Refute it at one input. -/
def mergeSortsWrong : ChangeSpec := { name := "mergeSorts", fn := fun _ => fun
  | [d] => { results := [.lit (.bool false)], args := [d] }
  | _ => none }
def MergeSortsWrongFalsely : Prop := mergeSortsRow.holds Try.pinned (OpenSpec.ofChange mergeSortsWrong)

/- THE SECOND FORM. 'bulk': how many values and letters a reading holds, each counted each time it is reached (what is shared counts as often as it is met; a slice's spare places count too). A statement '..UptoSaid' is the law's where the arguments, and the package variables that the reading takes, are together of bulk at most 1048576: NARROWER than '..Said'. Prove '..Said' where nothing that the law and all that it calls make is longer than what came in: it says more and counts as full. Else prove '..UptoSaid'. A law counts once. -/
mutual
def uptoBulk {H : Type} : DataW H → Nat
  | .lit (.string bytes) => bytes.length + 1
  | .lit _ => 1
  | .nil => 1
  | .ptr d => uptoBulk d + 1
  | .slice elems spare => uptoBulkAll elems + uptoBulkAll spare + 1
  | .agg parts => uptoBulkAll parts + 1
  | .iface _ d => uptoBulk d + 1
  | .map entries => uptoBulkEntries entries + 1
  | .held _ => 1
def uptoBulkAll {H : Type} : List (DataW H) → Nat
  | [] => 0
  | d :: r => uptoBulk d + uptoBulkAll r
def uptoBulkEntries {H : Type} : List (Lit × DataW H) → Nat
  | [] => 0
  | x :: r => uptoBulkEntry x + uptoBulkEntries r
def uptoBulkEntry {H : Type} : Lit × DataW H → Nat
  | (.string bytes, d) => bytes.length + uptoBulk d + 1
  | (_, d) => uptoBulk d + 1
 end
def uptoSmall : (H : Type) → List (DataW H) → Bool := fun _ ds => decide (uptoBulkAll ds ≤ 1048576)
def OpenSpec.upto (s : _root_.Go.ChangeSpec) : _root_.Go.OpenSpec := { _root_.Go.OpenSpec.ofChange s with cond := some uptoSmall }

/-- 'pacelinelaw.EngineChecks', WHERE WHAT IT READS IS OF BULK AT MOST 1048576: true; the input reads as it did. -/
def engineChecksUptoRow : OpenClaim := { program := "ytafnbackjjaelaa", sum := "04be1e0843d2789c8e9e322189fa70925d0197a03ee6bb9042d74030b8fa2bad", func := "paceline/pacelinelaw.EngineChecks", spec := "engineChecks", unfollowed := true, recurses := true, apart := false, narrowed := true }
def EngineChecksUptoSaid : Prop := engineChecksUptoRow.holds Try.pinned (OpenSpec.upto engineChecksSpec)

/-- 'pacelinelaw.PathsWeaks', WHERE WHAT IT READS IS OF BULK AT MOST 1048576: true; the input reads as it did. -/
def pathsWeaksUptoRow : OpenClaim := { program := "ytafnbackjjaelaa", sum := "04be1e0843d2789c8e9e322189fa70925d0197a03ee6bb9042d74030b8fa2bad", func := "paceline/pacelinelaw.PathsWeaks", spec := "pathsWeaks", unfollowed := true, recurses := true, apart := false, narrowed := true }
def PathsWeaksUptoSaid : Prop := pathsWeaksUptoRow.holds Try.pinned (OpenSpec.upto pathsWeaksSpec)

/-- 'pacelinelaw.RoundsBegins', WHERE WHAT IT READS IS OF BULK AT MOST 1048576: true; the input reads as it did. -/
def roundsBeginsUptoRow : OpenClaim := { program := "ytafnbackjjaelaa", sum := "04be1e0843d2789c8e9e322189fa70925d0197a03ee6bb9042d74030b8fa2bad", func := "paceline/pacelinelaw.RoundsBegins", spec := "roundsBegins", unfollowed := true, recurses := true, apart := false, narrowed := true }
def RoundsBeginsUptoSaid : Prop := roundsBeginsUptoRow.holds Try.pinned (OpenSpec.upto roundsBeginsSpec)

/-- 'pacelinelaw.FrameWraps', WHERE WHAT IT READS IS OF BULK AT MOST 1048576: true; the input reads as it did. -/
def frameWrapsUptoRow : OpenClaim := { program := "ytafnbackjjaelaa", sum := "04be1e0843d2789c8e9e322189fa70925d0197a03ee6bb9042d74030b8fa2bad", func := "paceline/pacelinelaw.FrameWraps", spec := "frameWraps", recurses := true, apart := false, narrowed := true }
def FrameWrapsUptoSaid : Prop := frameWrapsUptoRow.holds Try.pinned (OpenSpec.upto frameWrapsSpec)

/-- 'pacelinelaw.PathsReaches', WHERE WHAT IT READS IS OF BULK AT MOST 1048576: true; the input reads as it did. -/
def pathsReachesUptoRow : OpenClaim := { program := "ytafnbackjjaelaa", sum := "04be1e0843d2789c8e9e322189fa70925d0197a03ee6bb9042d74030b8fa2bad", func := "paceline/pacelinelaw.PathsReaches", spec := "pathsReaches", unfollowed := true, recurses := true, apart := false, narrowed := true }
def PathsReachesUptoSaid : Prop := pathsReachesUptoRow.holds Try.pinned (OpenSpec.upto pathsReachesSpec)

/-- 'pacelinelaw.VarintUngaps', WHERE WHAT IT READS IS OF BULK AT MOST 1048576: true; the input reads as it did. -/
def varintUngapsUptoRow : OpenClaim := { program := "ytafnbackjjaelaa", sum := "04be1e0843d2789c8e9e322189fa70925d0197a03ee6bb9042d74030b8fa2bad", func := "paceline/pacelinelaw.VarintUngaps", spec := "varintUngaps", apart := false, narrowed := true }
def VarintUngapsUptoSaid : Prop := varintUngapsUptoRow.holds Try.pinned (OpenSpec.upto varintUngapsSpec)

/-- 'pacelinelaw.DiskCrashes', WHERE WHAT IT READS IS OF BULK AT MOST 1048576: true; the input reads as it did. -/
def diskCrashesUptoRow : OpenClaim := { program := "ytafnbackjjaelaa", sum := "04be1e0843d2789c8e9e322189fa70925d0197a03ee6bb9042d74030b8fa2bad", func := "paceline/pacelinelaw.DiskCrashes", spec := "diskCrashes", apart := false, narrowed := true }
def DiskCrashesUptoSaid : Prop := diskCrashesUptoRow.holds Try.pinned (OpenSpec.upto diskCrashesSpec)

/-- 'pacelinelaw.BoardReadies', WHERE WHAT IT READS IS OF BULK AT MOST 1048576: true; the input reads as it did. -/
def boardReadiesUptoRow : OpenClaim := { program := "ytafnbackjjaelaa", sum := "04be1e0843d2789c8e9e322189fa70925d0197a03ee6bb9042d74030b8fa2bad", func := "paceline/pacelinelaw.BoardReadies", spec := "boardReadies", apart := false, narrowed := true }
def BoardReadiesUptoSaid : Prop := boardReadiesUptoRow.holds Try.pinned (OpenSpec.upto boardReadiesSpec)

/-- 'pacelinelaw.DiskReads', WHERE WHAT IT READS IS OF BULK AT MOST 1048576: true; the input reads as it did. -/
def diskReadsUptoRow : OpenClaim := { program := "ytafnbackjjaelaa", sum := "04be1e0843d2789c8e9e322189fa70925d0197a03ee6bb9042d74030b8fa2bad", func := "paceline/pacelinelaw.DiskReads", spec := "diskReads", unfollowed := true, recurses := true, apart := false, narrowed := true }
def DiskReadsUptoSaid : Prop := diskReadsUptoRow.holds Try.pinned (OpenSpec.upto diskReadsSpec)

/-- 'pacelinelaw.FrameUnwraps', WHERE WHAT IT READS IS OF BULK AT MOST 1048576: true; the input reads as it did. -/
def frameUnwrapsUptoRow : OpenClaim := { program := "ytafnbackjjaelaa", sum := "04be1e0843d2789c8e9e322189fa70925d0197a03ee6bb9042d74030b8fa2bad", func := "paceline/pacelinelaw.FrameUnwraps", spec := "frameUnwraps", recurses := true, apart := false, narrowed := true }
def FrameUnwrapsUptoSaid : Prop := frameUnwrapsUptoRow.holds Try.pinned (OpenSpec.upto frameUnwrapsSpec)

/-- 'pacelinelaw.DiskSyncs', WHERE WHAT IT READS IS OF BULK AT MOST 1048576: true; the input reads as it did. -/
def diskSyncsUptoRow : OpenClaim := { program := "ytafnbackjjaelaa", sum := "04be1e0843d2789c8e9e322189fa70925d0197a03ee6bb9042d74030b8fa2bad", func := "paceline/pacelinelaw.DiskSyncs", spec := "diskSyncs", unfollowed := true, recurses := true, apart := false, narrowed := true }
def DiskSyncsUptoSaid : Prop := diskSyncsUptoRow.holds Try.pinned (OpenSpec.upto diskSyncsSpec)

/-- 'pacelinelaw.BoardHears', WHERE WHAT IT READS IS OF BULK AT MOST 1048576: true; the input reads as it did. -/
def boardHearsUptoRow : OpenClaim := { program := "ytafnbackjjaelaa", sum := "04be1e0843d2789c8e9e322189fa70925d0197a03ee6bb9042d74030b8fa2bad", func := "paceline/pacelinelaw.BoardHears", spec := "boardHears", apart := false, narrowed := true }
def BoardHearsUptoSaid : Prop := boardHearsUptoRow.holds Try.pinned (OpenSpec.upto boardHearsSpec)

/-- 'pacelinelaw.DiskAppends', WHERE WHAT IT READS IS OF BULK AT MOST 1048576: true; the input reads as it did. -/
def diskAppendsUptoRow : OpenClaim := { program := "ytafnbackjjaelaa", sum := "04be1e0843d2789c8e9e322189fa70925d0197a03ee6bb9042d74030b8fa2bad", func := "paceline/pacelinelaw.DiskAppends", spec := "diskAppends", unfollowed := true, recurses := true, apart := false, narrowed := true }
def DiskAppendsUptoSaid : Prop := diskAppendsUptoRow.holds Try.pinned (OpenSpec.upto diskAppendsSpec)

/-- 'pacelinelaw.FrameAlls', WHERE WHAT IT READS IS OF BULK AT MOST 1048576: true; the input reads as it did. -/
def frameAllsUptoRow : OpenClaim := { program := "ytafnbackjjaelaa", sum := "04be1e0843d2789c8e9e322189fa70925d0197a03ee6bb9042d74030b8fa2bad", func := "paceline/pacelinelaw.FrameAlls", spec := "frameAlls", recurses := true, apart := false, narrowed := true }
def FrameAllsUptoSaid : Prop := frameAllsUptoRow.holds Try.pinned (OpenSpec.upto frameAllsSpec)

/-- 'pacelinelaw.DiskRemoves', WHERE WHAT IT READS IS OF BULK AT MOST 1048576: true; the input reads as it did. -/
def diskRemovesUptoRow : OpenClaim := { program := "ytafnbackjjaelaa", sum := "04be1e0843d2789c8e9e322189fa70925d0197a03ee6bb9042d74030b8fa2bad", func := "paceline/pacelinelaw.DiskRemoves", spec := "diskRemoves", unfollowed := true, recurses := true, apart := false, narrowed := true }
def DiskRemovesUptoSaid : Prop := diskRemovesUptoRow.holds Try.pinned (OpenSpec.upto diskRemovesSpec)

/-- 'pacelinelaw.MergeLeasts', WHERE WHAT IT READS IS OF BULK AT MOST 1048576: true; the input reads as it did. -/
def mergeLeastsUptoRow : OpenClaim := { program := "ytafnbackjjaelaa", sum := "04be1e0843d2789c8e9e322189fa70925d0197a03ee6bb9042d74030b8fa2bad", func := "paceline/pacelinelaw.MergeLeasts", spec := "mergeLeasts", unfollowed := true, recurses := true, apart := false, narrowed := true }
def MergeLeastsUptoSaid : Prop := mergeLeastsUptoRow.holds Try.pinned (OpenSpec.upto mergeLeastsSpec)

/-- 'pacelinelaw.DiskRenames', WHERE WHAT IT READS IS OF BULK AT MOST 1048576: true; the input reads as it did. -/
def diskRenamesUptoRow : OpenClaim := { program := "ytafnbackjjaelaa", sum := "04be1e0843d2789c8e9e322189fa70925d0197a03ee6bb9042d74030b8fa2bad", func := "paceline/pacelinelaw.DiskRenames", spec := "diskRenames", unfollowed := true, recurses := true, apart := false, narrowed := true }
def DiskRenamesUptoSaid : Prop := diskRenamesUptoRow.holds Try.pinned (OpenSpec.upto diskRenamesSpec)

/-- 'pacelinelaw.RoundsAnswers', WHERE WHAT IT READS IS OF BULK AT MOST 1048576: true; the input reads as it did. -/
def roundsAnswersUptoRow : OpenClaim := { program := "ytafnbackjjaelaa", sum := "04be1e0843d2789c8e9e322189fa70925d0197a03ee6bb9042d74030b8fa2bad", func := "paceline/pacelinelaw.RoundsAnswers", spec := "roundsAnswers", unfollowed := true, recurses := true, apart := false, narrowed := true }
def RoundsAnswersUptoSaid : Prop := roundsAnswersUptoRow.holds Try.pinned (OpenSpec.upto roundsAnswersSpec)

/-- 'pacelinelaw.PathsDists', WHERE WHAT IT READS IS OF BULK AT MOST 1048576: true; the input reads as it did. -/
def pathsDistsUptoRow : OpenClaim := { program := "ytafnbackjjaelaa", sum := "04be1e0843d2789c8e9e322189fa70925d0197a03ee6bb9042d74030b8fa2bad", func := "paceline/pacelinelaw.PathsDists", spec := "pathsDists", unfollowed := true, recurses := true, apart := false, narrowed := true }
def PathsDistsUptoSaid : Prop := pathsDistsUptoRow.holds Try.pinned (OpenSpec.upto pathsDistsSpec)

/-- 'pacelinelaw.MergeLists', WHERE WHAT IT READS IS OF BULK AT MOST 1048576: true; the input reads as it did. -/
def mergeListsUptoRow : OpenClaim := { program := "ytafnbackjjaelaa", sum := "04be1e0843d2789c8e9e322189fa70925d0197a03ee6bb9042d74030b8fa2bad", func := "paceline/pacelinelaw.MergeLists", spec := "mergeLists", unfollowed := true, recurses := true, apart := false, narrowed := true }
def MergeListsUptoSaid : Prop := mergeListsUptoRow.holds Try.pinned (OpenSpec.upto mergeListsSpec)

/-- 'pacelinelaw.StoreOpens', WHERE WHAT IT READS IS OF BULK AT MOST 1048576: true; the input reads as it did. -/
def storeOpensUptoRow : OpenClaim := { program := "ytafnbackjjaelaa", sum := "04be1e0843d2789c8e9e322189fa70925d0197a03ee6bb9042d74030b8fa2bad", func := "paceline/pacelinelaw.StoreOpens", spec := "storeOpens", unfollowed := true, recurses := true, apart := false, narrowed := true }
def StoreOpensUptoSaid : Prop := storeOpensUptoRow.holds Try.pinned (OpenSpec.upto storeOpensSpec)

/-- 'pacelinelaw.MergeSorts', WHERE WHAT IT READS IS OF BULK AT MOST 1048576: true; the input reads as it did. -/
def mergeSortsUptoRow : OpenClaim := { program := "ytafnbackjjaelaa", sum := "04be1e0843d2789c8e9e322189fa70925d0197a03ee6bb9042d74030b8fa2bad", func := "paceline/pacelinelaw.MergeSorts", spec := "mergeSorts", unfollowed := true, recurses := true, apart := false, narrowed := true }
def MergeSortsUptoSaid : Prop := mergeSortsUptoRow.holds Try.pinned (OpenSpec.upto mergeSortsSpec)

end Rows
end Go.Proofs.Ytafnbackjjaelaa
