/-
  No cell of these rows narrows 'for every input' (looked for: loops, veiled, ifaces, maps, wideKeys, modest, calm, conditions, laid).
  DERIVED. THE GIVEN ROWS OF THIS SEAT. 20 by the template 'for every input the law returns true; each argument reads behind the call as it read before'; 0 by the template 'total and deterministic' (their statements: YtblabipgehkllaaTotals.lean).
  GIVEN WITH THE SEED: the statements are not yours to turn. If you find one false, say at which input.
  Laid BY PROGRAM, IN A SANDBOX (cutbox-rows.mjs): the forced cells as the released guide's own fill.sh prints them over the translation 0c0f524a2585bc04… (all of the seat's roots in one cut). By AI agents, Wed Nov 11 2026. No macro, syntax, notation, axiom, sorry.
-/
import Derived.Test.YtblabipgehkllaaChecked
import GoSem.Claim
import GoSem.ClaimJoined
import GoSem.ClaimMapViews
import Derived.JoinedTies
import Derived.KernelRfl
namespace Go.Proofs.Ytblabipgehkllaa
/- THE CELL 'sum', in the pinned program and in every row, IS THE sha256 OF THE DUMP (.gsa) THAT YtblabipgehkllaaProg.lean LOADS. Nothing in Lean hashes anything: it is a label: what it is worth is what the hold of that sum in a sandbox is worth. -/
noncomputable def Try.pinned : Pinned := { name := "ytblabipgehkllaa", sum := "0c0f524a2585bc049c2f5b174be3c449830bef9bfa5a858167730efb0ba2c671", checked := Try.checked }
namespace Rows
def none {H : Type} : Left H := { results := [], args := [] }

/-- 'pacelinelaw.Names': WHATEVER THE INPUT: true; the input reads as it did. -/
def namesSpec : ChangeSpec := { name := "names", fn := fun _ => fun
  | [] => { results := [.lit (.bool true)], args := [] }
  | _ => none }
def namesRow : OpenClaim := { program := "ytblabipgehkllaa", sum := "0c0f524a2585bc049c2f5b174be3c449830bef9bfa5a858167730efb0ba2c671", func := "paceline/pacelinelaw.Names", spec := "names", apart := false }
def NamesSaid : Prop := namesRow.holds Try.pinned (OpenSpec.ofChange namesSpec)

/-- ITS FALSE NEIGHBOUR: 'it returns false'. Refute it at one input. -/
def namesWrong : ChangeSpec := { name := "names", fn := fun _ => fun
  | [] => { results := [.lit (.bool false)], args := [] }
  | _ => none }
def NamesWrongFalsely : Prop := namesRow.holds Try.pinned (OpenSpec.ofChange namesWrong)

/-- 'pacelinelaw.VarintZigs': WHATEVER THE INPUT: true; the input reads as it did. -/
def varintZigsSpec : ChangeSpec := { name := "varintZigs", fn := fun _ => fun
  | [d] => { results := [.lit (.bool true)], args := [d] }
  | _ => none }
def varintZigsRow : OpenClaim := { program := "ytblabipgehkllaa", sum := "0c0f524a2585bc049c2f5b174be3c449830bef9bfa5a858167730efb0ba2c671", func := "paceline/pacelinelaw.VarintZigs", spec := "varintZigs", apart := false }
def VarintZigsSaid : Prop := varintZigsRow.holds Try.pinned (OpenSpec.ofChange varintZigsSpec)

/-- ITS FALSE NEIGHBOUR: 'it returns false'. Refute it at one input. -/
def varintZigsWrong : ChangeSpec := { name := "varintZigs", fn := fun _ => fun
  | [d] => { results := [.lit (.bool false)], args := [d] }
  | _ => none }
def VarintZigsWrongFalsely : Prop := varintZigsRow.holds Try.pinned (OpenSpec.ofChange varintZigsWrong)

/-- 'pacelinelaw.VarintZags': WHATEVER THE INPUT: true; the input reads as it did. -/
def varintZagsSpec : ChangeSpec := { name := "varintZags", fn := fun _ => fun
  | [d] => { results := [.lit (.bool true)], args := [d] }
  | _ => none }
def varintZagsRow : OpenClaim := { program := "ytblabipgehkllaa", sum := "0c0f524a2585bc049c2f5b174be3c449830bef9bfa5a858167730efb0ba2c671", func := "paceline/pacelinelaw.VarintZags", spec := "varintZags", apart := false }
def VarintZagsSaid : Prop := varintZagsRow.holds Try.pinned (OpenSpec.ofChange varintZagsSpec)

/-- ITS FALSE NEIGHBOUR: 'it returns false'. Refute it at one input. -/
def varintZagsWrong : ChangeSpec := { name := "varintZags", fn := fun _ => fun
  | [d] => { results := [.lit (.bool false)], args := [d] }
  | _ => none }
def VarintZagsWrongFalsely : Prop := varintZagsRow.holds Try.pinned (OpenSpec.ofChange varintZagsWrong)

/-- 'pacelinelaw.BoardOpens': WHATEVER THE INPUT: true; the input reads as it did. -/
def boardOpensSpec : ChangeSpec := { name := "boardOpens", fn := fun _ => fun
  | [d1, d2, d3] => { results := [.lit (.bool true)], args := [d1, d2, d3] }
  | _ => none }
def boardOpensRow : OpenClaim := { program := "ytblabipgehkllaa", sum := "0c0f524a2585bc049c2f5b174be3c449830bef9bfa5a858167730efb0ba2c671", func := "paceline/pacelinelaw.BoardOpens", spec := "boardOpens", apart := false }
def BoardOpensSaid : Prop := boardOpensRow.holds Try.pinned (OpenSpec.ofChange boardOpensSpec)

/-- ITS FALSE NEIGHBOUR: 'it returns false'. Refute it at one input. -/
def boardOpensWrong : ChangeSpec := { name := "boardOpens", fn := fun _ => fun
  | [d1, d2, d3] => { results := [.lit (.bool false)], args := [d1, d2, d3] }
  | _ => none }
def BoardOpensWrongFalsely : Prop := boardOpensRow.holds Try.pinned (OpenSpec.ofChange boardOpensWrong)

/-- 'pacelinelaw.LinkOpens': WHATEVER THE INPUT: true; the input reads as it did. -/
def linkOpensSpec : ChangeSpec := { name := "linkOpens", fn := fun _ => fun
  | [d] => { results := [.lit (.bool true)], args := [d] }
  | _ => none }
def linkOpensRow : OpenClaim := { program := "ytblabipgehkllaa", sum := "0c0f524a2585bc049c2f5b174be3c449830bef9bfa5a858167730efb0ba2c671", func := "paceline/pacelinelaw.LinkOpens", spec := "linkOpens", apart := false }
def LinkOpensSaid : Prop := linkOpensRow.holds Try.pinned (OpenSpec.ofChange linkOpensSpec)

/-- ITS FALSE NEIGHBOUR: 'it returns false'. Refute it at one input. -/
def linkOpensWrong : ChangeSpec := { name := "linkOpens", fn := fun _ => fun
  | [d] => { results := [.lit (.bool false)], args := [d] }
  | _ => none }
def LinkOpensWrongFalsely : Prop := linkOpensRow.holds Try.pinned (OpenSpec.ofChange linkOpensWrong)

/-- 'pacelinelaw.VarintPuts': WHATEVER THE INPUT: true; the input reads as it did. -/
def varintPutsSpec : ChangeSpec := { name := "varintPuts", fn := fun _ => fun
  | [d] => { results := [.lit (.bool true)], args := [d] }
  | _ => none }
def varintPutsRow : OpenClaim := { program := "ytblabipgehkllaa", sum := "0c0f524a2585bc049c2f5b174be3c449830bef9bfa5a858167730efb0ba2c671", func := "paceline/pacelinelaw.VarintPuts", spec := "varintPuts", recurses := true, apart := false }
def VarintPutsSaid : Prop := varintPutsRow.holds Try.pinned (OpenSpec.ofChange varintPutsSpec)

/-- ITS FALSE NEIGHBOUR: 'it returns false'. Refute it at one input. -/
def varintPutsWrong : ChangeSpec := { name := "varintPuts", fn := fun _ => fun
  | [d] => { results := [.lit (.bool false)], args := [d] }
  | _ => none }
def VarintPutsWrongFalsely : Prop := varintPutsRow.holds Try.pinned (OpenSpec.ofChange varintPutsWrong)

/-- 'pacelinelaw.GraphChecks': WHATEVER THE INPUT: true; the input reads as it did. -/
def graphChecksSpec : ChangeSpec := { name := "graphChecks", fn := fun _ => fun
  | [d] => { results := [.lit (.bool true)], args := [d] }
  | _ => none }
def graphChecksRow : OpenClaim := { program := "ytblabipgehkllaa", sum := "0c0f524a2585bc049c2f5b174be3c449830bef9bfa5a858167730efb0ba2c671", func := "paceline/pacelinelaw.GraphChecks", spec := "graphChecks", unfollowed := true, recurses := true, apart := false }
def GraphChecksSaid : Prop := graphChecksRow.holds Try.pinned (OpenSpec.ofChange graphChecksSpec)

/-- ITS FALSE NEIGHBOUR: 'it returns false'. Refute it at one input. -/
def graphChecksWrong : ChangeSpec := { name := "graphChecks", fn := fun _ => fun
  | [d] => { results := [.lit (.bool false)], args := [d] }
  | _ => none }
def GraphChecksWrongFalsely : Prop := graphChecksRow.holds Try.pinned (OpenSpec.ofChange graphChecksWrong)

/-- 'pacelinelaw.OwnerOfs': WHATEVER THE INPUT: true; the input reads as it did. -/
def ownerOfsSpec : ChangeSpec := { name := "ownerOfs", fn := fun _ => fun
  | [d1, d2, d3] => { results := [.lit (.bool true)], args := [d1, d2, d3] }
  | _ => none }
def ownerOfsRow : OpenClaim := { program := "ytblabipgehkllaa", sum := "0c0f524a2585bc049c2f5b174be3c449830bef9bfa5a858167730efb0ba2c671", func := "paceline/pacelinelaw.OwnerOfs", spec := "ownerOfs", apart := false }
def OwnerOfsSaid : Prop := ownerOfsRow.holds Try.pinned (OpenSpec.ofChange ownerOfsSpec)

/-- ITS FALSE NEIGHBOUR: 'it returns false'. Refute it at one input. -/
def ownerOfsWrong : ChangeSpec := { name := "ownerOfs", fn := fun _ => fun
  | [d1, d2, d3] => { results := [.lit (.bool false)], args := [d1, d2, d3] }
  | _ => none }
def OwnerOfsWrongFalsely : Prop := ownerOfsRow.holds Try.pinned (OpenSpec.ofChange ownerOfsWrong)

/-- 'pacelinelaw.LinkDues': WHATEVER THE INPUT: true; the input reads as it did. -/
def linkDuesSpec : ChangeSpec := { name := "linkDues", fn := fun _ => fun
  | [d] => { results := [.lit (.bool true)], args := [d] }
  | _ => none }
def linkDuesRow : OpenClaim := { program := "ytblabipgehkllaa", sum := "0c0f524a2585bc049c2f5b174be3c449830bef9bfa5a858167730efb0ba2c671", func := "paceline/pacelinelaw.LinkDues", spec := "linkDues", apart := false }
def LinkDuesSaid : Prop := linkDuesRow.holds Try.pinned (OpenSpec.ofChange linkDuesSpec)

/-- ITS FALSE NEIGHBOUR: 'it returns false'. Refute it at one input. -/
def linkDuesWrong : ChangeSpec := { name := "linkDues", fn := fun _ => fun
  | [d] => { results := [.lit (.bool false)], args := [d] }
  | _ => none }
def LinkDuesWrongFalsely : Prop := linkDuesRow.holds Try.pinned (OpenSpec.ofChange linkDuesWrong)

/-- 'pacelinelaw.LinkHears': WHATEVER THE INPUT: true; the input reads as it did. -/
def linkHearsSpec : ChangeSpec := { name := "linkHears", fn := fun _ => fun
  | [d1, d2] => { results := [.lit (.bool true)], args := [d1, d2] }
  | _ => none }
def linkHearsRow : OpenClaim := { program := "ytblabipgehkllaa", sum := "0c0f524a2585bc049c2f5b174be3c449830bef9bfa5a858167730efb0ba2c671", func := "paceline/pacelinelaw.LinkHears", spec := "linkHears", apart := false }
def LinkHearsSaid : Prop := linkHearsRow.holds Try.pinned (OpenSpec.ofChange linkHearsSpec)

/-- ITS FALSE NEIGHBOUR: 'it returns false'. Refute it at one input. -/
def linkHearsWrong : ChangeSpec := { name := "linkHears", fn := fun _ => fun
  | [d1, d2] => { results := [.lit (.bool false)], args := [d1, d2] }
  | _ => none }
def LinkHearsWrongFalsely : Prop := linkHearsRow.holds Try.pinned (OpenSpec.ofChange linkHearsWrong)

/-- 'pacelinelaw.VarintGets': WHATEVER THE INPUT: true; the input reads as it did. -/
def varintGetsSpec : ChangeSpec := { name := "varintGets", fn := fun _ => fun
  | [d] => { results := [.lit (.bool true)], args := [d] }
  | _ => none }
def varintGetsRow : OpenClaim := { program := "ytblabipgehkllaa", sum := "0c0f524a2585bc049c2f5b174be3c449830bef9bfa5a858167730efb0ba2c671", func := "paceline/pacelinelaw.VarintGets", spec := "varintGets", apart := false }
def VarintGetsSaid : Prop := varintGetsRow.holds Try.pinned (OpenSpec.ofChange varintGetsSpec)

/-- ITS FALSE NEIGHBOUR: 'it returns false'. Refute it at one input. -/
def varintGetsWrong : ChangeSpec := { name := "varintGets", fn := fun _ => fun
  | [d] => { results := [.lit (.bool false)], args := [d] }
  | _ => none }
def VarintGetsWrongFalsely : Prop := varintGetsRow.holds Try.pinned (OpenSpec.ofChange varintGetsWrong)

/-- 'pacelinelaw.OwnerMines': WHATEVER THE INPUT: true; the input reads as it did. -/
def ownerMinesSpec : ChangeSpec := { name := "ownerMines", fn := fun _ => fun
  | [d1, d2, d3] => { results := [.lit (.bool true)], args := [d1, d2, d3] }
  | _ => none }
def ownerMinesRow : OpenClaim := { program := "ytblabipgehkllaa", sum := "0c0f524a2585bc049c2f5b174be3c449830bef9bfa5a858167730efb0ba2c671", func := "paceline/pacelinelaw.OwnerMines", spec := "ownerMines", apart := false }
def OwnerMinesSaid : Prop := ownerMinesRow.holds Try.pinned (OpenSpec.ofChange ownerMinesSpec)

/-- ITS FALSE NEIGHBOUR: 'it returns false'. Refute it at one input. -/
def ownerMinesWrong : ChangeSpec := { name := "ownerMines", fn := fun _ => fun
  | [d1, d2, d3] => { results := [.lit (.bool false)], args := [d1, d2, d3] }
  | _ => none }
def OwnerMinesWrongFalsely : Prop := ownerMinesRow.holds Try.pinned (OpenSpec.ofChange ownerMinesWrong)

/-- 'pacelinelaw.OwnerPlaces': WHATEVER THE INPUT: true; the input reads as it did. -/
def ownerPlacesSpec : ChangeSpec := { name := "ownerPlaces", fn := fun _ => fun
  | [d1, d2, d3] => { results := [.lit (.bool true)], args := [d1, d2, d3] }
  | _ => none }
def ownerPlacesRow : OpenClaim := { program := "ytblabipgehkllaa", sum := "0c0f524a2585bc049c2f5b174be3c449830bef9bfa5a858167730efb0ba2c671", func := "paceline/pacelinelaw.OwnerPlaces", spec := "ownerPlaces", apart := false }
def OwnerPlacesSaid : Prop := ownerPlacesRow.holds Try.pinned (OpenSpec.ofChange ownerPlacesSpec)

/-- ITS FALSE NEIGHBOUR: 'it returns false'. Refute it at one input. -/
def ownerPlacesWrong : ChangeSpec := { name := "ownerPlaces", fn := fun _ => fun
  | [d1, d2, d3] => { results := [.lit (.bool false)], args := [d1, d2, d3] }
  | _ => none }
def OwnerPlacesWrongFalsely : Prop := ownerPlacesRow.holds Try.pinned (OpenSpec.ofChange ownerPlacesWrong)

/-- 'pacelinelaw.LinkSends': WHATEVER THE INPUT: true; the input reads as it did. -/
def linkSendsSpec : ChangeSpec := { name := "linkSends", fn := fun _ => fun
  | [d1, d2] => { results := [.lit (.bool true)], args := [d1, d2] }
  | _ => none }
def linkSendsRow : OpenClaim := { program := "ytblabipgehkllaa", sum := "0c0f524a2585bc049c2f5b174be3c449830bef9bfa5a858167730efb0ba2c671", func := "paceline/pacelinelaw.LinkSends", spec := "linkSends", apart := false }
def LinkSendsSaid : Prop := linkSendsRow.holds Try.pinned (OpenSpec.ofChange linkSendsSpec)

/-- ITS FALSE NEIGHBOUR: 'it returns false'. Refute it at one input. -/
def linkSendsWrong : ChangeSpec := { name := "linkSends", fn := fun _ => fun
  | [d1, d2] => { results := [.lit (.bool false)], args := [d1, d2] }
  | _ => none }
def LinkSendsWrongFalsely : Prop := linkSendsRow.holds Try.pinned (OpenSpec.ofChange linkSendsWrong)

/-- 'pacelinelaw.GraphDegrees': WHATEVER THE INPUT: true; the input reads as it did. -/
def graphDegreesSpec : ChangeSpec := { name := "graphDegrees", fn := fun _ => fun
  | [d] => { results := [.lit (.bool true)], args := [d] }
  | _ => none }
def graphDegreesRow : OpenClaim := { program := "ytblabipgehkllaa", sum := "0c0f524a2585bc049c2f5b174be3c449830bef9bfa5a858167730efb0ba2c671", func := "paceline/pacelinelaw.GraphDegrees", spec := "graphDegrees", unfollowed := true, recurses := true, apart := false }
def GraphDegreesSaid : Prop := graphDegreesRow.holds Try.pinned (OpenSpec.ofChange graphDegreesSpec)

/-- ITS FALSE NEIGHBOUR: 'it returns false'. Refute it at one input. -/
def graphDegreesWrong : ChangeSpec := { name := "graphDegrees", fn := fun _ => fun
  | [d] => { results := [.lit (.bool false)], args := [d] }
  | _ => none }
def GraphDegreesWrongFalsely : Prop := graphDegreesRow.holds Try.pinned (OpenSpec.ofChange graphDegreesWrong)

/-- 'pacelinelaw.FrameSums': WHATEVER THE INPUT: true; the input reads as it did. -/
def frameSumsSpec : ChangeSpec := { name := "frameSums", fn := fun _ => fun
  | [d] => { results := [.lit (.bool true)], args := [d] }
  | _ => none }
def frameSumsRow : OpenClaim := { program := "ytblabipgehkllaa", sum := "0c0f524a2585bc049c2f5b174be3c449830bef9bfa5a858167730efb0ba2c671", func := "paceline/pacelinelaw.FrameSums", spec := "frameSums", apart := false }
def FrameSumsSaid : Prop := frameSumsRow.holds Try.pinned (OpenSpec.ofChange frameSumsSpec)

/-- ITS FALSE NEIGHBOUR: 'it returns false'. Refute it at one input. -/
def frameSumsWrong : ChangeSpec := { name := "frameSums", fn := fun _ => fun
  | [d] => { results := [.lit (.bool false)], args := [d] }
  | _ => none }
def FrameSumsWrongFalsely : Prop := frameSumsRow.holds Try.pinned (OpenSpec.ofChange frameSumsWrong)

/-- 'pacelinelaw.RoundsChecks': WHATEVER THE INPUT: true; the input reads as it did. -/
def roundsChecksSpec : ChangeSpec := { name := "roundsChecks", fn := fun _ => fun
  | [d] => { results := [.lit (.bool true)], args := [d] }
  | _ => none }
def roundsChecksRow : OpenClaim := { program := "ytblabipgehkllaa", sum := "0c0f524a2585bc049c2f5b174be3c449830bef9bfa5a858167730efb0ba2c671", func := "paceline/pacelinelaw.RoundsChecks", spec := "roundsChecks", unfollowed := true, recurses := true, apart := false }
def RoundsChecksSaid : Prop := roundsChecksRow.holds Try.pinned (OpenSpec.ofChange roundsChecksSpec)

/-- ITS FALSE NEIGHBOUR: 'it returns false'. Refute it at one input. -/
def roundsChecksWrong : ChangeSpec := { name := "roundsChecks", fn := fun _ => fun
  | [d] => { results := [.lit (.bool false)], args := [d] }
  | _ => none }
def RoundsChecksWrongFalsely : Prop := roundsChecksRow.holds Try.pinned (OpenSpec.ofChange roundsChecksWrong)

/-- 'pacelinelaw.ProgWays': WHATEVER THE INPUT: true; the input reads as it did. -/
def progWaysSpec : ChangeSpec := { name := "progWays", fn := fun _ => fun
  | [d1, d2] => { results := [.lit (.bool true)], args := [d1, d2] }
  | _ => none }
def progWaysRow : OpenClaim := { program := "ytblabipgehkllaa", sum := "0c0f524a2585bc049c2f5b174be3c449830bef9bfa5a858167730efb0ba2c671", func := "paceline/pacelinelaw.ProgWays", spec := "progWays", unfollowed := true, recurses := true, apart := false }
def ProgWaysSaid : Prop := progWaysRow.holds Try.pinned (OpenSpec.ofChange progWaysSpec)

/-- ITS FALSE NEIGHBOUR: 'it returns false'. Refute it at one input. -/
def progWaysWrong : ChangeSpec := { name := "progWays", fn := fun _ => fun
  | [d1, d2] => { results := [.lit (.bool false)], args := [d1, d2] }
  | _ => none }
def ProgWaysWrongFalsely : Prop := progWaysRow.holds Try.pinned (OpenSpec.ofChange progWaysWrong)

/-- 'pacelinelaw.LinkAckeds': WHATEVER THE INPUT: true; the input reads as it did. -/
def linkAckedsSpec : ChangeSpec := { name := "linkAckeds", fn := fun _ => fun
  | [d1, d2] => { results := [.lit (.bool true)], args := [d1, d2] }
  | _ => none }
def linkAckedsRow : OpenClaim := { program := "ytblabipgehkllaa", sum := "0c0f524a2585bc049c2f5b174be3c449830bef9bfa5a858167730efb0ba2c671", func := "paceline/pacelinelaw.LinkAckeds", spec := "linkAckeds", apart := false }
def LinkAckedsSaid : Prop := linkAckedsRow.holds Try.pinned (OpenSpec.ofChange linkAckedsSpec)

/-- ITS FALSE NEIGHBOUR: 'it returns false'. Refute it at one input. -/
def linkAckedsWrong : ChangeSpec := { name := "linkAckeds", fn := fun _ => fun
  | [d1, d2] => { results := [.lit (.bool false)], args := [d1, d2] }
  | _ => none }
def LinkAckedsWrongFalsely : Prop := linkAckedsRow.holds Try.pinned (OpenSpec.ofChange linkAckedsWrong)

/-- 'pacelinelaw.VarintGaps': WHATEVER THE INPUT: true; the input reads as it did. -/
def varintGapsSpec : ChangeSpec := { name := "varintGaps", fn := fun _ => fun
  | [d] => { results := [.lit (.bool true)], args := [d] }
  | _ => none }
def varintGapsRow : OpenClaim := { program := "ytblabipgehkllaa", sum := "0c0f524a2585bc049c2f5b174be3c449830bef9bfa5a858167730efb0ba2c671", func := "paceline/pacelinelaw.VarintGaps", spec := "varintGaps", recurses := true, apart := false }
def VarintGapsSaid : Prop := varintGapsRow.holds Try.pinned (OpenSpec.ofChange varintGapsSpec)

/-- ITS FALSE NEIGHBOUR: 'it returns false'. Refute it at one input. -/
def varintGapsWrong : ChangeSpec := { name := "varintGaps", fn := fun _ => fun
  | [d] => { results := [.lit (.bool false)], args := [d] }
  | _ => none }
def VarintGapsWrongFalsely : Prop := varintGapsRow.holds Try.pinned (OpenSpec.ofChange varintGapsWrong)

/- THE SECOND FORM. 'bulk': how many values and letters a reading holds, each counted each time it is reached (what is shared counts as often as it is met; a slice's spare places count too). A statement '..UptoSaid' is the law's where the arguments, and the package variables that the reading takes, are together of bulk at most 1048576: NARROWER than '..Said'. Prove '..Said' where nothing that the law and all that it calls make is longer than what came in: it says more and counts as full. Else prove '..UptoSaid'. A law counts once. -/
mutual
def uptoBulk {H : Type} : DataW H → Nat
  | .lit (.string bytes) => bytes.length + 1
  | .lit _ => 1
  | .nil => 1
  | .ptr d => uptoBulk d + 1
  | .slice elems spare => uptoBulkAll elems + uptoBulkAll spare + 1
  | .agg parts => uptoBulkAll parts + 1
  | .iface _ d => uptoBulk d + 1
  | .map entries => uptoBulkEntries entries + 1
  | .held _ => 1
def uptoBulkAll {H : Type} : List (DataW H) → Nat
  | [] => 0
  | d :: r => uptoBulk d + uptoBulkAll r
def uptoBulkEntries {H : Type} : List (Lit × DataW H) → Nat
  | [] => 0
  | x :: r => uptoBulkEntry x + uptoBulkEntries r
def uptoBulkEntry {H : Type} : Lit × DataW H → Nat
  | (.string bytes, d) => bytes.length + uptoBulk d + 1
  | (_, d) => uptoBulk d + 1
 end
def uptoSmall : (H : Type) → List (DataW H) → Bool := fun _ ds => decide (uptoBulkAll ds ≤ 1048576)
def OpenSpec.upto (s : _root_.Go.ChangeSpec) : _root_.Go.OpenSpec := { _root_.Go.OpenSpec.ofChange s with cond := some uptoSmall }

/-- 'pacelinelaw.Names', WHERE WHAT IT READS IS OF BULK AT MOST 1048576: true; the input reads as it did. -/
def namesUptoRow : OpenClaim := { program := "ytblabipgehkllaa", sum := "0c0f524a2585bc049c2f5b174be3c449830bef9bfa5a858167730efb0ba2c671", func := "paceline/pacelinelaw.Names", spec := "names", apart := false, narrowed := true }
def NamesUptoSaid : Prop := namesUptoRow.holds Try.pinned (OpenSpec.upto namesSpec)

/-- 'pacelinelaw.VarintZigs', WHERE WHAT IT READS IS OF BULK AT MOST 1048576: true; the input reads as it did. -/
def varintZigsUptoRow : OpenClaim := { program := "ytblabipgehkllaa", sum := "0c0f524a2585bc049c2f5b174be3c449830bef9bfa5a858167730efb0ba2c671", func := "paceline/pacelinelaw.VarintZigs", spec := "varintZigs", apart := false, narrowed := true }
def VarintZigsUptoSaid : Prop := varintZigsUptoRow.holds Try.pinned (OpenSpec.upto varintZigsSpec)

/-- 'pacelinelaw.VarintZags', WHERE WHAT IT READS IS OF BULK AT MOST 1048576: true; the input reads as it did. -/
def varintZagsUptoRow : OpenClaim := { program := "ytblabipgehkllaa", sum := "0c0f524a2585bc049c2f5b174be3c449830bef9bfa5a858167730efb0ba2c671", func := "paceline/pacelinelaw.VarintZags", spec := "varintZags", apart := false, narrowed := true }
def VarintZagsUptoSaid : Prop := varintZagsUptoRow.holds Try.pinned (OpenSpec.upto varintZagsSpec)

/-- 'pacelinelaw.BoardOpens', WHERE WHAT IT READS IS OF BULK AT MOST 1048576: true; the input reads as it did. -/
def boardOpensUptoRow : OpenClaim := { program := "ytblabipgehkllaa", sum := "0c0f524a2585bc049c2f5b174be3c449830bef9bfa5a858167730efb0ba2c671", func := "paceline/pacelinelaw.BoardOpens", spec := "boardOpens", apart := false, narrowed := true }
def BoardOpensUptoSaid : Prop := boardOpensUptoRow.holds Try.pinned (OpenSpec.upto boardOpensSpec)

/-- 'pacelinelaw.LinkOpens', WHERE WHAT IT READS IS OF BULK AT MOST 1048576: true; the input reads as it did. -/
def linkOpensUptoRow : OpenClaim := { program := "ytblabipgehkllaa", sum := "0c0f524a2585bc049c2f5b174be3c449830bef9bfa5a858167730efb0ba2c671", func := "paceline/pacelinelaw.LinkOpens", spec := "linkOpens", apart := false, narrowed := true }
def LinkOpensUptoSaid : Prop := linkOpensUptoRow.holds Try.pinned (OpenSpec.upto linkOpensSpec)

/-- 'pacelinelaw.VarintPuts', WHERE WHAT IT READS IS OF BULK AT MOST 1048576: true; the input reads as it did. -/
def varintPutsUptoRow : OpenClaim := { program := "ytblabipgehkllaa", sum := "0c0f524a2585bc049c2f5b174be3c449830bef9bfa5a858167730efb0ba2c671", func := "paceline/pacelinelaw.VarintPuts", spec := "varintPuts", recurses := true, apart := false, narrowed := true }
def VarintPutsUptoSaid : Prop := varintPutsUptoRow.holds Try.pinned (OpenSpec.upto varintPutsSpec)

/-- 'pacelinelaw.GraphChecks', WHERE WHAT IT READS IS OF BULK AT MOST 1048576: true; the input reads as it did. -/
def graphChecksUptoRow : OpenClaim := { program := "ytblabipgehkllaa", sum := "0c0f524a2585bc049c2f5b174be3c449830bef9bfa5a858167730efb0ba2c671", func := "paceline/pacelinelaw.GraphChecks", spec := "graphChecks", unfollowed := true, recurses := true, apart := false, narrowed := true }
def GraphChecksUptoSaid : Prop := graphChecksUptoRow.holds Try.pinned (OpenSpec.upto graphChecksSpec)

/-- 'pacelinelaw.OwnerOfs', WHERE WHAT IT READS IS OF BULK AT MOST 1048576: true; the input reads as it did. -/
def ownerOfsUptoRow : OpenClaim := { program := "ytblabipgehkllaa", sum := "0c0f524a2585bc049c2f5b174be3c449830bef9bfa5a858167730efb0ba2c671", func := "paceline/pacelinelaw.OwnerOfs", spec := "ownerOfs", apart := false, narrowed := true }
def OwnerOfsUptoSaid : Prop := ownerOfsUptoRow.holds Try.pinned (OpenSpec.upto ownerOfsSpec)

/-- 'pacelinelaw.LinkDues', WHERE WHAT IT READS IS OF BULK AT MOST 1048576: true; the input reads as it did. -/
def linkDuesUptoRow : OpenClaim := { program := "ytblabipgehkllaa", sum := "0c0f524a2585bc049c2f5b174be3c449830bef9bfa5a858167730efb0ba2c671", func := "paceline/pacelinelaw.LinkDues", spec := "linkDues", apart := false, narrowed := true }
def LinkDuesUptoSaid : Prop := linkDuesUptoRow.holds Try.pinned (OpenSpec.upto linkDuesSpec)

/-- 'pacelinelaw.LinkHears', WHERE WHAT IT READS IS OF BULK AT MOST 1048576: true; the input reads as it did. -/
def linkHearsUptoRow : OpenClaim := { program := "ytblabipgehkllaa", sum := "0c0f524a2585bc049c2f5b174be3c449830bef9bfa5a858167730efb0ba2c671", func := "paceline/pacelinelaw.LinkHears", spec := "linkHears", apart := false, narrowed := true }
def LinkHearsUptoSaid : Prop := linkHearsUptoRow.holds Try.pinned (OpenSpec.upto linkHearsSpec)

/-- 'pacelinelaw.VarintGets', WHERE WHAT IT READS IS OF BULK AT MOST 1048576: true; the input reads as it did. -/
def varintGetsUptoRow : OpenClaim := { program := "ytblabipgehkllaa", sum := "0c0f524a2585bc049c2f5b174be3c449830bef9bfa5a858167730efb0ba2c671", func := "paceline/pacelinelaw.VarintGets", spec := "varintGets", apart := false, narrowed := true }
def VarintGetsUptoSaid : Prop := varintGetsUptoRow.holds Try.pinned (OpenSpec.upto varintGetsSpec)

/-- 'pacelinelaw.OwnerMines', WHERE WHAT IT READS IS OF BULK AT MOST 1048576: true; the input reads as it did. -/
def ownerMinesUptoRow : OpenClaim := { program := "ytblabipgehkllaa", sum := "0c0f524a2585bc049c2f5b174be3c449830bef9bfa5a858167730efb0ba2c671", func := "paceline/pacelinelaw.OwnerMines", spec := "ownerMines", apart := false, narrowed := true }
def OwnerMinesUptoSaid : Prop := ownerMinesUptoRow.holds Try.pinned (OpenSpec.upto ownerMinesSpec)

/-- 'pacelinelaw.OwnerPlaces', WHERE WHAT IT READS IS OF BULK AT MOST 1048576: true; the input reads as it did. -/
def ownerPlacesUptoRow : OpenClaim := { program := "ytblabipgehkllaa", sum := "0c0f524a2585bc049c2f5b174be3c449830bef9bfa5a858167730efb0ba2c671", func := "paceline/pacelinelaw.OwnerPlaces", spec := "ownerPlaces", apart := false, narrowed := true }
def OwnerPlacesUptoSaid : Prop := ownerPlacesUptoRow.holds Try.pinned (OpenSpec.upto ownerPlacesSpec)

/-- 'pacelinelaw.LinkSends', WHERE WHAT IT READS IS OF BULK AT MOST 1048576: true; the input reads as it did. -/
def linkSendsUptoRow : OpenClaim := { program := "ytblabipgehkllaa", sum := "0c0f524a2585bc049c2f5b174be3c449830bef9bfa5a858167730efb0ba2c671", func := "paceline/pacelinelaw.LinkSends", spec := "linkSends", apart := false, narrowed := true }
def LinkSendsUptoSaid : Prop := linkSendsUptoRow.holds Try.pinned (OpenSpec.upto linkSendsSpec)

/-- 'pacelinelaw.GraphDegrees', WHERE WHAT IT READS IS OF BULK AT MOST 1048576: true; the input reads as it did. -/
def graphDegreesUptoRow : OpenClaim := { program := "ytblabipgehkllaa", sum := "0c0f524a2585bc049c2f5b174be3c449830bef9bfa5a858167730efb0ba2c671", func := "paceline/pacelinelaw.GraphDegrees", spec := "graphDegrees", unfollowed := true, recurses := true, apart := false, narrowed := true }
def GraphDegreesUptoSaid : Prop := graphDegreesUptoRow.holds Try.pinned (OpenSpec.upto graphDegreesSpec)

/-- 'pacelinelaw.FrameSums', WHERE WHAT IT READS IS OF BULK AT MOST 1048576: true; the input reads as it did. -/
def frameSumsUptoRow : OpenClaim := { program := "ytblabipgehkllaa", sum := "0c0f524a2585bc049c2f5b174be3c449830bef9bfa5a858167730efb0ba2c671", func := "paceline/pacelinelaw.FrameSums", spec := "frameSums", apart := false, narrowed := true }
def FrameSumsUptoSaid : Prop := frameSumsUptoRow.holds Try.pinned (OpenSpec.upto frameSumsSpec)

/-- 'pacelinelaw.RoundsChecks', WHERE WHAT IT READS IS OF BULK AT MOST 1048576: true; the input reads as it did. -/
def roundsChecksUptoRow : OpenClaim := { program := "ytblabipgehkllaa", sum := "0c0f524a2585bc049c2f5b174be3c449830bef9bfa5a858167730efb0ba2c671", func := "paceline/pacelinelaw.RoundsChecks", spec := "roundsChecks", unfollowed := true, recurses := true, apart := false, narrowed := true }
def RoundsChecksUptoSaid : Prop := roundsChecksUptoRow.holds Try.pinned (OpenSpec.upto roundsChecksSpec)

/-- 'pacelinelaw.ProgWays', WHERE WHAT IT READS IS OF BULK AT MOST 1048576: true; the input reads as it did. -/
def progWaysUptoRow : OpenClaim := { program := "ytblabipgehkllaa", sum := "0c0f524a2585bc049c2f5b174be3c449830bef9bfa5a858167730efb0ba2c671", func := "paceline/pacelinelaw.ProgWays", spec := "progWays", unfollowed := true, recurses := true, apart := false, narrowed := true }
def ProgWaysUptoSaid : Prop := progWaysUptoRow.holds Try.pinned (OpenSpec.upto progWaysSpec)

/-- 'pacelinelaw.LinkAckeds', WHERE WHAT IT READS IS OF BULK AT MOST 1048576: true; the input reads as it did. -/
def linkAckedsUptoRow : OpenClaim := { program := "ytblabipgehkllaa", sum := "0c0f524a2585bc049c2f5b174be3c449830bef9bfa5a858167730efb0ba2c671", func := "paceline/pacelinelaw.LinkAckeds", spec := "linkAckeds", apart := false, narrowed := true }
def LinkAckedsUptoSaid : Prop := linkAckedsUptoRow.holds Try.pinned (OpenSpec.upto linkAckedsSpec)

/-- 'pacelinelaw.VarintGaps', WHERE WHAT IT READS IS OF BULK AT MOST 1048576: true; the input reads as it did. -/
def varintGapsUptoRow : OpenClaim := { program := "ytblabipgehkllaa", sum := "0c0f524a2585bc049c2f5b174be3c449830bef9bfa5a858167730efb0ba2c671", func := "paceline/pacelinelaw.VarintGaps", spec := "varintGaps", recurses := true, apart := false, narrowed := true }
def VarintGapsUptoSaid : Prop := varintGapsUptoRow.holds Try.pinned (OpenSpec.upto varintGapsSpec)

end Rows
end Go.Proofs.Ytblabipgehkllaa
