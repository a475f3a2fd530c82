/-
  DERIVED. GIVEN WITH THE SEED: THE CARDS: each row of YtfdaheenigmkmaaDoorRows.lean that lists a variable, with what it lists TIED to the program's text (the seventh form; the later family's looks); each row that meets fmt, with fmt's text TOLD by the authors' own Lean function (tested against real Go, not proved from fmt's source: count such statements apart). THE CARD IS WHAT COUNTS. Prove the row's statement (the work); the ties are given (YtfdaheenigmkmaaDoorTie.lean); close each card by the builder's one call (the guide's Derived/Test/ToyasCard.lean, 'card_holds'). Laid BY PROGRAM, IN A SANDBOX (cutbox-door.mjs). By AI agents, Wed Nov 11 2026. No macro, syntax, notation, axiom, sorry.
-/
import Derived.Test.YtfdaheenigmkmaaDoorRows
import GoSem.ClaimSeven
namespace Go.Proofs.YtfdaheenigmkmaaDoor
namespace Rows

/-- THE TIED CARD OF 'pacelinelaw.PlayReads'. -/
def playReadsCard : Claim7 := { stood := { row := playReadsRow, standIns := [], harness := (true, "ae121cccac29150aa49763e03f3640a681f6c08ffb3d5d7ea4c714f84c1da24d"), looks := true }, kinds := [], alts := [], laidByText := true, laidKinds := [.data, .data, .data, .data, .sentinel, .sentinel, .data, .pinned], laidTests := true, laidLooks := .later }
def PlayReadsCardSaid : Prop := Claim7.holds Tryd.pinned (.plain (OpenSpec.ofChange playReadsSpec)) playReadsCard

/-- THE TIED CARD OF 'pacelinelaw.SheetReads'. -/
def sheetReadsCard : Claim7 := { stood := { row := sheetReadsRow, standIns := [], harness := (true, "ae121cccac29150aa49763e03f3640a681f6c08ffb3d5d7ea4c714f84c1da24d"), looks := true }, kinds := [], alts := [], laidByText := true, laidKinds := [.data, .data, .data, .data, .sentinel, .sentinel, .pinned], laidTests := true, laidLooks := .later }
def SheetReadsCardSaid : Prop := Claim7.holds Tryd.pinned (.plain (OpenSpec.ofChange sheetReadsSpec)) sheetReadsCard

/-- THE SECOND FORM's CARD OF 'pacelinelaw.PlayReads'. -/
def playReadsUptoCard : Claim7 := { stood := { row := playReadsUptoRow, standIns := [], harness := (true, "ae121cccac29150aa49763e03f3640a681f6c08ffb3d5d7ea4c714f84c1da24d"), looks := true }, kinds := [], alts := [], laidByText := true, laidKinds := [.data, .data, .data, .data, .sentinel, .sentinel, .data, .pinned], laidTests := true, laidLooks := .later }
def PlayReadsUptoCardSaid : Prop := Claim7.holds Tryd.pinned (.plain (OpenSpec.upto playReadsSpec)) playReadsUptoCard

/-- THE SECOND FORM's CARD OF 'pacelinelaw.SheetReads'. -/
def sheetReadsUptoCard : Claim7 := { stood := { row := sheetReadsUptoRow, standIns := [], harness := (true, "ae121cccac29150aa49763e03f3640a681f6c08ffb3d5d7ea4c714f84c1da24d"), looks := true }, kinds := [], alts := [], laidByText := true, laidKinds := [.data, .data, .data, .data, .sentinel, .sentinel, .pinned], laidTests := true, laidLooks := .later }
def SheetReadsUptoCardSaid : Prop := Claim7.holds Tryd.pinned (.plain (OpenSpec.upto sheetReadsSpec)) sheetReadsUptoCard
end Rows
end Go.Proofs.YtfdaheenigmkmaaDoor
