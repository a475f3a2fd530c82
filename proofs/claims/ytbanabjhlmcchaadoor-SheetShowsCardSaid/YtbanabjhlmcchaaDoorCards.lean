/-
  DERIVED. GIVEN WITH THE SEED: THE CARDS: each row of YtbanabjhlmcchaaDoorRows.lean that lists a variable, with what it lists TIED to the program's text (the seventh form; the later family's looks); each row that meets fmt, with fmt's text TOLD by the authors' own Lean function (tested against real Go, not proved from fmt's source: count such statements apart). THE CARD IS WHAT COUNTS. Prove the row's statement (the work); the ties are given (YtbanabjhlmcchaaDoorTie.lean); close each card by the builder's one call (the guide's Derived/Test/ToyasCard.lean, 'card_holds'). Laid BY PROGRAM, IN A SANDBOX (cutbox-door.mjs). By AI agents, Wed Nov 11 2026. No macro, syntax, notation, axiom, sorry.
-/
import Derived.Test.YtbanabjhlmcchaaDoorRows
import GoSem.ClaimSeven
namespace Go.Proofs.YtbanabjhlmcchaaDoor
namespace Rows

/-- THE TIED CARD OF 'pacelinelaw.PlayShows'. -/
def playShowsCard : Claim7 := { stood := { row := playShowsRow, standIns := [], harness := (true, "fae4694c4b6c197027af63830b83eee9dffd1d5019cf56c6f117d3f3294c13e7"), looks := false }, kinds := [], alts := [], laidByText := true, laidKinds := [.data, .data, .data, .data], laidTests := true, laidLooks := .later }
def PlayShowsCardSaid : Prop := Claim7.holds Tryd.pinned (.plain (OpenSpec.ofChange playShowsSpec)) playShowsCard

/-- THE TIED CARD OF 'pacelinelaw.SheetShows'. -/
def sheetShowsCard : Claim7 := { stood := { row := sheetShowsRow, standIns := [], harness := (true, "fae4694c4b6c197027af63830b83eee9dffd1d5019cf56c6f117d3f3294c13e7"), looks := false }, kinds := [], alts := [], laidByText := true, laidKinds := [.data, .data, .data], laidTests := true, laidLooks := .later }
def SheetShowsCardSaid : Prop := Claim7.holds Tryd.pinned (.plain (OpenSpec.ofChange sheetShowsSpec)) sheetShowsCard

/-- THE SECOND FORM's CARD OF 'pacelinelaw.PlayShows'. -/
def playShowsUptoCard : Claim7 := { stood := { row := playShowsUptoRow, standIns := [], harness := (true, "fae4694c4b6c197027af63830b83eee9dffd1d5019cf56c6f117d3f3294c13e7"), looks := false }, kinds := [], alts := [], laidByText := true, laidKinds := [.data, .data, .data, .data], laidTests := true, laidLooks := .later }
def PlayShowsUptoCardSaid : Prop := Claim7.holds Tryd.pinned (.plain (OpenSpec.upto playShowsSpec)) playShowsUptoCard

/-- THE SECOND FORM's CARD OF 'pacelinelaw.SheetShows'. -/
def sheetShowsUptoCard : Claim7 := { stood := { row := sheetShowsUptoRow, standIns := [], harness := (true, "fae4694c4b6c197027af63830b83eee9dffd1d5019cf56c6f117d3f3294c13e7"), looks := false }, kinds := [], alts := [], laidByText := true, laidKinds := [.data, .data, .data], laidTests := true, laidLooks := .later }
def SheetShowsUptoCardSaid : Prop := Claim7.holds Tryd.pinned (.plain (OpenSpec.upto sheetShowsSpec)) sheetShowsUptoCard
end Rows
end Go.Proofs.YtbanabjhlmcchaaDoor
