/-
  DERIVED. GIVEN WITH THE SEED: THE CARDS: each row of YtphgdpjfolkafaaDoorRows.lean that lists a variable, with what it lists TIED to the program's text (the seventh form; the later family's looks); each row that meets fmt, with fmt's text TOLD by the authors' own Lean function (tested against real Go, not proved from fmt's source: count such statements apart). THE CARD IS WHAT COUNTS. Prove the row's statement (the work); the ties are given (YtphgdpjfolkafaaDoorTie.lean); close each card by the builder's one call (the guide's Derived/Test/ToyasCard.lean, 'card_holds'). Laid BY PROGRAM, IN A SANDBOX (cutbox-door.mjs). By AI agents, Wed Nov 11 2026. No macro, syntax, notation, axiom, sorry.
-/
import Derived.Test.YtphgdpjfolkafaaDoorRows
import GoSem.ClaimSeven
namespace Go.Proofs.YtphgdpjfolkafaaDoor
namespace Rows

/-- THE TIED CARD OF 'pacelinelaw.CkptLoads'. -/
def ckptLoadsCard : Claim7 := { stood := { row := ckptLoadsRow, standIns := [], harness := (true, "fe33947c97d956bcf2f09ced2bd75d136835f2d2e2ab8bf5dff8b01257ec44da"), looks := false }, kinds := [], alts := [], laidByText := true, laidKinds := [.data, .data, .data], laidTests := true, laidLooks := .later }
def CkptLoadsCardSaid : Prop := Claim7.holds Tryd.pinned (.plain (OpenSpec.ofChange ckptLoadsSpec)) ckptLoadsCard

/-- THE TIED CARD OF 'pacelinelaw.CkptNewests'. -/
def ckptNewestsCard : Claim7 := { stood := { row := ckptNewestsRow, standIns := [], harness := (true, "fe33947c97d956bcf2f09ced2bd75d136835f2d2e2ab8bf5dff8b01257ec44da"), looks := false }, kinds := [], alts := [], laidByText := true, laidKinds := [.data, .data, .data], laidTests := true, laidLooks := .later }
def CkptNewestsCardSaid : Prop := Claim7.holds Tryd.pinned (.plain (OpenSpec.ofChange ckptNewestsSpec)) ckptNewestsCard

/-- THE SECOND FORM's CARD OF 'pacelinelaw.CkptLoads'. -/
def ckptLoadsUptoCard : Claim7 := { stood := { row := ckptLoadsUptoRow, standIns := [], harness := (true, "fe33947c97d956bcf2f09ced2bd75d136835f2d2e2ab8bf5dff8b01257ec44da"), looks := false }, kinds := [], alts := [], laidByText := true, laidKinds := [.data, .data, .data], laidTests := true, laidLooks := .later }
def CkptLoadsUptoCardSaid : Prop := Claim7.holds Tryd.pinned (.plain (OpenSpec.upto ckptLoadsSpec)) ckptLoadsUptoCard

/-- THE SECOND FORM's CARD OF 'pacelinelaw.CkptNewests'. -/
def ckptNewestsUptoCard : Claim7 := { stood := { row := ckptNewestsUptoRow, standIns := [], harness := (true, "fe33947c97d956bcf2f09ced2bd75d136835f2d2e2ab8bf5dff8b01257ec44da"), looks := false }, kinds := [], alts := [], laidByText := true, laidKinds := [.data, .data, .data], laidTests := true, laidLooks := .later }
def CkptNewestsUptoCardSaid : Prop := Claim7.holds Tryd.pinned (.plain (OpenSpec.upto ckptNewestsSpec)) ckptNewestsUptoCard
end Rows
end Go.Proofs.YtphgdpjfolkafaaDoor
