/- The names of the slots: ckpt.slot, the document's SlotName; at 0 and 1. -/
import Derived.Test.YtphgdpjfolkafaaDiskW
import Derived.Laws.IdiomStrings
namespace Go.Proofs.Ytphgdpjfolkafaa
open Go.ChangeShapes Go.WideShapes Go.ChangeAt Go.RowKit
set_option linter.unusedVariables false
set_option linter.unusedSimpArgs false
def digitB (n : Int) : ByteArray := if n = 0 then ⟨#[48]⟩ else ⟨#[49]⟩
def slotB (n : Int) : ByteArray := if n = 0 then ⟨#[115, 97, 118, 101, 45, 48]⟩ else ⟨#[115, 97, 118, 101, 45, 49]⟩
def nextB : ByteArray := ⟨#[110, 101, 120, 116]⟩
end Go.Proofs.Ytphgdpjfolkafaa
