/- What the frames of all statements of this seat ask of the program alone. -/
import Derived.Test.YteefemiieidpaaaRows
import Derived.JoinedOf
namespace Go.Proofs.Yteefemiieidpaaa
set_option linter.unusedVariables false
set_option linter.unusedSimpArgs false
theorem and_mk {a b : Bool} (ha : a = true) (hb : b = true) : (a && b) = true := by rw [ha, hb]; rfl
theorem fr_laid : laidOutB Try.checked.prog = true := by kernel_rfl
theorem fr_maps : mapsRowed Try.checked.prog = true := by kernel_rfl
theorem fr_stops : (Try.checked.prog.stops == []) = true := by kernel_rfl
theorem fr_knobs : (Try.checked.prog.stopKnobs == []) = true := by kernel_rfl
theorem fr_keys : Try.checked.prog.plainKeys = Rows.roundsNextsRow.plainKeys := by kernel_rfl
theorem fr_heard : Try.checked.prog.stopsHeard = true := by kernel_rfl
theorem fr_chars : Try.checked.prog.initOrder = String.ofList [Char.ofNat 104, Char.ofNat 97, Char.ofNat 114, Char.ofNat 110, Char.ofNat 101, Char.ofNat 115, Char.ofNat 115, Char.ofNat 32, Char.ofNat 50, Char.ofNat 98, Char.ofNat 50, Char.ofNat 102, Char.ofNat 50, Char.ofNat 56, Char.ofNat 57, Char.ofNat 57, Char.ofNat 57, Char.ofNat 49, Char.ofNat 50, Char.ofNat 102, Char.ofNat 98, Char.ofNat 55, Char.ofNat 48, Char.ofNat 102, Char.ofNat 56, Char.ofNat 97, Char.ofNat 56, Char.ofNat 101, Char.ofNat 101, Char.ofNat 97, Char.ofNat 99, Char.ofNat 99, Char.ofNat 56, Char.ofNat 100, Char.ofNat 57, Char.ofNat 100, Char.ofNat 49, Char.ofNat 55, Char.ofNat 55, Char.ofNat 50, Char.ofNat 55, Char.ofNat 100, Char.ofNat 101, Char.ofNat 102, Char.ofNat 52, Char.ofNat 50, Char.ofNat 48, Char.ofNat 54, Char.ofNat 101, Char.ofNat 57, Char.ofNat 101, Char.ofNat 102, Char.ofNat 52, Char.ofNat 52, Char.ofNat 56, Char.ofNat 56, Char.ofNat 57, Char.ofNat 51, Char.ofNat 57, Char.ofNat 101, Char.ofNat 102, Char.ofNat 50, Char.ofNat 102, Char.ofNat 97, Char.ofNat 48, Char.ofNat 102, Char.ofNat 55, Char.ofNat 98, Char.ofNat 56, Char.ofNat 57, Char.ofNat 49, Char.ofNat 55, Char.ofNat 32, Char.ofNat 99, Char.ofNat 117, Char.ofNat 116, Char.ofNat 32, Char.ofNat 97, Char.ofNat 116, Char.ofNat 32, Char.ofNat 112, Char.ofNat 97, Char.ofNat 99, Char.ofNat 101, Char.ofNat 108, Char.ofNat 105, Char.ofNat 110, Char.ofNat 101, Char.ofNat 47, Char.ofNat 112, Char.ofNat 97, Char.ofNat 99, Char.ofNat 101, Char.ofNat 108, Char.ofNat 105, Char.ofNat 110, Char.ofNat 101, Char.ofNat 108, Char.ofNat 97, Char.ofNat 119, Char.ofNat 46, Char.ofNat 82, Char.ofNat 111, Char.ofNat 117, Char.ofNat 110, Char.ofNat 100, Char.ofNat 115, Char.ofNat 78, Char.ofNat 101, Char.ofNat 120, Char.ofNat 116, Char.ofNat 115, Char.ofNat 32, Char.ofNat 112, Char.ofNat 97, Char.ofNat 99, Char.ofNat 101, Char.ofNat 108, Char.ofNat 105, Char.ofNat 110, Char.ofNat 101, Char.ofNat 47, Char.ofNat 112, Char.ofNat 97, Char.ofNat 99, Char.ofNat 101, Char.ofNat 108, Char.ofNat 105, Char.ofNat 110, Char.ofNat 101, Char.ofNat 108, Char.ofNat 97, Char.ofNat 119, Char.ofNat 46, Char.ofNat 82, Char.ofNat 111, Char.ofNat 117, Char.ofNat 110, Char.ofNat 100, Char.ofNat 115, Char.ofNat 82, Char.ofNat 117, Char.ofNat 110, Char.ofNat 115, Char.ofNat 32, Char.ofNat 112, Char.ofNat 97, Char.ofNat 99, Char.ofNat 101, Char.ofNat 108, Char.ofNat 105, Char.ofNat 110, Char.ofNat 101, Char.ofNat 47, Char.ofNat 112, Char.ofNat 97, Char.ofNat 99, Char.ofNat 101, Char.ofNat 108, Char.ofNat 105, Char.ofNat 110, Char.ofNat 101, Char.ofNat 108, Char.ofNat 97, Char.ofNat 119, Char.ofNat 46, Char.ofNat 69, Char.ofNat 110, Char.ofNat 103, Char.ofNat 105, Char.ofNat 110, Char.ofNat 101, Char.ofNat 76, Char.ofNat 105, Char.ofNat 109, Char.ofNat 105, Char.ofNat 116, Char.ofNat 115] := by kernel_rfl
theorem fr_head : (behindMainWord (wordsSigns Try.checked.prog.initOrder.toList)).head? = some "cut".toList := by rw [fr_chars, String.toList_ofList]; kernel_rfl
theorem fr_door : Try.checked.prog.doorRows = [] := by kernel_rfl
theorem enter_of (P : Program) (h3 : (behindMainWord (wordsSigns P.initOrder.toList)).head? = some "cut".toList) (h2 : P.laysLater = false) (h4 : P.bearsReflect = false) (h6 : P.doorFits [] = true) : P.mayEnter = true := by
  unfold Program.mayEnter
  generalize behindMainWord (wordsSigns P.initOrder.toList) = l at h3
  cases l with
  | nil => cases h3
  | cons c rest =>
    simp only [List.head?_cons, Option.some.injEq] at h3
    subst h3
    have e : stripLifts liftWords ("cut".toList :: rest) = ([], "cut".toList :: rest) := by rfl
    simp only [e, h2, h4, h6]
    rfl
theorem lifts_of (P : Program) (h3 : (behindMainWord (wordsSigns P.initOrder.toList)).head? = some "cut".toList) : P.liftsFinal = false := by
  unfold Program.liftsFinal Program.headLifts
  generalize behindMainWord (wordsSigns P.initOrder.toList) = l at h3
  cases l with
  | nil => cases h3
  | cons c rest =>
    simp only [List.head?_cons, Option.some.injEq] at h3
    subst h3
    have e : stripLifts liftWords ("cut".toList :: rest) = ([], "cut".toList :: rest) := by rfl
    simp only [e]
    rfl
theorem make_of (P : Program) (h3 : (behindMainWord (wordsSigns P.initOrder.toList)).head? = some "cut".toList) : P.make = some .cut := by
  unfold Program.make
  generalize behindMainWord (wordsSigns P.initOrder.toList) = l at h3
  cases l with
  | nil => cases h3
  | cons c rest =>
    simp only [List.head?_cons, Option.some.injEq] at h3
    subst h3
    rfl
theorem fr_enter : Try.checked.prog.mayEnter = true := enter_of _ fr_head (by kernel_rfl) (by kernel_rfl) (by unfold Program.doorFits; rw [fr_door]; kernel_rfl)
theorem fr_lifts : Try.checked.prog.liftsFinal = Rows.roundsNextsRow.lifted := lifts_of _ fr_head
theorem fr_make : Try.checked.prog.make = some Rows.roundsNextsRow.make := make_of _ fr_head
end Go.Proofs.Yteefemiieidpaaa
