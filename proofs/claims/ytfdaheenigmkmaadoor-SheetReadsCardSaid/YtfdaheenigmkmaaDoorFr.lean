/- What the frames of all statements of this seat ask of the program alone. -/
import Derived.Test.YtfdaheenigmkmaaDoorRows
import Derived.JoinedOf
namespace Go.Proofs.YtfdaheenigmkmaaDoor
set_option linter.unusedVariables false
set_option linter.unusedSimpArgs false
theorem and_mk {a b : Bool} (ha : a = true) (hb : b = true) : (a && b) = true := by rw [ha, hb]; rfl
theorem fr_laid : laidOutB Tryd.checked.prog = true := by kernel_rfl
theorem fr_maps : mapsRowed Tryd.checked.prog = true := by kernel_rfl
theorem fr_stops : (Tryd.checked.prog.stops == []) = true := by kernel_rfl
theorem fr_knobs : (Tryd.checked.prog.stopKnobs == []) = true := by kernel_rfl
theorem fr_keys : Tryd.checked.prog.plainKeys = Rows.playReadsRow.plainKeys := by kernel_rfl
theorem fr_heard : Tryd.checked.prog.stopsHeard = true := by kernel_rfl
theorem fr_enter : Tryd.checked.prog.mayEnter = true := by kernel_rfl
theorem fr_lifts : Tryd.checked.prog.liftsFinal = Rows.playReadsRow.lifted := by kernel_rfl
theorem fr_make : Tryd.checked.prog.make = some Rows.playReadsRow.make := by kernel_rfl
end Go.Proofs.YtfdaheenigmkmaaDoor
