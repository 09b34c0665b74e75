/- Closed facts of the program, for all rows. -/
import Derived.Test.YtmplfjolcdlipaaGreatDoorJFA
import Derived.SevenTiedAt
set_option linter.unusedVariables false
set_option linter.unusedSimpArgs false
namespace Go.Abs
open Go.Proofs Go.RowKit Go.ChangeShapes Go.Proofs.YtmplfjolcdlipaaGreatDoor
set_option linter.unusedVariables false
set_option maxRecDepth 100000
theorem pf_mapsRowed : mapsRowed Tryz.prog = true := by kernel_rfl
theorem pf_stopsHeard : Tryz.prog.stopsHeard = true := by kernel_rfl
theorem pf_mayEnter : Tryz.prog.mayEnter = true := by kernel_rfl
theorem pf_lifted : (Rows.drumStrengthsRow.lifted == Tryz.prog.liftsFinal) = true := by kernel_rfl
theorem pf_make : (Tryz.prog.make == some Rows.drumStrengthsRow.make) = true := by kernel_rfl
theorem pf_plainKeys : (Rows.drumStrengthsRow.plainKeys == Tryz.prog.plainKeys) = true := by kernel_rfl
theorem pf_stops : (Tryz.prog.stops == []) = true := by kernel_rfl
theorem pf_knobs : (Tryz.prog.stopKnobs == []) = true := by kernel_rfl
theorem pf_main : Tryz.prog.mainIs = some (true, "762f071884d5ced12558a666d0624c047b32b12b6407ccf63fd9aae0ad2441ae".toList) := by kernel_rfl
theorem pf_looks : true = Tryz.prog.looks [] := by kernel_rfl
end Go.Abs
