/- Closed facts of the program, for all rows. -/
import Derived.Test.YtkmclnjmabljdaaGreatDoorKNfA
import Derived.SevenTiedAt
set_option linter.unusedVariables false
set_option linter.unusedSimpArgs false
namespace Go.Abs
open Go.Proofs Go.RowKit Go.ChangeShapes Go.Proofs.YtkmclnjmabljdaaGreatDoor
set_option linter.unusedVariables false
set_option maxRecDepth 100000
theorem pf_mapsRowed : mapsRowed Tryz.prog = true := by kernel_rfl
theorem pf_stopsHeard : Tryz.prog.stopsHeard = true := by kernel_rfl
theorem pf_mayEnter : Tryz.prog.mayEnter = true := by kernel_rfl
theorem pf_lifted : (Rows.dyeKnownsRow.lifted == Tryz.prog.liftsFinal) = true := by kernel_rfl
theorem pf_make : (Tryz.prog.make == some Rows.dyeKnownsRow.make) = true := by kernel_rfl
theorem pf_plainKeys : (Rows.dyeKnownsRow.plainKeys == Tryz.prog.plainKeys) = true := by kernel_rfl
theorem pf_stops : (Tryz.prog.stops == []) = true := by kernel_rfl
theorem pf_knobs : (Tryz.prog.stopKnobs == []) = true := by kernel_rfl
theorem pf_main : Tryz.prog.mainIs = some (true, "2d786f4c48be527342a5a148c4ad2cb82cdd4fa7b6be3b273fbea74be73c3c94".toList) := by kernel_rfl
theorem pf_looks : true = Tryz.prog.looks [] := by kernel_rfl
end Go.Abs
