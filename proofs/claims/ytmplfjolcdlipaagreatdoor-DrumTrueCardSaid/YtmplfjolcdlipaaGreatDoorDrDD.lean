/- The smooth hour, the thin hour, and all batches after some hours, as the reference has them. -/
import Derived.Test.YtmplfjolcdlipaaGreatDoorDrDC
import Derived.Test.YtmplfjolcdlipaaGreatDoorX
set_option linter.unusedVariables false
set_option linter.unusedSimpArgs false
namespace Go.Abs
open Go.Proofs
set_option linter.unusedVariables false
set_option linter.unusedSimpArgs false
set_option maxRecDepth 100000
end Go.Abs
