/- The strengths of the hours, as the reference has them. -/
import Derived.Test.YtmplfjolcdlipaaGreatDoorDrBL
import Derived.Test.YtmplfjolcdlipaaGreatDoorDrG
import Derived.Test.YtmplfjolcdlipaaGreatDoorX
set_option linter.unusedVariables false
set_option linter.unusedSimpArgs false
namespace Go.Abs
open Go.Proofs
set_option linter.unusedVariables false
set_option linter.unusedSimpArgs false
set_option maxRecDepth 100000
def hK (d : Drum) (k i : Nat) : Span := hullL ((hourL d i).take k)
end Go.Abs
