/- DrumMore: the contract of the statement's function. -/
import Derived.Test.YtmplfjolcdlipaaGreatDoorLcQ14
import Derived.Test.YtmplfjolcdlipaaGreatDoorLbQ14
import Derived.Test.YtmplfjolcdlipaaGreatDoorXQ14
set_option linter.unusedVariables false
set_option linter.unusedSimpArgs false
namespace Go.Abs
open Go.Proofs
set_option linter.unusedVariables false
set_option linter.unusedSimpArgs false
set_option maxRecDepth 100000
end Go.Abs
