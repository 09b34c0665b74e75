/- DrumMore: the contract of the statement's function. -/
import Derived.Test.YtmplfjolcdlipaaGreatDoorLcQ13
import Derived.Test.YtmplfjolcdlipaaGreatDoorLbQ13
import Derived.Test.YtmplfjolcdlipaaGreatDoorXQ13
set_option linter.unusedVariables false
set_option linter.unusedSimpArgs false
namespace Go.Abs
open Go.Proofs
set_option linter.unusedVariables false
set_option linter.unusedSimpArgs false
set_option maxRecDepth 100000
end Go.Abs
