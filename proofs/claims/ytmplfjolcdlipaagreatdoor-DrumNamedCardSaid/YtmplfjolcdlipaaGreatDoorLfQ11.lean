/- DrumMore: the contract of the statement's function. -/
import Derived.Test.YtmplfjolcdlipaaGreatDoorLcQ11
import Derived.Test.YtmplfjolcdlipaaGreatDoorLbQ11
import Derived.Test.YtmplfjolcdlipaaGreatDoorXQ11
set_option linter.unusedVariables false
set_option linter.unusedSimpArgs false
namespace Go.Abs
open Go.Proofs
set_option linter.unusedVariables false
set_option linter.unusedSimpArgs false
set_option maxRecDepth 100000
end Go.Abs
