/- DrumSure: small contracts. -/
import Derived.Test.YtmplfjolcdlipaaGreatDoorLbQ9
import Derived.Test.YtmplfjolcdlipaaGreatDoorXQ9
import Derived.Test.YtmplfjolcdlipaaGreatDoorDrH
set_option linter.unusedVariables false
set_option linter.unusedSimpArgs false
namespace Go.Abs
open Go.Proofs
set_option linter.unusedVariables false
set_option linter.unusedSimpArgs false
set_option maxRecDepth 100000
end Go.Abs
namespace Go.Abs
open Go.Proofs
set_option linter.unusedVariables false
set_option linter.unusedSimpArgs false
set_option maxRecDepth 100000
end Go.Abs
