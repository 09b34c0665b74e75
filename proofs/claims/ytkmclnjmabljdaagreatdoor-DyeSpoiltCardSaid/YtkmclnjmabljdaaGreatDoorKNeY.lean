/- DyeRipes. -/
import Derived.Test.YtkmclnjmabljdaaGreatDoorKNeX
import Derived.Test.YtkmclnjmabljdaaGreatDoorKNeW
set_option linter.unusedVariables false
set_option linter.unusedSimpArgs false
namespace Go.Abs
open Go.Proofs
set_option linter.unusedVariables false
set_option linter.unusedSimpArgs false
set_option maxRecDepth 100000
end Go.Abs
