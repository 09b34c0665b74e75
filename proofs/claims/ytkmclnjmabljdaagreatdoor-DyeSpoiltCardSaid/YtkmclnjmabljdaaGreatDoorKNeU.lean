/- The reference: all differences of two looks. -/
import Derived.Test.YtkmclnjmabljdaaGreatDoorKNeT
set_option linter.unusedVariables false
set_option linter.unusedSimpArgs false
namespace Go.Abs
open Go.Proofs
set_option linter.unusedVariables false
set_option linter.unusedSimpArgs false
set_option maxRecDepth 100000
end Go.Abs
