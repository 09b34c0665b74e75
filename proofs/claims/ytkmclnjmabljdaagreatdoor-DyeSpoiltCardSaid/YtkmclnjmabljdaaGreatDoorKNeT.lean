/- The reference: the differences that a dye can make; all differences. -/
import Derived.Test.YtkmclnjmabljdaaGreatDoorKNeS
import Derived.Test.YtkmclnjmabljdaaGreatDoorKNdF
set_option linter.unusedVariables false
set_option linter.unusedSimpArgs false
namespace Go.Abs
open Go.Proofs
set_option linter.unusedVariables false
set_option linter.unusedSimpArgs false
set_option maxRecDepth 100000
end Go.Abs
