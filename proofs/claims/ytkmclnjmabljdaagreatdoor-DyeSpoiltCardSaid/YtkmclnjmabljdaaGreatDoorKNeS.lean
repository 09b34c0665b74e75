/- The reference: all lists, hours and takes that count. -/
import Derived.Test.YtkmclnjmabljdaaGreatDoorKNeQ
import Derived.Test.YtkmclnjmabljdaaGreatDoorKNeA
import Derived.Test.YtkmclnjmabljdaaGreatDoorKNdF
import Derived.Test.YtkmclnjmabljdaaGreatDoorKNcG
set_option linter.unusedVariables false
set_option linter.unusedSimpArgs false
namespace Go.Abs
open Go.Proofs
set_option linter.unusedVariables false
set_option linter.unusedSimpArgs false
set_option maxRecDepth 100000
end Go.Abs
