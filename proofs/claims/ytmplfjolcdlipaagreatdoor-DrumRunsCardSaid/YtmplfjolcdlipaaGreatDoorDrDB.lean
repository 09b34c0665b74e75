/- DrumCoulds: the contract of the statement's function. -/
import Derived.Test.YtmplfjolcdlipaaGreatDoorDrDA
import Derived.Test.YtmplfjolcdlipaaGreatDoorDrCA
import Derived.Test.YtmplfjolcdlipaaGreatDoorX
set_option linter.unusedVariables false
set_option linter.unusedSimpArgs false
namespace Go.Abs
open Go.Proofs
set_option linter.unusedVariables false
set_option linter.unusedSimpArgs false
set_option maxRecDepth 100000
theorem f72' {d : Drum} {acid : Int} {t : List Int} (hP : DrumP d) (h : sizedB d acid t = true) : ACalls Tryz.prog 72 [eDrum d, eTruth acid t] (fun r => r = .pv (.bool (fitsB d acid t))) := by
  obtain ⟨h0, h1, h2⟩ := sized_of h
  exact f72 d _ acid t hP h0 h1 h2
end Go.Abs
