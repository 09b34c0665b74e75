/- DrumCoulds: the contract of the statement's function. -/
import Derived.Test.YtmplfjolcdlipaaGreatDoorDrDA
import Derived.Test.YtmplfjolcdlipaaGreatDoorDrCA
import Derived.Test.YtmplfjolcdlipaaGreatDoorX
set_option linter.unusedVariables false
set_option linter.unusedSimpArgs false
namespace Go.Abs
open Go.Proofs
set_option linter.unusedVariables false
set_option linter.unusedSimpArgs false
set_option maxRecDepth 100000
theorem f64y {d : Drum} {acid : Int} {t : List Int} (hd : drumOK d) (ht : t.length ≤ 1000) (h : (drumB d && sizedB d acid t) = true) : ACalls Tryz.prog 64 [eDrum d, eTruth acid t] (fun r => r = .tup [.bool (fitsB d acid t), vi 0]) := by
  have k := f64 d acid t hd ht
  rw [fitsE, if_pos h] at k
  exact k
theorem f65z {d : Drum} (hd : drumOK d) (h : drumB d = true) (h0 : (filledL d).length = 0) : ACalls Tryz.prog 65 [eDrum d] (fun r => r = .tup [eInts [], vi 7]) := by
  have k := f65 d hd
  rw [askedE, h, Bool.and_true, if_pos rfl, if_pos h0] at k
  exact k
theorem f65y {d : Drum} (hd : drumOK d) (h : drumB d = true) (h0 : (filledL d).length ≠ 0) : ACalls Tryz.prog 65 [eDrum d] (fun r => r = .tup [eInts (couldL d), vi 0]) := by
  have k := f65 d hd
  rw [askedE, h, Bool.and_true, if_pos rfl, if_neg h0] at k
  exact k
end Go.Abs
