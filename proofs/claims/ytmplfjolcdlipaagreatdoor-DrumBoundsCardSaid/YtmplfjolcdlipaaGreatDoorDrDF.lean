/- DrumRuns: the contract of the statement's function. -/
import Derived.Test.YtmplfjolcdlipaaGreatDoorDrDD
import Derived.Test.YtmplfjolcdlipaaGreatDoorDrDB
import Derived.Test.YtmplfjolcdlipaaGreatDoorX
set_option linter.unusedVariables false
set_option linter.unusedSimpArgs false
namespace Go.Abs
open Go.Proofs
set_option linter.unusedVariables false
set_option linter.unusedSimpArgs false
set_option maxRecDepth 100000
theorem f70n {d : Drum} {acid : Int} {t : List Int} {hours : Int} (hd : drumOK d) (ht : t.length ≤ 1000) (h : runOK d acid t hours = false) : ACalls Tryz.prog 70 [eDrum d, eTruth acid t, vi hours] (fun r => r = .tup [eStates [], vi 2]) := by
  have k := f70 d acid t hours hd ht
  rw [runE, h] at k
  exact k
theorem f70y {d : Drum} {acid : Int} {t : List Int} {hours : Int} (hd : drumOK d) (ht : t.length ≤ 1000) (h : runOK d acid t hours = true) : ACalls Tryz.prog 70 [eDrum d, eTruth acid t, vi hours] (fun r => r = .tup [eStates (d.batches.map fun b => stateI b t hours.toNat), vi 0]) := by
  have k := f70 d acid t hours hd ht
  rw [runE, if_pos h] at k
  exact k
theorem f71n {d : Drum} {hours : Int} (hd : drumOK d) (h : errE d (inB hours 0 d.hours) ≠ 0) : ACalls Tryz.prog 71 [eDrum d, vi hours] (fun r => r = .tup [eBoundsL [], vi (errE d (inB hours 0 d.hours))]) := by
  have k := f71 d hours hd
  rw [knownE, if_neg h] at k
  exact k
theorem f71y {d : Drum} {hours : Int} (hd : drumOK d) (h : errE d (inB hours 0 d.hours) = 0) : ACalls Tryz.prog 71 [eDrum d, vi hours] (fun r => r = .tup [eBoundsL (d.batches.map fun b => boundsI d b hours.toNat), vi 0]) := by
  have k := f71 d hours hd
  rw [knownE, if_pos h] at k
  exact k
end Go.Abs
