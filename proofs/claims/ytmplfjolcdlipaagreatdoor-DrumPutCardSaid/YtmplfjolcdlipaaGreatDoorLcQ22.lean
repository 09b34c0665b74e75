/- DrumSure: the contract of the statement's function. -/
import Derived.Test.YtmplfjolcdlipaaGreatDoorLbQ22
import Derived.Test.YtmplfjolcdlipaaGreatDoorNcAbsSLQ22
import Derived.Test.YtmplfjolcdlipaaGreatDoorXQ22
import Derived.Test.YtmplfjolcdlipaaGreatDoorDrH
set_option linter.unusedVariables false
set_option linter.unusedSimpArgs false
namespace Go.Abs
open Go.Proofs
set_option linter.unusedVariables false
set_option linter.unusedSimpArgs false
set_option maxRecDepth 100000
end Go.Abs
namespace Go.Abs
open Go.Proofs
set_option linter.unusedVariables false
set_option linter.unusedSimpArgs false
set_option maxRecDepth 100000
theorem f55c {d : Drum} (hd : drumOK d) (he : errE d true = 0) (b : Bool) (ho : openS (allW d) = b) : ACalls Tryz.prog 55 [eDrum d] (fun r => r = .tup [if b then eS (allW d) else eS ⟨0, 0⟩, vi (if b then 0 else 5)]) := by
  have k := f55 d hd
  rw [windowE, if_pos he, ho] at k
  cases b <;> exact k
theorem f55y {d : Drum} (hd : drumOK d) (he : errE d true = 0) (ho : openS (allW d) = true) : ACalls Tryz.prog 55 [eDrum d] (fun r => r = .tup [eS (allW d), vi 0]) := f55c hd he true ho
theorem f55n {d : Drum} (hd : drumOK d) (he : errE d true = 0) (ho : openS (allW d) = false) : ACalls Tryz.prog 55 [eDrum d] (fun r => r = .tup [eS ⟨0, 0⟩, vi 5]) := f55c hd he false ho
theorem f55e {d : Drum} (hd : drumOK d) (he : errE d true ≠ 0) : ACalls Tryz.prog 55 [eDrum d] (fun r => r = .tup [eS ⟨0, 0⟩, vi (errE d true)]) := by
  have k := f55 d hd
  rw [windowE, if_neg he] at k
  exact k
end Go.Abs
