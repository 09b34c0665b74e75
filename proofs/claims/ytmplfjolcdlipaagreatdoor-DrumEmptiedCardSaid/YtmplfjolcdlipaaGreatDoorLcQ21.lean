/- DrumSure: small contracts. -/
import Derived.Test.YtmplfjolcdlipaaGreatDoorLbQ21
import Derived.Test.YtmplfjolcdlipaaGreatDoorXQ21
import Derived.Test.YtmplfjolcdlipaaGreatDoorDrH
set_option linter.unusedVariables false
set_option linter.unusedSimpArgs false
namespace Go.Abs
open Go.Proofs
set_option linter.unusedVariables false
set_option linter.unusedSimpArgs false
set_option maxRecDepth 100000
theorem err_fits {d : Drum} {acid : Int} {t : List Int} (q : drumB d = true) (hz : sizedB d acid t = true) (hq : fitsB d acid t = true) : errE d true = 0 := by
  obtain ⟨hm, _, _⟩ := fits_mem (drumP_of.1 q) hz hq
  rcases err_cases q with ⟨hn, _⟩ | ⟨_, he⟩
  · rw [hn] at hm; simp at hm
  · exact he
end Go.Abs
namespace Go.Abs
open Go.Proofs
set_option linter.unusedVariables false
set_option linter.unusedSimpArgs false
set_option maxRecDepth 100000
theorem f55c {d : Drum} (hd : drumOK d) (he : errE d true = 0) (b : Bool) (ho : openS (allW d) = b) : ACalls Tryz.prog 55 [eDrum d] (fun r => r = .tup [if b then eS (allW d) else eS ⟨0, 0⟩, vi (if b then 0 else 5)]) := by
  have k := f55 d hd
  rw [windowE, if_pos he, ho] at k
  cases b <;> exact k
theorem f55y {d : Drum} (hd : drumOK d) (he : errE d true = 0) (ho : openS (allW d) = true) : ACalls Tryz.prog 55 [eDrum d] (fun r => r = .tup [eS (allW d), vi 0]) := f55c hd he true ho
theorem f55n {d : Drum} (hd : drumOK d) (he : errE d true = 0) (ho : openS (allW d) = false) : ACalls Tryz.prog 55 [eDrum d] (fun r => r = .tup [eS ⟨0, 0⟩, vi 5]) := f55c hd he false ho
theorem all_take1 {α : Type} {l : List α} {p : α → Bool} {k : Nat} {x : α} (h : l[k]? = some x) : (l.take (k + 1)).all p = ((l.take k).all p && p x) := by
  rw [List.take_add_one, h, List.all_append]; simp
end Go.Abs
