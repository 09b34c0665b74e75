/- Which truths fit, as the reference has it. -/
import Derived.Test.YtmplfjolcdlipaaGreatDoorDrBL
import Derived.Test.YtmplfjolcdlipaaGreatDoorDrC
import Derived.Test.YtmplfjolcdlipaaGreatDoorX
set_option linter.unusedVariables false
set_option linter.unusedSimpArgs false
namespace Go.Abs
open Go.Proofs
set_option linter.unusedVariables false
set_option linter.unusedSimpArgs false
set_option maxRecDepth 100000
theorem f63 (d : Drum) (acid : Int) (t : List Int) (hd : d.acids.length ≤ 1000) (ht : t.length ≤ 1000) : ACalls Tryz.prog 63 [eDrum d, eTruth acid t] (fun r => r = .pv (.bool (sizedB d acid t))) := by
  have k := f103 acid 0 (d.acids.length - 1)
  refine ACalls.of_body hT Tryz.func63 rfl (by kernel_rfl) rfl ?_
  (repeat' (first | refine stq ?_ | (refine AL_do2 rfl ?_; first | refine ⟨_, op_call1 rfl rfl rfl rfl (k), nrmA rfl ?_⟩) | (with_reducible refine AL_id ?_); (fail_if_success (refine AL_glit rfl rfl rfl (by first | exact .inl (by with_reducible rfl) | exact .inr (by with_reducible rfl)) ?_)); first | refine AL_gdec rfl rfl rfl (fun hg => ?_) (fun hg => ?_) | refine AL_gnot rfl rfl rfl (fun hg => ?_) (fun hg => ?_) | refine AL_gcases rfl rfl rfl (fun hg => ?_) (fun hg => ?_)))
  all_goals exact ⟨_, _, rfl, rfl, by simp_all [sizedB]; try omega⟩
end Go.Abs
