/- The strengths of the hours, as the reference has them. -/
import Derived.Test.YtmplfjolcdlipaaGreatDoorJDrBL
import Derived.Test.YtmplfjolcdlipaaGreatDoorJDrG
import Derived.Test.YtmplfjolcdlipaaGreatDoorJDrF
import Derived.Test.YtmplfjolcdlipaaGreatDoorJDrC
set_option linter.unusedVariables false
set_option linter.unusedSimpArgs false
namespace Go.Abs
open Go.Proofs
set_option linter.unusedVariables false
set_option linter.unusedSimpArgs false
set_option maxRecDepth 100000
def hK (d : Drum) (k i : Nat) : Span := hullL ((hourL d i).take k)
end Go.Abs
namespace Go.Abs
open Go.Proofs
set_option linter.unusedVariables false
set_option linter.unusedSimpArgs false
set_option maxRecDepth 100000
end Go.Abs
namespace Go.Abs
open Go.Proofs
set_option linter.unusedVariables false
set_option linter.unusedSimpArgs false
set_option maxRecDepth 100000
theorem f23' (d : Drum) : ACalls Tryz.prog 23 [eDrum d] (fun r => r = .pv (.bool (shortB d))):= by
 refine ACalls.of_body hT Tryz.func23 rfl (by kernel_rfl) rfl ?_
 (repeat' (first | refine stq ?_ | (with_reducible refine AL_id ?_); (fail_if_success (refine AL_glit rfl rfl rfl (by first | exact .inl (by with_reducible rfl) | exact .inr (by with_reducible rfl)) ?_)); first | refine AL_gdec rfl rfl rfl (fun hg => ?_) (fun hg => ?_) | refine AL_gnot rfl rfl rfl (fun hg => ?_) (fun hg => ?_) | refine AL_gcases rfl rfl rfl (fun hg => ?_) (fun hg => ?_)))
 all_goals exact ⟨_,_,rfl,rfl,congrArg (fun b => RV.pv (PV.bool b)) (by unfold shortB; rw [Bool.eq_iff_iff]; simp only [Bool.and_eq_true,decide_eq_true_eq,Bool.false_eq_true,false_iff]; omega)⟩
theorem short_ok {d : Drum} (h : shortB d = true) : drumOK d:= by
 simp only [shortB,Bool.and_eq_true,decide_eq_true_eq] at h
 exact ⟨by omega,by omega,by omega,by omega⟩
theorem spans_same (l : List Span) (h : l.length <= 1000) : ACalls Tryz.prog 28 [eSpans l,eSpans l] (fun r => r = .pv (.bool true)) := same_of (f28 l l h) rfl
end Go.Abs
namespace Go.Abs
open Go.Proofs
set_option linter.unusedVariables false
set_option linter.unusedSimpArgs false
set_option maxRecDepth 100000
end Go.Abs
namespace Go.Abs
open Go.Proofs
set_option linter.unusedVariables false
set_option linter.unusedSimpArgs false
set_option maxRecDepth 100000
theorem ints_same (l : List Int) (h : l.length <= 1000) : ACalls Tryz.prog 52 [eInts l,eInts l] (fun r => r = .pv (.bool true)):= by
 have k := f52 l l h
 rw [decide_eq_true rfl] at k
 exact k
end Go.Abs
