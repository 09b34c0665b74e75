/- DrumRuns: the contract of the statement's function. -/
import Derived.Test.YtmplfjolcdlipaaGreatDoorLaQ14
import Derived.Test.YtmplfjolcdlipaaGreatDoorXQ14
import Derived.Test.YtmplfjolcdlipaaGreatDoorDrB
import Derived.Test.YtmplfjolcdlipaaGreatDoorNcG
set_option linter.unusedVariables false
set_option linter.unusedSimpArgs false
namespace Go.Abs
open Go.Proofs
set_option linter.unusedVariables false
set_option linter.unusedSimpArgs false
set_option maxRecDepth 100000
end Go.Abs
namespace Go.Abs
open Go.Proofs
set_option linter.unusedVariables false
set_option linter.unusedSimpArgs false
set_option maxRecDepth 100000
theorem err_cases {d : Drum} (h : drumB d = true) : (filledL d = [] ∧ errE d true = 7) ∨ (filledL d ≠ [] ∧ errE d true = 0) := by
  unfold errE askedE
  rw [h, Bool.and_true, if_pos rfl]
  by_cases h0 : (filledL d).length = 0
  · rw [if_pos h0]; exact .inl ⟨List.length_eq_zero_iff.1 h0, rfl⟩
  · rw [if_neg h0]; exact .inr ⟨fun e => h0 (by rw [e]; rfl), rfl⟩
end Go.Abs
namespace Go.Abs
open Go.Proofs
set_option linter.unusedVariables false
set_option linter.unusedSimpArgs false
set_option maxRecDepth 100000
end Go.Abs
namespace Go.Abs
open Go.Proofs
set_option linter.unusedVariables false
set_option linter.unusedSimpArgs false
set_option maxRecDepth 100000
end Go.Abs
namespace Go.Abs
open Go.Proofs
set_option linter.unusedVariables false
set_option linter.unusedSimpArgs false
set_option maxRecDepth 100000
end Go.Abs
