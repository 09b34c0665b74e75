/- DrumRuns: the contract of the statement's function. -/
import Derived.Test.YtmplfjolcdlipaaGreatDoorLaQ11
import Derived.Test.YtmplfjolcdlipaaGreatDoorXQ11
import Derived.Test.YtmplfjolcdlipaaGreatDoorDrB
import Derived.Test.YtmplfjolcdlipaaGreatDoorNcG
set_option linter.unusedVariables false
set_option linter.unusedSimpArgs false
namespace Go.Abs
open Go.Proofs
set_option linter.unusedVariables false
set_option linter.unusedSimpArgs false
set_option maxRecDepth 100000
end Go.Abs
namespace Go.Abs
open Go.Proofs
set_option linter.unusedVariables false
set_option linter.unusedSimpArgs false
set_option maxRecDepth 100000
theorem err_cases {d : Drum} (h : drumB d = true) : (filledL d = [] ∧ errE d true = 7) ∨ (filledL d ≠ [] ∧ errE d true = 0) := by
  unfold errE askedE
  rw [h, Bool.and_true, if_pos rfl]
  by_cases h0 : (filledL d).length = 0
  · rw [if_pos h0]; exact .inl ⟨List.length_eq_zero_iff.1 h0, rfl⟩
  · rw [if_neg h0]; exact .inr ⟨fun e => h0 (by rw [e]; rfl), rfl⟩
end Go.Abs
namespace Go.Abs
open Go.Proofs
set_option linter.unusedVariables false
set_option linter.unusedSimpArgs false
set_option maxRecDepth 100000
end Go.Abs
namespace Go.Abs
open Go.Proofs
set_option linter.unusedVariables false
set_option linter.unusedSimpArgs false
set_option maxRecDepth 100000
theorem f67 (l : List Int) (x : Int) (hl : l.length ≤ 1000) : ACalls Tryz.prog 67 [eInts l, vi x] (fun r => r = .pv (.bool (decide (x ∈ l)))) := by
  refine ACalls.of_body hT Tryz.func67 rfl (by kernel_rfl) rfl ?_
  (repeat (refine stq ?_))
  refine AW_loopC (fun k : Nat => k ≤ l.length ∧ ∀ j y, j < k → l[j]? = some y → y ≠ x) (fun k => mkSt [(0, .pv (eInts l)), (1, .pv (vi x)), (5, .pv (vi k))] [] 0) (fun k => l.length - k) 0 ⟨Nat.zero_le _, fun j y h => by omega⟩ ?_ ?_
  · (refine Le.mk ?_ ?_; all_goals (repeat' (first | exact trivial | refine sle ?_ | refine ⟨?_, rfl, ?_⟩ | refine ⟨?_, by decide, rfl, ?_⟩ | fail)))
  · rintro k ⟨hk, hall⟩
    (repeat (refine stq ?_))
    refine AW_if rfl (fun hc => ?_) (fun hc => ?_)
    · have hk' : k < l.length := by omega
      obtain ⟨y, hy⟩ : ∃ y, l[k]? = some y := ⟨l[k], by simp [hk']⟩
      have e1 := get_map eInt hy
      (repeat (refine stq ?_))
      refine AW_if rfl (fun hc2 => ?_) (fun hc2 => ?_)
      · (repeat (refine stq ?_))
        exact ⟨_, _, rfl, rfl, by rw [decide_eq_true (hc2 ▸ List.mem_of_getElem? hy)]⟩
      · (repeat (refine stq ?_))
        refine ⟨k + 1, ⟨hk', fun j z hj hz => ?_⟩, by omega, ?_⟩
        · by_cases hjk : j = k
          · rw [hjk, hy] at hz; cases hz; exact hc2
          · exact hall j z (by omega) hz
        · (refine Le.mk ?_ ?_; all_goals (repeat' (first | exact trivial | refine sle ?_ | refine ⟨?_, rfl, ?_⟩ | refine ⟨?_, by decide, rfl, ?_⟩ | fail)))
    · have hk' : k = l.length := by omega
      (repeat (refine stq ?_))
      exact ⟨_, _, rfl, rfl, by
        rw [decide_eq_false fun h => ?_]
        obtain ⟨j, hj⟩ := List.mem_iff_getElem?.1 h
        exact hall j x (by have := (List.getElem?_eq_some_iff.1 hj).1; omega) hj rfl⟩
end Go.Abs
namespace Go.Abs
open Go.Proofs
set_option linter.unusedVariables false
set_option linter.unusedSimpArgs false
set_option maxRecDepth 100000
end Go.Abs
