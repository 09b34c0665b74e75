/- A batch after some hours, in truth and between bounds, as the reference has it. -/
import Derived.Test.YtmplfjolcdlipaaGreatDoorDrBN
import Derived.Test.YtmplfjolcdlipaaGreatDoorDrG
import Derived.Test.YtmplfjolcdlipaaGreatDoorX
set_option linter.unusedVariables false
set_option linter.unusedSimpArgs false
namespace Go.Abs
open Go.Proofs
set_option linter.unusedVariables false
set_option linter.unusedSimpArgs false
set_option maxRecDepth 100000
def endI (high : Bool) (s : Span) : Int := if high then s.high else s.low
theorem f69 (l : List Span) (high : Bool) (hl : l.length ≤ 1000) : ACalls Tryz.prog 69 [eSpans l, .bool high] (fun r => r = .pv (eInts (endsL l high))) := by
  refine ACalls.of_body hT Tryz.func69 rfl (by kernel_rfl) rfl ?_
  (repeat (refine stq ?_))
  refine AW_own_nil (e := 3) (sz := 1) (t := 5) rfl rfl ?_
  (repeat (refine stq ?_))
  refine AW_loopC (fun k : Nat => k ≤ l.length) (fun k => mkSt [(0, .pv (eSpans l)), (1, .pv (.bool high)), (5, .arr 0), (6, .pv (vi k))] [(0, .arr 3 1 (((l.take k).map (endI high)).map eInt))] 1) (fun k => l.length - k) 0 (Nat.zero_le _) ?_ ?_
  · (refine Le.mk ?_ ?_; all_goals (repeat' (first | exact trivial | refine sle ?_ | refine ⟨?_, rfl, ?_⟩ | refine ⟨?_, by decide, rfl, ?_⟩ | fail)))
  · intro k hk
    (repeat (refine stq ?_))
    refine AW_if rfl (fun hc => ?_) (fun hc => ?_)
    · have hk' : k < l.length := by omega
      obtain ⟨x, hx⟩ : ∃ x, l[k]? = some x := ⟨l[k], by simp [hk']⟩
      have e1 := get_map eSpan hx
      have hsn : (l.take (k + 1)).map (endI high) = (l.take k).map (endI high) ++ [endI high x] := map_take_succ _ hx
      have htl : ((l.take k).map (endI high)).length ≤ 1000 := by simp; omega
      generalize (l.take k).map (endI high) = u at *
      cases high
      all_goals
        (repeat (refine stq ?_))
        refine ⟨k + 1, hk', by omega, ?_⟩
        rw [hsn]
        (refine Le.mkR [(0, 2)] ?_ ?_ rfl; all_goals (repeat' (first | exact trivial | refine sle ?_ | refine ⟨?_, rfl, ?_⟩ | refine ⟨?_, by decide, rfl, ?_⟩ | fail)))
        rw [List.map_append]; rfl
    · have hk' : k = l.length := by omega
      subst hk'
      rw [List.take_length]
      refine AW_pure (t := 5) rfl rfl ?_
      (repeat (refine stq ?_))
      exact ⟨_, _, rfl, rfl, rfl⟩
end Go.Abs
