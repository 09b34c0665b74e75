/- DrumStrengths: the contract of the statement's function. -/
import Derived.Test.YtmplfjolcdlipaaGreatDoorDrBN
set_option linter.unusedVariables false
set_option linter.unusedSimpArgs false
namespace Go.Abs
open Go.Proofs
set_option linter.unusedVariables false
set_option linter.unusedSimpArgs false
set_option maxRecDepth 100000
theorem f23' (d : Drum) : ACalls Tryz.prog 23 [eDrum d] (fun r => r = .pv (.bool (shortB d))) := by
  refine ACalls.of_body hT Tryz.func23 rfl (by kernel_rfl) rfl ?_
  (repeat' (first | refine stq ?_ | (with_reducible refine AL_id ?_); (fail_if_success (refine AL_glit rfl rfl rfl (by first | exact .inl (by with_reducible rfl) | exact .inr (by with_reducible rfl)) ?_)); first | refine AL_gdec rfl rfl rfl (fun hg => ?_) (fun hg => ?_) | refine AL_gnot rfl rfl rfl (fun hg => ?_) (fun hg => ?_) | refine AL_gcases rfl rfl rfl (fun hg => ?_) (fun hg => ?_)))
  all_goals exact ⟨_, _, rfl, rfl, congrArg (fun b => RV.pv (PV.bool b)) (by unfold shortB; rw [Bool.eq_iff_iff]; simp only [Bool.and_eq_true, decide_eq_true_eq, Bool.false_eq_true, false_iff]; omega)⟩
theorem short_ok {d : Drum} (h : shortB d = true) : drumOK d := by
  simp only [shortB, Bool.and_eq_true, decide_eq_true_eq] at h
  exact ⟨by omega, by omega, by omega, by omega⟩
theorem err_false {d : Drum} : errE d false = 2 := by unfold errE askedE; simp
theorem err_fine {d : Drum} {b : Bool} (h : errE d true ≠ 0) : errE d b ≠ 0 := by
  cases b with
  | true => exact h
  | false => rw [err_false]; decide
theorem spans_same (l : List Span) (h : l.length ≤ 1000) : ACalls Tryz.prog 28 [eSpans l, eSpans l] (fun r => r = .pv (.bool true)) := same_of (f28 l l h) rfl
set_option maxHeartbeats 8000000 in
theorem f3 (d : Drum) (off : Int) : ACalls Tryz.prog 3 [eDrum d, vi off] (fun r => r = .pv (.bool true)) := by
  have k23 := f23' d
  cases hs : shortB d with
  | false =>
    rw [hs] at k23
    refine ACalls.of_body hT Tryz.func3 rfl (by kernel_rfl) rfl ?_
    (repeat' (first | refine stq ?_ | (refine AL_do2 rfl ?_; first | refine ⟨_, op_call1 rfl rfl rfl rfl (k23), nrmA rfl ?_⟩ | refine ⟨_, op_call1 rfl rfl rfl rfl (f24), nrmA rfl ?_⟩) | (with_reducible refine AL_id ?_); (fail_if_success (refine AL_glit rfl rfl rfl (by first | exact .inl (by with_reducible rfl) | exact .inr (by with_reducible rfl)) ?_)); first | refine AL_gdec rfl rfl rfl (fun hg => ?_) (fun hg => ?_) | refine AL_gnot rfl rfl rfl (fun hg => ?_) (fun hg => ?_) | refine AL_gcases rfl rfl rfl (fun hg => ?_) (fun hg => ?_)))
    exact ⟨_, _, rfl, rfl, rfl⟩
  | true =>
    rw [hs] at k23
    have hd := short_ok hs
    have k25 := f25 d hd
    have k26 := f26 d off hd
    have k27 := f27 d true hd
    by_cases he : errE d true = 0
    · obtain ⟨hP, _, hne, _⟩ := asked_ok he
      have k29 := f29 d hP hne
      have kss := spans_same (strengthL d) (by simp [strengthL]; have := hP.h1; omega)
      rw [strengthE, if_pos he] at k25
      rw [he] at k27
      by_cases hf : 0 ≤ off ∧ off ≤ 50
      · have hin : inB off 0 50 = true := by simp [inB, hf]
        have k30 := f30 d hP off hf
        rw [tellsE, hin, if_pos he] at k26
        refine ACalls.of_body hT Tryz.func3 rfl (by kernel_rfl) rfl ?_
        by_cases hn : tellsI d off < 0
        · rw [if_pos hn] at k26
          have k26 : ACalls Tryz.prog 26 [eDrum d, vi off] (fun r => r = .tup [vi 0, vi 5]) := k26
          generalize tellsI d off = x at *
          (repeat' (first | refine stq ?_ | (refine AL_do2 rfl ?_; first | refine ⟨_, op_call1 rfl rfl rfl rfl (k23), nrmA rfl ?_⟩ | refine ⟨_, op_call1 rfl rfl rfl rfl (f24), nrmA rfl ?_⟩ | refine ⟨_, op_call1 rfl rfl rfl rfl (k25), nrmA rfl ?_⟩ | refine ⟨_, op_call1 rfl rfl rfl rfl (k26), nrmA rfl ?_⟩ | refine ⟨_, op_call1 rfl rfl rfl rfl (k27), nrmA rfl ?_⟩ | refine ⟨_, op_call1 rfl rfl rfl rfl (k29), nrmA rfl ?_⟩ | refine ⟨_, op_call1 rfl rfl rfl rfl (kss), nrmA rfl ?_⟩ | refine ⟨_, op_call1 rfl rfl rfl rfl (k30), nrmA rfl ?_⟩) | ((first | (with_reducible refine AL_id ?_); (fail_if_success (refine AL_glit rfl rfl rfl (by first | exact .inl (by with_reducible rfl) | exact .inr (by with_reducible rfl)) ?_)); first | refine AL_gdec rfl rfl rfl (fun hg => ?_) (fun hg => ?_) | refine AL_gnot rfl rfl rfl (fun hg => ?_) (fun hg => ?_) | refine AL_gcases rfl rfl rfl (fun hg => ?_) (fun hg => ?_)) <;> (try (exfalso; omega))) | refine AW_if rfl (fun hc => absurd hc (by omega)) (fun _ => ?_) | refine AW_if rfl (fun _ => ?_) (fun hc => absurd (by omega) hc)))
          all_goals (try rw [show decide (off ≤ 50) = true from decide_eq_true hf.2])
          all_goals (repeat' (first | refine stq ?_ | (refine AL_do2 rfl ?_; first | refine ⟨_, op_call1 rfl rfl rfl rfl (k23), nrmA rfl ?_⟩ | refine ⟨_, op_call1 rfl rfl rfl rfl (f24), nrmA rfl ?_⟩ | refine ⟨_, op_call1 rfl rfl rfl rfl (k25), nrmA rfl ?_⟩ | refine ⟨_, op_call1 rfl rfl rfl rfl (k26), nrmA rfl ?_⟩ | refine ⟨_, op_call1 rfl rfl rfl rfl (k27), nrmA rfl ?_⟩ | refine ⟨_, op_call1 rfl rfl rfl rfl (k29), nrmA rfl ?_⟩ | refine ⟨_, op_call1 rfl rfl rfl rfl (kss), nrmA rfl ?_⟩ | refine ⟨_, op_call1 rfl rfl rfl rfl (k30), nrmA rfl ?_⟩) | ((first | (with_reducible refine AL_id ?_); (fail_if_success (refine AL_glit rfl rfl rfl (by first | exact .inl (by with_reducible rfl) | exact .inr (by with_reducible rfl)) ?_)); first | refine AL_gdec rfl rfl rfl (fun hg => ?_) (fun hg => ?_) | refine AL_gnot rfl rfl rfl (fun hg => ?_) (fun hg => ?_) | refine AL_gcases rfl rfl rfl (fun hg => ?_) (fun hg => ?_)) <;> (try (exfalso; omega))) | refine AW_if rfl (fun hc => absurd hc (by omega)) (fun _ => ?_) | refine AW_if rfl (fun _ => ?_) (fun hc => absurd (by omega) hc)))
          all_goals first | exact ⟨_, _, rfl, rfl, rfl⟩ | (exfalso; omega)
        · rw [if_neg hn] at k26
          have k26 : ACalls Tryz.prog 26 [eDrum d, vi off] (fun r => r = .tup [vi (tellsI d off), vi 0]) := k26
          generalize tellsI d off = x at *
          (repeat' (first | refine stq ?_ | (refine AL_do2 rfl ?_; first | refine ⟨_, op_call1 rfl rfl rfl rfl (k23), nrmA rfl ?_⟩ | refine ⟨_, op_call1 rfl rfl rfl rfl (f24), nrmA rfl ?_⟩ | refine ⟨_, op_call1 rfl rfl rfl rfl (k25), nrmA rfl ?_⟩ | refine ⟨_, op_call1 rfl rfl rfl rfl (k26), nrmA rfl ?_⟩ | refine ⟨_, op_call1 rfl rfl rfl rfl (k27), nrmA rfl ?_⟩ | refine ⟨_, op_call1 rfl rfl rfl rfl (k29), nrmA rfl ?_⟩ | refine ⟨_, op_call1 rfl rfl rfl rfl (kss), nrmA rfl ?_⟩ | refine ⟨_, op_call1 rfl rfl rfl rfl (k30), nrmA rfl ?_⟩) | ((first | (with_reducible refine AL_id ?_); (fail_if_success (refine AL_glit rfl rfl rfl (by first | exact .inl (by with_reducible rfl) | exact .inr (by with_reducible rfl)) ?_)); first | refine AL_gdec rfl rfl rfl (fun hg => ?_) (fun hg => ?_) | refine AL_gnot rfl rfl rfl (fun hg => ?_) (fun hg => ?_) | refine AL_gcases rfl rfl rfl (fun hg => ?_) (fun hg => ?_)) <;> (try (exfalso; omega))) | refine AW_if rfl (fun hc => absurd hc (by omega)) (fun _ => ?_) | refine AW_if rfl (fun _ => ?_) (fun hc => absurd (by omega) hc)))
          all_goals (try rw [show decide (off ≤ 50) = true from decide_eq_true hf.2])
          all_goals (repeat' (first | refine stq ?_ | (refine AL_do2 rfl ?_; first | refine ⟨_, op_call1 rfl rfl rfl rfl (k23), nrmA rfl ?_⟩ | refine ⟨_, op_call1 rfl rfl rfl rfl (f24), nrmA rfl ?_⟩ | refine ⟨_, op_call1 rfl rfl rfl rfl (k25), nrmA rfl ?_⟩ | refine ⟨_, op_call1 rfl rfl rfl rfl (k26), nrmA rfl ?_⟩ | refine ⟨_, op_call1 rfl rfl rfl rfl (k27), nrmA rfl ?_⟩ | refine ⟨_, op_call1 rfl rfl rfl rfl (k29), nrmA rfl ?_⟩ | refine ⟨_, op_call1 rfl rfl rfl rfl (kss), nrmA rfl ?_⟩ | refine ⟨_, op_call1 rfl rfl rfl rfl (k30), nrmA rfl ?_⟩) | ((first | (with_reducible refine AL_id ?_); (fail_if_success (refine AL_glit rfl rfl rfl (by first | exact .inl (by with_reducible rfl) | exact .inr (by with_reducible rfl)) ?_)); first | refine AL_gdec rfl rfl rfl (fun hg => ?_) (fun hg => ?_) | refine AL_gnot rfl rfl rfl (fun hg => ?_) (fun hg => ?_) | refine AL_gcases rfl rfl rfl (fun hg => ?_) (fun hg => ?_)) <;> (try (exfalso; omega))) | refine AW_if rfl (fun hc => absurd hc (by omega)) (fun _ => ?_) | refine AW_if rfl (fun _ => ?_) (fun hc => absurd (by omega) hc)))
          all_goals first | exact ⟨_, _, rfl, rfl, rfl⟩ | (exfalso; omega) | skip
      · have hin : inB off 0 50 = false := by simp [inB]; omega
        have k27f := f27 d false hd
        rw [err_false] at k27f
        rw [tellsE, hin, err_false, if_neg (by decide)] at k26
        refine ACalls.of_body hT Tryz.func3 rfl (by kernel_rfl) rfl ?_
        (repeat' (first | refine stq ?_ | (refine AL_do2 rfl ?_; first | refine ⟨_, op_call1 rfl rfl rfl rfl (k23), nrmA rfl ?_⟩ | refine ⟨_, op_call1 rfl rfl rfl rfl (f24), nrmA rfl ?_⟩ | refine ⟨_, op_call1 rfl rfl rfl rfl (k25), nrmA rfl ?_⟩ | refine ⟨_, op_call1 rfl rfl rfl rfl (k26), nrmA rfl ?_⟩ | refine ⟨_, op_call1 rfl rfl rfl rfl (k27), nrmA rfl ?_⟩ | refine ⟨_, op_call1 rfl rfl rfl rfl (k29), nrmA rfl ?_⟩ | refine ⟨_, op_call1 rfl rfl rfl rfl (kss), nrmA rfl ?_⟩ | refine ⟨_, op_call1 rfl rfl rfl rfl (k27f), nrmA rfl ?_⟩) | ((first | (with_reducible refine AL_id ?_); (fail_if_success (refine AL_glit rfl rfl rfl (by first | exact .inl (by with_reducible rfl) | exact .inr (by with_reducible rfl)) ?_)); first | refine AL_gdec rfl rfl rfl (fun hg => ?_) (fun hg => ?_) | refine AL_gnot rfl rfl rfl (fun hg => ?_) (fun hg => ?_) | refine AL_gcases rfl rfl rfl (fun hg => ?_) (fun hg => ?_)) <;> (try (exfalso; omega))) | refine AW_if rfl (fun hc => absurd hc (by omega)) (fun _ => ?_) | refine AW_if rfl (fun _ => ?_) (fun hc => absurd (by omega) hc)))
        all_goals (try rw [show decide (off ≤ 50) = false from decide_eq_false (by omega)])
        all_goals (repeat' (first | refine stq ?_ | (refine AL_do2 rfl ?_; first | refine ⟨_, op_call1 rfl rfl rfl rfl (k23), nrmA rfl ?_⟩ | refine ⟨_, op_call1 rfl rfl rfl rfl (f24), nrmA rfl ?_⟩ | refine ⟨_, op_call1 rfl rfl rfl rfl (k25), nrmA rfl ?_⟩ | refine ⟨_, op_call1 rfl rfl rfl rfl (k26), nrmA rfl ?_⟩ | refine ⟨_, op_call1 rfl rfl rfl rfl (k27), nrmA rfl ?_⟩ | refine ⟨_, op_call1 rfl rfl rfl rfl (k29), nrmA rfl ?_⟩ | refine ⟨_, op_call1 rfl rfl rfl rfl (kss), nrmA rfl ?_⟩ | refine ⟨_, op_call1 rfl rfl rfl rfl (k27f), nrmA rfl ?_⟩) | ((first | (with_reducible refine AL_id ?_); (fail_if_success (refine AL_glit rfl rfl rfl (by first | exact .inl (by with_reducible rfl) | exact .inr (by with_reducible rfl)) ?_)); first | refine AL_gdec rfl rfl rfl (fun hg => ?_) (fun hg => ?_) | refine AL_gnot rfl rfl rfl (fun hg => ?_) (fun hg => ?_) | refine AL_gcases rfl rfl rfl (fun hg => ?_) (fun hg => ?_)) <;> (try (exfalso; omega))) | refine AW_if rfl (fun hc => absurd hc (by omega)) (fun _ => ?_) | refine AW_if rfl (fun _ => ?_) (fun hc => absurd (by omega) hc)))
        all_goals exact ⟨_, _, rfl, rfl, rfl⟩
    · rw [strengthE, if_neg he] at k25
      have k25 : ACalls Tryz.prog 25 [eDrum d] (fun r => r = .tup [eSpans [], vi (errE d true)]) := k25
      have hf2 := err_fine (b := inB off 0 50) he
      rw [tellsE, if_neg hf2] at k26
      have k26 : ACalls Tryz.prog 26 [eDrum d, vi off] (fun r => r = .tup [vi 0, vi (errE d (inB off 0 50))]) := k26
      have k27f := f27 d false hd
      by_cases hf : 0 ≤ off ∧ off ≤ 50
      · have hin : inB off 0 50 = true := by simp [inB, hf]
        rw [hin] at k26 hf2
        generalize errE d true = e at *
        refine ACalls.of_body hT Tryz.func3 rfl (by kernel_rfl) rfl ?_
        (repeat' (first | refine stq ?_ | (refine AL_do2 rfl ?_; first | refine ⟨_, op_call1 rfl rfl rfl rfl (k23), nrmA rfl ?_⟩ | refine ⟨_, op_call1 rfl rfl rfl rfl (f24), nrmA rfl ?_⟩ | refine ⟨_, op_call1 rfl rfl rfl rfl (k25), nrmA rfl ?_⟩ | refine ⟨_, op_call1 rfl rfl rfl rfl (k26), nrmA rfl ?_⟩ | refine ⟨_, op_call1 rfl rfl rfl rfl (k27), nrmA rfl ?_⟩ | refine ⟨_, op_call1 rfl rfl rfl rfl (k27f), nrmA rfl ?_⟩) | ((first | (with_reducible refine AL_id ?_); (fail_if_success (refine AL_glit rfl rfl rfl (by first | exact .inl (by with_reducible rfl) | exact .inr (by with_reducible rfl)) ?_)); first | refine AL_gdec rfl rfl rfl (fun hg => ?_) (fun hg => ?_) | refine AL_gnot rfl rfl rfl (fun hg => ?_) (fun hg => ?_) | refine AL_gcases rfl rfl rfl (fun hg => ?_) (fun hg => ?_)) <;> (try (exfalso; omega))) | refine AW_if rfl (fun hc => absurd hc (by omega)) (fun _ => ?_) | refine AW_if rfl (fun _ => ?_) (fun hc => absurd (by omega) hc)))
        all_goals (try rw [show decide (off ≤ 50) = true from decide_eq_true hf.2])
        all_goals (repeat' (first | refine stq ?_ | (refine AL_do2 rfl ?_; first | refine ⟨_, op_call1 rfl rfl rfl rfl (k23), nrmA rfl ?_⟩ | refine ⟨_, op_call1 rfl rfl rfl rfl (f24), nrmA rfl ?_⟩ | refine ⟨_, op_call1 rfl rfl rfl rfl (k25), nrmA rfl ?_⟩ | refine ⟨_, op_call1 rfl rfl rfl rfl (k26), nrmA rfl ?_⟩ | refine ⟨_, op_call1 rfl rfl rfl rfl (k27), nrmA rfl ?_⟩ | refine ⟨_, op_call1 rfl rfl rfl rfl (k27f), nrmA rfl ?_⟩) | ((first | (with_reducible refine AL_id ?_); (fail_if_success (refine AL_glit rfl rfl rfl (by first | exact .inl (by with_reducible rfl) | exact .inr (by with_reducible rfl)) ?_)); first | refine AL_gdec rfl rfl rfl (fun hg => ?_) (fun hg => ?_) | refine AL_gnot rfl rfl rfl (fun hg => ?_) (fun hg => ?_) | refine AL_gcases rfl rfl rfl (fun hg => ?_) (fun hg => ?_)) <;> (try (exfalso; omega))) | refine AW_if rfl (fun hc => absurd hc (by omega)) (fun _ => ?_) | refine AW_if rfl (fun _ => ?_) (fun hc => absurd (by omega) hc)))
        all_goals first | exact ⟨_, _, rfl, rfl, rfl⟩ | (exfalso; omega) | skip
      · have hin : inB off 0 50 = false := by simp [inB]; omega
        rw [hin, err_false] at k26
        rw [err_false] at k27f
        generalize errE d true = e at *
        refine ACalls.of_body hT Tryz.func3 rfl (by kernel_rfl) rfl ?_
        (repeat' (first | refine stq ?_ | (refine AL_do2 rfl ?_; first | refine ⟨_, op_call1 rfl rfl rfl rfl (k23), nrmA rfl ?_⟩ | refine ⟨_, op_call1 rfl rfl rfl rfl (f24), nrmA rfl ?_⟩ | refine ⟨_, op_call1 rfl rfl rfl rfl (k25), nrmA rfl ?_⟩ | refine ⟨_, op_call1 rfl rfl rfl rfl (k26), nrmA rfl ?_⟩ | refine ⟨_, op_call1 rfl rfl rfl rfl (k27), nrmA rfl ?_⟩ | refine ⟨_, op_call1 rfl rfl rfl rfl (k27f), nrmA rfl ?_⟩) | ((first | (with_reducible refine AL_id ?_); (fail_if_success (refine AL_glit rfl rfl rfl (by first | exact .inl (by with_reducible rfl) | exact .inr (by with_reducible rfl)) ?_)); first | refine AL_gdec rfl rfl rfl (fun hg => ?_) (fun hg => ?_) | refine AL_gnot rfl rfl rfl (fun hg => ?_) (fun hg => ?_) | refine AL_gcases rfl rfl rfl (fun hg => ?_) (fun hg => ?_)) <;> (try (exfalso; omega))) | refine AW_if rfl (fun hc => absurd hc (by omega)) (fun _ => ?_) | refine AW_if rfl (fun _ => ?_) (fun hc => absurd (by omega) hc)))
        all_goals (try rw [show decide (off ≤ 50) = false from decide_eq_false (by omega)])
        all_goals (repeat' (first | refine stq ?_ | (refine AL_do2 rfl ?_; first | refine ⟨_, op_call1 rfl rfl rfl rfl (k23), nrmA rfl ?_⟩ | refine ⟨_, op_call1 rfl rfl rfl rfl (f24), nrmA rfl ?_⟩ | refine ⟨_, op_call1 rfl rfl rfl rfl (k25), nrmA rfl ?_⟩ | refine ⟨_, op_call1 rfl rfl rfl rfl (k26), nrmA rfl ?_⟩ | refine ⟨_, op_call1 rfl rfl rfl rfl (k27), nrmA rfl ?_⟩ | refine ⟨_, op_call1 rfl rfl rfl rfl (k27f), nrmA rfl ?_⟩) | ((first | (with_reducible refine AL_id ?_); (fail_if_success (refine AL_glit rfl rfl rfl (by first | exact .inl (by with_reducible rfl) | exact .inr (by with_reducible rfl)) ?_)); first | refine AL_gdec rfl rfl rfl (fun hg => ?_) (fun hg => ?_) | refine AL_gnot rfl rfl rfl (fun hg => ?_) (fun hg => ?_) | refine AL_gcases rfl rfl rfl (fun hg => ?_) (fun hg => ?_)) <;> (try (exfalso; omega))) | refine AW_if rfl (fun hc => absurd hc (by omega)) (fun _ => ?_) | refine AW_if rfl (fun _ => ?_) (fun hc => absurd (by omega) hc)))
        all_goals first | exact ⟨_, _, rfl, rfl, rfl⟩ | (exfalso; omega) | skip
end Go.Abs
