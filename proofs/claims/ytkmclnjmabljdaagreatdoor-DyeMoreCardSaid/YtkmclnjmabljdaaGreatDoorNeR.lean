/- DyeKnowns. -/
import Derived.Test.YtkmclnjmabljdaaGreatDoorNeP
import Derived.Test.YtkmclnjmabljdaaGreatDoorNeQ
set_option linter.unusedVariables false
set_option linter.unusedSimpArgs false
namespace Go.Abs
open Go.Proofs
set_option linter.unusedVariables false
set_option linter.unusedSimpArgs false
set_option maxRecDepth 100000

theorem f3 (h : List Dye) (l : List Bath) : ACalls Tryz.prog 3 [eHouse h, eBaths l] (fun r => r = .pv (.bool true)) := by
  refine ACalls.of_body hT Tryz.func3 rfl (by kernel_rfl) rfl ?_
  by_cases hs : slimB h = true ∧ l.length ≤ 5
  · obtain ⟨hs, hl⟩ := hs
    have hOK := slim_houseOK hs
    have k27 := f27 h
    rw [hs] at k27
    have k29 := f29 h l hOK (by omega)
    have k30 := f30 h hOK
    have k31 := f31 h l hOK.1 (by omega)
    have hl5 : ¬ (l.length : Int) > 5 := by omega
    (repeat' (first | refine stp ?_ | (refine AL_do2 rfl ?_; first | refine ⟨_, op_call1 rfl rfl rfl rfl (k27), ?_⟩) | refine AL_gdec rfl rfl rfl (fun hg => ?_) (fun hg => ?_) | refine AL_gnot rfl rfl rfl (fun hg => ?_) (fun hg => ?_) | refine AL_gcases rfl rfl rfl (fun hg => ?_) (fun hg => ?_)))
    refine AW_if rfl (fun hc => absurd hc hl5) (fun _ => ?_)
    cases hH : isHouseB h with
    | false =>
      have e : knownI h l = ([], 2) := by simp [knownI, hH]
      rw [e] at k29
      rw [hH] at k30
      (repeat' (first | refine stp ?_ | (refine AL_do2 rfl ?_; first | refine ⟨_, op_call1 rfl rfl rfl rfl (k29), ?_⟩ | refine ⟨_, op_call1 rfl rfl rfl rfl (k30), ?_⟩ | refine ⟨_, op_call1 rfl rfl rfl rfl (f28), ?_⟩) | refine AL_gdec rfl rfl rfl (fun hg => ?_) (fun hg => ?_) | refine AL_gnot rfl rfl rfl (fun hg => ?_) (fun hg => ?_) | refine AL_gcases rfl rfl rfl (fun hg => ?_) (fun hg => ?_)))
      exact ⟨_, _, rfl, rfl, rfl⟩
    | true =>
      rw [hH] at k30
      cases hB : isBatchB h l with
      | false =>
        have e : knownI h l = ([], 2) := by simp [knownI, hB]
        rw [e] at k29
        rw [hB] at k31
        (repeat' (first | refine stp ?_ | (refine AL_do2 rfl ?_; first | refine ⟨_, op_call1 rfl rfl rfl rfl (k29), ?_⟩ | refine ⟨_, op_call1 rfl rfl rfl rfl (k30), ?_⟩ | refine ⟨_, op_call1 rfl rfl rfl rfl (k31), ?_⟩ | refine ⟨_, op_call1 rfl rfl rfl rfl (f28), ?_⟩) | refine AL_gdec rfl rfl rfl (fun hg => ?_) (fun hg => ?_) | refine AL_gnot rfl rfl rfl (fun hg => ?_) (fun hg => ?_) | refine AL_gcases rfl rfl rfl (fun hg => ?_) (fun hg => ?_)))
        exact ⟨_, _, rfl, rfl, rfl⟩
      | true =>
        have e : knownI h l = (endsL l h 0, 0) := by simp [knownI, hH, hB]
        rw [e] at k29
        rw [hB] at k31
        have k33 := (f33 h l (houseP_of hH) (batchP_of hB)).pure
        have k32 := same_of (f32 (endsL l h 0) (endsL l h 0) (by rw [endsL_len]; have := (houseP_of hH).1; omega)) rfl
        (repeat' (first | refine stp ?_ | (refine AL_do2 rfl ?_; first | refine ⟨_, op_call1 rfl rfl rfl rfl (k29), ?_⟩ | refine ⟨_, op_call1 rfl rfl rfl rfl (k30), ?_⟩ | refine ⟨_, op_call1 rfl rfl rfl rfl (k31), ?_⟩ | refine ⟨_, op_call1 rfl rfl rfl rfl (k33), ?_⟩ | refine ⟨_, op_call1 rfl rfl rfl rfl (k32), ?_⟩ | refine ⟨_, op_call1 rfl rfl rfl rfl (f28), ?_⟩) | refine AL_gdec rfl rfl rfl (fun hg => ?_) (fun hg => ?_) | refine AL_gnot rfl rfl rfl (fun hg => ?_) (fun hg => ?_) | refine AL_gcases rfl rfl rfl (fun hg => ?_) (fun hg => ?_)))
        exact ⟨_, _, rfl, rfl, rfl⟩
  · have k27 := f27 h
    cases hs2 : slimB h with
    | false =>
      rw [hs2] at k27
      (repeat' (first | refine stp ?_ | (refine AL_do2 rfl ?_; first | refine ⟨_, op_call1 rfl rfl rfl rfl (k27), ?_⟩ | refine ⟨_, op_call1 rfl rfl rfl rfl (f28), ?_⟩) | refine AL_gdec rfl rfl rfl (fun hg => ?_) (fun hg => ?_) | refine AL_gnot rfl rfl rfl (fun hg => ?_) (fun hg => ?_) | refine AL_gcases rfl rfl rfl (fun hg => ?_) (fun hg => ?_)))
      exact ⟨_, _, rfl, rfl, rfl⟩
    | true =>
      have hl5 : (l.length : Int) > 5 := by
        have : ¬ l.length ≤ 5 := fun h => hs ⟨hs2, h⟩
        omega
      rw [hs2] at k27
      (repeat' (first | refine stp ?_ | (refine AL_do2 rfl ?_; first | refine ⟨_, op_call1 rfl rfl rfl rfl (k27), ?_⟩) | refine AL_gdec rfl rfl rfl (fun hg => ?_) (fun hg => ?_) | refine AL_gnot rfl rfl rfl (fun hg => ?_) (fun hg => ?_) | refine AL_gcases rfl rfl rfl (fun hg => ?_) (fun hg => ?_)))
      refine AW_if rfl (fun _ => ?_) (fun hc => absurd hl5 hc)
      (repeat' (first | refine stp ?_ | (refine AL_do2 rfl ?_; first | refine ⟨_, op_call1 rfl rfl rfl rfl (f28), ?_⟩) | refine AL_gdec rfl rfl rfl (fun hg => ?_) (fun hg => ?_) | refine AL_gnot rfl rfl rfl (fun hg => ?_) (fun hg => ?_) | refine AL_gcases rfl rfl rfl (fun hg => ?_) (fun hg => ?_)))
      exact ⟨_, _, rfl, rfl, rfl⟩
end Go.Abs
