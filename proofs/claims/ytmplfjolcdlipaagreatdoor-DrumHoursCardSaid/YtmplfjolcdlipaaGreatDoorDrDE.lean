/- DrumHours: the contract of the statement's function. -/
import Derived.Test.YtmplfjolcdlipaaGreatDoorDrDD
import Derived.Test.YtmplfjolcdlipaaGreatDoorDrCA
import Derived.Test.YtmplfjolcdlipaaGreatDoorX
set_option linter.unusedVariables false
set_option linter.unusedSimpArgs false
namespace Go.Abs
open Go.Proofs
set_option linter.unusedVariables false
set_option linter.unusedSimpArgs false
set_option maxRecDepth 100000
theorem inB_last {x : Int} {n : Nat} : inB x 0 ((n : Int) - 1) = decide (0 ≤ x ∧ x < n) := by
  unfold inB; rw [Bool.eq_iff_iff]; simp only [Bool.and_eq_true, decide_eq_true_eq]; omega
set_option maxHeartbeats 8000000 in
theorem f4 (d : Drum) (batch : Int) : ACalls Tryz.prog 4 [eDrum d, vi batch] (fun r => r = .pv (.bool true)) := by
  have k23 := f23' d
  cases hs : shortB d with
  | false =>
    rw [hs] at k23
    refine ACalls.of_body hT Tryz.func4 rfl (by kernel_rfl) rfl ?_
    (repeat' (first | refine stq ?_ | (refine AL_do2 rfl ?_; first | refine ⟨_, op_call1 rfl rfl rfl rfl (k23), nrmA rfl ?_⟩ | refine ⟨_, op_call1 rfl rfl rfl rfl (f24), nrmA rfl ?_⟩) | (with_reducible refine AL_id ?_); (fail_if_success (refine AL_glit rfl rfl rfl (by first | exact .inl (by with_reducible rfl) | exact .inr (by with_reducible rfl)) ?_)); first | refine AL_gdec rfl rfl rfl (fun hg => ?_) (fun hg => ?_) | refine AL_gnot rfl rfl rfl (fun hg => ?_) (fun hg => ?_) | refine AL_gcases rfl rfl rfl (fun hg => ?_) (fun hg => ?_)))
    exact ⟨_, _, rfl, rfl, rfl⟩
  | true =>
    rw [hs] at k23
    have hd := short_ok hs
    have hbl := hd.2.2.2
    have k31 := f31 d batch hd
    have k32 := f32 d batch hd
    simp only [hourE, inB_last] at k31 k32
    by_cases hf : 0 ≤ batch ∧ batch < d.batches.length
    · rw [decide_eq_true hf] at k31 k32
      have k27 := f27 d true hd
      by_cases he : errE d true = 0
      · obtain ⟨hP, _, hne, _⟩ := asked_ok he
        rw [if_pos he] at k31 k32
        rw [he] at k27
        obtain ⟨n, rfl⟩ : ∃ n : Nat, batch = n := ⟨batch.toNat, by omega⟩
        obtain ⟨b, hbx⟩ : ∃ b, d.batches[n]? = some b := ⟨d.batches[n]'(by omega), by simp⟩
        have gb : d.batches.getD (n : Int).toNat ⟨0, 0, 0, 0, 0, 0⟩ = b := by rw [Int.toNat_natCast, List.getD_eq_getElem?_getD, hbx]; rfl
        rw [gb] at k31 k32
        have k33 := f33 d hP n b hbx
        have k34 := f34 d hP n b hbx
        generalize smoothI d b = x at *
        generalize thinI d b = y at *
        by_cases hx : x < 0
        · rw [if_pos hx] at k31
          have k31 : ACalls Tryz.prog 31 [eDrum d, vi n] (fun r => r = .tup [vi 0, vi 5]) := k31
          by_cases hy : y < 0
          · rw [if_pos hy] at k32
            have k32 : ACalls Tryz.prog 32 [eDrum d, vi n] (fun r => r = .tup [vi 0, vi 5]) := k32
            refine ACalls.of_body hT Tryz.func4 rfl (by kernel_rfl) rfl ?_
            (repeat' (first | refine stq ?_ | (refine AL_do2 rfl ?_; first | refine ⟨_, op_call1 rfl rfl rfl rfl (k23), nrmA rfl ?_⟩ | refine ⟨_, op_call1 rfl rfl rfl rfl (f24), nrmA rfl ?_⟩ | refine ⟨_, op_call1 rfl rfl rfl rfl (k31), nrmA rfl ?_⟩ | refine ⟨_, op_call1 rfl rfl rfl rfl (k32), nrmA rfl ?_⟩ | refine ⟨_, op_call1 rfl rfl rfl rfl (k27), nrmA rfl ?_⟩) | ((first | (with_reducible refine AL_id ?_); (fail_if_success (refine AL_glit rfl rfl rfl (by first | exact .inl (by with_reducible rfl) | exact .inr (by with_reducible rfl)) ?_)); first | refine AL_gdec rfl rfl rfl (fun hg => ?_) (fun hg => ?_) | refine AL_gnot rfl rfl rfl (fun hg => ?_) (fun hg => ?_) | refine AL_gcases rfl rfl rfl (fun hg => ?_) (fun hg => ?_)) <;> (try (exfalso; omega))) | refine AW_if rfl (fun hc => absurd hc (by omega)) (fun _ => ?_) | refine AW_if rfl (fun _ => ?_) (fun hc => absurd (by omega) hc)))
            all_goals (try rw [show decide ((n : Int) < d.batches.length) = true from decide_eq_true hf.2])
            all_goals (repeat' (first | refine stq ?_ | (refine AL_do2 rfl ?_; first | refine ⟨_, op_call1 rfl rfl rfl rfl (k23), nrmA rfl ?_⟩ | refine ⟨_, op_call1 rfl rfl rfl rfl (f24), nrmA rfl ?_⟩ | refine ⟨_, op_call1 rfl rfl rfl rfl (k31), nrmA rfl ?_⟩ | refine ⟨_, op_call1 rfl rfl rfl rfl (k32), nrmA rfl ?_⟩ | refine ⟨_, op_call1 rfl rfl rfl rfl (k27), nrmA rfl ?_⟩) | ((first | (with_reducible refine AL_id ?_); (fail_if_success (refine AL_glit rfl rfl rfl (by first | exact .inl (by with_reducible rfl) | exact .inr (by with_reducible rfl)) ?_)); first | refine AL_gdec rfl rfl rfl (fun hg => ?_) (fun hg => ?_) | refine AL_gnot rfl rfl rfl (fun hg => ?_) (fun hg => ?_) | refine AL_gcases rfl rfl rfl (fun hg => ?_) (fun hg => ?_)) <;> (try (exfalso; omega))) | refine AW_if rfl (fun hc => absurd hc (by omega)) (fun _ => ?_) | refine AW_if rfl (fun _ => ?_) (fun hc => absurd (by omega) hc)))
            all_goals (try (exfalso; omega))
            (repeat (first | refine sdq ?_ | refine DG_next (D_call rfl rfl rfl rfl rfl (k33)) ?_ | refine DG_next (D_call rfl rfl rfl rfl rfl (k34)) ?_))
            refine DG_end hM (by kernel_rfl) ?_
            (repeat' (first | refine AL_skip rfl rfl ?_ | refine stq ?_ | (refine AL_do2 rfl ?_; first | refine ⟨_, op_call1 rfl rfl rfl rfl (f24), nrmA rfl ?_⟩) | ((first | (with_reducible refine AL_id ?_); (fail_if_success (refine AL_glit rfl rfl rfl (by first | exact .inl (by with_reducible rfl) | exact .inr (by with_reducible rfl)) ?_)); first | refine AL_gdec rfl rfl rfl (fun hg => ?_) (fun hg => ?_) | refine AL_gnot rfl rfl rfl (fun hg => ?_) (fun hg => ?_) | refine AL_gcases rfl rfl rfl (fun hg => ?_) (fun hg => ?_)) <;> (try (exfalso; omega))) | refine AW_if rfl (fun hc => absurd hc (by omega)) (fun _ => ?_) | refine AW_if rfl (fun _ => ?_) (fun hc => absurd (by omega) hc)))
            all_goals first | exact ⟨_, _, rfl, rfl, rfl⟩ | (exfalso; omega)
          · rw [if_neg hy] at k32
            have k32 : ACalls Tryz.prog 32 [eDrum d, vi n] (fun r => r = .tup [vi y, vi 0]) := k32
            refine ACalls.of_body hT Tryz.func4 rfl (by kernel_rfl) rfl ?_
            (repeat' (first | refine stq ?_ | (refine AL_do2 rfl ?_; first | refine ⟨_, op_call1 rfl rfl rfl rfl (k23), nrmA rfl ?_⟩ | refine ⟨_, op_call1 rfl rfl rfl rfl (f24), nrmA rfl ?_⟩ | refine ⟨_, op_call1 rfl rfl rfl rfl (k31), nrmA rfl ?_⟩ | refine ⟨_, op_call1 rfl rfl rfl rfl (k32), nrmA rfl ?_⟩ | refine ⟨_, op_call1 rfl rfl rfl rfl (k27), nrmA rfl ?_⟩) | ((first | (with_reducible refine AL_id ?_); (fail_if_success (refine AL_glit rfl rfl rfl (by first | exact .inl (by with_reducible rfl) | exact .inr (by with_reducible rfl)) ?_)); first | refine AL_gdec rfl rfl rfl (fun hg => ?_) (fun hg => ?_) | refine AL_gnot rfl rfl rfl (fun hg => ?_) (fun hg => ?_) | refine AL_gcases rfl rfl rfl (fun hg => ?_) (fun hg => ?_)) <;> (try (exfalso; omega))) | refine AW_if rfl (fun hc => absurd hc (by omega)) (fun _ => ?_) | refine AW_if rfl (fun _ => ?_) (fun hc => absurd (by omega) hc)))
            all_goals (try rw [show decide ((n : Int) < d.batches.length) = true from decide_eq_true hf.2])
            all_goals (repeat' (first | refine stq ?_ | (refine AL_do2 rfl ?_; first | refine ⟨_, op_call1 rfl rfl rfl rfl (k23), nrmA rfl ?_⟩ | refine ⟨_, op_call1 rfl rfl rfl rfl (f24), nrmA rfl ?_⟩ | refine ⟨_, op_call1 rfl rfl rfl rfl (k31), nrmA rfl ?_⟩ | refine ⟨_, op_call1 rfl rfl rfl rfl (k32), nrmA rfl ?_⟩ | refine ⟨_, op_call1 rfl rfl rfl rfl (k27), nrmA rfl ?_⟩) | ((first | (with_reducible refine AL_id ?_); (fail_if_success (refine AL_glit rfl rfl rfl (by first | exact .inl (by with_reducible rfl) | exact .inr (by with_reducible rfl)) ?_)); first | refine AL_gdec rfl rfl rfl (fun hg => ?_) (fun hg => ?_) | refine AL_gnot rfl rfl rfl (fun hg => ?_) (fun hg => ?_) | refine AL_gcases rfl rfl rfl (fun hg => ?_) (fun hg => ?_)) <;> (try (exfalso; omega))) | refine AW_if rfl (fun hc => absurd hc (by omega)) (fun _ => ?_) | refine AW_if rfl (fun _ => ?_) (fun hc => absurd (by omega) hc)))
            all_goals (try (exfalso; omega))
            (repeat (first | refine sdq ?_ | refine DG_next (D_call rfl rfl rfl rfl rfl (k33)) ?_ | refine DG_next (D_call rfl rfl rfl rfl rfl (k34)) ?_))
            refine DG_end hM (by kernel_rfl) ?_
            (repeat' (first | refine AL_skip rfl rfl ?_ | refine stq ?_ | (refine AL_do2 rfl ?_; first | refine ⟨_, op_call1 rfl rfl rfl rfl (f24), nrmA rfl ?_⟩) | ((first | (with_reducible refine AL_id ?_); (fail_if_success (refine AL_glit rfl rfl rfl (by first | exact .inl (by with_reducible rfl) | exact .inr (by with_reducible rfl)) ?_)); first | refine AL_gdec rfl rfl rfl (fun hg => ?_) (fun hg => ?_) | refine AL_gnot rfl rfl rfl (fun hg => ?_) (fun hg => ?_) | refine AL_gcases rfl rfl rfl (fun hg => ?_) (fun hg => ?_)) <;> (try (exfalso; omega))) | refine AW_if rfl (fun hc => absurd hc (by omega)) (fun _ => ?_) | refine AW_if rfl (fun _ => ?_) (fun hc => absurd (by omega) hc)))
            all_goals first | exact ⟨_, _, rfl, rfl, rfl⟩ | (exfalso; omega)
        · rw [if_neg hx] at k31
          have k31 : ACalls Tryz.prog 31 [eDrum d, vi n] (fun r => r = .tup [vi x, vi 0]) := k31
          by_cases hy : y < 0
          · rw [if_pos hy] at k32
            have k32 : ACalls Tryz.prog 32 [eDrum d, vi n] (fun r => r = .tup [vi 0, vi 5]) := k32
            refine ACalls.of_body hT Tryz.func4 rfl (by kernel_rfl) rfl ?_
            (repeat' (first | refine stq ?_ | (refine AL_do2 rfl ?_; first | refine ⟨_, op_call1 rfl rfl rfl rfl (k23), nrmA rfl ?_⟩ | refine ⟨_, op_call1 rfl rfl rfl rfl (f24), nrmA rfl ?_⟩ | refine ⟨_, op_call1 rfl rfl rfl rfl (k31), nrmA rfl ?_⟩ | refine ⟨_, op_call1 rfl rfl rfl rfl (k32), nrmA rfl ?_⟩ | refine ⟨_, op_call1 rfl rfl rfl rfl (k27), nrmA rfl ?_⟩) | ((first | (with_reducible refine AL_id ?_); (fail_if_success (refine AL_glit rfl rfl rfl (by first | exact .inl (by with_reducible rfl) | exact .inr (by with_reducible rfl)) ?_)); first | refine AL_gdec rfl rfl rfl (fun hg => ?_) (fun hg => ?_) | refine AL_gnot rfl rfl rfl (fun hg => ?_) (fun hg => ?_) | refine AL_gcases rfl rfl rfl (fun hg => ?_) (fun hg => ?_)) <;> (try (exfalso; omega))) | refine AW_if rfl (fun hc => absurd hc (by omega)) (fun _ => ?_) | refine AW_if rfl (fun _ => ?_) (fun hc => absurd (by omega) hc)))
            all_goals (try rw [show decide ((n : Int) < d.batches.length) = true from decide_eq_true hf.2])
            all_goals (repeat' (first | refine stq ?_ | (refine AL_do2 rfl ?_; first | refine ⟨_, op_call1 rfl rfl rfl rfl (k23), nrmA rfl ?_⟩ | refine ⟨_, op_call1 rfl rfl rfl rfl (f24), nrmA rfl ?_⟩ | refine ⟨_, op_call1 rfl rfl rfl rfl (k31), nrmA rfl ?_⟩ | refine ⟨_, op_call1 rfl rfl rfl rfl (k32), nrmA rfl ?_⟩ | refine ⟨_, op_call1 rfl rfl rfl rfl (k27), nrmA rfl ?_⟩) | ((first | (with_reducible refine AL_id ?_); (fail_if_success (refine AL_glit rfl rfl rfl (by first | exact .inl (by with_reducible rfl) | exact .inr (by with_reducible rfl)) ?_)); first | refine AL_gdec rfl rfl rfl (fun hg => ?_) (fun hg => ?_) | refine AL_gnot rfl rfl rfl (fun hg => ?_) (fun hg => ?_) | refine AL_gcases rfl rfl rfl (fun hg => ?_) (fun hg => ?_)) <;> (try (exfalso; omega))) | refine AW_if rfl (fun hc => absurd hc (by omega)) (fun _ => ?_) | refine AW_if rfl (fun _ => ?_) (fun hc => absurd (by omega) hc)))
            all_goals (try (exfalso; omega))
            (repeat (first | refine sdq ?_ | refine DG_next (D_call rfl rfl rfl rfl rfl (k33)) ?_ | refine DG_next (D_call rfl rfl rfl rfl rfl (k34)) ?_))
            refine DG_end hM (by kernel_rfl) ?_
            (repeat' (first | refine AL_skip rfl rfl ?_ | refine stq ?_ | (refine AL_do2 rfl ?_; first | refine ⟨_, op_call1 rfl rfl rfl rfl (f24), nrmA rfl ?_⟩) | ((first | (with_reducible refine AL_id ?_); (fail_if_success (refine AL_glit rfl rfl rfl (by first | exact .inl (by with_reducible rfl) | exact .inr (by with_reducible rfl)) ?_)); first | refine AL_gdec rfl rfl rfl (fun hg => ?_) (fun hg => ?_) | refine AL_gnot rfl rfl rfl (fun hg => ?_) (fun hg => ?_) | refine AL_gcases rfl rfl rfl (fun hg => ?_) (fun hg => ?_)) <;> (try (exfalso; omega))) | refine AW_if rfl (fun hc => absurd hc (by omega)) (fun _ => ?_) | refine AW_if rfl (fun _ => ?_) (fun hc => absurd (by omega) hc)))
            all_goals first | exact ⟨_, _, rfl, rfl, rfl⟩ | (exfalso; omega)
          · rw [if_neg hy] at k32
            have k32 : ACalls Tryz.prog 32 [eDrum d, vi n] (fun r => r = .tup [vi y, vi 0]) := k32
            refine ACalls.of_body hT Tryz.func4 rfl (by kernel_rfl) rfl ?_
            (repeat' (first | refine stq ?_ | (refine AL_do2 rfl ?_; first | refine ⟨_, op_call1 rfl rfl rfl rfl (k23), nrmA rfl ?_⟩ | refine ⟨_, op_call1 rfl rfl rfl rfl (f24), nrmA rfl ?_⟩ | refine ⟨_, op_call1 rfl rfl rfl rfl (k31), nrmA rfl ?_⟩ | refine ⟨_, op_call1 rfl rfl rfl rfl (k32), nrmA rfl ?_⟩ | refine ⟨_, op_call1 rfl rfl rfl rfl (k27), nrmA rfl ?_⟩) | ((first | (with_reducible refine AL_id ?_); (fail_if_success (refine AL_glit rfl rfl rfl (by first | exact .inl (by with_reducible rfl) | exact .inr (by with_reducible rfl)) ?_)); first | refine AL_gdec rfl rfl rfl (fun hg => ?_) (fun hg => ?_) | refine AL_gnot rfl rfl rfl (fun hg => ?_) (fun hg => ?_) | refine AL_gcases rfl rfl rfl (fun hg => ?_) (fun hg => ?_)) <;> (try (exfalso; omega))) | refine AW_if rfl (fun hc => absurd hc (by omega)) (fun _ => ?_) | refine AW_if rfl (fun _ => ?_) (fun hc => absurd (by omega) hc)))
            all_goals (try rw [show decide ((n : Int) < d.batches.length) = true from decide_eq_true hf.2])
            all_goals (repeat' (first | refine stq ?_ | (refine AL_do2 rfl ?_; first | refine ⟨_, op_call1 rfl rfl rfl rfl (k23), nrmA rfl ?_⟩ | refine ⟨_, op_call1 rfl rfl rfl rfl (f24), nrmA rfl ?_⟩ | refine ⟨_, op_call1 rfl rfl rfl rfl (k31), nrmA rfl ?_⟩ | refine ⟨_, op_call1 rfl rfl rfl rfl (k32), nrmA rfl ?_⟩ | refine ⟨_, op_call1 rfl rfl rfl rfl (k27), nrmA rfl ?_⟩) | ((first | (with_reducible refine AL_id ?_); (fail_if_success (refine AL_glit rfl rfl rfl (by first | exact .inl (by with_reducible rfl) | exact .inr (by with_reducible rfl)) ?_)); first | refine AL_gdec rfl rfl rfl (fun hg => ?_) (fun hg => ?_) | refine AL_gnot rfl rfl rfl (fun hg => ?_) (fun hg => ?_) | refine AL_gcases rfl rfl rfl (fun hg => ?_) (fun hg => ?_)) <;> (try (exfalso; omega))) | refine AW_if rfl (fun hc => absurd hc (by omega)) (fun _ => ?_) | refine AW_if rfl (fun _ => ?_) (fun hc => absurd (by omega) hc)))
            all_goals (try (exfalso; omega))
            (repeat (first | refine sdq ?_ | refine DG_next (D_call rfl rfl rfl rfl rfl (k33)) ?_ | refine DG_next (D_call rfl rfl rfl rfl rfl (k34)) ?_))
            refine DG_end hM (by kernel_rfl) ?_
            (repeat' (first | refine AL_skip rfl rfl ?_ | refine stq ?_ | (refine AL_do2 rfl ?_; first | refine ⟨_, op_call1 rfl rfl rfl rfl (f24), nrmA rfl ?_⟩) | ((first | (with_reducible refine AL_id ?_); (fail_if_success (refine AL_glit rfl rfl rfl (by first | exact .inl (by with_reducible rfl) | exact .inr (by with_reducible rfl)) ?_)); first | refine AL_gdec rfl rfl rfl (fun hg => ?_) (fun hg => ?_) | refine AL_gnot rfl rfl rfl (fun hg => ?_) (fun hg => ?_) | refine AL_gcases rfl rfl rfl (fun hg => ?_) (fun hg => ?_)) <;> (try (exfalso; omega))) | refine AW_if rfl (fun hc => absurd hc (by omega)) (fun _ => ?_) | refine AW_if rfl (fun _ => ?_) (fun hc => absurd (by omega) hc)))
            all_goals first | exact ⟨_, _, rfl, rfl, rfl⟩ | (exfalso; omega)
      · rw [if_neg he] at k31 k32
        have k31 : ACalls Tryz.prog 31 [eDrum d, vi batch] (fun r => r = .tup [vi 0, vi (errE d true)]) := k31
        have k32 : ACalls Tryz.prog 32 [eDrum d, vi batch] (fun r => r = .tup [vi 0, vi (errE d true)]) := k32
        generalize errE d true = e at *
        refine ACalls.of_body hT Tryz.func4 rfl (by kernel_rfl) rfl ?_
        (repeat' (first | refine stq ?_ | (refine AL_do2 rfl ?_; first | refine ⟨_, op_call1 rfl rfl rfl rfl (k23), nrmA rfl ?_⟩ | refine ⟨_, op_call1 rfl rfl rfl rfl (f24), nrmA rfl ?_⟩ | refine ⟨_, op_call1 rfl rfl rfl rfl (k31), nrmA rfl ?_⟩ | refine ⟨_, op_call1 rfl rfl rfl rfl (k32), nrmA rfl ?_⟩ | refine ⟨_, op_call1 rfl rfl rfl rfl (k27), nrmA rfl ?_⟩) | ((first | (with_reducible refine AL_id ?_); (fail_if_success (refine AL_glit rfl rfl rfl (by first | exact .inl (by with_reducible rfl) | exact .inr (by with_reducible rfl)) ?_)); first | refine AL_gdec rfl rfl rfl (fun hg => ?_) (fun hg => ?_) | refine AL_gnot rfl rfl rfl (fun hg => ?_) (fun hg => ?_) | refine AL_gcases rfl rfl rfl (fun hg => ?_) (fun hg => ?_)) <;> (try (exfalso; omega))) | refine AW_if rfl (fun hc => absurd hc (by omega)) (fun _ => ?_) | refine AW_if rfl (fun _ => ?_) (fun hc => absurd (by omega) hc)))
        all_goals (try rw [show decide (batch < d.batches.length) = true from decide_eq_true hf.2])
        all_goals (repeat' (first | refine stq ?_ | (refine AL_do2 rfl ?_; first | refine ⟨_, op_call1 rfl rfl rfl rfl (k23), nrmA rfl ?_⟩ | refine ⟨_, op_call1 rfl rfl rfl rfl (f24), nrmA rfl ?_⟩ | refine ⟨_, op_call1 rfl rfl rfl rfl (k31), nrmA rfl ?_⟩ | refine ⟨_, op_call1 rfl rfl rfl rfl (k32), nrmA rfl ?_⟩ | refine ⟨_, op_call1 rfl rfl rfl rfl (k27), nrmA rfl ?_⟩) | ((first | (with_reducible refine AL_id ?_); (fail_if_success (refine AL_glit rfl rfl rfl (by first | exact .inl (by with_reducible rfl) | exact .inr (by with_reducible rfl)) ?_)); first | refine AL_gdec rfl rfl rfl (fun hg => ?_) (fun hg => ?_) | refine AL_gnot rfl rfl rfl (fun hg => ?_) (fun hg => ?_) | refine AL_gcases rfl rfl rfl (fun hg => ?_) (fun hg => ?_)) <;> (try (exfalso; omega))) | refine AW_if rfl (fun hc => absurd hc (by omega)) (fun _ => ?_) | refine AW_if rfl (fun _ => ?_) (fun hc => absurd (by omega) hc)))
        all_goals first | exact ⟨_, _, rfl, rfl, rfl⟩ | (exfalso; omega)
    · have k27 := f27 d false hd
      rw [decide_eq_false hf, err_false, if_neg (by decide)] at k31 k32
      rw [err_false] at k27
      have k31 : ACalls Tryz.prog 31 [eDrum d, vi batch] (fun r => r = .tup [vi 0, vi 2]) := k31
      have k32 : ACalls Tryz.prog 32 [eDrum d, vi batch] (fun r => r = .tup [vi 0, vi 2]) := k32
      refine ACalls.of_body hT Tryz.func4 rfl (by kernel_rfl) rfl ?_
      (repeat' (first | refine stq ?_ | (refine AL_do2 rfl ?_; first | refine ⟨_, op_call1 rfl rfl rfl rfl (k23), nrmA rfl ?_⟩ | refine ⟨_, op_call1 rfl rfl rfl rfl (f24), nrmA rfl ?_⟩ | refine ⟨_, op_call1 rfl rfl rfl rfl (k31), nrmA rfl ?_⟩ | refine ⟨_, op_call1 rfl rfl rfl rfl (k32), nrmA rfl ?_⟩ | refine ⟨_, op_call1 rfl rfl rfl rfl (k27), nrmA rfl ?_⟩) | ((first | (with_reducible refine AL_id ?_); (fail_if_success (refine AL_glit rfl rfl rfl (by first | exact .inl (by with_reducible rfl) | exact .inr (by with_reducible rfl)) ?_)); first | refine AL_gdec rfl rfl rfl (fun hg => ?_) (fun hg => ?_) | refine AL_gnot rfl rfl rfl (fun hg => ?_) (fun hg => ?_) | refine AL_gcases rfl rfl rfl (fun hg => ?_) (fun hg => ?_)) <;> (try (exfalso; omega))) | refine AW_if rfl (fun hc => absurd hc (by omega)) (fun _ => ?_) | refine AW_if rfl (fun _ => ?_) (fun hc => absurd (by omega) hc)))
      all_goals (try rw [show decide (batch < d.batches.length) = false from decide_eq_false (by omega)])
      all_goals (repeat' (first | refine stq ?_ | (refine AL_do2 rfl ?_; first | refine ⟨_, op_call1 rfl rfl rfl rfl (k23), nrmA rfl ?_⟩ | refine ⟨_, op_call1 rfl rfl rfl rfl (f24), nrmA rfl ?_⟩ | refine ⟨_, op_call1 rfl rfl rfl rfl (k31), nrmA rfl ?_⟩ | refine ⟨_, op_call1 rfl rfl rfl rfl (k32), nrmA rfl ?_⟩ | refine ⟨_, op_call1 rfl rfl rfl rfl (k27), nrmA rfl ?_⟩) | ((first | (with_reducible refine AL_id ?_); (fail_if_success (refine AL_glit rfl rfl rfl (by first | exact .inl (by with_reducible rfl) | exact .inr (by with_reducible rfl)) ?_)); first | refine AL_gdec rfl rfl rfl (fun hg => ?_) (fun hg => ?_) | refine AL_gnot rfl rfl rfl (fun hg => ?_) (fun hg => ?_) | refine AL_gcases rfl rfl rfl (fun hg => ?_) (fun hg => ?_)) <;> (try (exfalso; omega))) | refine AW_if rfl (fun hc => absurd hc (by omega)) (fun _ => ?_) | refine AW_if rfl (fun _ => ?_) (fun hc => absurd (by omega) hc)))
      all_goals first | exact ⟨_, _, rfl, rfl, rfl⟩ | (exfalso; omega)
end Go.Abs
