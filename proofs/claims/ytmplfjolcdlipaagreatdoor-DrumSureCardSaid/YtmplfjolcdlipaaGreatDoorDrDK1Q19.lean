/- DrumSure: one way of the walk. -/
import Derived.Test.YtmplfjolcdlipaaGreatDoorLcQ19
import Derived.Test.YtmplfjolcdlipaaGreatDoorNcAbsSLQ19
import Derived.Test.YtmplfjolcdlipaaGreatDoorXQ19
set_option linter.unusedVariables false
set_option linter.unusedSimpArgs false
namespace Go.Abs
open Go.Proofs
set_option linter.unusedVariables false
set_option linter.unusedSimpArgs false
set_option maxRecDepth 100000
set_option maxHeartbeats 16000000 in
theorem f19x1 {d : Drum} {acid : Int} {t : List Int} {n h : Nat} {b : Batch} {S : State} {x y : Int} (k23 : ACalls Tryz.prog 23 [eDrum d] (fun r => r = .pv (.bool true))) (k39 : ACalls Tryz.prog 39 [eDrum d] (fun r => r = .pv (.bool true))) (k63 : ACalls Tryz.prog 63 [eDrum d, eTruth acid t] (fun r => r = .pv (.bool true))) (k72 : ACalls Tryz.prog 72 [eDrum d, eTruth acid t] (fun r => r = .pv (.bool true)))
    (ht : t.length ≤ 15) (hbl : d.batches.length ≤ 5) (hh1 : d.hours ≤ 12) (hh0 : 1 ≤ d.hours) (hf : 0 ≤ (n : Int) ∧ (n : Int) < d.batches.length ∧ 0 ≤ (h : Int) ∧ (h : Int) ≤ d.hours) (e0 : (d.batches.map eBatch)[n]? = some (eBatch b)) (k77 : ACalls Tryz.prog 77 [eDrum d, eTruth acid t, vi n, vi h] (fun r => r = .tup [.agg (eState S), .bool true]))
    (k31 : ACalls Tryz.prog 31 [eDrum d, vi n] (fun r => r = .tup [vi (if x < 0 then ((0 : Int), (5 : Int)) else (x, 0)).1, vi (if x < 0 then ((0 : Int), (5 : Int)) else (x, 0)).2])) (k32 : ACalls Tryz.prog 32 [eDrum d, vi n] (fun r => r = .tup [vi (if y < 0 then ((0 : Int), (5 : Int)) else (y, 0)).1, vi (if y < 0 then ((0 : Int), (5 : Int)) else (y, 0)).2]))
    (sb : -1 ≤ x ∧ x ≤ d.hours.toNat) (tb : -1 ≤ y ∧ y ≤ d.hours.toNat) (A : 0 ≤ x → x ≤ h → S.rough ≤ b.goal) (B : (h : Int) ≤ y → b.least ≤ S.thick)
    (E : x = 0 ∨ ∃ (m : Nat) (L : List Bounds) (X : Bounds), (m : Int) = (if x < 0 then d.hours else x - 1) ∧ ACalls Tryz.prog 71 [eDrum d, vi m] (fun r => r = .tup [eBoundsL L, vi 0]) ∧ L.length = d.batches.length ∧ L[n]? = some X ∧ ¬ X.rough.high ≤ b.goal)
    (F : y = d.hours ∨ ∃ (m : Nat) (L : List Bounds) (X : Bounds), (m : Int) = y + 1 ∧ ACalls Tryz.prog 71 [eDrum d, vi m] (fun r => r = .tup [eBoundsL L, vi 0]) ∧ L.length = d.batches.length ∧ L[n]? = some X ∧ ¬ X.thick.low ≥ b.least) (hx : x = 0) : ACalls Tryz.prog 19 [eDrum d, eTruth acid t, vi n, vi h] (fun r => r = .pv (.bool true)) := by
  have hf2 := hf.2.2.2
  have hyc : y < 0 ∨ y = d.hours ∨ (0 ≤ y ∧ y < d.hours) := by clear E F A B; omega
  refine ACalls.of_body hT Tryz.func19 rfl (by kernel_rfl) rfl ?_
  (repeat' (first | refine stq ?_ | (refine AL_do2 rfl ?_; first | refine ⟨_, op_call1 rfl rfl rfl rfl (k23), nrmA rfl ?_⟩ | refine ⟨_, op_call1 rfl rfl rfl rfl (f24), nrmA rfl ?_⟩ | refine ⟨_, op_call1 rfl rfl rfl rfl (k39), nrmA rfl ?_⟩ | refine ⟨_, op_call1 rfl rfl rfl rfl (k63), nrmA rfl ?_⟩ | refine ⟨_, op_call1 rfl rfl rfl rfl (k72), nrmA rfl ?_⟩) | ((first | (with_reducible refine AL_id ?_); (fail_if_success (refine AL_glit rfl rfl rfl (by first | exact .inl (by with_reducible rfl) | exact .inr (by with_reducible rfl)) ?_)); first | refine AL_gdec rfl rfl rfl (fun hg => ?_) (fun hg => ?_) | refine AL_gnot rfl rfl rfl (fun hg => ?_) (fun hg => ?_) | refine AL_gcases rfl rfl rfl (fun hg => ?_) (fun hg => ?_)) <;> (try (exfalso; omega))) | refine AW_if rfl (fun hc => absurd hc (by omega)) (fun _ => ?_) | refine AW_if rfl (fun _ => ?_) (fun hc => absurd (by omega) hc)))
  all_goals (try (exfalso; omega))
  rw [if_neg (by omega)] at k31
  have k31 : ACalls Tryz.prog 31 [eDrum d, vi n] (fun r => r = .tup [vi x, vi 0]) := k31
  clear E
  rcases hyc with hy | hy | hy
  · rw [if_pos hy] at k32
    have k32 : ACalls Tryz.prog 32 [eDrum d, vi n] (fun r => r = .tup [vi 0, vi 5]) := k32
    rcases F with F | ⟨m', L', X', em', ke', g1, g2, g3⟩
    · exfalso; omega
    have : m' = 0 := by omega
    subst this
    have ke' : ACalls Tryz.prog 71 [eDrum d, vi 0] (fun r => r = .tup [eBoundsL L', vi 0]) := ke'
    have g2' := get_map eBounds g2
    (repeat' (first | refine stq ?_ | (refine AL_do2 rfl ?_; first | refine ⟨_, op_call1 rfl rfl rfl rfl (f24), nrmA rfl ?_⟩ | refine ⟨_, op_call1 rfl rfl rfl rfl (k31), nrmA rfl ?_⟩ | refine ⟨_, op_call1 rfl rfl rfl rfl (k32), nrmA rfl ?_⟩) | ((first | (with_reducible refine AL_id ?_); (fail_if_success (refine AL_glit rfl rfl rfl (by first | exact .inl (by with_reducible rfl) | exact .inr (by with_reducible rfl)) ?_)); first | refine AL_gdec rfl rfl rfl (fun hg => ?_) (fun hg => ?_) | refine AL_gnot rfl rfl rfl (fun hg => ?_) (fun hg => ?_) | refine AL_gcases rfl rfl rfl (fun hg => ?_) (fun hg => ?_)) <;> (try (exfalso; omega))) | refine AW_if rfl (fun hc => absurd hc (by omega)) (fun _ => ?_) | refine AW_if rfl (fun _ => ?_) (fun hc => absurd (by omega) hc)))
    refine AL_do2 rfl ⟨_, op_call1 rfl rfl rfl rfl (k77), ?_⟩
    iterate 7 (refine stq ?_)
    refine AW_mid3 (mkSt [(2, .pv (vi n)), (4, .box 0 0), (9, .pv (vi x)), (10, .pv (vi 0)), (11, .pv (vi 0)), (12, .pv (vi 5)), (15, .box 3 0)] [(0, .box ((eDrumC d).map FV.pv)), (3, .box ((eBatch b).map FV.pv))] 4) ?_ ?_
    · (repeat' (first | refine stq ?_ | ((first | (with_reducible refine AL_id ?_); (fail_if_success (refine AL_glit rfl rfl rfl (by first | exact .inl (by with_reducible rfl) | exact .inr (by with_reducible rfl)) ?_)); first | refine AL_gdec rfl rfl rfl (fun hg => ?_) (fun hg => ?_) | refine AL_gnot rfl rfl rfl (fun hg => ?_) (fun hg => ?_) | refine AL_gcases rfl rfl rfl (fun hg => ?_) (fun hg => ?_)) <;> (try (exfalso; omega))) | refine AW_if rfl (fun hc => absurd hc (by omega)) (fun _ => ?_) | refine AW_if rfl (fun _ => ?_) (fun hc => absurd (by omega) hc)))
      all_goals (try (exfalso; omega))
      all_goals (refine Le.mk ?_ ?_; all_goals (repeat' (first | exact trivial | refine sle ?_ | refine ⟨?_, rfl, ?_⟩ | refine ⟨?_, by decide, rfl, ?_⟩ | fail)))
    · (repeat' (first | refine stq ?_ | (refine AL_do2 rfl ?_; first | refine ⟨_, op_call1 rfl rfl rfl rfl (f24), nrmA rfl ?_⟩ | refine ⟨_, op_call1 rfl rfl rfl rfl (ke'), nrmA rfl ?_⟩) | ((first | (with_reducible refine AL_id ?_); (fail_if_success (refine AL_glit rfl rfl rfl (by first | exact .inl (by with_reducible rfl) | exact .inr (by with_reducible rfl)) ?_)); first | refine AL_gdec rfl rfl rfl (fun hg => ?_) (fun hg => ?_) | refine AL_gnot rfl rfl rfl (fun hg => ?_) (fun hg => ?_) | refine AL_gcases rfl rfl rfl (fun hg => ?_) (fun hg => ?_)) <;> (try (exfalso; omega))) | refine AW_if rfl (fun hc => absurd hc (by omega)) (fun _ => ?_) | refine AW_if rfl (fun _ => ?_) (fun hc => absurd (by omega) hc)))
      all_goals (try (exfalso; omega))
      refine sdq ?_
      refine DG_cmp hT rfl (fun hg => absurd hg (by omega)) (fun _ => ?_)
      iterate 6 (refine sdq ?_)
      refine DG_cmp hT rfl (fun hg => absurd hg (by omega)) (fun _ => ?_)
      iterate 10 (refine sdq ?_)
      refine DG_cmp hT rfl (fun hg => absurd hg (by omega)) (fun _ => ?_)
      refine sdq ?_
      refine DG_end hM (by kernel_rfl) ?_
      (repeat' (first | refine stq ?_ | (refine AL_do2 rfl ?_; first | refine ⟨_, op_call1 rfl rfl rfl rfl (f24), nrmA rfl ?_⟩ | refine ⟨_, op_call1 rfl rfl rfl rfl (ke'), nrmA rfl ?_⟩) | ((first | (with_reducible refine AL_id ?_); (fail_if_success (refine AL_glit rfl rfl rfl (by first | exact .inl (by with_reducible rfl) | exact .inr (by with_reducible rfl)) ?_)); first | refine AL_gdec rfl rfl rfl (fun hg => ?_) (fun hg => ?_) | refine AL_gnot rfl rfl rfl (fun hg => ?_) (fun hg => ?_) | refine AL_gcases rfl rfl rfl (fun hg => ?_) (fun hg => ?_)) <;> (try (exfalso; omega))) | refine AW_if rfl (fun hc => absurd hc (by omega)) (fun _ => ?_) | refine AW_if rfl (fun _ => ?_) (fun hc => absurd (by omega) hc)))
      all_goals (try (exfalso; omega))
      exact ⟨_, _, rfl, rfl, rfl⟩
  · rw [if_neg (by omega)] at k32
    have k32 : ACalls Tryz.prog 32 [eDrum d, vi n] (fun r => r = .tup [vi y, vi 0]) := k32
    clear F
    (repeat' (first | refine stq ?_ | (refine AL_do2 rfl ?_; first | refine ⟨_, op_call1 rfl rfl rfl rfl (f24), nrmA rfl ?_⟩ | refine ⟨_, op_call1 rfl rfl rfl rfl (k31), nrmA rfl ?_⟩ | refine ⟨_, op_call1 rfl rfl rfl rfl (k32), nrmA rfl ?_⟩) | ((first | (with_reducible refine AL_id ?_); (fail_if_success (refine AL_glit rfl rfl rfl (by first | exact .inl (by with_reducible rfl) | exact .inr (by with_reducible rfl)) ?_)); first | refine AL_gdec rfl rfl rfl (fun hg => ?_) (fun hg => ?_) | refine AL_gnot rfl rfl rfl (fun hg => ?_) (fun hg => ?_) | refine AL_gcases rfl rfl rfl (fun hg => ?_) (fun hg => ?_)) <;> (try (exfalso; omega))) | refine AW_if rfl (fun hc => absurd hc (by omega)) (fun _ => ?_) | refine AW_if rfl (fun _ => ?_) (fun hc => absurd (by omega) hc)))
    refine AL_do2 rfl ⟨_, op_call1 rfl rfl rfl rfl (k77), ?_⟩
    iterate 7 (refine stq ?_)
    refine AW_mid3 (mkSt [(2, .pv (vi n)), (4, .box 0 0), (9, .pv (vi x)), (10, .pv (vi 0)), (11, .pv (vi y)), (12, .pv (vi 0)), (15, .box 3 0)] [(0, .box ((eDrumC d).map FV.pv)), (3, .box ((eBatch b).map FV.pv))] 4) ?_ ?_
    · (repeat' (first | refine stq ?_ | ((first | (with_reducible refine AL_id ?_); (fail_if_success (refine AL_glit rfl rfl rfl (by first | exact .inl (by with_reducible rfl) | exact .inr (by with_reducible rfl)) ?_)); first | refine AL_gdec rfl rfl rfl (fun hg => ?_) (fun hg => ?_) | refine AL_gnot rfl rfl rfl (fun hg => ?_) (fun hg => ?_) | refine AL_gcases rfl rfl rfl (fun hg => ?_) (fun hg => ?_)) <;> (try (exfalso; omega))) | refine AW_if rfl (fun hc => absurd hc (by omega)) (fun _ => ?_) | refine AW_if rfl (fun _ => ?_) (fun hc => absurd (by omega) hc)))
      all_goals (try (exfalso; omega))
      all_goals (refine Le.mk ?_ ?_; all_goals (repeat' (first | exact trivial | refine sle ?_ | refine ⟨?_, rfl, ?_⟩ | refine ⟨?_, by decide, rfl, ?_⟩ | fail)))
    · (repeat' (first | refine stq ?_ | (refine AL_do2 rfl ?_; first | refine ⟨_, op_call1 rfl rfl rfl rfl (f24), nrmA rfl ?_⟩) | ((first | (with_reducible refine AL_id ?_); (fail_if_success (refine AL_glit rfl rfl rfl (by first | exact .inl (by with_reducible rfl) | exact .inr (by with_reducible rfl)) ?_)); first | refine AL_gdec rfl rfl rfl (fun hg => ?_) (fun hg => ?_) | refine AL_gnot rfl rfl rfl (fun hg => ?_) (fun hg => ?_) | refine AL_gcases rfl rfl rfl (fun hg => ?_) (fun hg => ?_)) <;> (try (exfalso; omega))) | refine AW_if rfl (fun hc => absurd hc (by omega)) (fun _ => ?_) | refine AW_if rfl (fun _ => ?_) (fun hc => absurd (by omega) hc)))
      all_goals (try (exfalso; omega))
      exact ⟨_, _, rfl, rfl, rfl⟩
  · rw [if_neg (by omega)] at k32
    have k32 : ACalls Tryz.prog 32 [eDrum d, vi n] (fun r => r = .tup [vi y, vi 0]) := k32
    rcases F with F | ⟨m', L', X', em', ke', g1, g2, g3⟩
    · exfalso; omega
    rw [em'] at ke'
    have g2' := get_map eBounds g2
    (repeat' (first | refine stq ?_ | (refine AL_do2 rfl ?_; first | refine ⟨_, op_call1 rfl rfl rfl rfl (f24), nrmA rfl ?_⟩ | refine ⟨_, op_call1 rfl rfl rfl rfl (k31), nrmA rfl ?_⟩ | refine ⟨_, op_call1 rfl rfl rfl rfl (k32), nrmA rfl ?_⟩) | ((first | (with_reducible refine AL_id ?_); (fail_if_success (refine AL_glit rfl rfl rfl (by first | exact .inl (by with_reducible rfl) | exact .inr (by with_reducible rfl)) ?_)); first | refine AL_gdec rfl rfl rfl (fun hg => ?_) (fun hg => ?_) | refine AL_gnot rfl rfl rfl (fun hg => ?_) (fun hg => ?_) | refine AL_gcases rfl rfl rfl (fun hg => ?_) (fun hg => ?_)) <;> (try (exfalso; omega))) | refine AW_if rfl (fun hc => absurd hc (by omega)) (fun _ => ?_) | refine AW_if rfl (fun _ => ?_) (fun hc => absurd (by omega) hc)))
    refine AL_do2 rfl ⟨_, op_call1 rfl rfl rfl rfl (k77), ?_⟩
    iterate 7 (refine stq ?_)
    refine AW_mid3 (mkSt [(2, .pv (vi n)), (4, .box 0 0), (9, .pv (vi x)), (10, .pv (vi 0)), (11, .pv (vi y)), (12, .pv (vi 0)), (15, .box 3 0)] [(0, .box ((eDrumC d).map FV.pv)), (3, .box ((eBatch b).map FV.pv))] 4) ?_ ?_
    · (repeat' (first | refine stq ?_ | ((first | (with_reducible refine AL_id ?_); (fail_if_success (refine AL_glit rfl rfl rfl (by first | exact .inl (by with_reducible rfl) | exact .inr (by with_reducible rfl)) ?_)); first | refine AL_gdec rfl rfl rfl (fun hg => ?_) (fun hg => ?_) | refine AL_gnot rfl rfl rfl (fun hg => ?_) (fun hg => ?_) | refine AL_gcases rfl rfl rfl (fun hg => ?_) (fun hg => ?_)) <;> (try (exfalso; omega))) | refine AW_if rfl (fun hc => absurd hc (by omega)) (fun _ => ?_) | refine AW_if rfl (fun _ => ?_) (fun hc => absurd (by omega) hc)))
      all_goals (try (exfalso; omega))
      all_goals (refine Le.mk ?_ ?_; all_goals (repeat' (first | exact trivial | refine sle ?_ | refine ⟨?_, rfl, ?_⟩ | refine ⟨?_, by decide, rfl, ?_⟩ | fail)))
    · (repeat' (first | refine stq ?_ | (refine AL_do2 rfl ?_; first | refine ⟨_, op_call1 rfl rfl rfl rfl (f24), nrmA rfl ?_⟩ | refine ⟨_, op_call1 rfl rfl rfl rfl (ke'), nrmA rfl ?_⟩) | ((first | (with_reducible refine AL_id ?_); (fail_if_success (refine AL_glit rfl rfl rfl (by first | exact .inl (by with_reducible rfl) | exact .inr (by with_reducible rfl)) ?_)); first | refine AL_gdec rfl rfl rfl (fun hg => ?_) (fun hg => ?_) | refine AL_gnot rfl rfl rfl (fun hg => ?_) (fun hg => ?_) | refine AL_gcases rfl rfl rfl (fun hg => ?_) (fun hg => ?_)) <;> (try (exfalso; omega))) | refine AW_if rfl (fun hc => absurd hc (by omega)) (fun _ => ?_) | refine AW_if rfl (fun _ => ?_) (fun hc => absurd (by omega) hc)))
      all_goals (try (exfalso; omega))
      refine sdq ?_
      refine DG_cmp hT rfl (fun hg => absurd hg (by omega)) (fun _ => ?_)
      iterate 6 (refine sdq ?_)
      refine DG_cmp hT rfl (fun hg => absurd hg (by omega)) (fun _ => ?_)
      iterate 10 (refine sdq ?_)
      refine DG_cmp hT rfl (fun hg => absurd hg (by omega)) (fun _ => ?_)
      refine sdq ?_
      refine DG_end hM (by kernel_rfl) ?_
      (repeat' (first | refine stq ?_ | (refine AL_do2 rfl ?_; first | refine ⟨_, op_call1 rfl rfl rfl rfl (f24), nrmA rfl ?_⟩ | refine ⟨_, op_call1 rfl rfl rfl rfl (ke'), nrmA rfl ?_⟩) | ((first | (with_reducible refine AL_id ?_); (fail_if_success (refine AL_glit rfl rfl rfl (by first | exact .inl (by with_reducible rfl) | exact .inr (by with_reducible rfl)) ?_)); first | refine AL_gdec rfl rfl rfl (fun hg => ?_) (fun hg => ?_) | refine AL_gnot rfl rfl rfl (fun hg => ?_) (fun hg => ?_) | refine AL_gcases rfl rfl rfl (fun hg => ?_) (fun hg => ?_)) <;> (try (exfalso; omega))) | refine AW_if rfl (fun hc => absurd hc (by omega)) (fun _ => ?_) | refine AW_if rfl (fun _ => ?_) (fun hc => absurd (by omega) hc)))
      all_goals (try (exfalso; omega))
      exact ⟨_, _, rfl, rfl, rfl⟩
end Go.Abs
