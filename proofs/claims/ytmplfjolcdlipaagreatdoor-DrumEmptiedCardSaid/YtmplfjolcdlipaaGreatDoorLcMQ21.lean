/- DrumEmptied: one way of the walk. -/
import Derived.Test.YtmplfjolcdlipaaGreatDoorLcQ21
import Derived.Test.YtmplfjolcdlipaaGreatDoorXQ21
set_option linter.unusedVariables false
set_option linter.unusedSimpArgs false
namespace Go.Abs
open Go.Proofs
set_option linter.unusedVariables false
set_option linter.unusedSimpArgs false
set_option maxRecDepth 100000
set_option maxHeartbeats 16000000 in
theorem f21x0 {d : Drum} {acid : Int} {t : List Int} {h : Nat} {w : Span} {LA : List State} {LC : List Bounds} (k23 : ACalls Tryz.prog 23 [eDrum d] (fun r => r = .pv (.bool true))) (k39 : ACalls Tryz.prog 39 [eDrum d] (fun r => r = .pv (.bool true))) (k63 : ACalls Tryz.prog 63 [eDrum d, eTruth acid t] (fun r => r = .pv (.bool true))) (k72 : ACalls Tryz.prog 72 [eDrum d, eTruth acid t] (fun r => r = .pv (.bool true)))
    (ht : t.length ≤ 15) (hbl : d.batches.length ≤ 5) (hh1 : d.hours ≤ 12) (hf : 0 ≤ (h : Int) ∧ (h : Int) ≤ d.hours) (k55 : ACalls Tryz.prog 55 [eDrum d] (fun r => r = .tup [eS w, vi 0])) (k70 : ACalls Tryz.prog 70 [eDrum d, eTruth acid t, vi h] (fun r => r = .tup [eStates LA, vi 0])) (k71 : ACalls Tryz.prog 71 [eDrum d, vi h] (fun r => r = .tup [eBoundsL LC, vi 0]))
    (la : LA.length = d.batches.length) (lc : LC.length = d.batches.length) (ha : ∀ (k : Nat) (b : Batch), d.batches[k]? = some b → LA[k]? = some (stateI b t h)) (hc' : ∀ (k : Nat) (b : Batch), d.batches[k]? = some b → LC[k]? = some (boundsI d b h))
    (main : ∀ b ∈ d.batches, sureB d b h = true → (stateI b t h).rough ≤ b.goal ∧ b.least ≤ (stateI b t h).thick) (hsb : ∀ b : Batch, sureB d b h = (decide ((boundsI d b h).rough.high ≤ b.goal) && decide ((boundsI d b h).thick.low ≥ b.least))) (W2 : true = d.batches.all fun b => sureB d b h) (g1 : w.low ≤ h) (g2 : h ≤ w.high) : ACalls Tryz.prog 21 [eDrum d, eTruth acid t, vi h] (fun r => r = .pv (.bool true)) := by
  refine ACalls.of_body hT Tryz.func21 rfl (by kernel_rfl) rfl ?_
  (repeat' (first | refine stq ?_ | (refine AL_do2 rfl ?_; first | refine ⟨_, op_call1 rfl rfl rfl rfl (k23), nrmA rfl ?_⟩ | refine ⟨_, op_call1 rfl rfl rfl rfl (f24), nrmA rfl ?_⟩ | refine ⟨_, op_call1 rfl rfl rfl rfl (k39), nrmA rfl ?_⟩ | refine ⟨_, op_call1 rfl rfl rfl rfl (k63), nrmA rfl ?_⟩ | refine ⟨_, op_call1 rfl rfl rfl rfl (k72), nrmA rfl ?_⟩) | ((first | (with_reducible refine AL_id ?_); (fail_if_success (refine AL_glit rfl rfl rfl (by first | exact .inl (by with_reducible rfl) | exact .inr (by with_reducible rfl)) ?_)); first | refine AL_gdec rfl rfl rfl (fun hg => ?_) (fun hg => ?_) | refine AL_gnot rfl rfl rfl (fun hg => ?_) (fun hg => ?_) | refine AL_gcases rfl rfl rfl (fun hg => ?_) (fun hg => ?_)) <;> (try (exfalso; omega))) | refine AW_if rfl (fun hc => absurd hc (by omega)) (fun _ => ?_) | refine AW_if rfl (fun _ => ?_) (fun hc => absurd (by omega) hc)))
  all_goals (try (exfalso; omega))
  (repeat' (first | refine stq ?_ | (refine AL_do2 rfl ?_; first | refine ⟨_, op_call1 rfl rfl rfl rfl (f24), nrmA rfl ?_⟩ | refine ⟨_, op_call1 rfl rfl rfl rfl (k55), nrmA rfl ?_⟩ | refine ⟨_, op_call1 rfl rfl rfl rfl (k70), nrmA rfl ?_⟩ | refine ⟨_, op_call1 rfl rfl rfl rfl (k71), nrmA rfl ?_⟩) | ((first | (with_reducible refine AL_id ?_); (fail_if_success (refine AL_glit rfl rfl rfl (by first | exact .inl (by with_reducible rfl) | exact .inr (by with_reducible rfl)) ?_)); first | refine AL_gdec rfl rfl rfl (fun hg => ?_) (fun hg => ?_) | refine AL_gnot rfl rfl rfl (fun hg => ?_) (fun hg => ?_) | refine AL_gcases rfl rfl rfl (fun hg => ?_) (fun hg => ?_)) <;> (try (exfalso; omega))) | refine AW_if rfl (fun hc => absurd hc (by omega)) (fun _ => ?_) | refine AW_if rfl (fun _ => ?_) (fun hc => absurd (by omega) hc)))
  all_goals (try (exfalso; omega))
  refine AW_loopC (fun k : Nat => k ≤ d.batches.length) (fun k => mkSt [(3, .box 0 0), (9, .pv (eStates LA)), (11, .pv (eBoundsL LC)), (13, .pv (.bool true)), (14, .pv (.bool ((d.batches.take k).all fun b => sureB d b h))), (15, .pv (vi k))] [(0, .box ((eDrumC d).map FV.pv))] 3) (fun k => d.batches.length - k) 0 (Nat.zero_le _) ?_ ?_
  · (refine Le.mk ?_ ?_; all_goals (repeat' (first | exact trivial | refine sle ?_ | refine ⟨?_, rfl, ?_⟩ | refine ⟨?_, by decide, rfl, ?_⟩ | fail)))
    exact congrArg some (congrArg FV.pv (congrArg PV.bool (decide_eq_true g2)))
  · intro k hk
    (repeat (refine stq ?_))
    refine AW_if rfl (fun hc => ?_) (fun hc => ?_)
    · have hk' : k < d.batches.length := by omega
      obtain ⟨b, hb⟩ : ∃ b, d.batches[k]? = some b := ⟨d.batches[k], by simp [hk']⟩
      have e0 := get_map eBatch hb
      have ea := get_map eState (ha k b hb)
      have ec := get_map eBounds (hc' k b hb)
      have hn : (d.batches.take (k + 1)).all (fun b => sureB d b h) = ((d.batches.take k).all (fun b => sureB d b h) && sureB d b h) := all_take1 hb
      have hsv := hsb b
      have hbm := List.mem_of_getElem? hb
      have hs1 : sureB d b h = true := List.all_eq_true.1 W2.symm b hbm
      have hm2 := main b hbm hs1
      generalize sureB d b h = sv at *
      generalize stateI b t h = A at *
      generalize boundsI d b h = B at *
      generalize (d.batches.take k).all (fun b => sureB d b h) = S0 at *
      have hcases : (S0 = true ∧ B.rough.high ≤ b.goal ∧ B.thick.low ≥ b.least ∧ (S0 && sv) = true) ∨ (S0 = true ∧ B.rough.high ≤ b.goal ∧ ¬ B.thick.low ≥ b.least ∧ (S0 && sv) = false) ∨ (S0 = true ∧ ¬ B.rough.high ≤ b.goal ∧ (S0 && sv) = false) ∨ (S0 = false ∧ (S0 && sv) = false) := by
        subst hsv
        cases S0 with
        | false => exact .inr (.inr (.inr ⟨rfl, rfl⟩))
        | true =>
          by_cases g1 : B.rough.high ≤ b.goal
          · by_cases g2 : B.thick.low ≥ b.least
            · exact .inl ⟨rfl, g1, g2, by rw [decide_eq_true g1, decide_eq_true g2]; rfl⟩
            · exact .inr (.inl ⟨rfl, g1, g2, by rw [decide_eq_true g1, decide_eq_false g2]; rfl⟩)
          · exact .inr (.inr (.inl ⟨rfl, g1, by rw [decide_eq_false g1]; rfl⟩))
      clear hsv
      (repeat (refine stq ?_))
      iterate 9 (refine sdq ?_)
      refine DG_cmp hT rfl (fun hg => absurd hg (by omega)) (fun _ => ?_)
      iterate 8 (refine sdq ?_)
      refine DG_cmp hT rfl (fun hg => absurd hg (by omega)) (fun _ => ?_)
      iterate 2 (refine sdq ?_)
      refine DG_end hM (by kernel_rfl) ?_
      (repeat (refine stq ?_))
      rcases hcases with ⟨rfl, c1, c2, c3⟩ | ⟨rfl, c1, c2, c3⟩ | ⟨rfl, c1, c3⟩ | ⟨rfl, c3⟩
      · iterate 10 (refine sdq ?_)
        refine DG_cmp hT rfl (fun _ => ?_) (fun hg => absurd hg (by omega))
        iterate 10 (refine sdq ?_)
        refine DG_cmp hT rfl (fun _ => ?_) (fun hg => absurd hg (by omega))
        (repeat (refine sdq ?_))
        refine DG_end hM (by kernel_rfl) ?_
        (repeat (refine stq ?_))
        refine ⟨k + 1, hk', by omega, ?_⟩
        rw [hn, c3]
        (refine Le.mk ?_ ?_; all_goals (repeat' (first | exact trivial | refine sle ?_ | refine ⟨?_, rfl, ?_⟩ | refine ⟨?_, by decide, rfl, ?_⟩ | fail)))
      · iterate 10 (refine sdq ?_)
        refine DG_cmp hT rfl (fun _ => ?_) (fun hg => absurd hg (by omega))
        iterate 10 (refine sdq ?_)
        refine DG_cmp hT rfl (fun hg => absurd hg (by omega)) (fun _ => ?_)
        (repeat (refine sdq ?_))
        refine DG_end hM (by kernel_rfl) ?_
        (repeat (refine stq ?_))
        refine ⟨k + 1, hk', by omega, ?_⟩
        rw [hn, c3]
        (refine Le.mk ?_ ?_; all_goals (repeat' (first | exact trivial | refine sle ?_ | refine ⟨?_, rfl, ?_⟩ | refine ⟨?_, by decide, rfl, ?_⟩ | fail)))
      · iterate 10 (refine sdq ?_)
        refine DG_cmp hT rfl (fun hg => absurd hg (by omega)) (fun _ => ?_)
        (repeat (refine sdq ?_))
        refine DG_end hM (by kernel_rfl) ?_
        (repeat (refine stq ?_))
        refine ⟨k + 1, hk', by omega, ?_⟩
        rw [hn, c3]
        (refine Le.mk ?_ ?_; all_goals (repeat' (first | exact trivial | refine sle ?_ | refine ⟨?_, rfl, ?_⟩ | refine ⟨?_, by decide, rfl, ?_⟩ | fail)))
      · (repeat (refine sdq ?_))
        refine DG_end hM (by kernel_rfl) ?_
        (repeat (refine stq ?_))
        refine ⟨k + 1, hk', by omega, ?_⟩
        rw [hn, c3]
        (refine Le.mk ?_ ?_; all_goals (repeat' (first | exact trivial | refine sle ?_ | refine ⟨?_, rfl, ?_⟩ | refine ⟨?_, by decide, rfl, ?_⟩ | fail)))
    · have hk' : k = d.batches.length := by omega
      subst hk'
      rw [List.take_length, ← W2]
      (repeat' (first | refine stq ?_ | (refine AL_do2 rfl ?_; first | refine ⟨_, op_call1 rfl rfl rfl rfl (f24), nrmA rfl ?_⟩ | refine ⟨_, op_eqlB hT rfl rfl rfl rfl rfl rfl, ?_⟩) | (with_reducible refine AL_id ?_); (fail_if_success (refine AL_glit rfl rfl rfl (by first | exact .inl (by with_reducible rfl) | exact .inr (by with_reducible rfl)) ?_)); first | refine AL_gdec rfl rfl rfl (fun hg => ?_) (fun hg => ?_) | refine AL_gnot rfl rfl rfl (fun hg => ?_) (fun hg => ?_) | refine AL_gcases rfl rfl rfl (fun hg => ?_) (fun hg => ?_)))
      exact ⟨_, _, rfl, rfl, rfl⟩
end Go.Abs
namespace Go.Abs
open Go.Proofs
set_option linter.unusedVariables false
set_option linter.unusedSimpArgs false
set_option maxRecDepth 100000
set_option maxHeartbeats 16000000 in
theorem f21x1 {d : Drum} {acid : Int} {t : List Int} {h : Nat} {w : Span} {LA : List State} {LC : List Bounds} (k23 : ACalls Tryz.prog 23 [eDrum d] (fun r => r = .pv (.bool true))) (k39 : ACalls Tryz.prog 39 [eDrum d] (fun r => r = .pv (.bool true))) (k63 : ACalls Tryz.prog 63 [eDrum d, eTruth acid t] (fun r => r = .pv (.bool true))) (k72 : ACalls Tryz.prog 72 [eDrum d, eTruth acid t] (fun r => r = .pv (.bool true)))
    (ht : t.length ≤ 15) (hbl : d.batches.length ≤ 5) (hh1 : d.hours ≤ 12) (hf : 0 ≤ (h : Int) ∧ (h : Int) ≤ d.hours) (k55 : ACalls Tryz.prog 55 [eDrum d] (fun r => r = .tup [eS w, vi 0])) (k70 : ACalls Tryz.prog 70 [eDrum d, eTruth acid t, vi h] (fun r => r = .tup [eStates LA, vi 0])) (k71 : ACalls Tryz.prog 71 [eDrum d, vi h] (fun r => r = .tup [eBoundsL LC, vi 0]))
    (la : LA.length = d.batches.length) (lc : LC.length = d.batches.length) (ha : ∀ (k : Nat) (b : Batch), d.batches[k]? = some b → LA[k]? = some (stateI b t h)) (hc' : ∀ (k : Nat) (b : Batch), d.batches[k]? = some b → LC[k]? = some (boundsI d b h))
    (main : ∀ b ∈ d.batches, sureB d b h = true → (stateI b t h).rough ≤ b.goal ∧ b.least ≤ (stateI b t h).thick) (hsb : ∀ b : Batch, sureB d b h = (decide ((boundsI d b h).rough.high ≤ b.goal) && decide ((boundsI d b h).thick.low ≥ b.least))) (W2 : false = d.batches.all fun b => sureB d b h) (g1 : (h : Int) < w.low) : ACalls Tryz.prog 21 [eDrum d, eTruth acid t, vi h] (fun r => r = .pv (.bool true)) := by
  refine ACalls.of_body hT Tryz.func21 rfl (by kernel_rfl) rfl ?_
  (repeat' (first | refine stq ?_ | (refine AL_do2 rfl ?_; first | refine ⟨_, op_call1 rfl rfl rfl rfl (k23), nrmA rfl ?_⟩ | refine ⟨_, op_call1 rfl rfl rfl rfl (f24), nrmA rfl ?_⟩ | refine ⟨_, op_call1 rfl rfl rfl rfl (k39), nrmA rfl ?_⟩ | refine ⟨_, op_call1 rfl rfl rfl rfl (k63), nrmA rfl ?_⟩ | refine ⟨_, op_call1 rfl rfl rfl rfl (k72), nrmA rfl ?_⟩) | ((first | (with_reducible refine AL_id ?_); (fail_if_success (refine AL_glit rfl rfl rfl (by first | exact .inl (by with_reducible rfl) | exact .inr (by with_reducible rfl)) ?_)); first | refine AL_gdec rfl rfl rfl (fun hg => ?_) (fun hg => ?_) | refine AL_gnot rfl rfl rfl (fun hg => ?_) (fun hg => ?_) | refine AL_gcases rfl rfl rfl (fun hg => ?_) (fun hg => ?_)) <;> (try (exfalso; omega))) | refine AW_if rfl (fun hc => absurd hc (by omega)) (fun _ => ?_) | refine AW_if rfl (fun _ => ?_) (fun hc => absurd (by omega) hc)))
  all_goals (try (exfalso; omega))
  (repeat' (first | refine stq ?_ | (refine AL_do2 rfl ?_; first | refine ⟨_, op_call1 rfl rfl rfl rfl (f24), nrmA rfl ?_⟩ | refine ⟨_, op_call1 rfl rfl rfl rfl (k55), nrmA rfl ?_⟩ | refine ⟨_, op_call1 rfl rfl rfl rfl (k70), nrmA rfl ?_⟩ | refine ⟨_, op_call1 rfl rfl rfl rfl (k71), nrmA rfl ?_⟩) | ((first | (with_reducible refine AL_id ?_); (fail_if_success (refine AL_glit rfl rfl rfl (by first | exact .inl (by with_reducible rfl) | exact .inr (by with_reducible rfl)) ?_)); first | refine AL_gdec rfl rfl rfl (fun hg => ?_) (fun hg => ?_) | refine AL_gnot rfl rfl rfl (fun hg => ?_) (fun hg => ?_) | refine AL_gcases rfl rfl rfl (fun hg => ?_) (fun hg => ?_)) <;> (try (exfalso; omega))) | refine AW_if rfl (fun hc => absurd hc (by omega)) (fun _ => ?_) | refine AW_if rfl (fun _ => ?_) (fun hc => absurd (by omega) hc)))
  all_goals (try (exfalso; omega))
  refine AW_loopC (fun k : Nat => k ≤ d.batches.length) (fun k => mkSt [(3, .box 0 0), (9, .pv (eStates LA)), (11, .pv (eBoundsL LC)), (13, .pv (.bool false)), (14, .pv (.bool ((d.batches.take k).all fun b => sureB d b h))), (15, .pv (vi k))] [(0, .box ((eDrumC d).map FV.pv))] 3) (fun k => d.batches.length - k) 0 (Nat.zero_le _) ?_ ?_
  · (refine Le.mk ?_ ?_; all_goals (repeat' (first | exact trivial | refine sle ?_ | refine ⟨?_, rfl, ?_⟩ | refine ⟨?_, by decide, rfl, ?_⟩ | fail)))
  · intro k hk
    (repeat (refine stq ?_))
    refine AW_if rfl (fun hc => ?_) (fun hc => ?_)
    · have hk' : k < d.batches.length := by omega
      obtain ⟨b, hb⟩ : ∃ b, d.batches[k]? = some b := ⟨d.batches[k], by simp [hk']⟩
      have e0 := get_map eBatch hb
      have ea := get_map eState (ha k b hb)
      have ec := get_map eBounds (hc' k b hb)
      have hn : (d.batches.take (k + 1)).all (fun b => sureB d b h) = ((d.batches.take k).all (fun b => sureB d b h) && sureB d b h) := all_take1 hb
      have hsv := hsb b
      generalize sureB d b h = sv at *
      generalize stateI b t h = A at *
      generalize boundsI d b h = B at *
      generalize (d.batches.take k).all (fun b => sureB d b h) = S0 at *
      have hcases : (S0 = true ∧ B.rough.high ≤ b.goal ∧ B.thick.low ≥ b.least ∧ (S0 && sv) = true) ∨ (S0 = true ∧ B.rough.high ≤ b.goal ∧ ¬ B.thick.low ≥ b.least ∧ (S0 && sv) = false) ∨ (S0 = true ∧ ¬ B.rough.high ≤ b.goal ∧ (S0 && sv) = false) ∨ (S0 = false ∧ (S0 && sv) = false) := by
        subst hsv
        cases S0 with
        | false => exact .inr (.inr (.inr ⟨rfl, rfl⟩))
        | true =>
          by_cases g1 : B.rough.high ≤ b.goal
          · by_cases g2 : B.thick.low ≥ b.least
            · exact .inl ⟨rfl, g1, g2, by rw [decide_eq_true g1, decide_eq_true g2]; rfl⟩
            · exact .inr (.inl ⟨rfl, g1, g2, by rw [decide_eq_true g1, decide_eq_false g2]; rfl⟩)
          · exact .inr (.inr (.inl ⟨rfl, g1, by rw [decide_eq_false g1]; rfl⟩))
      clear hsv
      (repeat (refine stq ?_))
      (repeat (first | refine DG_next (StepOK.skipU rfl rfl) ?_ | refine sdq ?_))
      refine DG_end hM (by kernel_rfl) ?_
      (repeat (refine stq ?_))
      rcases hcases with ⟨rfl, c1, c2, c3⟩ | ⟨rfl, c1, c2, c3⟩ | ⟨rfl, c1, c3⟩ | ⟨rfl, c3⟩
      · iterate 10 (refine sdq ?_)
        refine DG_cmp hT rfl (fun _ => ?_) (fun hg => absurd hg (by omega))
        iterate 10 (refine sdq ?_)
        refine DG_cmp hT rfl (fun _ => ?_) (fun hg => absurd hg (by omega))
        (repeat (refine sdq ?_))
        refine DG_end hM (by kernel_rfl) ?_
        (repeat (refine stq ?_))
        refine ⟨k + 1, hk', by omega, ?_⟩
        rw [hn, c3]
        (refine Le.mk ?_ ?_; all_goals (repeat' (first | exact trivial | refine sle ?_ | refine ⟨?_, rfl, ?_⟩ | refine ⟨?_, by decide, rfl, ?_⟩ | fail)))
      · iterate 10 (refine sdq ?_)
        refine DG_cmp hT rfl (fun _ => ?_) (fun hg => absurd hg (by omega))
        iterate 10 (refine sdq ?_)
        refine DG_cmp hT rfl (fun hg => absurd hg (by omega)) (fun _ => ?_)
        (repeat (refine sdq ?_))
        refine DG_end hM (by kernel_rfl) ?_
        (repeat (refine stq ?_))
        refine ⟨k + 1, hk', by omega, ?_⟩
        rw [hn, c3]
        (refine Le.mk ?_ ?_; all_goals (repeat' (first | exact trivial | refine sle ?_ | refine ⟨?_, rfl, ?_⟩ | refine ⟨?_, by decide, rfl, ?_⟩ | fail)))
      · iterate 10 (refine sdq ?_)
        refine DG_cmp hT rfl (fun hg => absurd hg (by omega)) (fun _ => ?_)
        (repeat (refine sdq ?_))
        refine DG_end hM (by kernel_rfl) ?_
        (repeat (refine stq ?_))
        refine ⟨k + 1, hk', by omega, ?_⟩
        rw [hn, c3]
        (refine Le.mk ?_ ?_; all_goals (repeat' (first | exact trivial | refine sle ?_ | refine ⟨?_, rfl, ?_⟩ | refine ⟨?_, by decide, rfl, ?_⟩ | fail)))
      · (repeat (refine sdq ?_))
        refine DG_end hM (by kernel_rfl) ?_
        (repeat (refine stq ?_))
        refine ⟨k + 1, hk', by omega, ?_⟩
        rw [hn, c3]
        (refine Le.mk ?_ ?_; all_goals (repeat' (first | exact trivial | refine sle ?_ | refine ⟨?_, rfl, ?_⟩ | refine ⟨?_, by decide, rfl, ?_⟩ | fail)))
    · have hk' : k = d.batches.length := by omega
      subst hk'
      rw [List.take_length, ← W2]
      (repeat' (first | refine stq ?_ | (refine AL_do2 rfl ?_; first | refine ⟨_, op_call1 rfl rfl rfl rfl (f24), nrmA rfl ?_⟩ | refine ⟨_, op_eqlB hT rfl rfl rfl rfl rfl rfl, ?_⟩) | (with_reducible refine AL_id ?_); (fail_if_success (refine AL_glit rfl rfl rfl (by first | exact .inl (by with_reducible rfl) | exact .inr (by with_reducible rfl)) ?_)); first | refine AL_gdec rfl rfl rfl (fun hg => ?_) (fun hg => ?_) | refine AL_gnot rfl rfl rfl (fun hg => ?_) (fun hg => ?_) | refine AL_gcases rfl rfl rfl (fun hg => ?_) (fun hg => ?_)))
      exact ⟨_, _, rfl, rfl, rfl⟩
end Go.Abs
namespace Go.Abs
open Go.Proofs
set_option linter.unusedVariables false
set_option linter.unusedSimpArgs false
set_option maxRecDepth 100000
set_option maxHeartbeats 16000000 in
theorem f21x2 {d : Drum} {acid : Int} {t : List Int} {h : Nat} {w : Span} {LA : List State} {LC : List Bounds} (k23 : ACalls Tryz.prog 23 [eDrum d] (fun r => r = .pv (.bool true))) (k39 : ACalls Tryz.prog 39 [eDrum d] (fun r => r = .pv (.bool true))) (k63 : ACalls Tryz.prog 63 [eDrum d, eTruth acid t] (fun r => r = .pv (.bool true))) (k72 : ACalls Tryz.prog 72 [eDrum d, eTruth acid t] (fun r => r = .pv (.bool true)))
    (ht : t.length ≤ 15) (hbl : d.batches.length ≤ 5) (hh1 : d.hours ≤ 12) (hf : 0 ≤ (h : Int) ∧ (h : Int) ≤ d.hours) (k55 : ACalls Tryz.prog 55 [eDrum d] (fun r => r = .tup [eS w, vi 0])) (k70 : ACalls Tryz.prog 70 [eDrum d, eTruth acid t, vi h] (fun r => r = .tup [eStates LA, vi 0])) (k71 : ACalls Tryz.prog 71 [eDrum d, vi h] (fun r => r = .tup [eBoundsL LC, vi 0]))
    (la : LA.length = d.batches.length) (lc : LC.length = d.batches.length) (ha : ∀ (k : Nat) (b : Batch), d.batches[k]? = some b → LA[k]? = some (stateI b t h)) (hc' : ∀ (k : Nat) (b : Batch), d.batches[k]? = some b → LC[k]? = some (boundsI d b h))
    (main : ∀ b ∈ d.batches, sureB d b h = true → (stateI b t h).rough ≤ b.goal ∧ b.least ≤ (stateI b t h).thick) (hsb : ∀ b : Batch, sureB d b h = (decide ((boundsI d b h).rough.high ≤ b.goal) && decide ((boundsI d b h).thick.low ≥ b.least))) (W2 : false = d.batches.all fun b => sureB d b h) (g1 : w.low ≤ h) (g2 : w.high < h) : ACalls Tryz.prog 21 [eDrum d, eTruth acid t, vi h] (fun r => r = .pv (.bool true)) := by
  refine ACalls.of_body hT Tryz.func21 rfl (by kernel_rfl) rfl ?_
  (repeat' (first | refine stq ?_ | (refine AL_do2 rfl ?_; first | refine ⟨_, op_call1 rfl rfl rfl rfl (k23), nrmA rfl ?_⟩ | refine ⟨_, op_call1 rfl rfl rfl rfl (f24), nrmA rfl ?_⟩ | refine ⟨_, op_call1 rfl rfl rfl rfl (k39), nrmA rfl ?_⟩ | refine ⟨_, op_call1 rfl rfl rfl rfl (k63), nrmA rfl ?_⟩ | refine ⟨_, op_call1 rfl rfl rfl rfl (k72), nrmA rfl ?_⟩) | ((first | (with_reducible refine AL_id ?_); (fail_if_success (refine AL_glit rfl rfl rfl (by first | exact .inl (by with_reducible rfl) | exact .inr (by with_reducible rfl)) ?_)); first | refine AL_gdec rfl rfl rfl (fun hg => ?_) (fun hg => ?_) | refine AL_gnot rfl rfl rfl (fun hg => ?_) (fun hg => ?_) | refine AL_gcases rfl rfl rfl (fun hg => ?_) (fun hg => ?_)) <;> (try (exfalso; omega))) | refine AW_if rfl (fun hc => absurd hc (by omega)) (fun _ => ?_) | refine AW_if rfl (fun _ => ?_) (fun hc => absurd (by omega) hc)))
  all_goals (try (exfalso; omega))
  (repeat' (first | refine stq ?_ | (refine AL_do2 rfl ?_; first | refine ⟨_, op_call1 rfl rfl rfl rfl (f24), nrmA rfl ?_⟩ | refine ⟨_, op_call1 rfl rfl rfl rfl (k55), nrmA rfl ?_⟩ | refine ⟨_, op_call1 rfl rfl rfl rfl (k70), nrmA rfl ?_⟩ | refine ⟨_, op_call1 rfl rfl rfl rfl (k71), nrmA rfl ?_⟩) | ((first | (with_reducible refine AL_id ?_); (fail_if_success (refine AL_glit rfl rfl rfl (by first | exact .inl (by with_reducible rfl) | exact .inr (by with_reducible rfl)) ?_)); first | refine AL_gdec rfl rfl rfl (fun hg => ?_) (fun hg => ?_) | refine AL_gnot rfl rfl rfl (fun hg => ?_) (fun hg => ?_) | refine AL_gcases rfl rfl rfl (fun hg => ?_) (fun hg => ?_)) <;> (try (exfalso; omega))) | refine AW_if rfl (fun hc => absurd hc (by omega)) (fun _ => ?_) | refine AW_if rfl (fun _ => ?_) (fun hc => absurd (by omega) hc)))
  all_goals (try (exfalso; omega))
  refine AW_loopC (fun k : Nat => k ≤ d.batches.length) (fun k => mkSt [(3, .box 0 0), (9, .pv (eStates LA)), (11, .pv (eBoundsL LC)), (13, .pv (.bool false)), (14, .pv (.bool ((d.batches.take k).all fun b => sureB d b h))), (15, .pv (vi k))] [(0, .box ((eDrumC d).map FV.pv))] 3) (fun k => d.batches.length - k) 0 (Nat.zero_le _) ?_ ?_
  · (refine Le.mk ?_ ?_; all_goals (repeat' (first | exact trivial | refine sle ?_ | refine ⟨?_, rfl, ?_⟩ | refine ⟨?_, by decide, rfl, ?_⟩ | fail)))
    exact congrArg some (congrArg FV.pv (congrArg PV.bool (decide_eq_false (by omega))))
  · intro k hk
    (repeat (refine stq ?_))
    refine AW_if rfl (fun hc => ?_) (fun hc => ?_)
    · have hk' : k < d.batches.length := by omega
      obtain ⟨b, hb⟩ : ∃ b, d.batches[k]? = some b := ⟨d.batches[k], by simp [hk']⟩
      have e0 := get_map eBatch hb
      have ea := get_map eState (ha k b hb)
      have ec := get_map eBounds (hc' k b hb)
      have hn : (d.batches.take (k + 1)).all (fun b => sureB d b h) = ((d.batches.take k).all (fun b => sureB d b h) && sureB d b h) := all_take1 hb
      have hsv := hsb b
      generalize sureB d b h = sv at *
      generalize stateI b t h = A at *
      generalize boundsI d b h = B at *
      generalize (d.batches.take k).all (fun b => sureB d b h) = S0 at *
      have hcases : (S0 = true ∧ B.rough.high ≤ b.goal ∧ B.thick.low ≥ b.least ∧ (S0 && sv) = true) ∨ (S0 = true ∧ B.rough.high ≤ b.goal ∧ ¬ B.thick.low ≥ b.least ∧ (S0 && sv) = false) ∨ (S0 = true ∧ ¬ B.rough.high ≤ b.goal ∧ (S0 && sv) = false) ∨ (S0 = false ∧ (S0 && sv) = false) := by
        subst hsv
        cases S0 with
        | false => exact .inr (.inr (.inr ⟨rfl, rfl⟩))
        | true =>
          by_cases g1 : B.rough.high ≤ b.goal
          · by_cases g2 : B.thick.low ≥ b.least
            · exact .inl ⟨rfl, g1, g2, by rw [decide_eq_true g1, decide_eq_true g2]; rfl⟩
            · exact .inr (.inl ⟨rfl, g1, g2, by rw [decide_eq_true g1, decide_eq_false g2]; rfl⟩)
          · exact .inr (.inr (.inl ⟨rfl, g1, by rw [decide_eq_false g1]; rfl⟩))
      clear hsv
      (repeat (refine stq ?_))
      (repeat (first | refine DG_next (StepOK.skipU rfl rfl) ?_ | refine sdq ?_))
      refine DG_end hM (by kernel_rfl) ?_
      (repeat (refine stq ?_))
      rcases hcases with ⟨rfl, c1, c2, c3⟩ | ⟨rfl, c1, c2, c3⟩ | ⟨rfl, c1, c3⟩ | ⟨rfl, c3⟩
      · iterate 10 (refine sdq ?_)
        refine DG_cmp hT rfl (fun _ => ?_) (fun hg => absurd hg (by omega))
        iterate 10 (refine sdq ?_)
        refine DG_cmp hT rfl (fun _ => ?_) (fun hg => absurd hg (by omega))
        (repeat (refine sdq ?_))
        refine DG_end hM (by kernel_rfl) ?_
        (repeat (refine stq ?_))
        refine ⟨k + 1, hk', by omega, ?_⟩
        rw [hn, c3]
        (refine Le.mk ?_ ?_; all_goals (repeat' (first | exact trivial | refine sle ?_ | refine ⟨?_, rfl, ?_⟩ | refine ⟨?_, by decide, rfl, ?_⟩ | fail)))
      · iterate 10 (refine sdq ?_)
        refine DG_cmp hT rfl (fun _ => ?_) (fun hg => absurd hg (by omega))
        iterate 10 (refine sdq ?_)
        refine DG_cmp hT rfl (fun hg => absurd hg (by omega)) (fun _ => ?_)
        (repeat (refine sdq ?_))
        refine DG_end hM (by kernel_rfl) ?_
        (repeat (refine stq ?_))
        refine ⟨k + 1, hk', by omega, ?_⟩
        rw [hn, c3]
        (refine Le.mk ?_ ?_; all_goals (repeat' (first | exact trivial | refine sle ?_ | refine ⟨?_, rfl, ?_⟩ | refine ⟨?_, by decide, rfl, ?_⟩ | fail)))
      · iterate 10 (refine sdq ?_)
        refine DG_cmp hT rfl (fun hg => absurd hg (by omega)) (fun _ => ?_)
        (repeat (refine sdq ?_))
        refine DG_end hM (by kernel_rfl) ?_
        (repeat (refine stq ?_))
        refine ⟨k + 1, hk', by omega, ?_⟩
        rw [hn, c3]
        (refine Le.mk ?_ ?_; all_goals (repeat' (first | exact trivial | refine sle ?_ | refine ⟨?_, rfl, ?_⟩ | refine ⟨?_, by decide, rfl, ?_⟩ | fail)))
      · (repeat (refine sdq ?_))
        refine DG_end hM (by kernel_rfl) ?_
        (repeat (refine stq ?_))
        refine ⟨k + 1, hk', by omega, ?_⟩
        rw [hn, c3]
        (refine Le.mk ?_ ?_; all_goals (repeat' (first | exact trivial | refine sle ?_ | refine ⟨?_, rfl, ?_⟩ | refine ⟨?_, by decide, rfl, ?_⟩ | fail)))
    · have hk' : k = d.batches.length := by omega
      subst hk'
      rw [List.take_length, ← W2]
      (repeat' (first | refine stq ?_ | (refine AL_do2 rfl ?_; first | refine ⟨_, op_call1 rfl rfl rfl rfl (f24), nrmA rfl ?_⟩ | refine ⟨_, op_eqlB hT rfl rfl rfl rfl rfl rfl, ?_⟩) | (with_reducible refine AL_id ?_); (fail_if_success (refine AL_glit rfl rfl rfl (by first | exact .inl (by with_reducible rfl) | exact .inr (by with_reducible rfl)) ?_)); first | refine AL_gdec rfl rfl rfl (fun hg => ?_) (fun hg => ?_) | refine AL_gnot rfl rfl rfl (fun hg => ?_) (fun hg => ?_) | refine AL_gcases rfl rfl rfl (fun hg => ?_) (fun hg => ?_)))
      exact ⟨_, _, rfl, rfl, rfl⟩
end Go.Abs
namespace Go.Abs
open Go.Proofs
set_option linter.unusedVariables false
set_option linter.unusedSimpArgs false
set_option maxRecDepth 100000
set_option maxHeartbeats 16000000 in
theorem f21x3 {d : Drum} {acid : Int} {t : List Int} {h : Nat} {w : Span} {LA : List State} {LC : List Bounds} (k23 : ACalls Tryz.prog 23 [eDrum d] (fun r => r = .pv (.bool true))) (k39 : ACalls Tryz.prog 39 [eDrum d] (fun r => r = .pv (.bool true))) (k63 : ACalls Tryz.prog 63 [eDrum d, eTruth acid t] (fun r => r = .pv (.bool true))) (k72 : ACalls Tryz.prog 72 [eDrum d, eTruth acid t] (fun r => r = .pv (.bool true)))
    (ht : t.length ≤ 15) (hbl : d.batches.length ≤ 5) (hh1 : d.hours ≤ 12) (hf : 0 ≤ (h : Int) ∧ (h : Int) ≤ d.hours) (k55 : ACalls Tryz.prog 55 [eDrum d] (fun r => r = .tup [eS w, vi 5])) (k70 : ACalls Tryz.prog 70 [eDrum d, eTruth acid t, vi h] (fun r => r = .tup [eStates LA, vi 0])) (k71 : ACalls Tryz.prog 71 [eDrum d, vi h] (fun r => r = .tup [eBoundsL LC, vi 0]))
    (la : LA.length = d.batches.length) (lc : LC.length = d.batches.length) (ha : ∀ (k : Nat) (b : Batch), d.batches[k]? = some b → LA[k]? = some (stateI b t h)) (hc' : ∀ (k : Nat) (b : Batch), d.batches[k]? = some b → LC[k]? = some (boundsI d b h))
    (main : ∀ b ∈ d.batches, sureB d b h = true → (stateI b t h).rough ≤ b.goal ∧ b.least ≤ (stateI b t h).thick) (hsb : ∀ b : Batch, sureB d b h = (decide ((boundsI d b h).rough.high ≤ b.goal) && decide ((boundsI d b h).thick.low ≥ b.least))) (W2 : false = d.batches.all fun b => sureB d b h)  : ACalls Tryz.prog 21 [eDrum d, eTruth acid t, vi h] (fun r => r = .pv (.bool true)) := by
  refine ACalls.of_body hT Tryz.func21 rfl (by kernel_rfl) rfl ?_
  (repeat' (first | refine stq ?_ | (refine AL_do2 rfl ?_; first | refine ⟨_, op_call1 rfl rfl rfl rfl (k23), nrmA rfl ?_⟩ | refine ⟨_, op_call1 rfl rfl rfl rfl (f24), nrmA rfl ?_⟩ | refine ⟨_, op_call1 rfl rfl rfl rfl (k39), nrmA rfl ?_⟩ | refine ⟨_, op_call1 rfl rfl rfl rfl (k63), nrmA rfl ?_⟩ | refine ⟨_, op_call1 rfl rfl rfl rfl (k72), nrmA rfl ?_⟩) | ((first | (with_reducible refine AL_id ?_); (fail_if_success (refine AL_glit rfl rfl rfl (by first | exact .inl (by with_reducible rfl) | exact .inr (by with_reducible rfl)) ?_)); first | refine AL_gdec rfl rfl rfl (fun hg => ?_) (fun hg => ?_) | refine AL_gnot rfl rfl rfl (fun hg => ?_) (fun hg => ?_) | refine AL_gcases rfl rfl rfl (fun hg => ?_) (fun hg => ?_)) <;> (try (exfalso; omega))) | refine AW_if rfl (fun hc => absurd hc (by omega)) (fun _ => ?_) | refine AW_if rfl (fun _ => ?_) (fun hc => absurd (by omega) hc)))
  all_goals (try (exfalso; omega))
  (repeat' (first | refine stq ?_ | (refine AL_do2 rfl ?_; first | refine ⟨_, op_call1 rfl rfl rfl rfl (f24), nrmA rfl ?_⟩ | refine ⟨_, op_call1 rfl rfl rfl rfl (k55), nrmA rfl ?_⟩ | refine ⟨_, op_call1 rfl rfl rfl rfl (k70), nrmA rfl ?_⟩ | refine ⟨_, op_call1 rfl rfl rfl rfl (k71), nrmA rfl ?_⟩) | ((first | (with_reducible refine AL_id ?_); (fail_if_success (refine AL_glit rfl rfl rfl (by first | exact .inl (by with_reducible rfl) | exact .inr (by with_reducible rfl)) ?_)); first | refine AL_gdec rfl rfl rfl (fun hg => ?_) (fun hg => ?_) | refine AL_gnot rfl rfl rfl (fun hg => ?_) (fun hg => ?_) | refine AL_gcases rfl rfl rfl (fun hg => ?_) (fun hg => ?_)) <;> (try (exfalso; omega))) | refine AW_if rfl (fun hc => absurd hc (by omega)) (fun _ => ?_) | refine AW_if rfl (fun _ => ?_) (fun hc => absurd (by omega) hc)))
  all_goals (try (exfalso; omega))
  refine AW_loopC (fun k : Nat => k ≤ d.batches.length) (fun k => mkSt [(3, .box 0 0), (9, .pv (eStates LA)), (11, .pv (eBoundsL LC)), (13, .pv (.bool false)), (14, .pv (.bool ((d.batches.take k).all fun b => sureB d b h))), (15, .pv (vi k))] [(0, .box ((eDrumC d).map FV.pv))] 3) (fun k => d.batches.length - k) 0 (Nat.zero_le _) ?_ ?_
  · (refine Le.mk ?_ ?_; all_goals (repeat' (first | exact trivial | refine sle ?_ | refine ⟨?_, rfl, ?_⟩ | refine ⟨?_, by decide, rfl, ?_⟩ | fail)))
  · intro k hk
    (repeat (refine stq ?_))
    refine AW_if rfl (fun hc => ?_) (fun hc => ?_)
    · have hk' : k < d.batches.length := by omega
      obtain ⟨b, hb⟩ : ∃ b, d.batches[k]? = some b := ⟨d.batches[k], by simp [hk']⟩
      have e0 := get_map eBatch hb
      have ea := get_map eState (ha k b hb)
      have ec := get_map eBounds (hc' k b hb)
      have hn : (d.batches.take (k + 1)).all (fun b => sureB d b h) = ((d.batches.take k).all (fun b => sureB d b h) && sureB d b h) := all_take1 hb
      have hsv := hsb b
      generalize sureB d b h = sv at *
      generalize stateI b t h = A at *
      generalize boundsI d b h = B at *
      generalize (d.batches.take k).all (fun b => sureB d b h) = S0 at *
      have hcases : (S0 = true ∧ B.rough.high ≤ b.goal ∧ B.thick.low ≥ b.least ∧ (S0 && sv) = true) ∨ (S0 = true ∧ B.rough.high ≤ b.goal ∧ ¬ B.thick.low ≥ b.least ∧ (S0 && sv) = false) ∨ (S0 = true ∧ ¬ B.rough.high ≤ b.goal ∧ (S0 && sv) = false) ∨ (S0 = false ∧ (S0 && sv) = false) := by
        subst hsv
        cases S0 with
        | false => exact .inr (.inr (.inr ⟨rfl, rfl⟩))
        | true =>
          by_cases g1 : B.rough.high ≤ b.goal
          · by_cases g2 : B.thick.low ≥ b.least
            · exact .inl ⟨rfl, g1, g2, by rw [decide_eq_true g1, decide_eq_true g2]; rfl⟩
            · exact .inr (.inl ⟨rfl, g1, g2, by rw [decide_eq_true g1, decide_eq_false g2]; rfl⟩)
          · exact .inr (.inr (.inl ⟨rfl, g1, by rw [decide_eq_false g1]; rfl⟩))
      clear hsv
      (repeat (refine stq ?_))
      (repeat (first | refine DG_next (StepOK.skipU rfl rfl) ?_ | refine sdq ?_))
      refine DG_end hM (by kernel_rfl) ?_
      (repeat (refine stq ?_))
      rcases hcases with ⟨rfl, c1, c2, c3⟩ | ⟨rfl, c1, c2, c3⟩ | ⟨rfl, c1, c3⟩ | ⟨rfl, c3⟩
      · iterate 10 (refine sdq ?_)
        refine DG_cmp hT rfl (fun _ => ?_) (fun hg => absurd hg (by omega))
        iterate 10 (refine sdq ?_)
        refine DG_cmp hT rfl (fun _ => ?_) (fun hg => absurd hg (by omega))
        (repeat (refine sdq ?_))
        refine DG_end hM (by kernel_rfl) ?_
        (repeat (refine stq ?_))
        refine ⟨k + 1, hk', by omega, ?_⟩
        rw [hn, c3]
        (refine Le.mk ?_ ?_; all_goals (repeat' (first | exact trivial | refine sle ?_ | refine ⟨?_, rfl, ?_⟩ | refine ⟨?_, by decide, rfl, ?_⟩ | fail)))
      · iterate 10 (refine sdq ?_)
        refine DG_cmp hT rfl (fun _ => ?_) (fun hg => absurd hg (by omega))
        iterate 10 (refine sdq ?_)
        refine DG_cmp hT rfl (fun hg => absurd hg (by omega)) (fun _ => ?_)
        (repeat (refine sdq ?_))
        refine DG_end hM (by kernel_rfl) ?_
        (repeat (refine stq ?_))
        refine ⟨k + 1, hk', by omega, ?_⟩
        rw [hn, c3]
        (refine Le.mk ?_ ?_; all_goals (repeat' (first | exact trivial | refine sle ?_ | refine ⟨?_, rfl, ?_⟩ | refine ⟨?_, by decide, rfl, ?_⟩ | fail)))
      · iterate 10 (refine sdq ?_)
        refine DG_cmp hT rfl (fun hg => absurd hg (by omega)) (fun _ => ?_)
        (repeat (refine sdq ?_))
        refine DG_end hM (by kernel_rfl) ?_
        (repeat (refine stq ?_))
        refine ⟨k + 1, hk', by omega, ?_⟩
        rw [hn, c3]
        (refine Le.mk ?_ ?_; all_goals (repeat' (first | exact trivial | refine sle ?_ | refine ⟨?_, rfl, ?_⟩ | refine ⟨?_, by decide, rfl, ?_⟩ | fail)))
      · (repeat (refine sdq ?_))
        refine DG_end hM (by kernel_rfl) ?_
        (repeat (refine stq ?_))
        refine ⟨k + 1, hk', by omega, ?_⟩
        rw [hn, c3]
        (refine Le.mk ?_ ?_; all_goals (repeat' (first | exact trivial | refine sle ?_ | refine ⟨?_, rfl, ?_⟩ | refine ⟨?_, by decide, rfl, ?_⟩ | fail)))
    · have hk' : k = d.batches.length := by omega
      subst hk'
      rw [List.take_length, ← W2]
      (repeat' (first | refine stq ?_ | (refine AL_do2 rfl ?_; first | refine ⟨_, op_call1 rfl rfl rfl rfl (f24), nrmA rfl ?_⟩ | refine ⟨_, op_eqlB hT rfl rfl rfl rfl rfl rfl, ?_⟩) | (with_reducible refine AL_id ?_); (fail_if_success (refine AL_glit rfl rfl rfl (by first | exact .inl (by with_reducible rfl) | exact .inr (by with_reducible rfl)) ?_)); first | refine AL_gdec rfl rfl rfl (fun hg => ?_) (fun hg => ?_) | refine AL_gnot rfl rfl rfl (fun hg => ?_) (fun hg => ?_) | refine AL_gcases rfl rfl rfl (fun hg => ?_) (fun hg => ?_)))
      exact ⟨_, _, rfl, rfl, rfl⟩
end Go.Abs
