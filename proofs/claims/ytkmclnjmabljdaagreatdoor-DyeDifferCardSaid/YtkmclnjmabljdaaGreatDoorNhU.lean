/- DyeRuns, DyeTrue. -/
import Derived.Test.YtkmclnjmabljdaaGreatDoorNhT
import Derived.Test.YtkmclnjmabljdaaGreatDoorNcAbsAG
set_option linter.unusedVariables false
set_option linter.unusedSimpArgs false

namespace Go.Abs
open Go.Proofs
set_option linter.unusedVariables false
set_option linter.unusedSimpArgs false
set_option maxRecDepth 100000

set_option maxHeartbeats 2000000 in
theorem f85 (h : List Dye) (l : List Bath) (ts : List (List Int)) (hs : List Int) (hH : HouseP h) (hB : BatchP h l) (c3 : truthB h l ts hs = true) : ACalls Tryz.prog 85 [eHouse h, eBaths l, eTruth ts hs] (fun r => r = .pv (.bool (fitsB h l ts hs))) := by
  have hlen := truth_len c3
  have hh3 := hH.1
  have hl4 := hB.1
  refine ACalls.of_body hT Tryz.func85 rfl (by kernel_rfl) rfl ?_
  (repeat (refine stq ?_))
  refine AW_loopC (fun k : Nat => k ≤ ts.length ∧ fitsT ts h = fitsT (ts.drop k) (h.drop k)) (fun k => mkSt [(1, .pv (eBaths l)), (3, .box 0 0), (5, .box 1 0), (7, .pv (vi k))] (trO h ts hs) 2) (fun k => ts.length - k) 0 ⟨Nat.zero_le _, rfl⟩ ?_ ?_
  · (refine Le.mk ?_ ?_; all_goals (repeat' (first | exact trivial | refine sle ?_ | refine ⟨?_, rfl, ?_⟩ | refine ⟨?_, by decide, rfl, ?_⟩ | fail)))
  · rintro k ⟨hk, hi⟩
    (repeat (refine stq ?_))
    refine AW_if rfl (fun hc => ?_) (fun hc => ?_)
    · have hk' : k < ts.length := by omega
      obtain ⟨d, hd⟩ : ∃ d, h[k]? = some d := ⟨h[k]'(by omega), by simp⟩
      obtain ⟨t, htx⟩ : ∃ t, ts[k]? = some t := ⟨ts[k]'(by omega), by simp⟩
      have e1 := get_map eDye hd
      have e2 := get_map eIntsC htx
      have htl := hlen.2.2 t (List.mem_of_getElem? htx)
      have hdl := (hH.2.2 d (List.mem_of_getElem? hd)).1
      rw [fitsT_drop htx hd] at hi
      (repeat (refine stq ?_))
      refine AW_loopC (fun j : Nat => j ≤ t.length ∧ allIn t d.takes = allIn (t.drop j) (d.takes.drop j)) (fun j => mkSt [(1, .pv (eBaths l)), (3, .box 0 0), (5, .box 1 0), (7, .pv (vi k)), (8, .pv (vi j))] (trO h ts hs) 2) (fun j => t.length - j) 0 ⟨Nat.zero_le _, rfl⟩ ?_ ?_
      · (refine Le.mk ?_ ?_; all_goals (repeat' (first | exact trivial | refine sle ?_ | refine ⟨?_, rfl, ?_⟩ | refine ⟨?_, by decide, rfl, ?_⟩ | fail)))
      · rintro j ⟨hj, hja⟩
        (repeat (refine stq ?_))
        refine AW_if rfl (fun hc2 => ?_) (fun hc2 => ?_)
        · have hj' : j < t.length := by omega
          obtain ⟨x, hx⟩ : ∃ x, t[j]? = some x := ⟨t[j], by simp [hj']⟩
          obtain ⟨s, hsx⟩ : ∃ s, d.takes[j]? = some s := ⟨d.takes[j]'(by omega), by simp⟩
          have e3 := get_map eInt hx
          have e4 := get_map eSpan hsx
          rw [allIn_drop hx hsx] at hja
          (repeat (refine stq ?_))
          (repeat (first | refine sdq ?_ | refine DG_next (D_call rfl rfl rfl rfl rfl (f109 x s.low s.high)) ?_))
          refine DG_end hM (by kernel_rfl) ?_
          (repeat (refine stq ?_))
          refine AW_cond rfl (fun hc3 => ?_) (fun hc3 => ?_)
          · have hb : inB x s.low s.high = false := by simpa using hc3
            rw [hb] at hja
            (repeat (refine stq ?_))
            refine ⟨_, _, rfl, rfl, ?_⟩
            have : withinB t d.takes = false := by rw [withinB, hja]; simp
            rw [this] at hi
            rw [fitsB, hi]; simp
          · have hb : inB x s.low s.high = true := by simpa using hc3
            rw [hb] at hja
            (repeat (refine stq ?_))
            refine ⟨j + 1, ⟨hj', by rw [hja]; simp⟩, by omega, ?_⟩
            (refine Le.mk ?_ ?_; all_goals (repeat' (first | exact trivial | refine sle ?_ | refine ⟨?_, rfl, ?_⟩ | refine ⟨?_, by decide, rfl, ?_⟩ | fail)))
        · have hj' : j = t.length := by omega
          subst hj'
          rw [allIn_end (by omega)] at hja
          have : withinB t d.takes = true := by rw [withinB, hja, htl, hdl]; rfl
          rw [this] at hi
          (repeat (refine stq ?_))
          refine ⟨k + 1, ⟨hk', by rw [hi]; simp⟩, by omega, ?_⟩
          (refine Le.mk ?_ ?_; all_goals (repeat' (first | exact trivial | refine sle ?_ | refine ⟨?_, rfl, ?_⟩ | refine ⟨?_, by decide, rfl, ?_⟩ | fail)))
    · have hk' : k = ts.length := by omega
      rw [hk', List.drop_eq_nil_of_le (Nat.le_refl _), List.drop_eq_nil_of_le (by omega)] at hi
      have hi : fitsT ts h = true := hi
      have hol := hours_len l
      (repeat (refine stq ?_))
      refine AW_loopC (fun j : Nat => j ≤ l.length ∧ allIn hs (hoursI l) = allIn (hs.drop j) ((hoursI l).drop j)) (fun j => mkSt [(1, .pv (eBaths l)), (3, .box 0 0), (5, .box 1 0), (10, .pv (vi j))] (trO h ts hs) 2) (fun j => l.length - j) 0 ⟨Nat.zero_le _, rfl⟩ ?_ ?_
      · (refine Le.mk ?_ ?_; all_goals (repeat' (first | exact trivial | refine sle ?_ | refine ⟨?_, rfl, ?_⟩ | refine ⟨?_, by decide, rfl, ?_⟩ | fail)))
      · rintro j ⟨hj, hja⟩
        (repeat (refine stq ?_))
        refine AW_if rfl (fun hc2 => ?_) (fun hc2 => ?_)
        · have hj' : j < l.length := by omega
          obtain ⟨x, hx⟩ : ∃ x, hs[j]? = some x := ⟨hs[j]'(by omega), by simp⟩
          obtain ⟨b, hbx⟩ : ∃ b, l[j]? = some b := ⟨l[j], by simp [hj']⟩
          have e3 := get_map eInt hx
          have e4 := get_map eBath hbx
          rw [allIn_drop hx (hours_get hbx)] at hja
          (repeat (refine stq ?_))
          (repeat (first | refine sdq ?_ | refine DG_next (D_call rfl rfl rfl rfl rfl (f109 x b.hours.low b.hours.high)) ?_))
          refine DG_end hM (by kernel_rfl) ?_
          (repeat (refine stq ?_))
          refine AW_cond rfl (fun hc3 => ?_) (fun hc3 => ?_)
          · have hb : inB x b.hours.low b.hours.high = false := by simpa using hc3
            rw [hb] at hja
            (repeat (refine stq ?_))
            refine ⟨_, _, rfl, rfl, ?_⟩
            have : withinB hs (hoursI l) = false := by rw [withinB, hja]; simp
            rw [fitsB, this]; simp
          · have hb : inB x b.hours.low b.hours.high = true := by simpa using hc3
            rw [hb] at hja
            (repeat (refine stq ?_))
            refine ⟨j + 1, ⟨hj', by rw [hja]; simp⟩, by omega, ?_⟩
            (refine Le.mk ?_ ?_; all_goals (repeat' (first | exact trivial | refine sle ?_ | refine ⟨?_, rfl, ?_⟩ | refine ⟨?_, by decide, rfl, ?_⟩ | fail)))
        · have hj' : j = l.length := by omega
          have hj2 : j = hs.length := by omega
          rw [hj2, allIn_end (by omega)] at hja
          have : withinB hs (hoursI l) = true := by rw [withinB, hja]; simp; omega
          (repeat (refine stq ?_))
          refine ⟨_, _, rfl, rfl, ?_⟩
          rw [fitsB, hi, this]; rfl
set_option maxHeartbeats 2000000 in
theorem f20 (h : List Dye) (l : List Bath) (ts : List (List Int)) (hs : List Int) : ACalls Tryz.prog 20 [eHouse h, eBaths l, eTruth ts hs] (fun r => r = .pv (.bool true)) := by
  have k27 := f27 h
  have k80 := f80 ts hs
  refine ACalls.of_body hT Tryz.func20 rfl (by kernel_rfl) rfl ?_
  cases q1 : slimB h with
  | false =>
    rw [q1] at k27
    (repeat' (first | refine stq ?_ | (refine AL_do2 rfl ?_; first | refine ⟨_, op_call1 rfl rfl rfl rfl (k27), nrmA rfl ?_⟩ | refine ⟨_, op_call1 rfl rfl rfl rfl (f28), nrmA rfl ?_⟩) | (with_reducible refine AL_id ?_); (fail_if_success (refine AL_glit rfl rfl rfl (by first | exact .inl (by with_reducible rfl) | exact .inr (by with_reducible rfl)) ?_)); first | refine AL_gdec rfl rfl rfl (fun hg => ?_) (fun hg => ?_) | refine AL_gnot rfl rfl rfl (fun hg => ?_) (fun hg => ?_) | refine AL_gcases rfl rfl rfl (fun hg => ?_) (fun hg => ?_)))
    exact ⟨_, _, rfl, rfl, rfl⟩
  | true =>
    rw [q1] at k27
    by_cases hl : l.length ≤ 5
    · cases q2 : briefB ts hs with
      | false =>
        rw [q2] at k80
        (repeat' (first | (exfalso; omega) | refine AW_if rfl (fun hc => absurd hc (by omega)) (fun _ => ?_) | refine AW_if rfl (fun _ => ?_) (fun hc => absurd (by omega) hc) | refine stq ?_ | (refine AL_do2 rfl ?_; first | refine ⟨_, op_call1 rfl rfl rfl rfl (k27), nrmA rfl ?_⟩ | refine ⟨_, op_call1 rfl rfl rfl rfl (k80), nrmA rfl ?_⟩ | refine ⟨_, op_call1 rfl rfl rfl rfl (f28), nrmA rfl ?_⟩) | (with_reducible refine AL_id ?_); (fail_if_success (refine AL_glit rfl rfl rfl (by first | exact .inl (by with_reducible rfl) | exact .inr (by with_reducible rfl)) ?_)); first | refine AL_gdec rfl rfl rfl (fun hg => ?_) (fun hg => ?_) | refine AL_gnot rfl rfl rfl (fun hg => ?_) (fun hg => ?_) | refine AL_gcases rfl rfl rfl (fun hg => ?_) (fun hg => ?_)))
        all_goals exact ⟨_, _, rfl, rfl, rfl⟩
      | true =>
        rw [q2] at k80
        have hOK := slim_houseOK q1
        have hTO := (brief_ok q2).2.2
        have k84 := f84 h hOK
        have k82 := f82 h l ts hs hOK (by omega) hTO
        have k78 := f78 h l ts hs hOK (by omega) hTO
        have k30 := f30 h hOK
        have k31 := f31 h l hOK.1 (by omega)
        have k81 := f81 h l ts hs hOK.1 (by omega) hTO
        cases c1 : isHouseB h with
        | false =>
          rw [c1] at k84 k30
          rw [show fitsE h l ts hs = (false, 2) by simp [fitsE, c1]] at k82
          rw [show runE h l ts hs = ([], 2) by simp [runE, c1]] at k78
          have k84 : ACalls Tryz.prog 84 [eHouse h] (fun r => r = .pv (vi 2)) := k84
          have k82 : ACalls Tryz.prog 82 [eHouse h, eBaths l, eTruth ts hs] (fun r => r = .tup [.bool false, vi 2]) := k82
          have k78 : ACalls Tryz.prog 78 [eHouse h, eBaths l, eTruth ts hs] (fun r => r = .tup [eInts [], vi 2]) := k78
          (repeat' (first | (exfalso; omega) | refine AW_if rfl (fun hc => absurd hc (by omega)) (fun _ => ?_) | refine AW_if rfl (fun _ => ?_) (fun hc => absurd (by omega) hc) | refine stq ?_ | (refine AL_do2 rfl ?_; first | refine ⟨_, op_call1 rfl rfl rfl rfl (k27), nrmA rfl ?_⟩ | refine ⟨_, op_call1 rfl rfl rfl rfl (k80), nrmA rfl ?_⟩ | refine ⟨_, op_call1 rfl rfl rfl rfl (k84), nrmA rfl ?_⟩ | refine ⟨_, op_call1 rfl rfl rfl rfl (k82), nrmA rfl ?_⟩ | refine ⟨_, op_call1 rfl rfl rfl rfl (k78), nrmA rfl ?_⟩ | refine ⟨_, op_call1 rfl rfl rfl rfl (k30), nrmA rfl ?_⟩ | refine ⟨_, op_call1 rfl rfl rfl rfl (k31), nrmA rfl ?_⟩ | refine ⟨_, op_call1 rfl rfl rfl rfl (k81), nrmA rfl ?_⟩ | refine ⟨_, op_call1 rfl rfl rfl rfl (f28), nrmA rfl ?_⟩) | (with_reducible refine AL_id ?_); (fail_if_success (refine AL_glit rfl rfl rfl (by first | exact .inl (by with_reducible rfl) | exact .inr (by with_reducible rfl)) ?_)); first | refine AL_gdec rfl rfl rfl (fun hg => ?_) (fun hg => ?_) | refine AL_gnot rfl rfl rfl (fun hg => ?_) (fun hg => ?_) | refine AL_gcases rfl rfl rfl (fun hg => ?_) (fun hg => ?_)))
          all_goals exact ⟨_, _, rfl, rfl, rfl⟩
        | true =>
          rw [c1] at k84 k30
          have k84 : ACalls Tryz.prog 84 [eHouse h] (fun r => r = .pv (vi 0)) := k84
          cases c2 : isBatchB h l && truthB h l ts hs with
          | false =>
            rw [show fitsE h l ts hs = (false, 2) by unfold fitsE; rw [if_neg]; intro hh2; simp_all] at k82
            rw [show runE h l ts hs = ([], 2) by unfold runE; rw [if_neg]; intro hh2; simp_all] at k78
            have k82 : ACalls Tryz.prog 82 [eHouse h, eBaths l, eTruth ts hs] (fun r => r = .tup [.bool false, vi 2]) := k82
            have k78 : ACalls Tryz.prog 78 [eHouse h, eBaths l, eTruth ts hs] (fun r => r = .tup [eInts [], vi 2]) := k78
            cases c3 : isBatchB h l with
            | false =>
              rw [c3] at k31
              (repeat' (first | (exfalso; omega) | refine AW_if rfl (fun hc => absurd hc (by omega)) (fun _ => ?_) | refine AW_if rfl (fun _ => ?_) (fun hc => absurd (by omega) hc) | refine stq ?_ | (refine AL_do2 rfl ?_; first | refine ⟨_, op_call1 rfl rfl rfl rfl (k27), nrmA rfl ?_⟩ | refine ⟨_, op_call1 rfl rfl rfl rfl (k80), nrmA rfl ?_⟩ | refine ⟨_, op_call1 rfl rfl rfl rfl (k84), nrmA rfl ?_⟩ | refine ⟨_, op_call1 rfl rfl rfl rfl (k82), nrmA rfl ?_⟩ | refine ⟨_, op_call1 rfl rfl rfl rfl (k78), nrmA rfl ?_⟩ | refine ⟨_, op_call1 rfl rfl rfl rfl (k30), nrmA rfl ?_⟩ | refine ⟨_, op_call1 rfl rfl rfl rfl (k31), nrmA rfl ?_⟩ | refine ⟨_, op_call1 rfl rfl rfl rfl (k81), nrmA rfl ?_⟩ | refine ⟨_, op_call1 rfl rfl rfl rfl (f28), nrmA rfl ?_⟩) | (with_reducible refine AL_id ?_); (fail_if_success (refine AL_glit rfl rfl rfl (by first | exact .inl (by with_reducible rfl) | exact .inr (by with_reducible rfl)) ?_)); first | refine AL_gdec rfl rfl rfl (fun hg => ?_) (fun hg => ?_) | refine AL_gnot rfl rfl rfl (fun hg => ?_) (fun hg => ?_) | refine AL_gcases rfl rfl rfl (fun hg => ?_) (fun hg => ?_)))
              all_goals exact ⟨_, _, rfl, rfl, rfl⟩
            | true =>
              rw [c3] at k31 c2
              have c4 : truthB h l ts hs = false := by simpa using c2
              rw [c4] at k81
              (repeat' (first | (exfalso; omega) | refine AW_if rfl (fun hc => absurd hc (by omega)) (fun _ => ?_) | refine AW_if rfl (fun _ => ?_) (fun hc => absurd (by omega) hc) | refine stq ?_ | (refine AL_do2 rfl ?_; first | refine ⟨_, op_call1 rfl rfl rfl rfl (k27), nrmA rfl ?_⟩ | refine ⟨_, op_call1 rfl rfl rfl rfl (k80), nrmA rfl ?_⟩ | refine ⟨_, op_call1 rfl rfl rfl rfl (k84), nrmA rfl ?_⟩ | refine ⟨_, op_call1 rfl rfl rfl rfl (k82), nrmA rfl ?_⟩ | refine ⟨_, op_call1 rfl rfl rfl rfl (k78), nrmA rfl ?_⟩ | refine ⟨_, op_call1 rfl rfl rfl rfl (k30), nrmA rfl ?_⟩ | refine ⟨_, op_call1 rfl rfl rfl rfl (k31), nrmA rfl ?_⟩ | refine ⟨_, op_call1 rfl rfl rfl rfl (k81), nrmA rfl ?_⟩ | refine ⟨_, op_call1 rfl rfl rfl rfl (f28), nrmA rfl ?_⟩) | (with_reducible refine AL_id ?_); (fail_if_success (refine AL_glit rfl rfl rfl (by first | exact .inl (by with_reducible rfl) | exact .inr (by with_reducible rfl)) ?_)); first | refine AL_gdec rfl rfl rfl (fun hg => ?_) (fun hg => ?_) | refine AL_gnot rfl rfl rfl (fun hg => ?_) (fun hg => ?_) | refine AL_gcases rfl rfl rfl (fun hg => ?_) (fun hg => ?_)))
              all_goals exact ⟨_, _, rfl, rfl, rfl⟩
          | true =>
            simp only [Bool.and_eq_true] at c2
            obtain ⟨c2, c3⟩ := c2
            rw [c2] at k31
            rw [c3] at k81
            have hH := houseP_of c1
            have hB := batchP_of c2
            rw [show fitsE h l ts hs = (fitsB h l ts hs, 0) by simp [fitsE, c1, c2, c3]] at k82
            have k82 : ACalls Tryz.prog 82 [eHouse h, eBaths l, eTruth ts hs] (fun r => r = .tup [.bool (fitsB h l ts hs), vi 0]) := k82
            have k85 := f85 h l ts hs hH hB c3
            cases c4 : fitsB h l ts hs with
            | false =>
              rw [c4] at k82 k85
              rw [show runE h l ts hs = ([], 2) by simp [runE, c4]] at k78
              have k78 : ACalls Tryz.prog 78 [eHouse h, eBaths l, eTruth ts hs] (fun r => r = .tup [eInts [], vi 2]) := k78
              (repeat' (first | (exfalso; omega) | refine AW_if rfl (fun hc => absurd hc (by omega)) (fun _ => ?_) | refine AW_if rfl (fun _ => ?_) (fun hc => absurd (by omega) hc) | refine stq ?_ | (refine AL_do2 rfl ?_; first | refine ⟨_, op_call1 rfl rfl rfl rfl (k27), nrmA rfl ?_⟩ | refine ⟨_, op_call1 rfl rfl rfl rfl (k80), nrmA rfl ?_⟩ | refine ⟨_, op_call1 rfl rfl rfl rfl (k84), nrmA rfl ?_⟩ | refine ⟨_, op_call1 rfl rfl rfl rfl (k82), nrmA rfl ?_⟩ | refine ⟨_, op_call1 rfl rfl rfl rfl (k78), nrmA rfl ?_⟩ | refine ⟨_, op_call1 rfl rfl rfl rfl (k30), nrmA rfl ?_⟩ | refine ⟨_, op_call1 rfl rfl rfl rfl (k31), nrmA rfl ?_⟩ | refine ⟨_, op_call1 rfl rfl rfl rfl (k81), nrmA rfl ?_⟩ | refine ⟨_, op_call1 rfl rfl rfl rfl (k85), nrmA rfl ?_⟩ | refine ⟨_, op_call1 rfl rfl rfl rfl (f28), nrmA rfl ?_⟩ | refine ⟨_, op_neqB hT rfl rfl rfl rfl rfl rfl, ?_⟩) | (with_reducible refine AL_id ?_); (fail_if_success (refine AL_glit rfl rfl rfl (by first | exact .inl (by with_reducible rfl) | exact .inr (by with_reducible rfl)) ?_)); first | refine AL_gdec rfl rfl rfl (fun hg => ?_) (fun hg => ?_) | refine AL_gnot rfl rfl rfl (fun hg => ?_) (fun hg => ?_) | refine AL_gcases rfl rfl rfl (fun hg => ?_) (fun hg => ?_)))
              all_goals exact ⟨_, _, rfl, rfl, rfl⟩
            | true =>
              rw [c4] at k82 k85
              rw [show runE h l ts hs = (runGo l hs h ts 0, 0) by simp [runE, c1, c2, c3, c4]] at k78
              have k86 := (f86 h l ts hs hH hB c3 c4).pure
              have hrl := runGo_len l hs h ts 0
              have hh3 := hH.1
              have k78 : ACalls Tryz.prog 78 [eHouse h, eBaths l, eTruth ts hs] (fun r => r = .tup [eInts (runGo l hs h ts 0), vi 0]) := k78
              have k86 : ACalls Tryz.prog 86 [eHouse h, eBaths l, eTruth ts hs] (fun r => r = .pv (eInts (runGo l hs h ts 0))) := k86
              generalize runGo l hs h ts 0 = y at k78 k86 hrl
              have k59 := same_of (f59 y y (by omega)) rfl
              (repeat' (first | (exfalso; omega) | refine AW_if rfl (fun hc => absurd hc (by omega)) (fun _ => ?_) | refine AW_if rfl (fun _ => ?_) (fun hc => absurd (by omega) hc) | refine stq ?_ | (refine AL_do2 rfl ?_; first | refine ⟨_, op_call1 rfl rfl rfl rfl (k27), nrmA rfl ?_⟩ | refine ⟨_, op_call1 rfl rfl rfl rfl (k80), nrmA rfl ?_⟩ | refine ⟨_, op_call1 rfl rfl rfl rfl (k84), nrmA rfl ?_⟩ | refine ⟨_, op_call1 rfl rfl rfl rfl (k82), nrmA rfl ?_⟩ | refine ⟨_, op_call1 rfl rfl rfl rfl (k78), nrmA rfl ?_⟩ | refine ⟨_, op_call1 rfl rfl rfl rfl (k30), nrmA rfl ?_⟩ | refine ⟨_, op_call1 rfl rfl rfl rfl (k31), nrmA rfl ?_⟩ | refine ⟨_, op_call1 rfl rfl rfl rfl (k81), nrmA rfl ?_⟩ | refine ⟨_, op_call1 rfl rfl rfl rfl (k85), nrmA rfl ?_⟩ | refine ⟨_, op_call1 rfl rfl rfl rfl (k86), nrmA rfl ?_⟩ | refine ⟨_, op_call1 rfl rfl rfl rfl (k59), nrmA rfl ?_⟩ | refine ⟨_, op_call1 rfl rfl rfl rfl (f28), nrmA rfl ?_⟩ | refine ⟨_, op_neqB hT rfl rfl rfl rfl rfl rfl, ?_⟩) | (with_reducible refine AL_id ?_); (fail_if_success (refine AL_glit rfl rfl rfl (by first | exact .inl (by with_reducible rfl) | exact .inr (by with_reducible rfl)) ?_)); first | refine AL_gdec rfl rfl rfl (fun hg => ?_) (fun hg => ?_) | refine AL_gnot rfl rfl rfl (fun hg => ?_) (fun hg => ?_) | refine AL_gcases rfl rfl rfl (fun hg => ?_) (fun hg => ?_)))
              all_goals exact ⟨_, _, rfl, rfl, rfl⟩
    · (repeat' (first | (exfalso; omega) | refine AW_if rfl (fun hc => absurd hc (by omega)) (fun _ => ?_) | refine AW_if rfl (fun _ => ?_) (fun hc => absurd (by omega) hc) | refine stq ?_ | (refine AL_do2 rfl ?_; first | refine ⟨_, op_call1 rfl rfl rfl rfl (k27), nrmA rfl ?_⟩ | refine ⟨_, op_call1 rfl rfl rfl rfl (k80), nrmA rfl ?_⟩ | refine ⟨_, op_call1 rfl rfl rfl rfl (f28), nrmA rfl ?_⟩) | (with_reducible refine AL_id ?_); (fail_if_success (refine AL_glit rfl rfl rfl (by first | exact .inl (by with_reducible rfl) | exact .inr (by with_reducible rfl)) ?_)); first | refine AL_gdec rfl rfl rfl (fun hg => ?_) (fun hg => ?_) | refine AL_gnot rfl rfl rfl (fun hg => ?_) (fun hg => ?_) | refine AL_gcases rfl rfl rfl (fun hg => ?_) (fun hg => ?_)))
      all_goals exact ⟨_, _, rfl, rfl, rfl⟩
theorem endsL_get (l : List Bath) : ∀ (h : List Dye) (i : Int) (k : Nat) (d : Dye), h[k]? = some d → (endsL l h i)[k]? = some (endsI d l (i + k))
  | [], i, k, d, h => by simp at h
  | e :: h, i, 0, d, hd => by simp only [List.getElem?_cons_zero, Option.some.injEq] at hd; subst hd; simp [endsL]
  | e :: h, i, k + 1, d, hd => by
    have := endsL_get l h (i + 1) k d (by simpa using hd)
    simp only [endsL, List.getElem?_cons_succ, this]
    rw [show i + 1 + (k : Int) = i + ((k + 1 : Nat) : Int) by omega]
theorem runGo_get (l : List Bath) (hs : List Int) : ∀ (h : List Dye) (ts : List (List Int)) (i : Int) (k : Nat) (d : Dye) (t : List Int), h[k]? = some d → ts[k]? = some t → (runGo l hs h ts i)[k]? = some (depthI d (i + k) t l hs)
  | [], ts, i, k, d, t, h, _ => by simp at h
  | e :: h, [], i, k, d, t, _, h' => by simp at h'
  | e :: h, u :: ts, i, 0, d, t, hd, ht => by
    simp only [List.getElem?_cons_zero, Option.some.injEq] at hd ht; subst hd; subst ht; simp [runGo]
  | e :: h, u :: ts, i, k + 1, d, t, hd, ht => by
    have := runGo_get l hs h ts (i + 1) k d t (by simpa using hd) (by simpa using ht)
    simp only [runGo, List.getElem?_cons_succ, this]
    rw [show i + 1 + (k : Int) = i + ((k + 1 : Nat) : Int) by omega]
theorem runGo_len_eq (l : List Bath) (hs : List Int) : ∀ (h : List Dye) (ts : List (List Int)) (i : Int), ts.length = h.length → (runGo l hs h ts i).length = h.length
  | [], ts, i, _ => by simp [runGo]
  | d :: h, [], i, hl => by simp at hl
  | d :: h, t :: ts, i, hl => by simp only [runGo, List.length_cons, runGo_len_eq l hs h ts (i + 1) (by simpa using hl)]
theorem times_in {s : Span} {w x : Int} (h : s.low ≤ x ∧ x ≤ s.high) : (spanTimes s w).low ≤ w * x ∧ w * x ≤ (spanTimes s w).high := by
  unfold spanTimes
  rw [Int.mul_comm w x]
  simp only
  rcases Int.le_total 0 w with hw | hw
  · have q1 : s.low * w ≤ x * w := Int.mul_le_mul_of_nonneg_right h.1 hw
    have q2 : x * w ≤ s.high * w := Int.mul_le_mul_of_nonneg_right h.2 hw
    omega
  · have q1 : x * w ≤ s.low * w := Int.mul_le_mul_of_nonpos_right h.1 hw
    have q2 : s.high * w ≤ x * w := Int.mul_le_mul_of_nonpos_right h.2 hw
    omega
theorem look_in (l : List Bath) : ∀ (h : List Dye) (ws : List Int) (r : List Int) (i : Int), (∀ (k : Nat) d x, h[k]? = some d → r[k]? = some x → (endsI d l (i + k)).low ≤ x ∧ x ≤ (endsI d l (i + k)).high) → ws.length = h.length → r.length = h.length →
    (sumS (termsL l h ws i)).low ≤ sumI (List.zipWith (fun x y => x * y) ws r) ∧ sumI (List.zipWith (fun x y => x * y) ws r) ≤ (sumS (termsL l h ws i)).high
  | [], ws, r, i, _, hw, hr => by
    have : ws = [] := List.length_eq_zero_iff.1 hw
    subst this; simp [termsL, sumS, sumI]
  | d :: h, [], r, i, _, hw, _ => by simp at hw
  | d :: h, w :: ws, [], i, _, _, hr => by simp at hr
  | d :: h, w :: ws, x :: r, i, hb, hw, hr => by
    have ih := look_in l h ws r (i + 1) (fun k e y hk hy => by
      have := hb (k + 1) e y (by simpa using hk) (by simpa using hy)
      rwa [show i + ((k + 1 : Nat) : Int) = i + 1 + (k : Int) by omega] at this) (by simpa using hw) (by simpa using hr)
    have h0 := hb 0 d x rfl rfl
    rw [show i + ((0 : Nat) : Int) = i by simp] at h0
    have := times_in (w := w) h0
    simp only [termsL, sumS, List.map_cons, sumI, List.zipWith_cons_cons] at ih ⊢
    omega
/-- What depths in truth are. -/
theorem run_facts {h : List Dye} {l : List Bath} {ts : List (List Int)} {hs : List Int} (hH : HouseP h) (hB : BatchP h l) (c3 : truthB h l ts hs = true) (c4 : fitsB h l ts hs = true) :
    (runGo l hs h ts 0).length = h.length ∧ (∀ x ∈ runGo l hs h ts 0, 0 ≤ x ∧ x ≤ 100) ∧ ∀ (k : Nat) d x, h[k]? = some d → (runGo l hs h ts 0)[k]? = some x → (endsI d l k).low ≤ x ∧ x ≤ (endsI d l k).high := by
  have hlen := truth_len c3
  have hfh := fits_hours hB c4
  have hft : fitsT ts h = true := by simp only [fitsB, Bool.and_eq_true] at c4; exact c4.1
  have hl := runGo_len_eq l hs h ts 0 hlen.1
  have key : ∀ (k : Nat) x, (runGo l hs h ts 0)[k]? = some x → ∃ d t, h[k]? = some d ∧ ts[k]? = some t ∧ x = depthI d k t l hs := fun k x hx => by
    have hk : k < h.length := by rw [← hl]; exact (List.getElem?_eq_some_iff.1 hx).1
    have hd : h[k]? = some h[k] := by simp [hk]
    have ht : ts[k]? = some (ts[k]'(by omega)) := by simp
    have := runGo_get l hs h ts 0 k _ _ hd ht
    rw [hx, Int.zero_add] at this
    exact ⟨_, _, hd, ht, by simpa using this⟩
  refine ⟨hl, fun x hx => ?_, fun k d x hd hx => ?_⟩
  · obtain ⟨k, hk⟩ := List.mem_iff_getElem?.1 hx
    obtain ⟨d, t, hd, ht, rfl⟩ := key k x hk
    have hdm := hH.2.2 d (List.mem_of_getElem? hd)
    exact depthI_bd ⟨hdm.2.1, hdm.2.2.1⟩ (inS_small (fitsT_get hft k t d ht hd) hdm.2.2.2) hfh.2
  · obtain ⟨d', t, hd', ht, rfl⟩ := key k x hx
    rw [hd] at hd'; cases hd'
    exact depth_ends hH hB (List.mem_of_getElem? hd) (fitsT_get hft k t d ht hd) hfh.1
theorem run_look {h : List Dye} {lamp : List Int} {l : List Bath} {ts : List (List Int)} {hs : List Int} (hH : HouseP h) (hL : LampP h lamp) (hB : BatchP h l) (c3 : truthB h l ts hs = true) (c4 : fitsB h l ts hs = true) :
    (lookI h lamp l).low ≤ dotI lamp (runGo l hs h ts 0) ∧ dotI lamp (runGo l hs h ts 0) ≤ (lookI h lamp l).high := by
  obtain ⟨f1, f2, f3⟩ := run_facts hH hB c3 c4
  exact look_in l h lamp _ 0 (fun k d x hd hx => by rw [Int.zero_add]; exact f3 k d x hd hx) hL.1 f1
set_option maxHeartbeats 4000000 in
theorem f21 (h : List Dye) (l : List Bath) (ts : List (List Int)) (hs : List Int) (lamp : List Int) : ACalls Tryz.prog 21 [eHouse h, eBaths l, eTruth ts hs, eLamp lamp] (fun r => r = .pv (.bool true)) := by
  have k27 := f27 h
  have k80 := f80 ts hs
  refine ACalls.of_body hT Tryz.func21 rfl (by kernel_rfl) rfl ?_
  cases q1 : slimB h with
  | false =>
    rw [q1] at k27
    (repeat' (first | refine stq ?_ | (refine AL_do2 rfl ?_; first | refine ⟨_, op_call1 rfl rfl rfl rfl (k27), nrmA rfl ?_⟩ | refine ⟨_, op_call1 rfl rfl rfl rfl (f28), nrmA rfl ?_⟩) | (with_reducible refine AL_id ?_); (fail_if_success (refine AL_glit rfl rfl rfl (by first | exact .inl (by with_reducible rfl) | exact .inr (by with_reducible rfl)) ?_)); first | refine AL_gdec rfl rfl rfl (fun hg => ?_) (fun hg => ?_) | refine AL_gnot rfl rfl rfl (fun hg => ?_) (fun hg => ?_) | refine AL_gcases rfl rfl rfl (fun hg => ?_) (fun hg => ?_)))
    exact ⟨_, _, rfl, rfl, rfl⟩
  | true =>
    rw [q1] at k27
    by_cases hl : l.length ≤ 5
    · cases q2 : briefB ts hs with
      | false =>
        rw [q2] at k80
        (repeat' (first | (exfalso; omega) | refine AW_if rfl (fun hc => absurd hc (by omega)) (fun _ => ?_) | refine AW_if rfl (fun _ => ?_) (fun hc => absurd (by omega) hc) | refine stq ?_ | (refine AL_do2 rfl ?_; first | refine ⟨_, op_call1 rfl rfl rfl rfl (k27), nrmA rfl ?_⟩ | refine ⟨_, op_call1 rfl rfl rfl rfl (k80), nrmA rfl ?_⟩ | refine ⟨_, op_call1 rfl rfl rfl rfl (f28), nrmA rfl ?_⟩) | (with_reducible refine AL_id ?_); (fail_if_success (refine AL_glit rfl rfl rfl (by first | exact .inl (by with_reducible rfl) | exact .inr (by with_reducible rfl)) ?_)); first | refine AL_gdec rfl rfl rfl (fun hg => ?_) (fun hg => ?_) | refine AL_gnot rfl rfl rfl (fun hg => ?_) (fun hg => ?_) | refine AL_gcases rfl rfl rfl (fun hg => ?_) (fun hg => ?_)))
        all_goals exact ⟨_, _, rfl, rfl, rfl⟩
      | true =>
        rw [q2] at k80
        by_cases hlm : lamp.length ≤ 5
        · have hOK := slim_houseOK q1
          have hTO := (brief_ok q2).2.2
          have k41 := f41 h l lamp hOK (by omega) (by omega)
          have k81 := f81 h l ts hs hOK.1 (by omega) hTO
          cases c0 : (isHouseB h && isBatchB h l && isLampB h lamp) with
          | false =>
            rw [c0] at k41
            (repeat' (first | (exfalso; omega) | refine AW_if rfl (fun hc => absurd hc (by omega)) (fun _ => ?_) | refine AW_if rfl (fun _ => ?_) (fun hc => absurd (by omega) hc) | refine stq ?_ | (refine AL_do2 rfl ?_; first | refine ⟨_, op_call1 rfl rfl rfl rfl (k27), nrmA rfl ?_⟩ | refine ⟨_, op_call1 rfl rfl rfl rfl (k80), nrmA rfl ?_⟩ | refine ⟨_, op_call1 rfl rfl rfl rfl (k41), nrmA rfl ?_⟩ | refine ⟨_, op_call1 rfl rfl rfl rfl (f28), nrmA rfl ?_⟩) | (with_reducible refine AL_id ?_); (fail_if_success (refine AL_glit rfl rfl rfl (by first | exact .inl (by with_reducible rfl) | exact .inr (by with_reducible rfl)) ?_)); first | refine AL_gdec rfl rfl rfl (fun hg => ?_) (fun hg => ?_) | refine AL_gnot rfl rfl rfl (fun hg => ?_) (fun hg => ?_) | refine AL_gcases rfl rfl rfl (fun hg => ?_) (fun hg => ?_)))
            all_goals exact ⟨_, _, rfl, rfl, rfl⟩
          | true =>
            rw [c0] at k41
            cases c3 : truthB h l ts hs with
            | false =>
              rw [c3] at k81
              (repeat' (first | (exfalso; omega) | refine AW_if rfl (fun hc => absurd hc (by omega)) (fun _ => ?_) | refine AW_if rfl (fun _ => ?_) (fun hc => absurd (by omega) hc) | refine stq ?_ | (refine AL_do2 rfl ?_; first | refine ⟨_, op_call1 rfl rfl rfl rfl (k27), nrmA rfl ?_⟩ | refine ⟨_, op_call1 rfl rfl rfl rfl (k80), nrmA rfl ?_⟩ | refine ⟨_, op_call1 rfl rfl rfl rfl (k41), nrmA rfl ?_⟩ | refine ⟨_, op_call1 rfl rfl rfl rfl (k81), nrmA rfl ?_⟩ | refine ⟨_, op_call1 rfl rfl rfl rfl (f28), nrmA rfl ?_⟩) | (with_reducible refine AL_id ?_); (fail_if_success (refine AL_glit rfl rfl rfl (by first | exact .inl (by with_reducible rfl) | exact .inr (by with_reducible rfl)) ?_)); first | refine AL_gdec rfl rfl rfl (fun hg => ?_) (fun hg => ?_) | refine AL_gnot rfl rfl rfl (fun hg => ?_) (fun hg => ?_) | refine AL_gcases rfl rfl rfl (fun hg => ?_) (fun hg => ?_)))
              all_goals exact ⟨_, _, rfl, rfl, rfl⟩
            | true =>
              rw [c3] at k81
              simp only [Bool.and_eq_true] at c0
              obtain ⟨⟨c1, c2⟩, c5⟩ := c0
              have hH := houseP_of c1
              have hB := batchP_of c2
              have hL := lampP_of c5
              have k82 := f82 h l ts hs hOK (by omega) hTO
              rw [show fitsE h l ts hs = (fitsB h l ts hs, 0) by simp [fitsE, c1, c2, c3]] at k82
              have k82 : ACalls Tryz.prog 82 [eHouse h, eBaths l, eTruth ts hs] (fun r => r = .tup [.bool (fitsB h l ts hs), vi 0]) := k82
              cases c4 : fitsB h l ts hs with
              | false =>
                rw [c4] at k82
                (repeat' (first | (exfalso; omega) | refine AW_if rfl (fun hc => absurd hc (by omega)) (fun _ => ?_) | refine AW_if rfl (fun _ => ?_) (fun hc => absurd (by omega) hc) | refine stq ?_ | (refine AL_do2 rfl ?_; first | refine ⟨_, op_call1 rfl rfl rfl rfl (k27), nrmA rfl ?_⟩ | refine ⟨_, op_call1 rfl rfl rfl rfl (k80), nrmA rfl ?_⟩ | refine ⟨_, op_call1 rfl rfl rfl rfl (k41), nrmA rfl ?_⟩ | refine ⟨_, op_call1 rfl rfl rfl rfl (k81), nrmA rfl ?_⟩ | refine ⟨_, op_call1 rfl rfl rfl rfl (k82), nrmA rfl ?_⟩ | refine ⟨_, op_call1 rfl rfl rfl rfl (f28), nrmA rfl ?_⟩) | (with_reducible refine AL_id ?_); (fail_if_success (refine AL_glit rfl rfl rfl (by first | exact .inl (by with_reducible rfl) | exact .inr (by with_reducible rfl)) ?_)); first | refine AL_gdec rfl rfl rfl (fun hg => ?_) (fun hg => ?_) | refine AL_gnot rfl rfl rfl (fun hg => ?_) (fun hg => ?_) | refine AL_gcases rfl rfl rfl (fun hg => ?_) (fun hg => ?_)))
                all_goals exact ⟨_, _, rfl, rfl, rfl⟩
              | true =>
                rw [c4] at k82
                have k78 := f78 h l ts hs hOK (by omega) hTO
                rw [show runE h l ts hs = (runGo l hs h ts 0, 0) by simp [runE, c1, c2, c3, c4]] at k78
                have k29 := f29 h l hOK (by omega)
                rw [show knownI h l = (endsL l h 0, 0) by simp [knownI, c1, c2]] at k29
                have k69 := f69 h lamp l hOK (by omega) (by omega)
                rw [show lookE h lamp l = (lookI h lamp l, 0) by simp [lookE, c1, c2, c5]] at k69
                obtain ⟨g1, g2, g3⟩ := run_facts hH hB c3 c4
                have g4 := run_look hH hL hB c3 c4
                have g5 := endsL_get l h 0
                have g6 := endsL_len l h 0
                have k83 := f83 lamp (runGo l hs h ts 0) (by rw [g1, hL.1]) (by rw [g1]; have := hH.1; omega) hL.2 g2
                generalize runGo l hs h ts 0 = r at *
                generalize lookI h lamp l = u at *
                generalize dotI lamp r = n at *
                generalize endsL l h 0 = e at *
                have k78 : ACalls Tryz.prog 78 [eHouse h, eBaths l, eTruth ts hs] (fun v => v = .tup [eInts r, vi 0]) := k78
                have k29 : ACalls Tryz.prog 29 [eHouse h, eBaths l] (fun v => v = .tup [eSpans e, vi 0]) := k29
                have k69 : ACalls Tryz.prog 69 [eHouse h, eLamp lamp, eBaths l] (fun v => v = .tup [eS u, vi 0]) := k69
                have hrl : r.length ≤ 1000 := by rw [g1]; have := hH.1; omega
                (repeat' (first | (exfalso; omega) | refine AW_if rfl (fun hc => absurd hc (by omega)) (fun _ => ?_) | refine AW_if rfl (fun _ => ?_) (fun hc => absurd (by omega) hc) | refine stq ?_ | (refine AL_do2 rfl ?_; first | refine ⟨_, op_call1 rfl rfl rfl rfl (k27), nrmA rfl ?_⟩ | refine ⟨_, op_call1 rfl rfl rfl rfl (k80), nrmA rfl ?_⟩ | refine ⟨_, op_call1 rfl rfl rfl rfl (k41), nrmA rfl ?_⟩ | refine ⟨_, op_call1 rfl rfl rfl rfl (k81), nrmA rfl ?_⟩ | refine ⟨_, op_call1 rfl rfl rfl rfl (k82), nrmA rfl ?_⟩ | refine ⟨_, op_call1 rfl rfl rfl rfl (k78), nrmA rfl ?_⟩ | refine ⟨_, op_call1 rfl rfl rfl rfl (k29), nrmA rfl ?_⟩ | refine ⟨_, op_call1 rfl rfl rfl rfl (k69), nrmA rfl ?_⟩) | (with_reducible refine AL_id ?_); (fail_if_success (refine AL_glit rfl rfl rfl (by first | exact .inl (by with_reducible rfl) | exact .inr (by with_reducible rfl)) ?_)); first | refine AL_gdec rfl rfl rfl (fun hg => ?_) (fun hg => ?_) | refine AL_gnot rfl rfl rfl (fun hg => ?_) (fun hg => ?_) | refine AL_gcases rfl rfl rfl (fun hg => ?_) (fun hg => ?_)))
                refine AW_loopC (fun k : Nat => k ≤ r.length) (fun k => mkSt [(7, .box 2 0), (11, .pv (eInts r)), (13, .pv (eSpans e)), (15, .box 3 0), (17, .pv (vi k))] [(2, .box [.pv (eInts lamp)]), (3, .box [.pv (vi u.low), .pv (vi u.high)])] 4) (fun k => r.length - k) 0 (Nat.zero_le _) ?_ ?_
                · (refine Le.mk ?_ ?_; all_goals (repeat' (first | exact trivial | refine sle ?_ | refine ⟨?_, rfl, ?_⟩ | refine ⟨?_, by decide, rfl, ?_⟩ | fail)))
                · intro k hk
                  (repeat (refine stq ?_))
                  refine AW_if rfl (fun hc => ?_) (fun hc => ?_)
                  · have hk' : k < r.length := by omega
                    obtain ⟨d, hd⟩ : ∃ d, h[k]? = some d := ⟨h[k]'(by omega), by simp⟩
                    obtain ⟨x, hx⟩ : ∃ x, r[k]? = some x := ⟨r[k], by simp [hk']⟩
                    have hb := g3 k d x hd hx
                    have hg := g5 k d hd
                    rw [Int.zero_add] at hg
                    generalize endsI d l k = v at hb hg
                    have e1 := get_map eInt hx
                    have e2 := get_map eSpan hg
                    (repeat (refine stq ?_))
                    iterate 9 (refine sdq ?_)
                    refine DG_boolF hT rfl (decide_eq_false (by omega)) ?_
                    (repeat (refine sdq ?_))
                    refine DG_end hM (by kernel_rfl) ?_
                    (repeat (refine stq ?_))
                    refine AW_if rfl (fun hc2 => absurd hc2 (by omega)) (fun _ => ?_)
                    (repeat (refine stq ?_))
                    refine ⟨k + 1, hk', by omega, ?_⟩
                    (refine Le.mk ?_ ?_; all_goals (repeat' (first | exact trivial | refine sle ?_ | refine ⟨?_, rfl, ?_⟩ | refine ⟨?_, by decide, rfl, ?_⟩ | fail)))
                  · (repeat' (first | (exfalso; omega) | refine AW_if rfl (fun hc => absurd hc (by omega)) (fun _ => ?_) | refine AW_if rfl (fun _ => ?_) (fun hc => absurd (by omega) hc) | refine stq ?_ | (refine AL_do2 rfl ?_; first | refine ⟨_, op_call1 rfl rfl rfl rfl (k83), nrmA rfl ?_⟩ | refine ⟨_, op_call1 rfl rfl rfl rfl (f28), nrmA rfl ?_⟩) | (with_reducible refine AL_id ?_); (fail_if_success (refine AL_glit rfl rfl rfl (by first | exact .inl (by with_reducible rfl) | exact .inr (by with_reducible rfl)) ?_)); first | refine AL_gdec rfl rfl rfl (fun hg => ?_) (fun hg => ?_) | refine AL_gnot rfl rfl rfl (fun hg => ?_) (fun hg => ?_) | refine AL_gcases rfl rfl rfl (fun hg => ?_) (fun hg => ?_)))
                    all_goals exact ⟨_, _, rfl, rfl, rfl⟩
        · (repeat' (first | (exfalso; omega) | refine AW_if rfl (fun hc => absurd hc (by omega)) (fun _ => ?_) | refine AW_if rfl (fun _ => ?_) (fun hc => absurd (by omega) hc) | refine stq ?_ | (refine AL_do2 rfl ?_; first | refine ⟨_, op_call1 rfl rfl rfl rfl (k27), nrmA rfl ?_⟩ | refine ⟨_, op_call1 rfl rfl rfl rfl (k80), nrmA rfl ?_⟩ | refine ⟨_, op_call1 rfl rfl rfl rfl (f28), nrmA rfl ?_⟩) | (with_reducible refine AL_id ?_); (fail_if_success (refine AL_glit rfl rfl rfl (by first | exact .inl (by with_reducible rfl) | exact .inr (by with_reducible rfl)) ?_)); first | refine AL_gdec rfl rfl rfl (fun hg => ?_) (fun hg => ?_) | refine AL_gnot rfl rfl rfl (fun hg => ?_) (fun hg => ?_) | refine AL_gcases rfl rfl rfl (fun hg => ?_) (fun hg => ?_)))
          all_goals exact ⟨_, _, rfl, rfl, rfl⟩
    · (repeat' (first | (exfalso; omega) | refine AW_if rfl (fun hc => absurd hc (by omega)) (fun _ => ?_) | refine AW_if rfl (fun _ => ?_) (fun hc => absurd (by omega) hc) | refine stq ?_ | (refine AL_do2 rfl ?_; first | refine ⟨_, op_call1 rfl rfl rfl rfl (k27), nrmA rfl ?_⟩ | refine ⟨_, op_call1 rfl rfl rfl rfl (k80), nrmA rfl ?_⟩ | refine ⟨_, op_call1 rfl rfl rfl rfl (f28), nrmA rfl ?_⟩) | (with_reducible refine AL_id ?_); (fail_if_success (refine AL_glit rfl rfl rfl (by first | exact .inl (by with_reducible rfl) | exact .inr (by with_reducible rfl)) ?_)); first | refine AL_gdec rfl rfl rfl (fun hg => ?_) (fun hg => ?_) | refine AL_gnot rfl rfl rfl (fun hg => ?_) (fun hg => ?_) | refine AL_gcases rfl rfl rfl (fun hg => ?_) (fun hg => ?_)))
      all_goals exact ⟨_, _, rfl, rfl, rfl⟩
end Go.Abs
