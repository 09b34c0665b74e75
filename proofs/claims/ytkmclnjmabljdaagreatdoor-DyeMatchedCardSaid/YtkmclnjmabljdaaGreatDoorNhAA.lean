/- DyeMatched. -/
import Derived.Test.YtkmclnjmabljdaaGreatDoorNhK
import Derived.Test.YtkmclnjmabljdaaGreatDoorNhD
set_option linter.unusedVariables false
set_option linter.unusedSimpArgs false

namespace Go.Abs
open Go.Proofs
set_option linter.unusedVariables false
set_option linter.unusedSimpArgs false
set_option maxRecDepth 100000

theorem suits_ok {h : List Dye} {c : Coat} {l : List Stock} {set : Int} (hs : suitsI h c l set = true) : okUp h c l set l.length := by
  unfold suitsI at hs
  simp only [Bool.and_eq_true] at hs
  exact all_ok.1 hs.1
theorem okI_near {h : List Dye} {c : Coat} {pre : List Stock} {s : Stock} (ho : okI h c pre s = true) {k : Nat} {x : List Int} {u : Span} (hx : c.lamps[k]? = some x) (hu : c.old[k]? = some u) : u.high - (lookI h x s.baths).low ≤ c.eye.low ∧ (lookI h x s.baths).high - u.low ≤ c.eye.low := by
  simp only [okI, Bool.and_eq_true, List.all_eq_true, List.mem_range] at ho
  have := ho.1 k (List.getElem?_eq_some_iff.1 hx).1
  rw [show c.lamps.getD k [] = x by simp [List.getD, hx], show c.old.getD k ⟨0, 0⟩ = u by simp [List.getD, hu]] at this
  simpa [nearB] using this
theorem okI_alike {h : List Dye} {c : Coat} {pre : List Stock} {s o : Stock} (ho : okI h c pre s = true) (hp : o ∈ pre) {x : List Int} (hx : x ∈ c.lamps) : alikeI h x o.baths s.baths c.eye = 3 := by
  simp only [okI, Bool.and_eq_true, List.all_eq_true, decide_eq_true_eq] at ho
  rw [alike_comm]
  exact ho.2 o hp x hx
/-- The looks of two stocks of a set that suits. -/
theorem matched_facts {h : List Dye} {c : Coat} {l : List Stock} {set : Int} {i j k : Nat} {s t : Stock} {x : List Int} {u : Span} {ts : List (List Int)} {hs hs2 : List Int} {old eye : Int}
    (hH : HouseP h) (hL : LampP h x) (hA : BatchP h s.baths) (hB : BatchP h t.baths) (hsu : suitsI h c l set = true) (hs1 : l[i]? = some s) (ht1 : l[j]? = some t) (hij : i < j) (bi : bitI set i = true) (bj : bitI set j = true) (hx : c.lamps[k]? = some x) (hu : c.old[k]? = some u)
    (c1 : truthB h s.baths ts hs = true) (c2 : truthB h t.baths ts hs2 = true) (f1 : fitsB h s.baths ts hs = true) (f2 : fitsB h t.baths ts hs2 = true) (ho : u.low ≤ old ∧ old ≤ u.high) (he : c.eye.low ≤ eye ∧ eye ≤ c.eye.high) :
    dotI x (runGo s.baths hs h ts 0) - dotI x (runGo t.baths hs2 h ts 0) ≤ eye ∧ dotI x (runGo t.baths hs2 h ts 0) - dotI x (runGo s.baths hs h ts 0) ≤ eye ∧
    dotI x (runGo s.baths hs h ts 0) - old ≤ eye ∧ old - dotI x (runGo s.baths hs h ts 0) ≤ eye ∧ dotI x (runGo t.baths hs2 h ts 0) - old ≤ eye ∧ old - dotI x (runGo t.baths hs2 h ts 0) ≤ eye := by
  have hok := suits_ok hsu
  have o1 := hok i s (List.getElem?_eq_some_iff.1 hs1).1 hs1 bi
  have o2 := hok j t (List.getElem?_eq_some_iff.1 ht1).1 ht1 bj
  have n1 := okI_near o1 hx hu
  have n2 := okI_near o2 hx hu
  have al := okI_alike o2 (chosen_mem_idx hs1 bi hij) (List.mem_of_getElem? hx)
  have l1 := run_look hH hL hA c1 f1
  have l2 := run_look hH hL hB c2 f2
  obtain ⟨_, _, d⟩ := differ_facts (eye := c.eye) (e := eye) (differ_in hH hL hA hB c1 c2 f1 f2) he
  rw [al] at d
  rcases d with ⟨h1, _⟩ | h1 | ⟨_, h2, h3⟩
  · omega
  · omega
  · omega
set_option maxHeartbeats 16000000 in
theorem f23 (h : List Dye) (c : Coat) (l : List Stock) (set one two : Int) (ts : List (List Int)) (hs hs2 : List Int) (j old eye : Int) :
    ACalls Tryz.prog 23 [eHouse h, eCoat c, eStocks l, vi set, vi one, vi two, eTruth ts hs, eInts hs2, vi j, vi old, vi eye] (fun r => r = .pv (.bool true)) := by
  have k27 := f27 h
  have k46 := f46 c
  have k47 := f47 l
  have k80 := f80 ts hs
  refine ACalls.of_body hT Tryz.func23 rfl (by kernel_rfl) rfl ?_
  cases q1 : slimB h with
  | false =>
    rw [q1] at k27
    (repeat' (first | refine stq ?_ | (refine AL_do2 rfl ?_; first | refine ⟨_, op_call1 rfl rfl rfl rfl (k27), nrmA rfl ?_⟩ | refine ⟨_, op_call1 rfl rfl rfl rfl (k46), nrmA rfl ?_⟩ | refine ⟨_, op_call1 rfl rfl rfl rfl (k47), nrmA rfl ?_⟩ | refine ⟨_, op_call1 rfl rfl rfl rfl (k80), nrmA rfl ?_⟩ | refine ⟨_, op_call1 rfl rfl rfl rfl (f28), nrmA rfl ?_⟩) | ((first | (with_reducible refine AL_id ?_); (fail_if_success (refine AL_glit rfl rfl rfl (by first | exact .inl (by with_reducible rfl) | exact .inr (by with_reducible rfl)) ?_)); first | refine AL_gdec rfl rfl rfl (fun hg => ?_) (fun hg => ?_) | refine AL_gnot rfl rfl rfl (fun hg => ?_) (fun hg => ?_) | refine AL_gcases rfl rfl rfl (fun hg => ?_) (fun hg => ?_)) <;> (try (exfalso; omega))) | refine AW_if rfl (fun hc => absurd hc (by omega)) (fun _ => ?_) | refine AW_if rfl (fun _ => ?_) (fun hc => absurd (by omega) hc)))
    all_goals exact ⟨_, _, rfl, rfl, rfl⟩
  | true =>
    rw [q1] at k27
    cases q2 : tidyB c with
    | false =>
      rw [q2] at k46
      (repeat' (first | refine stq ?_ | (refine AL_do2 rfl ?_; first | refine ⟨_, op_call1 rfl rfl rfl rfl (k27), nrmA rfl ?_⟩ | refine ⟨_, op_call1 rfl rfl rfl rfl (k46), nrmA rfl ?_⟩ | refine ⟨_, op_call1 rfl rfl rfl rfl (k47), nrmA rfl ?_⟩ | refine ⟨_, op_call1 rfl rfl rfl rfl (k80), nrmA rfl ?_⟩ | refine ⟨_, op_call1 rfl rfl rfl rfl (f28), nrmA rfl ?_⟩) | ((first | (with_reducible refine AL_id ?_); (fail_if_success (refine AL_glit rfl rfl rfl (by first | exact .inl (by with_reducible rfl) | exact .inr (by with_reducible rfl)) ?_)); first | refine AL_gdec rfl rfl rfl (fun hg => ?_) (fun hg => ?_) | refine AL_gnot rfl rfl rfl (fun hg => ?_) (fun hg => ?_) | refine AL_gcases rfl rfl rfl (fun hg => ?_) (fun hg => ?_)) <;> (try (exfalso; omega))) | refine AW_if rfl (fun hc => absurd hc (by omega)) (fun _ => ?_) | refine AW_if rfl (fun _ => ?_) (fun hc => absurd (by omega) hc)))
      all_goals exact ⟨_, _, rfl, rfl, rfl⟩
    | true =>
      rw [q2] at k46
      cases q3 : stockedB l with
      | false =>
        rw [q3] at k47
        (repeat' (first | refine stq ?_ | (refine AL_do2 rfl ?_; first | refine ⟨_, op_call1 rfl rfl rfl rfl (k27), nrmA rfl ?_⟩ | refine ⟨_, op_call1 rfl rfl rfl rfl (k46), nrmA rfl ?_⟩ | refine ⟨_, op_call1 rfl rfl rfl rfl (k47), nrmA rfl ?_⟩ | refine ⟨_, op_call1 rfl rfl rfl rfl (k80), nrmA rfl ?_⟩ | refine ⟨_, op_call1 rfl rfl rfl rfl (f28), nrmA rfl ?_⟩) | ((first | (with_reducible refine AL_id ?_); (fail_if_success (refine AL_glit rfl rfl rfl (by first | exact .inl (by with_reducible rfl) | exact .inr (by with_reducible rfl)) ?_)); first | refine AL_gdec rfl rfl rfl (fun hg => ?_) (fun hg => ?_) | refine AL_gnot rfl rfl rfl (fun hg => ?_) (fun hg => ?_) | refine AL_gcases rfl rfl rfl (fun hg => ?_) (fun hg => ?_)) <;> (try (exfalso; omega))) | refine AW_if rfl (fun hc => absurd hc (by omega)) (fun _ => ?_) | refine AW_if rfl (fun _ => ?_) (fun hc => absurd (by omega) hc)))
        all_goals exact ⟨_, _, rfl, rfl, rfl⟩
      | true =>
        rw [q3] at k47
        cases q4 : briefB ts hs with
        | false =>
          rw [q4] at k80
          (repeat' (first | refine stq ?_ | (refine AL_do2 rfl ?_; first | refine ⟨_, op_call1 rfl rfl rfl rfl (k27), nrmA rfl ?_⟩ | refine ⟨_, op_call1 rfl rfl rfl rfl (k46), nrmA rfl ?_⟩ | refine ⟨_, op_call1 rfl rfl rfl rfl (k47), nrmA rfl ?_⟩ | refine ⟨_, op_call1 rfl rfl rfl rfl (k80), nrmA rfl ?_⟩ | refine ⟨_, op_call1 rfl rfl rfl rfl (f28), nrmA rfl ?_⟩) | ((first | (with_reducible refine AL_id ?_); (fail_if_success (refine AL_glit rfl rfl rfl (by first | exact .inl (by with_reducible rfl) | exact .inr (by with_reducible rfl)) ?_)); first | refine AL_gdec rfl rfl rfl (fun hg => ?_) (fun hg => ?_) | refine AL_gnot rfl rfl rfl (fun hg => ?_) (fun hg => ?_) | refine AL_gcases rfl rfl rfl (fun hg => ?_) (fun hg => ?_)) <;> (try (exfalso; omega))) | refine AW_if rfl (fun hc => absurd hc (by omega)) (fun _ => ?_) | refine AW_if rfl (fun _ => ?_) (fun hc => absurd (by omega) hc)))
          all_goals exact ⟨_, _, rfl, rfl, rfl⟩
        | true =>
          rw [q4] at k80
          by_cases q5 : hs2.length ≤ 5
          · have hOK := slim_houseOK q1
            have hcO := (tidy_ok q2).2.2.2
            have hsO := (stocked_ok q3).2.2
            have hl7 := (stocked_ok q3).1
            have hTO := (brief_ok q4).2.2
            have hTO2 : truthOK ts hs2 := ⟨hTO.1, by omega, hTO.2.2⟩
            have k49 := f49 h c l hOK hcO hsO
            cases ha : (isHouseB h && isCoatB h c && areStocksB h l 1) with
            | false =>
              rw [ha] at k49
              (repeat' (first | refine stq ?_ | (refine AL_do2 rfl ?_; first | refine ⟨_, op_call1 rfl rfl rfl rfl (k27), nrmA rfl ?_⟩ | refine ⟨_, op_call1 rfl rfl rfl rfl (k46), nrmA rfl ?_⟩ | refine ⟨_, op_call1 rfl rfl rfl rfl (k47), nrmA rfl ?_⟩ | refine ⟨_, op_call1 rfl rfl rfl rfl (k80), nrmA rfl ?_⟩ | refine ⟨_, op_call1 rfl rfl rfl rfl (k49), nrmA rfl ?_⟩ | refine ⟨_, op_call1 rfl rfl rfl rfl (f28), nrmA rfl ?_⟩) | ((first | (with_reducible refine AL_id ?_); (fail_if_success (refine AL_glit rfl rfl rfl (by first | exact .inl (by with_reducible rfl) | exact .inr (by with_reducible rfl)) ?_)); first | refine AL_gdec rfl rfl rfl (fun hg => ?_) (fun hg => ?_) | refine AL_gnot rfl rfl rfl (fun hg => ?_) (fun hg => ?_) | refine AL_gcases rfl rfl rfl (fun hg => ?_) (fun hg => ?_)) <;> (try (exfalso; omega))) | refine AW_if rfl (fun hc => absurd hc (by omega)) (fun _ => ?_) | refine AW_if rfl (fun _ => ?_) (fun hc => absurd (by omega) hc)))
              all_goals exact ⟨_, _, rfl, rfl, rfl⟩
            | true =>
              rw [ha] at k49
              obtain ⟨w1, w2, w3⟩ := asked_of ha
              have hH := houseP_of w1
              have hC := coatP_of w2
              have hS := stocksP_of w3
              have hS1 := hS.1
              have hcl := hC.len
              have hco := hC.old
              have k67 := f67 set l.length hS.1
              cases v1 : setB set l.length with
              | false =>
                rw [v1] at k67
                (repeat' (first | refine stq ?_ | (refine AL_do2 rfl ?_; first | refine ⟨_, op_call1 rfl rfl rfl rfl (k27), nrmA rfl ?_⟩ | refine ⟨_, op_call1 rfl rfl rfl rfl (k46), nrmA rfl ?_⟩ | refine ⟨_, op_call1 rfl rfl rfl rfl (k47), nrmA rfl ?_⟩ | refine ⟨_, op_call1 rfl rfl rfl rfl (k80), nrmA rfl ?_⟩ | refine ⟨_, op_call1 rfl rfl rfl rfl (k49), nrmA rfl ?_⟩ | refine ⟨_, op_call1 rfl rfl rfl rfl (k67), nrmA rfl ?_⟩ | refine ⟨_, op_call1 rfl rfl rfl rfl (f28), nrmA rfl ?_⟩) | ((first | (with_reducible refine AL_id ?_); (fail_if_success (refine AL_glit rfl rfl rfl (by first | exact .inl (by with_reducible rfl) | exact .inr (by with_reducible rfl)) ?_)); first | refine AL_gdec rfl rfl rfl (fun hg => ?_) (fun hg => ?_) | refine AL_gnot rfl rfl rfl (fun hg => ?_) (fun hg => ?_) | refine AL_gcases rfl rfl rfl (fun hg => ?_) (fun hg => ?_)) <;> (try (exfalso; omega))) | refine AW_if rfl (fun hc => absurd hc (by omega)) (fun _ => ?_) | refine AW_if rfl (fun _ => ?_) (fun hc => absurd (by omega) hc)))
                all_goals exact ⟨_, _, rfl, rfl, rfl⟩
              | true =>
                rw [v1] at k67
                by_cases v2 : 0 ≤ one
                · by_cases v3 : one < two
                  · by_cases v4 : two < l.length
                    · have k89a := f89 set one.toNat (by omega)
                      have k89b := f89 set two.toNat (by omega)
                      rw [show ((one.toNat : Nat) : Int) = one by omega] at k89a
                      rw [show ((two.toNat : Nat) : Int) = two by omega] at k89b
                      cases v5 : bitI set one.toNat with
                      | false =>
                        rw [v5] at k89a
                        (repeat' (first | refine stq ?_ | (refine AL_do2 rfl ?_; first | refine ⟨_, op_call1 rfl rfl rfl rfl (k27), nrmA rfl ?_⟩ | refine ⟨_, op_call1 rfl rfl rfl rfl (k46), nrmA rfl ?_⟩ | refine ⟨_, op_call1 rfl rfl rfl rfl (k47), nrmA rfl ?_⟩ | refine ⟨_, op_call1 rfl rfl rfl rfl (k80), nrmA rfl ?_⟩ | refine ⟨_, op_call1 rfl rfl rfl rfl (k49), nrmA rfl ?_⟩ | refine ⟨_, op_call1 rfl rfl rfl rfl (k67), nrmA rfl ?_⟩ | refine ⟨_, op_call1 rfl rfl rfl rfl (k89a), nrmA rfl ?_⟩ | refine ⟨_, op_call1 rfl rfl rfl rfl (k89b), nrmA rfl ?_⟩ | refine ⟨_, op_call1 rfl rfl rfl rfl (f28), nrmA rfl ?_⟩) | ((first | (with_reducible refine AL_id ?_); (fail_if_success (refine AL_glit rfl rfl rfl (by first | exact .inl (by with_reducible rfl) | exact .inr (by with_reducible rfl)) ?_)); first | refine AL_gdec rfl rfl rfl (fun hg => ?_) (fun hg => ?_) | refine AL_gnot rfl rfl rfl (fun hg => ?_) (fun hg => ?_) | refine AL_gcases rfl rfl rfl (fun hg => ?_) (fun hg => ?_)) <;> (try (exfalso; omega))) | refine AW_if rfl (fun hc => absurd hc (by omega)) (fun _ => ?_) | refine AW_if rfl (fun _ => ?_) (fun hc => absurd (by omega) hc)))
                        all_goals exact ⟨_, _, rfl, rfl, rfl⟩
                      | true =>
                        rw [v5] at k89a
                        cases v6 : bitI set two.toNat with
                        | false =>
                          rw [v6] at k89b
                          (repeat' (first | refine stq ?_ | (refine AL_do2 rfl ?_; first | refine ⟨_, op_call1 rfl rfl rfl rfl (k27), nrmA rfl ?_⟩ | refine ⟨_, op_call1 rfl rfl rfl rfl (k46), nrmA rfl ?_⟩ | refine ⟨_, op_call1 rfl rfl rfl rfl (k47), nrmA rfl ?_⟩ | refine ⟨_, op_call1 rfl rfl rfl rfl (k80), nrmA rfl ?_⟩ | refine ⟨_, op_call1 rfl rfl rfl rfl (k49), nrmA rfl ?_⟩ | refine ⟨_, op_call1 rfl rfl rfl rfl (k67), nrmA rfl ?_⟩ | refine ⟨_, op_call1 rfl rfl rfl rfl (k89a), nrmA rfl ?_⟩ | refine ⟨_, op_call1 rfl rfl rfl rfl (k89b), nrmA rfl ?_⟩ | refine ⟨_, op_call1 rfl rfl rfl rfl (f28), nrmA rfl ?_⟩) | ((first | (with_reducible refine AL_id ?_); (fail_if_success (refine AL_glit rfl rfl rfl (by first | exact .inl (by with_reducible rfl) | exact .inr (by with_reducible rfl)) ?_)); first | refine AL_gdec rfl rfl rfl (fun hg => ?_) (fun hg => ?_) | refine AL_gnot rfl rfl rfl (fun hg => ?_) (fun hg => ?_) | refine AL_gcases rfl rfl rfl (fun hg => ?_) (fun hg => ?_)) <;> (try (exfalso; omega))) | refine AW_if rfl (fun hc => absurd hc (by omega)) (fun _ => ?_) | refine AW_if rfl (fun _ => ?_) (fun hc => absurd (by omega) hc)))
                          all_goals exact ⟨_, _, rfl, rfl, rfl⟩
                        | true =>
                          rw [v6] at k89b
                          by_cases v7 : 0 ≤ j
                          · by_cases v8 : j < c.lamps.length
                            · obtain ⟨s, hsx⟩ : ∃ s, l[one.toNat]? = some s := ⟨l[one.toNat]'(by omega), by simp⟩
                              obtain ⟨t, htx⟩ : ∃ t, l[two.toNat]? = some t := ⟨l[two.toNat]'(by omega), by simp⟩
                              obtain ⟨x, hx⟩ : ∃ x, c.lamps[j.toNat]? = some x := ⟨c.lamps[j.toNat]'(by omega), by simp⟩
                              obtain ⟨u, hu⟩ : ∃ u, c.old[j.toNat]? = some u := ⟨c.old[j.toNat]'(by omega), by simp⟩
                              have e1 := get_map eStock hsx
                              have e2 := get_map eStock htx
                              have e3 := get_map eLampC hx
                              have e4 := get_map eSpan hu
                              have hsP := (hS.2 s (List.mem_of_getElem? hsx)).1
                              have htP := (hS.2 t (List.mem_of_getElem? htx)).1
                              have hs4 := hsP.1
                              have ht4 := htP.1
                              have hL := hC.lamps x (List.mem_of_getElem? hx)
                              have hub := hC.oldb u (List.mem_of_getElem? hu)
                              have hce := coat_eye w2
                              have k81a := f81 h s.baths ts hs hOK.1 (by omega) hTO
                              have k81b := f81 h t.baths ts hs2 hOK.1 (by omega) hTO2
                              cases t1 : truthB h s.baths ts hs with
                              | false =>
                                rw [t1] at k81a
                                (repeat' (first | refine stq ?_ | (refine AL_do2 rfl ?_; first | refine ⟨_, op_call1 rfl rfl rfl rfl (k27), nrmA rfl ?_⟩ | refine ⟨_, op_call1 rfl rfl rfl rfl (k46), nrmA rfl ?_⟩ | refine ⟨_, op_call1 rfl rfl rfl rfl (k47), nrmA rfl ?_⟩ | refine ⟨_, op_call1 rfl rfl rfl rfl (k80), nrmA rfl ?_⟩ | refine ⟨_, op_call1 rfl rfl rfl rfl (k49), nrmA rfl ?_⟩ | refine ⟨_, op_call1 rfl rfl rfl rfl (k67), nrmA rfl ?_⟩ | refine ⟨_, op_call1 rfl rfl rfl rfl (k89a), nrmA rfl ?_⟩ | refine ⟨_, op_call1 rfl rfl rfl rfl (k89b), nrmA rfl ?_⟩) | ((first | (with_reducible refine AL_id ?_); (fail_if_success (refine AL_glit rfl rfl rfl (by first | exact .inl (by with_reducible rfl) | exact .inr (by with_reducible rfl)) ?_)); first | refine AL_gdec rfl rfl rfl (fun hg => ?_) (fun hg => ?_) | refine AL_gnot rfl rfl rfl (fun hg => ?_) (fun hg => ?_) | refine AL_gcases rfl rfl rfl (fun hg => ?_) (fun hg => ?_)) <;> (try (exfalso; omega))) | refine AW_if rfl (fun hc => absurd hc (by omega)) (fun _ => ?_) | refine AW_if rfl (fun _ => ?_) (fun hc => absurd (by omega) hc)))
                                (repeat (first | refine sdq ?_ | refine DG_next (D_call rfl rfl rfl rfl rfl (k81a)) ?_))
                                refine DG_end hM (by kernel_rfl) ?_
                                (repeat' (first | refine stq ?_ | (refine AL_do2 rfl ?_; first | refine ⟨_, op_call1 rfl rfl rfl rfl (f28), nrmA rfl ?_⟩) | (with_reducible refine AL_id ?_); (fail_if_success (refine AL_glit rfl rfl rfl (by first | exact .inl (by with_reducible rfl) | exact .inr (by with_reducible rfl)) ?_)); first | refine AL_gdec rfl rfl rfl (fun hg => ?_) (fun hg => ?_) | refine AL_gnot rfl rfl rfl (fun hg => ?_) (fun hg => ?_) | refine AL_gcases rfl rfl rfl (fun hg => ?_) (fun hg => ?_)))
                                exact ⟨_, _, rfl, rfl, rfl⟩
                              | true =>
                                rw [t1] at k81a
                                cases t2 : truthB h t.baths ts hs2 with
                                | false =>
                                  rw [t2] at k81b
                                  (repeat' (first | refine stq ?_ | (refine AL_do2 rfl ?_; first | refine ⟨_, op_call1 rfl rfl rfl rfl (k27), nrmA rfl ?_⟩ | refine ⟨_, op_call1 rfl rfl rfl rfl (k46), nrmA rfl ?_⟩ | refine ⟨_, op_call1 rfl rfl rfl rfl (k47), nrmA rfl ?_⟩ | refine ⟨_, op_call1 rfl rfl rfl rfl (k80), nrmA rfl ?_⟩ | refine ⟨_, op_call1 rfl rfl rfl rfl (k49), nrmA rfl ?_⟩ | refine ⟨_, op_call1 rfl rfl rfl rfl (k67), nrmA rfl ?_⟩ | refine ⟨_, op_call1 rfl rfl rfl rfl (k89a), nrmA rfl ?_⟩ | refine ⟨_, op_call1 rfl rfl rfl rfl (k89b), nrmA rfl ?_⟩) | ((first | (with_reducible refine AL_id ?_); (fail_if_success (refine AL_glit rfl rfl rfl (by first | exact .inl (by with_reducible rfl) | exact .inr (by with_reducible rfl)) ?_)); first | refine AL_gdec rfl rfl rfl (fun hg => ?_) (fun hg => ?_) | refine AL_gnot rfl rfl rfl (fun hg => ?_) (fun hg => ?_) | refine AL_gcases rfl rfl rfl (fun hg => ?_) (fun hg => ?_)) <;> (try (exfalso; omega))) | refine AW_if rfl (fun hc => absurd hc (by omega)) (fun _ => ?_) | refine AW_if rfl (fun _ => ?_) (fun hc => absurd (by omega) hc)))
                                  (repeat (first | refine sdq ?_ | refine DG_next (D_call rfl rfl rfl rfl rfl (k81a)) ?_ | refine DG_next (D_call rfl rfl rfl rfl rfl (k81b)) ?_))
                                  refine DG_end hM (by kernel_rfl) ?_
                                  (repeat' (first | refine stq ?_ | (refine AL_do2 rfl ?_; first | refine ⟨_, op_call1 rfl rfl rfl rfl (f28), nrmA rfl ?_⟩) | (with_reducible refine AL_id ?_); (fail_if_success (refine AL_glit rfl rfl rfl (by first | exact .inl (by with_reducible rfl) | exact .inr (by with_reducible rfl)) ?_)); first | refine AL_gdec rfl rfl rfl (fun hg => ?_) (fun hg => ?_) | refine AL_gnot rfl rfl rfl (fun hg => ?_) (fun hg => ?_) | refine AL_gcases rfl rfl rfl (fun hg => ?_) (fun hg => ?_)))
                                  exact ⟨_, _, rfl, rfl, rfl⟩
                                | true =>
                                  rw [t2] at k81b
                                  (repeat' (first | refine stq ?_ | (refine AL_do2 rfl ?_; first | refine ⟨_, op_call1 rfl rfl rfl rfl (k27), nrmA rfl ?_⟩ | refine ⟨_, op_call1 rfl rfl rfl rfl (k46), nrmA rfl ?_⟩ | refine ⟨_, op_call1 rfl rfl rfl rfl (k47), nrmA rfl ?_⟩ | refine ⟨_, op_call1 rfl rfl rfl rfl (k80), nrmA rfl ?_⟩ | refine ⟨_, op_call1 rfl rfl rfl rfl (k49), nrmA rfl ?_⟩ | refine ⟨_, op_call1 rfl rfl rfl rfl (k67), nrmA rfl ?_⟩ | refine ⟨_, op_call1 rfl rfl rfl rfl (k89a), nrmA rfl ?_⟩ | refine ⟨_, op_call1 rfl rfl rfl rfl (k89b), nrmA rfl ?_⟩) | ((first | (with_reducible refine AL_id ?_); (fail_if_success (refine AL_glit rfl rfl rfl (by first | exact .inl (by with_reducible rfl) | exact .inr (by with_reducible rfl)) ?_)); first | refine AL_gdec rfl rfl rfl (fun hg => ?_) (fun hg => ?_) | refine AL_gnot rfl rfl rfl (fun hg => ?_) (fun hg => ?_) | refine AL_gcases rfl rfl rfl (fun hg => ?_) (fun hg => ?_)) <;> (try (exfalso; omega))) | refine AW_if rfl (fun hc => absurd hc (by omega)) (fun _ => ?_) | refine AW_if rfl (fun _ => ?_) (fun hc => absurd (by omega) hc)))
                                  (repeat (refine sdq ?_))
                                  refine DG_next (D_call rfl rfl rfl rfl rfl k81a) ?_
                                  (repeat (refine sdq ?_))
                                  refine DG_next (D_call rfl rfl rfl rfl rfl k81b) ?_
                                  iterate 10 (refine sdq ?_)
                                  by_cases z1 : old < u.low
                                  · refine DG_boolT hT rfl (decide_eq_true z1) ?_
                                    (repeat (refine sdq ?_))
                                    refine DG_end hM (by kernel_rfl) ?_
                                    (repeat' (first | refine stq ?_ | (refine AL_do2 rfl ?_; first | refine ⟨_, op_call1 rfl rfl rfl rfl (f28), nrmA rfl ?_⟩) | (with_reducible refine AL_id ?_); (fail_if_success (refine AL_glit rfl rfl rfl (by first | exact .inl (by with_reducible rfl) | exact .inr (by with_reducible rfl)) ?_)); first | refine AL_gdec rfl rfl rfl (fun hg => ?_) (fun hg => ?_) | refine AL_gnot rfl rfl rfl (fun hg => ?_) (fun hg => ?_) | refine AL_gcases rfl rfl rfl (fun hg => ?_) (fun hg => ?_)))
                                    exact ⟨_, _, rfl, rfl, rfl⟩
                                  refine DG_boolF hT rfl (decide_eq_false z1) ?_
                                  iterate 9 (refine sdq ?_)
                                  by_cases z2 : old > u.high
                                  · refine DG_boolT hT rfl (decide_eq_true z2) ?_
                                    (repeat (refine sdq ?_))
                                    refine DG_end hM (by kernel_rfl) ?_
                                    (repeat' (first | refine stq ?_ | (refine AL_do2 rfl ?_; first | refine ⟨_, op_call1 rfl rfl rfl rfl (f28), nrmA rfl ?_⟩) | (with_reducible refine AL_id ?_); (fail_if_success (refine AL_glit rfl rfl rfl (by first | exact .inl (by with_reducible rfl) | exact .inr (by with_reducible rfl)) ?_)); first | refine AL_gdec rfl rfl rfl (fun hg => ?_) (fun hg => ?_) | refine AL_gnot rfl rfl rfl (fun hg => ?_) (fun hg => ?_) | refine AL_gcases rfl rfl rfl (fun hg => ?_) (fun hg => ?_)))
                                    exact ⟨_, _, rfl, rfl, rfl⟩
                                  refine DG_boolF hT rfl (decide_eq_false z2) ?_
                                  iterate 6 (refine sdq ?_)
                                  by_cases z3 : eye < c.eye.low
                                  · refine DG_boolT hT rfl (decide_eq_true z3) ?_
                                    (repeat (refine sdq ?_))
                                    refine DG_end hM (by kernel_rfl) ?_
                                    (repeat' (first | refine stq ?_ | (refine AL_do2 rfl ?_; first | refine ⟨_, op_call1 rfl rfl rfl rfl (f28), nrmA rfl ?_⟩) | (with_reducible refine AL_id ?_); (fail_if_success (refine AL_glit rfl rfl rfl (by first | exact .inl (by with_reducible rfl) | exact .inr (by with_reducible rfl)) ?_)); first | refine AL_gdec rfl rfl rfl (fun hg => ?_) (fun hg => ?_) | refine AL_gnot rfl rfl rfl (fun hg => ?_) (fun hg => ?_) | refine AL_gcases rfl rfl rfl (fun hg => ?_) (fun hg => ?_)))
                                    exact ⟨_, _, rfl, rfl, rfl⟩
                                  refine DG_boolF hT rfl (decide_eq_false z3) ?_
                                  iterate 6 (refine sdq ?_)
                                  by_cases z4 : eye > c.eye.high
                                  · refine DG_boolT hT rfl (decide_eq_true z4) ?_
                                    (repeat (refine sdq ?_))
                                    refine DG_end hM (by kernel_rfl) ?_
                                    (repeat' (first | refine stq ?_ | (refine AL_do2 rfl ?_; first | refine ⟨_, op_call1 rfl rfl rfl rfl (f28), nrmA rfl ?_⟩) | (with_reducible refine AL_id ?_); (fail_if_success (refine AL_glit rfl rfl rfl (by first | exact .inl (by with_reducible rfl) | exact .inr (by with_reducible rfl)) ?_)); first | refine AL_gdec rfl rfl rfl (fun hg => ?_) (fun hg => ?_) | refine AL_gnot rfl rfl rfl (fun hg => ?_) (fun hg => ?_) | refine AL_gcases rfl rfl rfl (fun hg => ?_) (fun hg => ?_)))
                                    exact ⟨_, _, rfl, rfl, rfl⟩
                                  refine DG_boolF hT rfl (decide_eq_false z4) ?_
                                  (repeat (refine sdq ?_))
                                  refine DG_end hM (by kernel_rfl) ?_
                                  have k73 := f73 h c l set hOK hcO hsO (by omega)
                                  rw [show suitsE h c l set = (suitsI h c l set, 0) by unfold suitsE; rw [if_pos (by rw [ha, set_in, v1]; rfl)]] at k73
                                  have cs : isBatchB h s.baths = true ∧ isBatchB h t.baths = true := by
                                    simp only [areStocksB, Bool.and_eq_true, Bool.not_eq_true', List.any_eq_false, Bool.not_eq_false, isStockB] at w3
                                    exact ⟨(w3.2 s (List.mem_of_getElem? hsx)).1.1, (w3.2 t (List.mem_of_getElem? htx)).1.1⟩
                                  have k82a := f82 h s.baths ts hs hOK (by omega) hTO
                                  have k82b := f82 h t.baths ts hs2 hOK (by omega) hTO2
                                  rw [show fitsE h s.baths ts hs = (fitsB h s.baths ts hs, 0) by simp [fitsE, w1, cs.1, t1]] at k82a
                                  rw [show fitsE h t.baths ts hs2 = (fitsB h t.baths ts hs2, 0) by simp [fitsE, w1, cs.2, t2]] at k82b
                                  have k73 : ACalls Tryz.prog 73 [eHouse h, eCoat c, eStocks l, vi set] (fun r => r = .tup [.bool (suitsI h c l set), vi 0]) := k73
                                  have k82a : ACalls Tryz.prog 82 [eHouse h, eBaths s.baths, eTruth ts hs] (fun r => r = .tup [.bool (fitsB h s.baths ts hs), vi 0]) := k82a
                                  have k82b : ACalls Tryz.prog 82 [eHouse h, eBaths t.baths, eTruth ts hs2] (fun r => r = .tup [.bool (fitsB h t.baths ts hs2), vi 0]) := k82b
                                  cases g0 : suitsI h c l set with
                                  | false =>
                                    rw [g0] at k73
                                    (repeat' (first | refine stq ?_ | (refine AL_do2 rfl ?_; first | refine ⟨_, op_call1 rfl rfl rfl rfl (k73), nrmA rfl ?_⟩) | (with_reducible refine AL_id ?_); (fail_if_success (refine AL_glit rfl rfl rfl (by first | exact .inl (by with_reducible rfl) | exact .inr (by with_reducible rfl)) ?_)); first | refine AL_gdec rfl rfl rfl (fun hg => ?_) (fun hg => ?_) | refine AL_gnot rfl rfl rfl (fun hg => ?_) (fun hg => ?_) | refine AL_gcases rfl rfl rfl (fun hg => ?_) (fun hg => ?_)))
                                    (repeat (first | refine sdq ?_ | refine DG_next (D_call_tup rfl rfl rfl rfl rfl (k82a)) ?_))
                                    refine DG_end hM (by kernel_rfl) ?_
                                    (repeat (refine stq ?_))
                                    (repeat (first | refine sdq ?_ | refine DG_next (D_call_tup rfl rfl rfl rfl rfl (k82b)) ?_))
                                    refine DG_end hM (by kernel_rfl) ?_
                                    (repeat' (first | refine stq ?_ | (refine AL_do2 rfl ?_; first | refine ⟨_, op_call1 rfl rfl rfl rfl (f28), nrmA rfl ?_⟩) | (with_reducible refine AL_id ?_); (fail_if_success (refine AL_glit rfl rfl rfl (by first | exact .inl (by with_reducible rfl) | exact .inr (by with_reducible rfl)) ?_)); first | refine AL_gdec rfl rfl rfl (fun hg => ?_) (fun hg => ?_) | refine AL_gnot rfl rfl rfl (fun hg => ?_) (fun hg => ?_) | refine AL_gcases rfl rfl rfl (fun hg => ?_) (fun hg => ?_)))
                                    all_goals exact ⟨_, _, rfl, rfl, rfl⟩
                                  | true =>
                                    rw [g0] at k73
                                    cases g1 : fitsB h s.baths ts hs with
                                    | false =>
                                      rw [g1] at k82a
                                      (repeat' (first | refine stq ?_ | (refine AL_do2 rfl ?_; first | refine ⟨_, op_call1 rfl rfl rfl rfl (k73), nrmA rfl ?_⟩) | (with_reducible refine AL_id ?_); (fail_if_success (refine AL_glit rfl rfl rfl (by first | exact .inl (by with_reducible rfl) | exact .inr (by with_reducible rfl)) ?_)); first | refine AL_gdec rfl rfl rfl (fun hg => ?_) (fun hg => ?_) | refine AL_gnot rfl rfl rfl (fun hg => ?_) (fun hg => ?_) | refine AL_gcases rfl rfl rfl (fun hg => ?_) (fun hg => ?_)))
                                      (repeat (first | refine sdq ?_ | refine DG_next (D_call_tup rfl rfl rfl rfl rfl (k82a)) ?_))
                                      refine DG_end hM (by kernel_rfl) ?_
                                      (repeat (refine stq ?_))
                                      (repeat (first | refine sdq ?_ | refine DG_next (D_call_tup rfl rfl rfl rfl rfl (k82b)) ?_))
                                      refine DG_end hM (by kernel_rfl) ?_
                                      (repeat' (first | refine stq ?_ | (refine AL_do2 rfl ?_; first | refine ⟨_, op_call1 rfl rfl rfl rfl (f28), nrmA rfl ?_⟩) | (with_reducible refine AL_id ?_); (fail_if_success (refine AL_glit rfl rfl rfl (by first | exact .inl (by with_reducible rfl) | exact .inr (by with_reducible rfl)) ?_)); first | refine AL_gdec rfl rfl rfl (fun hg => ?_) (fun hg => ?_) | refine AL_gnot rfl rfl rfl (fun hg => ?_) (fun hg => ?_) | refine AL_gcases rfl rfl rfl (fun hg => ?_) (fun hg => ?_)))
                                      all_goals exact ⟨_, _, rfl, rfl, rfl⟩
                                    | true =>
                                      rw [g1] at k82a
                                      cases g2 : fitsB h t.baths ts hs2 with
                                      | false =>
                                        rw [g2] at k82b
                                        (repeat' (first | refine stq ?_ | (refine AL_do2 rfl ?_; first | refine ⟨_, op_call1 rfl rfl rfl rfl (k73), nrmA rfl ?_⟩) | (with_reducible refine AL_id ?_); (fail_if_success (refine AL_glit rfl rfl rfl (by first | exact .inl (by with_reducible rfl) | exact .inr (by with_reducible rfl)) ?_)); first | refine AL_gdec rfl rfl rfl (fun hg => ?_) (fun hg => ?_) | refine AL_gnot rfl rfl rfl (fun hg => ?_) (fun hg => ?_) | refine AL_gcases rfl rfl rfl (fun hg => ?_) (fun hg => ?_)))
                                        (repeat (first | refine sdq ?_ | refine DG_next (D_call_tup rfl rfl rfl rfl rfl (k82a)) ?_))
                                        refine DG_end hM (by kernel_rfl) ?_
                                        (repeat (refine stq ?_))
                                        (repeat (first | refine sdq ?_ | refine DG_next (D_call_tup rfl rfl rfl rfl rfl (k82b)) ?_))
                                        refine DG_end hM (by kernel_rfl) ?_
                                        (repeat' (first | refine stq ?_ | (refine AL_do2 rfl ?_; first | refine ⟨_, op_call1 rfl rfl rfl rfl (f28), nrmA rfl ?_⟩) | (with_reducible refine AL_id ?_); (fail_if_success (refine AL_glit rfl rfl rfl (by first | exact .inl (by with_reducible rfl) | exact .inr (by with_reducible rfl)) ?_)); first | refine AL_gdec rfl rfl rfl (fun hg => ?_) (fun hg => ?_) | refine AL_gnot rfl rfl rfl (fun hg => ?_) (fun hg => ?_) | refine AL_gcases rfl rfl rfl (fun hg => ?_) (fun hg => ?_)))
                                        all_goals exact ⟨_, _, rfl, rfl, rfl⟩
                                      | true =>
                                        rw [g2] at k82b
                                        have k78a := f78 h s.baths ts hs hOK (by omega) hTO
                                        have k78b := f78 h t.baths ts hs2 hOK (by omega) hTO2
                                        rw [show runE h s.baths ts hs = (runGo s.baths hs h ts 0, 0) by simp [runE, w1, cs.1, t1, g1]] at k78a
                                        rw [show runE h t.baths ts hs2 = (runGo t.baths hs2 h ts 0, 0) by simp [runE, w1, cs.2, t2, g2]] at k78b
                                        have r1 := run_facts hH hsP t1 g1
                                        have r2 := run_facts hH htP t2 g2
                                        have hmf := matched_facts (old := old) (eye := eye) hH hL hsP htP g0 hsx htx (by omega) v5 v6 hx hu t1 t2 g1 g2 (by omega) (by omega)
                                        have k83a := f83 x (runGo s.baths hs h ts 0) (by rw [r1.1, hL.1]) (by rw [r1.1]; have := hH.1; omega) hL.2 r1.2.1
                                        have k83b := f83 x (runGo t.baths hs2 h ts 0) (by rw [r2.1, hL.1]) (by rw [r2.1]; have := hH.1; omega) hL.2 r2.2.1
                                        have b1 := dot_bd hL.2 r1.2.1
                                        have b2 := dot_bd hL.2 r2.2.1
                                        have hxl : x.length ≤ 3 := by rw [hL.1]; exact hH.1
                                        generalize dotI x (runGo s.baths hs h ts 0) = n at *
                                        generalize dotI x (runGo t.baths hs2 h ts 0) = m at *
                                        generalize runGo s.baths hs h ts 0 = y at k78a k83a
                                        generalize runGo t.baths hs2 h ts 0 = z at k78b k83b
                                        have k78a : ACalls Tryz.prog 78 [eHouse h, eBaths s.baths, eTruth ts hs] (fun r => r = .tup [eInts y, vi 0]) := k78a
                                        have k78b : ACalls Tryz.prog 78 [eHouse h, eBaths t.baths, eTruth ts hs2] (fun r => r = .tup [eInts z, vi 0]) := k78b
                                        (repeat' (first | refine stq ?_ | (refine AL_do2 rfl ?_; first | refine ⟨_, op_call1 rfl rfl rfl rfl (k73), nrmA rfl ?_⟩) | (with_reducible refine AL_id ?_); (fail_if_success (refine AL_glit rfl rfl rfl (by first | exact .inl (by with_reducible rfl) | exact .inr (by with_reducible rfl)) ?_)); first | refine AL_gdec rfl rfl rfl (fun hg => ?_) (fun hg => ?_) | refine AL_gnot rfl rfl rfl (fun hg => ?_) (fun hg => ?_) | refine AL_gcases rfl rfl rfl (fun hg => ?_) (fun hg => ?_)))
                                        (repeat (first | refine sdq ?_ | refine DG_next (D_call_tup rfl rfl rfl rfl rfl (k82a)) ?_))
                                        refine DG_end hM (by kernel_rfl) ?_
                                        (repeat (refine stq ?_))
                                        (repeat (first | refine sdq ?_ | refine DG_next (D_call_tup rfl rfl rfl rfl rfl (k82b)) ?_))
                                        refine DG_end hM (by kernel_rfl) ?_
                                        (repeat (refine stq ?_))
                                        (repeat (first | refine sdq ?_ | refine DG_next (D_call_tup rfl rfl rfl rfl rfl (k78a)) ?_))
                                        refine DG_end hM (by kernel_rfl) ?_
                                        (repeat (refine stq ?_))
                                        (repeat (first | refine sdq ?_ | refine DG_next (D_call_tup rfl rfl rfl rfl rfl (k78b)) ?_))
                                        refine DG_end hM (by kernel_rfl) ?_
                                        (repeat (refine stq ?_))
                                        (repeat (first | refine sdq ?_ | refine DG_next (D_call rfl rfl rfl rfl rfl (k83a)) ?_ | refine DG_next (D_call rfl rfl rfl rfl rfl (k83b)) ?_))
                                        refine DG_end hM (by kernel_rfl) ?_
                                        clear k27 k46 k47 k80 k49 k67 k89a k89b k81a k81b k73 k82a k82b k78a k78b k83a k83b
                                        (repeat' (first | refine stq ?_ | (refine AL_do2 rfl ?_; first | refine ⟨_, op_call1 rfl rfl rfl rfl (f28), nrmA rfl ?_⟩) | ((first | (with_reducible refine AL_id ?_); (fail_if_success (refine AL_glit rfl rfl rfl (by first | exact .inl (by with_reducible rfl) | exact .inr (by with_reducible rfl)) ?_)); first | refine AL_gdec rfl rfl rfl (fun hg => ?_) (fun hg => ?_) | refine AL_gnot rfl rfl rfl (fun hg => ?_) (fun hg => ?_) | refine AL_gcases rfl rfl rfl (fun hg => ?_) (fun hg => ?_)) <;> (try (exfalso; omega))) | refine AW_if rfl (fun hc => absurd hc (by omega)) (fun _ => ?_) | refine AW_if rfl (fun _ => ?_) (fun hc => absurd (by omega) hc)))
                                        all_goals exact ⟨_, _, rfl, rfl, rfl⟩
                            · (repeat' (first | refine stq ?_ | (refine AL_do2 rfl ?_; first | refine ⟨_, op_call1 rfl rfl rfl rfl (k27), nrmA rfl ?_⟩ | refine ⟨_, op_call1 rfl rfl rfl rfl (k46), nrmA rfl ?_⟩ | refine ⟨_, op_call1 rfl rfl rfl rfl (k47), nrmA rfl ?_⟩ | refine ⟨_, op_call1 rfl rfl rfl rfl (k80), nrmA rfl ?_⟩ | refine ⟨_, op_call1 rfl rfl rfl rfl (k49), nrmA rfl ?_⟩ | refine ⟨_, op_call1 rfl rfl rfl rfl (k67), nrmA rfl ?_⟩ | refine ⟨_, op_call1 rfl rfl rfl rfl (k89a), nrmA rfl ?_⟩ | refine ⟨_, op_call1 rfl rfl rfl rfl (k89b), nrmA rfl ?_⟩ | refine ⟨_, op_call1 rfl rfl rfl rfl (f28), nrmA rfl ?_⟩) | ((first | (with_reducible refine AL_id ?_); (fail_if_success (refine AL_glit rfl rfl rfl (by first | exact .inl (by with_reducible rfl) | exact .inr (by with_reducible rfl)) ?_)); first | refine AL_gdec rfl rfl rfl (fun hg => ?_) (fun hg => ?_) | refine AL_gnot rfl rfl rfl (fun hg => ?_) (fun hg => ?_) | refine AL_gcases rfl rfl rfl (fun hg => ?_) (fun hg => ?_)) <;> (try (exfalso; omega))) | refine AW_if rfl (fun hc => absurd hc (by omega)) (fun _ => ?_) | refine AW_if rfl (fun _ => ?_) (fun hc => absurd (by omega) hc)))
                              all_goals exact ⟨_, _, rfl, rfl, rfl⟩
                          · (repeat' (first | refine stq ?_ | (refine AL_do2 rfl ?_; first | refine ⟨_, op_call1 rfl rfl rfl rfl (k27), nrmA rfl ?_⟩ | refine ⟨_, op_call1 rfl rfl rfl rfl (k46), nrmA rfl ?_⟩ | refine ⟨_, op_call1 rfl rfl rfl rfl (k47), nrmA rfl ?_⟩ | refine ⟨_, op_call1 rfl rfl rfl rfl (k80), nrmA rfl ?_⟩ | refine ⟨_, op_call1 rfl rfl rfl rfl (k49), nrmA rfl ?_⟩ | refine ⟨_, op_call1 rfl rfl rfl rfl (k67), nrmA rfl ?_⟩ | refine ⟨_, op_call1 rfl rfl rfl rfl (k89a), nrmA rfl ?_⟩ | refine ⟨_, op_call1 rfl rfl rfl rfl (k89b), nrmA rfl ?_⟩ | refine ⟨_, op_call1 rfl rfl rfl rfl (f28), nrmA rfl ?_⟩) | ((first | (with_reducible refine AL_id ?_); (fail_if_success (refine AL_glit rfl rfl rfl (by first | exact .inl (by with_reducible rfl) | exact .inr (by with_reducible rfl)) ?_)); first | refine AL_gdec rfl rfl rfl (fun hg => ?_) (fun hg => ?_) | refine AL_gnot rfl rfl rfl (fun hg => ?_) (fun hg => ?_) | refine AL_gcases rfl rfl rfl (fun hg => ?_) (fun hg => ?_)) <;> (try (exfalso; omega))) | refine AW_if rfl (fun hc => absurd hc (by omega)) (fun _ => ?_) | refine AW_if rfl (fun _ => ?_) (fun hc => absurd (by omega) hc)))
                            all_goals exact ⟨_, _, rfl, rfl, rfl⟩
                    · (repeat' (first | refine stq ?_ | (refine AL_do2 rfl ?_; first | refine ⟨_, op_call1 rfl rfl rfl rfl (k27), nrmA rfl ?_⟩ | refine ⟨_, op_call1 rfl rfl rfl rfl (k46), nrmA rfl ?_⟩ | refine ⟨_, op_call1 rfl rfl rfl rfl (k47), nrmA rfl ?_⟩ | refine ⟨_, op_call1 rfl rfl rfl rfl (k80), nrmA rfl ?_⟩ | refine ⟨_, op_call1 rfl rfl rfl rfl (k49), nrmA rfl ?_⟩ | refine ⟨_, op_call1 rfl rfl rfl rfl (k67), nrmA rfl ?_⟩ | refine ⟨_, op_call1 rfl rfl rfl rfl (f28), nrmA rfl ?_⟩) | ((first | (with_reducible refine AL_id ?_); (fail_if_success (refine AL_glit rfl rfl rfl (by first | exact .inl (by with_reducible rfl) | exact .inr (by with_reducible rfl)) ?_)); first | refine AL_gdec rfl rfl rfl (fun hg => ?_) (fun hg => ?_) | refine AL_gnot rfl rfl rfl (fun hg => ?_) (fun hg => ?_) | refine AL_gcases rfl rfl rfl (fun hg => ?_) (fun hg => ?_)) <;> (try (exfalso; omega))) | refine AW_if rfl (fun hc => absurd hc (by omega)) (fun _ => ?_) | refine AW_if rfl (fun _ => ?_) (fun hc => absurd (by omega) hc)))
                      all_goals exact ⟨_, _, rfl, rfl, rfl⟩
                  · (repeat' (first | refine stq ?_ | (refine AL_do2 rfl ?_; first | refine ⟨_, op_call1 rfl rfl rfl rfl (k27), nrmA rfl ?_⟩ | refine ⟨_, op_call1 rfl rfl rfl rfl (k46), nrmA rfl ?_⟩ | refine ⟨_, op_call1 rfl rfl rfl rfl (k47), nrmA rfl ?_⟩ | refine ⟨_, op_call1 rfl rfl rfl rfl (k80), nrmA rfl ?_⟩ | refine ⟨_, op_call1 rfl rfl rfl rfl (k49), nrmA rfl ?_⟩ | refine ⟨_, op_call1 rfl rfl rfl rfl (k67), nrmA rfl ?_⟩ | refine ⟨_, op_call1 rfl rfl rfl rfl (f28), nrmA rfl ?_⟩) | ((first | (with_reducible refine AL_id ?_); (fail_if_success (refine AL_glit rfl rfl rfl (by first | exact .inl (by with_reducible rfl) | exact .inr (by with_reducible rfl)) ?_)); first | refine AL_gdec rfl rfl rfl (fun hg => ?_) (fun hg => ?_) | refine AL_gnot rfl rfl rfl (fun hg => ?_) (fun hg => ?_) | refine AL_gcases rfl rfl rfl (fun hg => ?_) (fun hg => ?_)) <;> (try (exfalso; omega))) | refine AW_if rfl (fun hc => absurd hc (by omega)) (fun _ => ?_) | refine AW_if rfl (fun _ => ?_) (fun hc => absurd (by omega) hc)))
                    all_goals exact ⟨_, _, rfl, rfl, rfl⟩
                · (repeat' (first | refine stq ?_ | (refine AL_do2 rfl ?_; first | refine ⟨_, op_call1 rfl rfl rfl rfl (k27), nrmA rfl ?_⟩ | refine ⟨_, op_call1 rfl rfl rfl rfl (k46), nrmA rfl ?_⟩ | refine ⟨_, op_call1 rfl rfl rfl rfl (k47), nrmA rfl ?_⟩ | refine ⟨_, op_call1 rfl rfl rfl rfl (k80), nrmA rfl ?_⟩ | refine ⟨_, op_call1 rfl rfl rfl rfl (k49), nrmA rfl ?_⟩ | refine ⟨_, op_call1 rfl rfl rfl rfl (k67), nrmA rfl ?_⟩ | refine ⟨_, op_call1 rfl rfl rfl rfl (f28), nrmA rfl ?_⟩) | ((first | (with_reducible refine AL_id ?_); (fail_if_success (refine AL_glit rfl rfl rfl (by first | exact .inl (by with_reducible rfl) | exact .inr (by with_reducible rfl)) ?_)); first | refine AL_gdec rfl rfl rfl (fun hg => ?_) (fun hg => ?_) | refine AL_gnot rfl rfl rfl (fun hg => ?_) (fun hg => ?_) | refine AL_gcases rfl rfl rfl (fun hg => ?_) (fun hg => ?_)) <;> (try (exfalso; omega))) | refine AW_if rfl (fun hc => absurd hc (by omega)) (fun _ => ?_) | refine AW_if rfl (fun _ => ?_) (fun hc => absurd (by omega) hc)))
                  all_goals exact ⟨_, _, rfl, rfl, rfl⟩
          · (repeat' (first | refine stq ?_ | (refine AL_do2 rfl ?_; first | refine ⟨_, op_call1 rfl rfl rfl rfl (k27), nrmA rfl ?_⟩ | refine ⟨_, op_call1 rfl rfl rfl rfl (k46), nrmA rfl ?_⟩ | refine ⟨_, op_call1 rfl rfl rfl rfl (k47), nrmA rfl ?_⟩ | refine ⟨_, op_call1 rfl rfl rfl rfl (k80), nrmA rfl ?_⟩ | refine ⟨_, op_call1 rfl rfl rfl rfl (f28), nrmA rfl ?_⟩) | ((first | (with_reducible refine AL_id ?_); (fail_if_success (refine AL_glit rfl rfl rfl (by first | exact .inl (by with_reducible rfl) | exact .inr (by with_reducible rfl)) ?_)); first | refine AL_gdec rfl rfl rfl (fun hg => ?_) (fun hg => ?_) | refine AL_gnot rfl rfl rfl (fun hg => ?_) (fun hg => ?_) | refine AL_gcases rfl rfl rfl (fun hg => ?_) (fun hg => ?_)) <;> (try (exfalso; omega))) | refine AW_if rfl (fun hc => absurd hc (by omega)) (fun _ => ?_) | refine AW_if rfl (fun _ => ?_) (fun hc => absurd (by omega) hc)))
            all_goals exact ⟨_, _, rfl, rfl, rfl⟩
end Go.Abs
