/- DyeDiffer. -/
import Derived.Test.YtkmclnjmabljdaaGreatDoorNhK
import Derived.Test.YtkmclnjmabljdaaGreatDoorNcAbsAG
set_option linter.unusedVariables false
set_option linter.unusedSimpArgs false

namespace Go.Abs
open Go.Proofs
set_option linter.unusedVariables false
set_option linter.unusedSimpArgs false
set_option maxRecDepth 100000

set_option maxHeartbeats 8000000 in
theorem f19 (h : List Dye) (lamps : List (List Int)) (a b : List Bath) (eye : Span) (ts : List (List Int)) (hs hs2 : List Int) (e j : Int) : ACalls Tryz.prog 19 [eHouse h, eLamps lamps, eBaths a, eBaths b, eS eye, eTruth ts hs, eInts hs2, vi e, vi j] (fun r => r = .pv (.bool true)) := by
  have k27 := f27 h
  have k34 := f34 lamps
  have k80 := f80 ts hs
  refine ACalls.of_body hT Tryz.func19 rfl (by kernel_rfl) rfl ?_
  cases q1 : slimB h with
  | false =>
    rw [q1] at k27
    (repeat' (first | refine stq ?_ | (refine AL_do2 rfl ?_; first | refine ⟨_, op_call1 rfl rfl rfl rfl (k27), nrmA rfl ?_⟩ | refine ⟨_, op_call1 rfl rfl rfl rfl (f28), nrmA rfl ?_⟩) | ((first | (with_reducible refine AL_id ?_); (fail_if_success (refine AL_glit rfl rfl rfl (by first | exact .inl (by with_reducible rfl) | exact .inr (by with_reducible rfl)) ?_)); first | refine AL_gdec rfl rfl rfl (fun hg => ?_) (fun hg => ?_) | refine AL_gnot rfl rfl rfl (fun hg => ?_) (fun hg => ?_) | refine AL_gcases rfl rfl rfl (fun hg => ?_) (fun hg => ?_)) <;> (try (exfalso; omega))) | refine AW_if rfl (fun hc => absurd hc (by omega)) (fun _ => ?_) | refine AW_if rfl (fun _ => ?_) (fun hc => absurd (by omega) hc)))
    all_goals exact ⟨_, _, rfl, rfl, rfl⟩
  | true =>
    rw [q1] at k27
    have hOK := slim_houseOK q1
    by_cases q2 : a.length ≤ 5
    · by_cases q3 : b.length ≤ 5
      · cases q4 : fewB lamps with
        | false =>
          rw [q4] at k34
          (repeat' (first | refine stq ?_ | (refine AL_do2 rfl ?_; first | refine ⟨_, op_call1 rfl rfl rfl rfl (k27), nrmA rfl ?_⟩ | refine ⟨_, op_call1 rfl rfl rfl rfl (k34), nrmA rfl ?_⟩ | refine ⟨_, op_call1 rfl rfl rfl rfl (k80), nrmA rfl ?_⟩ | refine ⟨_, op_call1 rfl rfl rfl rfl (f28), nrmA rfl ?_⟩) | ((first | (with_reducible refine AL_id ?_); (fail_if_success (refine AL_glit rfl rfl rfl (by first | exact .inl (by with_reducible rfl) | exact .inr (by with_reducible rfl)) ?_)); first | refine AL_gdec rfl rfl rfl (fun hg => ?_) (fun hg => ?_) | refine AL_gnot rfl rfl rfl (fun hg => ?_) (fun hg => ?_) | refine AL_gcases rfl rfl rfl (fun hg => ?_) (fun hg => ?_)) <;> (try (exfalso; omega))) | refine AW_if rfl (fun hc => absurd hc (by omega)) (fun _ => ?_) | refine AW_if rfl (fun _ => ?_) (fun hc => absurd (by omega) hc)))
          all_goals exact ⟨_, _, rfl, rfl, rfl⟩
        | true =>
          rw [q4] at k34
          cases q5 : briefB ts hs with
          | false =>
            rw [q5] at k80
            (repeat' (first | refine stq ?_ | (refine AL_do2 rfl ?_; first | refine ⟨_, op_call1 rfl rfl rfl rfl (k27), nrmA rfl ?_⟩ | refine ⟨_, op_call1 rfl rfl rfl rfl (k34), nrmA rfl ?_⟩ | refine ⟨_, op_call1 rfl rfl rfl rfl (k80), nrmA rfl ?_⟩ | refine ⟨_, op_call1 rfl rfl rfl rfl (f28), nrmA rfl ?_⟩) | ((first | (with_reducible refine AL_id ?_); (fail_if_success (refine AL_glit rfl rfl rfl (by first | exact .inl (by with_reducible rfl) | exact .inr (by with_reducible rfl)) ?_)); first | refine AL_gdec rfl rfl rfl (fun hg => ?_) (fun hg => ?_) | refine AL_gnot rfl rfl rfl (fun hg => ?_) (fun hg => ?_) | refine AL_gcases rfl rfl rfl (fun hg => ?_) (fun hg => ?_)) <;> (try (exfalso; omega))) | refine AW_if rfl (fun hc => absurd hc (by omega)) (fun _ => ?_) | refine AW_if rfl (fun _ => ?_) (fun hc => absurd (by omega) hc)))
            all_goals exact ⟨_, _, rfl, rfl, rfl⟩
          | true =>
            rw [q5] at k80
            by_cases q6 : hs2.length ≤ 5
            · have hTO := (brief_ok q5).2.2
              have hTO2 : truthOK ts hs2 := ⟨hTO.1, by omega, hTO.2.2⟩
              obtain ⟨n1, n2⟩ := few_ok q4
              have hLO : lampsOK lamps := ⟨by omega, fun x hx => by have := n2 x hx; omega⟩
              have k30 := f30 h hOK
              have k31a := f31 h a hOK.1 (by omega)
              have k31b := f31 h b hOK.1 (by omega)
              have k36 := f36 h lamps hOK.1 hLO
              have k37 := f37 eye
              (repeat' (first | refine stq ?_ | (refine AL_do2 rfl ?_; first | refine ⟨_, op_call1 rfl rfl rfl rfl (k27), nrmA rfl ?_⟩ | refine ⟨_, op_call1 rfl rfl rfl rfl (k34), nrmA rfl ?_⟩ | refine ⟨_, op_call1 rfl rfl rfl rfl (k80), nrmA rfl ?_⟩ | refine ⟨_, op_call1 rfl rfl rfl rfl (k30), nrmA rfl ?_⟩ | refine ⟨_, op_call1 rfl rfl rfl rfl (k31a), nrmA rfl ?_⟩ | refine ⟨_, op_call1 rfl rfl rfl rfl (k31b), nrmA rfl ?_⟩ | refine ⟨_, op_call1 rfl rfl rfl rfl (k36), nrmA rfl ?_⟩ | refine ⟨_, op_call1 rfl rfl rfl rfl (k37), nrmA rfl ?_⟩ | refine ⟨_, op_call1 rfl rfl rfl rfl (f28), nrmA rfl ?_⟩) | (with_reducible refine AL_id ?_); (fail_if_success (refine AL_glit rfl rfl rfl (by first | exact .inl (by with_reducible rfl) | exact .inr (by with_reducible rfl)) ?_)); first | refine AL_gdec rfl rfl rfl (fun hg => ?_) (fun hg => ?_) | refine AL_gnot rfl rfl rfl (fun hg => ?_) (fun hg => ?_) | refine AL_gcases rfl rfl rfl (fun hg => ?_) (fun hg => ?_)))
              all_goals (first | exact ⟨_, _, rfl, rfl, rfl⟩ | skip)
              all_goals (try (exfalso; omega))
              refine AW_if rfl (fun hc => ?_) (fun hc => ?_)
              · (repeat' (first | refine stq ?_ | (refine AL_do2 rfl ?_; first | refine ⟨_, op_call1 rfl rfl rfl rfl (f28), nrmA rfl ?_⟩) | (with_reducible refine AL_id ?_); (fail_if_success (refine AL_glit rfl rfl rfl (by first | exact .inl (by with_reducible rfl) | exact .inr (by with_reducible rfl)) ?_)); first | refine AL_gdec rfl rfl rfl (fun hg => ?_) (fun hg => ?_) | refine AL_gnot rfl rfl rfl (fun hg => ?_) (fun hg => ?_) | refine AL_gcases rfl rfl rfl (fun hg => ?_) (fun hg => ?_)))
                exact ⟨_, _, rfl, rfl, rfl⟩
              have c1 : isHouseB h = true := by first | assumption | exact Eq.mp (Bool.not_eq_false' _) (by assumption)
              have c2 : isBatchB h a = true := by first | assumption | exact Eq.mp (Bool.not_eq_false' _) (by assumption)
              have c3 : isBatchB h b = true := by first | assumption | exact Eq.mp (Bool.not_eq_false' _) (by assumption)
              have c4 : (inB lamps.length 1 3 && !lamps.any (fun x => !isLampB h x)) = true := by first | assumption | exact Eq.mp (Bool.not_eq_false' _) (by assumption)
              have c5 : isEyeB eye = true := by first | assumption | exact Eq.mp (Bool.not_eq_false' _) (by assumption)
              have c6 : eye.low ≤ e := by omega
              have c7 : e ≤ eye.high := by omega
              have c8 : 0 ≤ j := by omega
              have c9 : j < lamps.length := by omega
              clear k27 k34 k80 k30 k31a k31b k36 k37
              have k81a := f81 h a ts hs hOK.1 (by omega) hTO
              have k81b := f81 h b ts hs2 hOK.1 (by omega) hTO2
              cases t1 : truthB h a ts hs with
              | false =>
                rw [t1] at k81a
                (repeat' (first | refine stq ?_ | (refine AL_do2 rfl ?_; first | refine ⟨_, op_call1 rfl rfl rfl rfl (k81a), nrmA rfl ?_⟩ | refine ⟨_, op_call1 rfl rfl rfl rfl (f28), nrmA rfl ?_⟩) | ((first | (with_reducible refine AL_id ?_); (fail_if_success (refine AL_glit rfl rfl rfl (by first | exact .inl (by with_reducible rfl) | exact .inr (by with_reducible rfl)) ?_)); first | refine AL_gdec rfl rfl rfl (fun hg => ?_) (fun hg => ?_) | refine AL_gnot rfl rfl rfl (fun hg => ?_) (fun hg => ?_) | refine AL_gcases rfl rfl rfl (fun hg => ?_) (fun hg => ?_)) <;> (try (exfalso; omega))) | refine AW_if rfl (fun hc => absurd hc (by omega)) (fun _ => ?_) | refine AW_if rfl (fun _ => ?_) (fun hc => absurd (by omega) hc)))
                all_goals exact ⟨_, _, rfl, rfl, rfl⟩
              | true =>
                rw [t1] at k81a
                cases t2 : truthB h b ts hs2 with
                | false =>
                  rw [t2] at k81b
                  (repeat' (first | refine stq ?_ | (refine AL_do2 rfl ?_; first | refine ⟨_, op_call1 rfl rfl rfl rfl (k81a), nrmA rfl ?_⟩ | refine ⟨_, op_call1 rfl rfl rfl rfl (k81b), nrmA rfl ?_⟩ | refine ⟨_, op_call1 rfl rfl rfl rfl (f28), nrmA rfl ?_⟩) | ((first | (with_reducible refine AL_id ?_); (fail_if_success (refine AL_glit rfl rfl rfl (by first | exact .inl (by with_reducible rfl) | exact .inr (by with_reducible rfl)) ?_)); first | refine AL_gdec rfl rfl rfl (fun hg => ?_) (fun hg => ?_) | refine AL_gnot rfl rfl rfl (fun hg => ?_) (fun hg => ?_) | refine AL_gcases rfl rfl rfl (fun hg => ?_) (fun hg => ?_)) <;> (try (exfalso; omega))) | refine AW_if rfl (fun hc => absurd hc (by omega)) (fun _ => ?_) | refine AW_if rfl (fun _ => ?_) (fun hc => absurd (by omega) hc)))
                  all_goals exact ⟨_, _, rfl, rfl, rfl⟩
                | true =>
                  rw [t2] at k81b
                  have k82a := f82 h a ts hs hOK (by omega) hTO
                  have k82b := f82 h b ts hs2 hOK (by omega) hTO2
                  rw [show fitsE h a ts hs = (fitsB h a ts hs, 0) by simp [fitsE, c1, c2, t1]] at k82a
                  rw [show fitsE h b ts hs2 = (fitsB h b ts hs2, 0) by simp [fitsE, c1, c3, t2]] at k82b
                  have k82a : ACalls Tryz.prog 82 [eHouse h, eBaths a, eTruth ts hs] (fun r => r = .tup [.bool (fitsB h a ts hs), vi 0]) := k82a
                  have k82b : ACalls Tryz.prog 82 [eHouse h, eBaths b, eTruth ts hs2] (fun r => r = .tup [.bool (fitsB h b ts hs2), vi 0]) := k82b
                  cases g1 : fitsB h a ts hs with
                  | false =>
                    rw [g1] at k82a
                    (repeat' (first | refine stq ?_ | (refine AL_do2 rfl ?_; first | refine ⟨_, op_call1 rfl rfl rfl rfl (k81a), nrmA rfl ?_⟩ | refine ⟨_, op_call1 rfl rfl rfl rfl (k81b), nrmA rfl ?_⟩ | refine ⟨_, op_call1 rfl rfl rfl rfl (k82a), nrmA rfl ?_⟩ | refine ⟨_, op_call1 rfl rfl rfl rfl (k82b), nrmA rfl ?_⟩ | refine ⟨_, op_call1 rfl rfl rfl rfl (f28), nrmA rfl ?_⟩) | ((first | (with_reducible refine AL_id ?_); (fail_if_success (refine AL_glit rfl rfl rfl (by first | exact .inl (by with_reducible rfl) | exact .inr (by with_reducible rfl)) ?_)); first | refine AL_gdec rfl rfl rfl (fun hg => ?_) (fun hg => ?_) | refine AL_gnot rfl rfl rfl (fun hg => ?_) (fun hg => ?_) | refine AL_gcases rfl rfl rfl (fun hg => ?_) (fun hg => ?_)) <;> (try (exfalso; omega))) | refine AW_if rfl (fun hc => absurd hc (by omega)) (fun _ => ?_) | refine AW_if rfl (fun _ => ?_) (fun hc => absurd (by omega) hc)))
                    all_goals exact ⟨_, _, rfl, rfl, rfl⟩
                  | true =>
                    rw [g1] at k82a
                    cases g2 : fitsB h b ts hs2 with
                    | false =>
                      rw [g2] at k82b
                      (repeat' (first | refine stq ?_ | (refine AL_do2 rfl ?_; first | refine ⟨_, op_call1 rfl rfl rfl rfl (k81a), nrmA rfl ?_⟩ | refine ⟨_, op_call1 rfl rfl rfl rfl (k81b), nrmA rfl ?_⟩ | refine ⟨_, op_call1 rfl rfl rfl rfl (k82a), nrmA rfl ?_⟩ | refine ⟨_, op_call1 rfl rfl rfl rfl (k82b), nrmA rfl ?_⟩ | refine ⟨_, op_call1 rfl rfl rfl rfl (f28), nrmA rfl ?_⟩) | ((first | (with_reducible refine AL_id ?_); (fail_if_success (refine AL_glit rfl rfl rfl (by first | exact .inl (by with_reducible rfl) | exact .inr (by with_reducible rfl)) ?_)); first | refine AL_gdec rfl rfl rfl (fun hg => ?_) (fun hg => ?_) | refine AL_gnot rfl rfl rfl (fun hg => ?_) (fun hg => ?_) | refine AL_gcases rfl rfl rfl (fun hg => ?_) (fun hg => ?_)) <;> (try (exfalso; omega))) | refine AW_if rfl (fun hc => absurd hc (by omega)) (fun _ => ?_) | refine AW_if rfl (fun _ => ?_) (fun hc => absurd (by omega) hc)))
                      all_goals exact ⟨_, _, rfl, rfl, rfl⟩
                    | true =>
                      rw [g2] at k82b
                      have hH := houseP_of c1
                      have hA := batchP_of c2
                      have hB := batchP_of c3
                      obtain ⟨x, hx⟩ : ∃ x, lamps[j.toNat]? = some x := ⟨lamps[j.toNat]'(by omega), by simp⟩
                      have hLall := (lampsB_all (h := h) (l := lamps) c4)
                      have hL := hLall.2 x (List.mem_of_getElem? hx)
                      have k78a := f78 h a ts hs hOK (by omega) hTO
                      have k78b := f78 h b ts hs2 hOK (by omega) hTO2
                      rw [show runE h a ts hs = (runGo a hs h ts 0, 0) by simp [runE, c1, c2, t1, g1]] at k78a
                      rw [show runE h b ts hs2 = (runGo b hs2 h ts 0, 0) by simp [runE, c1, c3, t2, g2]] at k78b
                      have cl : isLampB h x = true := by
                        simp only [Bool.and_eq_true, Bool.not_eq_true', List.any_eq_false, Bool.not_eq_false] at c4
                        exact c4.2 x (List.mem_of_getElem? hx)
                      have k66 := f66 h x a b hOK (by have := n2 x (List.mem_of_getElem? hx); omega) (by omega) (by omega)
                      rw [show apartE h x a b = (spanOf (apartL h x a b), 0) by simp [apartE, c1, c2, c3, cl]] at k66
                      have k35 := f35 h lamps a b eye hOK hLO (by omega) (by omega)
                      have cw : wordsOK h lamps a b eye = true := by
                        simp only [Bool.and_eq_true] at c4
                        simp [wordsOK, c1, c2, c3, c4.1, c4.2, c5]
                      rw [show wordsE h lamps a b eye = (lamps.map fun x => alikeI h x a b eye, 0) by unfold wordsE; rw [if_pos cw]] at k35
                      have r1 := run_facts hH hA t1 g1
                      have r2 := run_facts hH hB t2 g2
                      have hdi := differ_facts (eye := eye) (e := e) (differ_in hH hL hA hB t1 t2 g1 g2) ⟨c6, c7⟩
                      have k83a := f83 x (runGo a hs h ts 0) (by rw [r1.1, hL.1]) (by rw [r1.1]; have := hH.1; omega) hL.2 r1.2.1
                      have k83b := f83 x (runGo b hs2 h ts 0) (by rw [r2.1, hL.1]) (by rw [r2.1]; have := hH.1; omega) hL.2 r2.2.1
                      have b1 := dot_bd hL.2 r1.2.1
                      have b2 := dot_bd hL.2 r2.2.1
                      have hxl : x.length ≤ 5 := n2 x (List.mem_of_getElem? hx)
                      have e1 := get_map eLampC hx
                      have hwg : (lamps.map fun x => alikeI h x a b eye)[j.toNat]? = some (alikeI h x a b eye) := by rw [List.getElem?_map, hx]; rfl
                      have hwl : (lamps.map fun x => alikeI h x a b eye).length = lamps.length := by simp
                      generalize (lamps.map fun x => alikeI h x a b eye) = ws at k35 hwg hwl
                      generalize alikeI h x a b eye = w at hdi hwg
                      generalize spanOf (apartL h x a b) = p at k66 hdi
                      generalize dotI x (runGo a hs h ts 0) = u at k83a b1 hdi
                      generalize dotI x (runGo b hs2 h ts 0) = v at k83b b2 hdi
                      generalize runGo a hs h ts 0 = y at k78a k83a
                      generalize runGo b hs2 h ts 0 = z at k78b k83b
                      have e2 := get_map eInt hwg
                      have ebd := eyeB_of c5
                      have k78a : ACalls Tryz.prog 78 [eHouse h, eBaths a, eTruth ts hs] (fun r => r = .tup [eInts y, vi 0]) := k78a
                      have k78b : ACalls Tryz.prog 78 [eHouse h, eBaths b, eTruth ts hs2] (fun r => r = .tup [eInts z, vi 0]) := k78b
                      have k66 : ACalls Tryz.prog 66 [eHouse h, eLamp x, eBaths a, eBaths b] (fun r => r = .tup [eS p, vi 0]) := k66
                      have k35 : ACalls Tryz.prog 35 [eHouse h, eLamps lamps, eBaths a, eBaths b, eS eye] (fun r => r = .tup [eInts ws, vi 0]) := k35
                      (repeat' (first | refine stq ?_ | (refine AL_do2 rfl ?_; first | refine ⟨_, op_call1 rfl rfl rfl rfl (k81a), nrmA rfl ?_⟩ | refine ⟨_, op_call1 rfl rfl rfl rfl (k81b), nrmA rfl ?_⟩ | refine ⟨_, op_call1 rfl rfl rfl rfl (k82a), nrmA rfl ?_⟩ | refine ⟨_, op_call1 rfl rfl rfl rfl (k82b), nrmA rfl ?_⟩ | refine ⟨_, op_call1 rfl rfl rfl rfl (k78a), nrmA rfl ?_⟩ | refine ⟨_, op_call1 rfl rfl rfl rfl (k78b), nrmA rfl ?_⟩) | ((first | (with_reducible refine AL_id ?_); (fail_if_success (refine AL_glit rfl rfl rfl (by first | exact .inl (by with_reducible rfl) | exact .inr (by with_reducible rfl)) ?_)); first | refine AL_gdec rfl rfl rfl (fun hg => ?_) (fun hg => ?_) | refine AL_gnot rfl rfl rfl (fun hg => ?_) (fun hg => ?_) | refine AL_gcases rfl rfl rfl (fun hg => ?_) (fun hg => ?_)) <;> (try (exfalso; omega))) | refine AW_if rfl (fun hc => absurd hc (by omega)) (fun _ => ?_) | refine AW_if rfl (fun _ => ?_) (fun hc => absurd (by omega) hc)))
                      (repeat (first | refine DG_next (D_allocE hT rfl rfl rfl rfl) ?_ | refine DG_next (D_storeE hT rfl rfl rfl rfl rfl rfl rfl rfl rfl rfl) ?_ | refine sdq ?_ | refine DG_next (D_call_tup rfl rfl rfl rfl rfl (k66)) ?_))
                      refine DG_end hM (by kernel_rfl) ?_
                      (repeat' (first | refine stq ?_ | (refine AL_do2 rfl ?_; first | refine ⟨_, op_call1 rfl rfl rfl rfl (k35), nrmA rfl ?_⟩) | ((first | (with_reducible refine AL_id ?_); (fail_if_success (refine AL_glit rfl rfl rfl (by first | exact .inl (by with_reducible rfl) | exact .inr (by with_reducible rfl)) ?_)); first | refine AL_gdec rfl rfl rfl (fun hg => ?_) (fun hg => ?_) | refine AL_gnot rfl rfl rfl (fun hg => ?_) (fun hg => ?_) | refine AL_gcases rfl rfl rfl (fun hg => ?_) (fun hg => ?_)) <;> (try (exfalso; omega))) | refine AW_if rfl (fun hc => absurd hc (by omega)) (fun _ => ?_) | refine AW_if rfl (fun _ => ?_) (fun hc => absurd (by omega) hc)))
                      (repeat (first | refine sdq ?_ | refine DG_next (D_call rfl rfl rfl rfl rfl (k83a)) ?_ | refine DG_next (D_call rfl rfl rfl rfl rfl (k83b)) ?_))
                      refine DG_end hM (by kernel_rfl) ?_
                      clear k81a k81b k82a k82b k78a k78b k66 k35 k83a k83b
                      obtain ⟨d1, d2, hw⟩ := hdi
                      rcases hw with ⟨rfl, hw⟩ | rfl | ⟨rfl, hw1, hw2⟩
                      · (repeat' (first | refine stq ?_ | (refine AL_do2 rfl ?_; first | refine ⟨_, op_call1 rfl rfl rfl rfl (f28), nrmA rfl ?_⟩) | ((first | (with_reducible refine AL_id ?_); (fail_if_success (refine AL_glit rfl rfl rfl (by first | exact .inl (by with_reducible rfl) | exact .inr (by with_reducible rfl)) ?_)); first | refine AL_gdec rfl rfl rfl (fun hg => ?_) (fun hg => ?_) | refine AL_gnot rfl rfl rfl (fun hg => ?_) (fun hg => ?_) | refine AL_gcases rfl rfl rfl (fun hg => ?_) (fun hg => ?_)) <;> (try (exfalso; omega))) | refine AW_if rfl (fun hc => absurd hc (by omega)) (fun _ => ?_) | refine AW_if rfl (fun _ => ?_) (fun hc => absurd (by omega) hc)))
                        all_goals exact ⟨_, _, rfl, rfl, rfl⟩
                      · (repeat' (first | refine stq ?_ | (refine AL_do2 rfl ?_; first | refine ⟨_, op_call1 rfl rfl rfl rfl (f28), nrmA rfl ?_⟩) | ((first | (with_reducible refine AL_id ?_); (fail_if_success (refine AL_glit rfl rfl rfl (by first | exact .inl (by with_reducible rfl) | exact .inr (by with_reducible rfl)) ?_)); first | refine AL_gdec rfl rfl rfl (fun hg => ?_) (fun hg => ?_) | refine AL_gnot rfl rfl rfl (fun hg => ?_) (fun hg => ?_) | refine AL_gcases rfl rfl rfl (fun hg => ?_) (fun hg => ?_)) <;> (try (exfalso; omega))) | refine AW_if rfl (fun hc => absurd hc (by omega)) (fun _ => ?_) | refine AW_if rfl (fun _ => ?_) (fun hc => absurd (by omega) hc)))
                        all_goals exact ⟨_, _, rfl, rfl, rfl⟩
                      · (repeat' (first | refine stq ?_ | (refine AL_do2 rfl ?_; first | refine ⟨_, op_call1 rfl rfl rfl rfl (f28), nrmA rfl ?_⟩) | ((first | (with_reducible refine AL_id ?_); (fail_if_success (refine AL_glit rfl rfl rfl (by first | exact .inl (by with_reducible rfl) | exact .inr (by with_reducible rfl)) ?_)); first | refine AL_gdec rfl rfl rfl (fun hg => ?_) (fun hg => ?_) | refine AL_gnot rfl rfl rfl (fun hg => ?_) (fun hg => ?_) | refine AL_gcases rfl rfl rfl (fun hg => ?_) (fun hg => ?_)) <;> (try (exfalso; omega))) | refine AW_if rfl (fun hc => absurd hc (by omega)) (fun _ => ?_) | refine AW_if rfl (fun _ => ?_) (fun hc => absurd (by omega) hc)))
                        all_goals exact ⟨_, _, rfl, rfl, rfl⟩
            · (repeat' (first | refine stq ?_ | (refine AL_do2 rfl ?_; first | refine ⟨_, op_call1 rfl rfl rfl rfl (k27), nrmA rfl ?_⟩ | refine ⟨_, op_call1 rfl rfl rfl rfl (k34), nrmA rfl ?_⟩ | refine ⟨_, op_call1 rfl rfl rfl rfl (k80), nrmA rfl ?_⟩ | refine ⟨_, op_call1 rfl rfl rfl rfl (f28), nrmA rfl ?_⟩) | ((first | (with_reducible refine AL_id ?_); (fail_if_success (refine AL_glit rfl rfl rfl (by first | exact .inl (by with_reducible rfl) | exact .inr (by with_reducible rfl)) ?_)); first | refine AL_gdec rfl rfl rfl (fun hg => ?_) (fun hg => ?_) | refine AL_gnot rfl rfl rfl (fun hg => ?_) (fun hg => ?_) | refine AL_gcases rfl rfl rfl (fun hg => ?_) (fun hg => ?_)) <;> (try (exfalso; omega))) | refine AW_if rfl (fun hc => absurd hc (by omega)) (fun _ => ?_) | refine AW_if rfl (fun _ => ?_) (fun hc => absurd (by omega) hc)))
              all_goals exact ⟨_, _, rfl, rfl, rfl⟩
      · (repeat' (first | refine stq ?_ | (refine AL_do2 rfl ?_; first | refine ⟨_, op_call1 rfl rfl rfl rfl (k27), nrmA rfl ?_⟩ | refine ⟨_, op_call1 rfl rfl rfl rfl (k34), nrmA rfl ?_⟩ | refine ⟨_, op_call1 rfl rfl rfl rfl (k80), nrmA rfl ?_⟩ | refine ⟨_, op_call1 rfl rfl rfl rfl (f28), nrmA rfl ?_⟩) | ((first | (with_reducible refine AL_id ?_); (fail_if_success (refine AL_glit rfl rfl rfl (by first | exact .inl (by with_reducible rfl) | exact .inr (by with_reducible rfl)) ?_)); first | refine AL_gdec rfl rfl rfl (fun hg => ?_) (fun hg => ?_) | refine AL_gnot rfl rfl rfl (fun hg => ?_) (fun hg => ?_) | refine AL_gcases rfl rfl rfl (fun hg => ?_) (fun hg => ?_)) <;> (try (exfalso; omega))) | refine AW_if rfl (fun hc => absurd hc (by omega)) (fun _ => ?_) | refine AW_if rfl (fun _ => ?_) (fun hc => absurd (by omega) hc)))
        all_goals exact ⟨_, _, rfl, rfl, rfl⟩
    · (repeat' (first | refine stq ?_ | (refine AL_do2 rfl ?_; first | refine ⟨_, op_call1 rfl rfl rfl rfl (k27), nrmA rfl ?_⟩ | refine ⟨_, op_call1 rfl rfl rfl rfl (k34), nrmA rfl ?_⟩ | refine ⟨_, op_call1 rfl rfl rfl rfl (k80), nrmA rfl ?_⟩ | refine ⟨_, op_call1 rfl rfl rfl rfl (f28), nrmA rfl ?_⟩) | ((first | (with_reducible refine AL_id ?_); (fail_if_success (refine AL_glit rfl rfl rfl (by first | exact .inl (by with_reducible rfl) | exact .inr (by with_reducible rfl)) ?_)); first | refine AL_gdec rfl rfl rfl (fun hg => ?_) (fun hg => ?_) | refine AL_gnot rfl rfl rfl (fun hg => ?_) (fun hg => ?_) | refine AL_gcases rfl rfl rfl (fun hg => ?_) (fun hg => ?_)) <;> (try (exfalso; omega))) | refine AW_if rfl (fun hc => absurd hc (by omega)) (fun _ => ?_) | refine AW_if rfl (fun _ => ?_) (fun hc => absurd (by omega) hc)))
      all_goals exact ⟨_, _, rfl, rfl, rfl⟩
end Go.Abs
