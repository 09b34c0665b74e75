/- DyeProven. -/
import Derived.Test.YtkmclnjmabljdaaGreatDoorNhS
set_option linter.unusedVariables false
set_option linter.unusedSimpArgs false

namespace Go.Abs
open Go.Proofs
set_option linter.unusedVariables false
set_option linter.unusedSimpArgs false
set_option maxRecDepth 100000

theorem button_get {s : Sorter} {a : Int} {y : List Int} (hy : y.length = s.looks.length) (q : inB a 0 (s.looks.length - 1) = true) : 0 ≤ a ∧ a < s.looks.length ∧ ∃ u, y[a.toNat]? = some u := by
  simp only [inB, Bool.and_eq_true, decide_eq_true_eq] at q
  exact ⟨q.1, by omega, y[a.toNat]'(by omega), by simp⟩
set_option maxHeartbeats 8000000 in
theorem f9 (s : Sorter) (l : List Int) (eye a b : Int) : ACalls Tryz.prog 9 [eSorter s, eInts l, vi eye, vi a, vi b] (fun r => r = .pv (.bool true)) := by
  refine ACalls.of_body hT Tryz.func9 rfl (by kernel_rfl) rfl ?_
  by_cases hs : s.looks.length ≤ 6 ∧ l.length ≤ 6
  · obtain ⟨h1, h2⟩ := hs
    have k51 := f51 s (by omega)
    have k52 := f52 s l eye (by omega) (by omega)
    have k57a := f57 s a (by omega)
    have k57b := f57 s b (by omega)
    cases q1 : isSorterB s with
    | false =>
      rw [q1] at k51
      (repeat' (first | (exfalso; omega) | refine AW_if rfl (fun hc => absurd hc (by omega)) (fun _ => ?_) | refine AW_if rfl (fun _ => ?_) (fun hc => absurd (by omega) hc) | refine stq ?_ | (refine AL_do2 rfl ?_; first | refine ⟨_, op_call1 rfl rfl rfl rfl (k51), nrmA rfl ?_⟩ | refine ⟨_, op_call1 rfl rfl rfl rfl (f28), nrmA rfl ?_⟩) | (with_reducible refine AL_id ?_); (fail_if_success (refine AL_glit rfl rfl rfl (by first | exact .inl (by with_reducible rfl) | exact .inr (by with_reducible rfl)) ?_)); first | refine AL_gdec rfl rfl rfl (fun hg => ?_) (fun hg => ?_) | refine AL_gnot rfl rfl rfl (fun hg => ?_) (fun hg => ?_) | refine AL_gcases rfl rfl rfl (fun hg => ?_) (fun hg => ?_)))
      all_goals exact ⟨_, _, rfl, rfl, rfl⟩
    | true =>
      rw [q1] at k51
      cases q2 : looksB s l eye with
      | false =>
        rw [q2] at k52
        (repeat' (first | (exfalso; omega) | refine AW_if rfl (fun hc => absurd hc (by omega)) (fun _ => ?_) | refine AW_if rfl (fun _ => ?_) (fun hc => absurd (by omega) hc) | refine stq ?_ | (refine AL_do2 rfl ?_; first | refine ⟨_, op_call1 rfl rfl rfl rfl (k51), nrmA rfl ?_⟩ | refine ⟨_, op_call1 rfl rfl rfl rfl (k52), nrmA rfl ?_⟩ | refine ⟨_, op_call1 rfl rfl rfl rfl (f28), nrmA rfl ?_⟩) | (with_reducible refine AL_id ?_); (fail_if_success (refine AL_glit rfl rfl rfl (by first | exact .inl (by with_reducible rfl) | exact .inr (by with_reducible rfl)) ?_)); first | refine AL_gdec rfl rfl rfl (fun hg => ?_) (fun hg => ?_) | refine AL_gnot rfl rfl rfl (fun hg => ?_) (fun hg => ?_) | refine AL_gcases rfl rfl rfl (fun hg => ?_) (fun hg => ?_)))
        all_goals exact ⟨_, _, rfl, rfl, rfl⟩
      | true =>
        rw [q2] at k52
        cases q3 : inB a 0 (s.looks.length - 1) with
        | false =>
          rw [q3] at k57a
          (repeat' (first | (exfalso; omega) | refine AW_if rfl (fun hc => absurd hc (by omega)) (fun _ => ?_) | refine AW_if rfl (fun _ => ?_) (fun hc => absurd (by omega) hc) | refine stq ?_ | (refine AL_do2 rfl ?_; first | refine ⟨_, op_call1 rfl rfl rfl rfl (k51), nrmA rfl ?_⟩ | refine ⟨_, op_call1 rfl rfl rfl rfl (k52), nrmA rfl ?_⟩ | refine ⟨_, op_call1 rfl rfl rfl rfl (k57a), nrmA rfl ?_⟩ | refine ⟨_, op_call1 rfl rfl rfl rfl (f28), nrmA rfl ?_⟩) | (with_reducible refine AL_id ?_); (fail_if_success (refine AL_glit rfl rfl rfl (by first | exact .inl (by with_reducible rfl) | exact .inr (by with_reducible rfl)) ?_)); first | refine AL_gdec rfl rfl rfl (fun hg => ?_) (fun hg => ?_) | refine AL_gnot rfl rfl rfl (fun hg => ?_) (fun hg => ?_) | refine AL_gcases rfl rfl rfl (fun hg => ?_) (fun hg => ?_)))
          all_goals exact ⟨_, _, rfl, rfl, rfl⟩
        | true =>
          rw [q3] at k57a
          cases q4 : inB b 0 (s.looks.length - 1) with
          | false =>
            rw [q4] at k57b
            (repeat' (first | (exfalso; omega) | refine AW_if rfl (fun hc => absurd hc (by omega)) (fun _ => ?_) | refine AW_if rfl (fun _ => ?_) (fun hc => absurd (by omega) hc) | refine stq ?_ | (refine AL_do2 rfl ?_; first | refine ⟨_, op_call1 rfl rfl rfl rfl (k51), nrmA rfl ?_⟩ | refine ⟨_, op_call1 rfl rfl rfl rfl (k52), nrmA rfl ?_⟩ | refine ⟨_, op_call1 rfl rfl rfl rfl (k57a), nrmA rfl ?_⟩ | refine ⟨_, op_call1 rfl rfl rfl rfl (k57b), nrmA rfl ?_⟩ | refine ⟨_, op_call1 rfl rfl rfl rfl (f28), nrmA rfl ?_⟩) | (with_reducible refine AL_id ?_); (fail_if_success (refine AL_glit rfl rfl rfl (by first | exact .inl (by with_reducible rfl) | exact .inr (by with_reducible rfl)) ?_)); first | refine AL_gdec rfl rfl rfl (fun hg => ?_) (fun hg => ?_) | refine AL_gnot rfl rfl rfl (fun hg => ?_) (fun hg => ?_) | refine AL_gcases rfl rfl rfl (fun hg => ?_) (fun hg => ?_)))
            all_goals exact ⟨_, _, rfl, rfl, rfl⟩
          | true =>
            rw [q4] at k57b
            have hP := sorterP_of q1
            obtain ⟨g1, g2, g3, g4, g5⟩ := looks_of hP q2
            have k53 := f53 s l eye (by omega) (by omega)
            rw [show layE s l eye = (layI s.tire l eye, 0) by unfold layE; rw [if_pos (by rw [q1, Bool.true_and]; exact q2)]] at k53
            have hyl := layI_len s.tire l eye
            have hyb := layI_bd s.tire l eye
            have hpr := proves_in g5 ⟨g3, g4⟩
            obtain ⟨a0, a1, u, hu⟩ := button_get (y := layI s.tire l eye) (by omega) q3
            obtain ⟨b0, b1, v, hv⟩ := button_get (y := layI s.tire l eye) (by omega) q4
            have htf := together_facts g5 ⟨g3, g4⟩ hu hv
            have htr : traysB s (layI s.tire l eye) = true := by
              simp only [traysB, Bool.and_eq_true, decide_eq_true_eq, Bool.not_eq_true', List.any_eq_false]
              refine ⟨by omega, fun x hx => ?_⟩
              have := hyb x hx
              simp only [inB, Bool.not_eq_true', Bool.not_eq_false, Bool.and_eq_true, decide_eq_true_eq, Bool.not_eq_true]
              omega
            have k54 := f54' s (layI s.tire l eye) (by omega) (by omega)
            rw [proves_good q1 htr, if_pos hpr.1] at k54
            have k55 := f55 s (layI s.tire l eye) (by omega) (by omega)
            rw [htr] at k55
            have k58 := f58 s a b (by omega)
            have k58' := f58 s b a (by omega)
            rw [show togetherE s a b = (togetherL s a b, 0) by unfold togetherE; rw [if_pos (by rw [q1, q3, q4]; rfl), together_eq hP]] at k58
            rw [show togetherE s b a = (togetherL s b a, 0) by unfold togetherE; rw [if_pos (by rw [q1, q3, q4]; rfl), together_eq hP]] at k58'
            rw [← htf.1] at k58'
            have htf := htf.2
            obtain ⟨_, p2, p3, p4, p5⟩ := hpr
            generalize layI s.tire l eye = y at *
            generalize (provesL s y).1 = x at *
            generalize (provesL s y).2.1 = z at *
            generalize togetherL s a b = w at *
            have e1 := get_map eInt hu
            have e2 := get_map eInt hv
            have k53 : ACalls Tryz.prog 53 [eSorter s, eInts l, vi eye] (fun r => r = .tup [eInts y, vi 0]) := k53
            have k54 : ACalls Tryz.prog 54 [eSorter s, eInts y] (fun r => r = .tup [eSpans x, eS z, vi 0]) := k54
            have k58 : ACalls Tryz.prog 58 [eSorter s, vi a, vi b] (fun r => r = .tup [vi w, vi 0]) := k58
            have k58' : ACalls Tryz.prog 58 [eSorter s, vi b, vi a] (fun r => r = .tup [vi w, vi 0]) := k58'
            have hw : 1 ≤ w ∧ w ≤ 3 := by omega
            (repeat' (first | (exfalso; omega) | refine AW_if rfl (fun hc => absurd hc (by omega)) (fun _ => ?_) | refine AW_if rfl (fun _ => ?_) (fun hc => absurd (by omega) hc) | refine stq ?_ | (refine AL_do2 rfl ?_; first | refine ⟨_, op_call1 rfl rfl rfl rfl (k51), nrmA rfl ?_⟩ | refine ⟨_, op_call1 rfl rfl rfl rfl (k52), nrmA rfl ?_⟩ | refine ⟨_, op_call1 rfl rfl rfl rfl (k57a), nrmA rfl ?_⟩ | refine ⟨_, op_call1 rfl rfl rfl rfl (k57b), nrmA rfl ?_⟩ | refine ⟨_, op_call1 rfl rfl rfl rfl (k53), nrmA rfl ?_⟩ | refine ⟨_, op_call1 rfl rfl rfl rfl (k54), nrmA rfl ?_⟩ | refine ⟨_, op_call1 rfl rfl rfl rfl (k55), nrmA rfl ?_⟩ | refine ⟨_, op_call1 rfl rfl rfl rfl (k58), nrmA rfl ?_⟩ | refine ⟨_, op_call1 rfl rfl rfl rfl (k58'), nrmA rfl ?_⟩) | (with_reducible refine AL_id ?_); (fail_if_success (refine AL_glit rfl rfl rfl (by first | exact .inl (by with_reducible rfl) | exact .inr (by with_reducible rfl)) ?_)); first | refine AL_gdec rfl rfl rfl (fun hg => ?_) (fun hg => ?_) | refine AL_gnot rfl rfl rfl (fun hg => ?_) (fun hg => ?_) | refine AL_gcases rfl rfl rfl (fun hg => ?_) (fun hg => ?_)))
            all_goals (try (refine AW_if rfl (fun hc => ?_) (fun _ => ?_)))
            all_goals (try (exfalso; omega))
            (repeat (refine stq ?_))
            refine AW_loopC (fun n : Nat => n ≤ l.length) (fun n => mkSt [(1, .pv (eInts l)), (3, .pv (vi a)), (4, .pv (vi b)), (5, .box 0 0), (11, .pv (eInts y)), (13, .pv (eSpans x)), (16, .pv (vi w)), (20, .pv (vi n))] (soO s) 2) (fun n => l.length - n) 0 (Nat.zero_le _) ?_ ?_
            · (refine Le.mk ?_ ?_; all_goals (repeat' (first | exact trivial | refine sle ?_ | refine ⟨?_, rfl, ?_⟩ | refine ⟨?_, by decide, rfl, ?_⟩ | fail)))
            · intro n hn
              (repeat (refine stq ?_))
              refine AW_if rfl (fun hc => ?_) (fun hc => ?_)
              · have hn' : n < l.length := by omega
                obtain ⟨m, hm⟩ : ∃ m, l[n]? = some m := ⟨l[n], by simp [hn']⟩
                obtain ⟨c, hcx⟩ : ∃ c, x[n]? = some c := ⟨x[n]'(by omega), by simp⟩
                obtain ⟨d, hd⟩ : ∃ d, s.looks[n]? = some d := ⟨s.looks[n]'(by omega), by simp⟩
                have hb := p5 n m c d hm hcx hd
                have e3 := get_map eInt hm
                have e4 := get_map eSpan hcx
                have e5 := get_map eSpan hd
                (repeat (refine stq ?_))
                iterate 9 (refine sdq ?_)
                refine DG_boolF hT rfl (decide_eq_false (by omega)) ?_
                iterate 10 (refine sdq ?_)
                refine DG_boolF hT rfl (decide_eq_false (by omega)) ?_
                iterate 13 (refine sdq ?_)
                refine DG_boolF hT rfl (decide_eq_false (by omega)) ?_
                iterate 13 (refine sdq ?_)
                refine DG_boolF hT rfl (decide_eq_false (by omega)) ?_
                (repeat (refine sdq ?_))
                refine DG_end hM (by kernel_rfl) ?_
                (repeat (refine stq ?_))
                refine ⟨n + 1, hn', by omega, ?_⟩
                (refine Le.mk ?_ ?_; all_goals (repeat' (first | exact trivial | refine sle ?_ | refine ⟨?_, rfl, ?_⟩ | refine ⟨?_, by decide, rfl, ?_⟩ | fail)))
              · clear hc
                (repeat (refine stq ?_))
                iterate 2 (refine sdq ?_)
                rcases htf with ⟨rfl, hne, hab⟩ | ⟨rfl, hab⟩ | ⟨rfl, rfl⟩
                · refine DG_boolT hT rfl (decide_eq_true hab) ?_
                  iterate 31 (refine sdq ?_)
                  refine DG_boolT hT rfl (decide_eq_true hne) ?_
                  (repeat (first | refine sdq ?_ | refine DG_next (D_call rfl rfl rfl rfl rfl (f28)) ?_))
                  refine DG_end hM (by kernel_rfl) ?_
                  (repeat (refine stq ?_))
                  exact ⟨_, _, rfl, rfl, rfl⟩
                · refine DG_boolT hT rfl (decide_eq_true hab) ?_
                  (repeat (first | refine sdq ?_ | refine DG_next (D_call rfl rfl rfl rfl rfl (f28)) ?_))
                  refine DG_end hM (by kernel_rfl) ?_
                  (repeat (refine stq ?_))
                  exact ⟨_, _, rfl, rfl, rfl⟩
                · by_cases hab : a = b
                  · refine DG_boolF hT rfl (decide_eq_false (by simpa using hab)) ?_
                    iterate 16 (refine sdq ?_)
                    refine DG_boolT hT rfl (decide_eq_true rfl) ?_
                    (repeat (first | refine sdq ?_ | refine DG_next (D_call rfl rfl rfl rfl rfl (f28)) ?_))
                    refine DG_end hM (by kernel_rfl) ?_
                    (repeat (refine stq ?_))
                    exact ⟨_, _, rfl, rfl, rfl⟩
                  · refine DG_boolT hT rfl (decide_eq_true hab) ?_
                    iterate 16 (refine sdq ?_)
                    refine DG_boolT hT rfl (decide_eq_true rfl) ?_
                    (repeat (first | refine sdq ?_ | refine DG_next (D_call rfl rfl rfl rfl rfl (f28)) ?_))
                    refine DG_end hM (by kernel_rfl) ?_
                    (repeat (refine stq ?_))
                    exact ⟨_, _, rfl, rfl, rfl⟩
  · (repeat' (first | (exfalso; omega) | refine AW_if rfl (fun hc => absurd hc (by omega)) (fun _ => ?_) | refine AW_if rfl (fun _ => ?_) (fun hc => absurd (by omega) hc) | refine stq ?_ | (refine AL_do2 rfl ?_; first | refine ⟨_, op_call1 rfl rfl rfl rfl (f28), nrmA rfl ?_⟩) | (with_reducible refine AL_id ?_); (fail_if_success (refine AL_glit rfl rfl rfl (by first | exact .inl (by with_reducible rfl) | exact .inr (by with_reducible rfl)) ?_)); first | refine AL_gdec rfl rfl rfl (fun hg => ?_) (fun hg => ?_) | refine AL_gnot rfl rfl rfl (fun hg => ?_) (fun hg => ?_) | refine AL_gcases rfl rfl rfl (fun hg => ?_) (fun hg => ?_)))
    all_goals exact ⟨_, _, rfl, rfl, rfl⟩
end Go.Abs
