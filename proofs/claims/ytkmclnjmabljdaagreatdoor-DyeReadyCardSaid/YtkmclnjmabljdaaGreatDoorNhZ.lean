/- DyeReady. -/
import Derived.Test.YtkmclnjmabljdaaGreatDoorNhU
import Derived.Test.YtkmclnjmabljdaaGreatDoorNcAbsAG
set_option linter.unusedVariables false
set_option linter.unusedSimpArgs false

namespace Go.Abs
open Go.Proofs
set_option linter.unusedVariables false
set_option linter.unusedSimpArgs false
set_option maxRecDepth 100000

theorem upTo_spec (ok : Int → Bool) : ∀ (f : Nat) (m : Int), m ≤ upTo ok f m ∧ upTo ok f m ≤ m + f ∧ (∀ k, m < k → k ≤ upTo ok f m → ok k = true) ∧ (upTo ok f m < m + f → ok (upTo ok f m + 1) = false)
  | 0, m => by simp only [upTo]; exact ⟨by omega, by omega, fun k h1 h2 => by omega, fun h => by omega⟩
  | f + 1, m => by
    simp only [upTo]
    split
    · rename_i h
      obtain ⟨h1, h2, h3, h4⟩ := upTo_spec ok f (m + 1)
      refine ⟨by omega, by omega, fun k hk1 hk2 => ?_, fun hlt => h4 (by omega)⟩
      by_cases hk : k = m + 1
      · rw [hk]; exact h
      · exact h3 k (by omega) hk2
    · rename_i h
      exact ⟨by omega, by omega, fun k h1 h2 => by omega, fun _ => by simpa using h⟩
theorem firstOk_none (ok : Int → Bool) : ∀ (f : Nat) (n : Int), firstOk ok f n = none → ∀ m, n ≤ m → m < n + f → ok m = false
  | 0, n, _, m, h1, h2 => by omega
  | f + 1, n, h, m, h1, h2 => by
    simp only [firstOk] at h
    split at h
    · cases h
    · rename_i hn
      by_cases hm : m = n
      · rw [hm]; simpa using hn
      · exact firstOk_none ok f (n + 1) h m (by omega) (by omega)
theorem firstOk_some (ok : Int → Bool) : ∀ (f : Nat) (n : Int) (s : Span), firstOk ok f n = some s → n ≤ s.low ∧ s.low ≤ s.high ∧ s.high < n + f ∧ (∀ m, n ≤ m → m < s.low → ok m = false) ∧ (∀ m, s.low ≤ m → m ≤ s.high → ok m = true) ∧ (s.high + 1 < n + f → ok (s.high + 1) = false)
  | 0, n, s, h => by cases h
  | f + 1, n, s, h => by
    simp only [firstOk] at h
    split at h
    · rename_i hn
      cases h
      obtain ⟨h1, h2, h3, h4⟩ := upTo_spec ok f n
      refine ⟨by simp, h1, by simp only; omega, fun m h5 h6 => by simp only at h6; omega, fun m h5 h6 => ?_, fun h5 => h4 (by simp only at h5; omega)⟩
      simp only at h5 h6
      by_cases hm : m = n
      · rw [hm]; exact hn
      · exact h3 m (by omega) h6
    · rename_i hn
      obtain ⟨h1, h2, h3, h4, h5, h6⟩ := firstOk_some ok f (n + 1) s h
      refine ⟨by omega, h2, by omega, fun m g1 g2 => ?_, h5, fun g => h6 (by omega)⟩
      by_cases hm : m = n
      · rw [hm]; simpa using hn
      · exact h4 m (by omega) g2
theorem f88 (l : List Bath) (d temper n : Int) (hl : l.length ≤ 1000) : ACalls Tryz.prog 88 [eBaths l, vi d, vi temper, vi n] (fun r => r = .own 154 4 ((l ++ [(⟨d, temper, ⟨n, n⟩⟩ : Bath)]).map eBath)) := by
  refine ACalls.of_body hT Tryz.func88 rfl (by kernel_rfl) rfl ?_
  (repeat (refine stq ?_))
  refine AL_do2 rfl ⟨_, op_append_nil1 (e := 154) (sz := 4) hT rfl rfl rfl rfl rfl rfl rfl rfl rfl rfl (by intro y hy; (first | (simp only [List.mem_cons, List.not_mem_nil, or_false] at hy; subst hy; rfl) | (simp only [List.mem_cons, List.not_mem_nil, or_false] at hy; rcases hy with hy | hy <;> subst hy <;> rfl) | (obtain ⟨_, _, rfl⟩ := List.mem_map.1 hy; rfl) | (cases hy))) (by simp only [List.length_map, List.length_take, List.length_cons, List.length_nil, List.length_append]; omega) rfl, ?_⟩
  (repeat' (first | refine stq ?_ | (refine AL_do2 rfl ?_; first | refine ⟨_, op_call1 rfl rfl rfl rfl (f60 n), nrmA rfl ?_⟩) | (with_reducible refine AL_id ?_); (fail_if_success (refine AL_glit rfl rfl rfl (by first | exact .inl (by with_reducible rfl) | exact .inr (by with_reducible rfl)) ?_)); first | refine AL_gdec rfl rfl rfl (fun hg => ?_) (fun hg => ?_) | refine AL_gnot rfl rfl rfl (fun hg => ?_) (fun hg => ?_) | refine AL_gcases rfl rfl rfl (fun hg => ?_) (fun hg => ?_)))
  exact ⟨_, _, rfl, rfl, by rw [List.map_append]; rfl⟩
def insideI (x : Span × Int) (want : Span) : Int := if x.2 ≠ 0 then -1 else if x.1.low ≥ want.low ∧ x.1.high ≤ want.high then 1 else 0
theorem f87 (h : List Dye) (lamp : List Int) (l : List Bath) (want : Span) (hh : houseOK h) (hlm : lamp.length ≤ 1000) (hl : l.length ≤ 1000) : ACalls Tryz.prog 87 [eHouse h, eLamp lamp, eBaths l, eS want] (fun r => r = .pv (vi (insideI (lookE h lamp l) want))) := by
  have k69 := f69 h lamp l hh hlm hl
  rcases hx : lookE h lamp l with ⟨s, e⟩
  rw [hx] at k69
  have k69 : ACalls Tryz.prog 69 [eHouse h, eLamp lamp, eBaths l] (fun r => r = .tup [eS s, vi e]) := k69
  refine ACalls.of_body hT Tryz.func87 rfl (by kernel_rfl) rfl ?_
  (repeat' (first | refine stq ?_ | (refine AL_do2 rfl ?_; first | refine ⟨_, op_call1 rfl rfl rfl rfl (k69), nrmA rfl ?_⟩) | (with_reducible refine AL_id ?_); (fail_if_success (refine AL_glit rfl rfl rfl (by first | exact .inl (by with_reducible rfl) | exact .inr (by with_reducible rfl)) ?_)); first | refine AL_gdec rfl rfl rfl (fun hg => ?_) (fun hg => ?_) | refine AL_gnot rfl rfl rfl (fun hg => ?_) (fun hg => ?_) | refine AL_gcases rfl rfl rfl (fun hg => ?_) (fun hg => ?_)))
  refine AW_if rfl (fun hc => ?_) (fun hc => ?_)
  · (repeat (refine stq ?_))
    exact ⟨_, _, rfl, rfl, by simp [insideI, hc]⟩
  · have hc : e = 0 := by omega
    subst hc
    (repeat' (first | refine stq ?_ | (with_reducible refine AL_id ?_); (fail_if_success (refine AL_glit rfl rfl rfl (by first | exact .inl (by with_reducible rfl) | exact .inr (by with_reducible rfl)) ?_)); first | refine AL_gdec rfl rfl rfl (fun hg => ?_) (fun hg => ?_) | refine AL_gnot rfl rfl rfl (fun hg => ?_) (fun hg => ?_) | refine AL_gcases rfl rfl rfl (fun hg => ?_) (fun hg => ?_)))
    · refine AW_if rfl (fun hc2 => ?_) (fun hc2 => ?_)
      · (repeat (refine stq ?_))
        exact ⟨_, _, rfl, rfl, by simp [insideI]; omega⟩
      · (repeat (refine stq ?_))
        exact ⟨_, _, rfl, rfl, by simp [insideI]; omega⟩
    · exact ⟨_, _, rfl, rfl, by simp [insideI]; omega⟩
set_option maxHeartbeats 8000000 in
theorem f22 (h : List Dye) (lamp : List Int) (l : List Bath) (d temper : Int) (want : Span) (n : Int) (ts : List (List Int)) (hs : List Int) : ACalls Tryz.prog 22 [eHouse h, eLamp lamp, eBaths l, vi d, vi temper, eS want, vi n, eTruth ts hs] (fun r => r = .pv (.bool true)) := by
  have k27 := f27 h
  have k80 := f80 ts hs
  refine ACalls.of_body hT Tryz.func22 rfl (by kernel_rfl) rfl ?_
  cases q1 : slimB h with
  | false =>
    rw [q1] at k27
    (repeat' (first | refine stq ?_ | (refine AL_do2 rfl ?_; first | refine ⟨_, op_call1 rfl rfl rfl rfl (k27), nrmA rfl ?_⟩ | refine ⟨_, op_call1 rfl rfl rfl rfl (f28), nrmA rfl ?_⟩) | ((first | (with_reducible refine AL_id ?_); (fail_if_success (refine AL_glit rfl rfl rfl (by first | exact .inl (by with_reducible rfl) | exact .inr (by with_reducible rfl)) ?_)); first | refine AL_gdec rfl rfl rfl (fun hg => ?_) (fun hg => ?_) | refine AL_gnot rfl rfl rfl (fun hg => ?_) (fun hg => ?_) | refine AL_gcases rfl rfl rfl (fun hg => ?_) (fun hg => ?_)) <;> (try (exfalso; omega))) | refine AW_if rfl (fun hc => absurd hc (by omega)) (fun _ => ?_) | refine AW_if rfl (fun _ => ?_) (fun hc => absurd (by omega) hc)))
    all_goals exact ⟨_, _, rfl, rfl, rfl⟩
  | true =>
    rw [q1] at k27
    have hOK := slim_houseOK q1
    by_cases q2 : l.length ≤ 5
    · by_cases q3 : lamp.length ≤ 5
      · cases q4 : briefB ts hs with
        | false =>
          rw [q4] at k80
          (repeat' (first | refine stq ?_ | (refine AL_do2 rfl ?_; first | refine ⟨_, op_call1 rfl rfl rfl rfl (k27), nrmA rfl ?_⟩ | refine ⟨_, op_call1 rfl rfl rfl rfl (k80), nrmA rfl ?_⟩ | refine ⟨_, op_call1 rfl rfl rfl rfl (f28), nrmA rfl ?_⟩) | ((first | (with_reducible refine AL_id ?_); (fail_if_success (refine AL_glit rfl rfl rfl (by first | exact .inl (by with_reducible rfl) | exact .inr (by with_reducible rfl)) ?_)); first | refine AL_gdec rfl rfl rfl (fun hg => ?_) (fun hg => ?_) | refine AL_gnot rfl rfl rfl (fun hg => ?_) (fun hg => ?_) | refine AL_gcases rfl rfl rfl (fun hg => ?_) (fun hg => ?_)) <;> (try (exfalso; omega))) | refine AW_if rfl (fun hc => absurd hc (by omega)) (fun _ => ?_) | refine AW_if rfl (fun _ => ?_) (fun hc => absurd (by omega) hc)))
          all_goals exact ⟨_, _, rfl, rfl, rfl⟩
        | true =>
          rw [q4] at k80
          have hTO := (brief_ok q4).2.2
          have k41 := f41 h l lamp hOK (by omega) (by omega)
          have k42 := f42 h d hOK.1
          have k43 := f43 temper
          have k44 := f44 want
          cases w0 : (isHouseB h && isBatchB h l && isLampB h lamp) with
          | false =>
            rw [w0] at k41
            (repeat' (first | refine stq ?_ | (refine AL_do2 rfl ?_; first | refine ⟨_, op_call1 rfl rfl rfl rfl (k27), nrmA rfl ?_⟩ | refine ⟨_, op_call1 rfl rfl rfl rfl (k80), nrmA rfl ?_⟩ | refine ⟨_, op_call1 rfl rfl rfl rfl (k41), nrmA rfl ?_⟩ | refine ⟨_, op_call1 rfl rfl rfl rfl (k42), nrmA rfl ?_⟩ | refine ⟨_, op_call1 rfl rfl rfl rfl (k43), nrmA rfl ?_⟩ | refine ⟨_, op_call1 rfl rfl rfl rfl (k44), nrmA rfl ?_⟩ | refine ⟨_, op_call1 rfl rfl rfl rfl (f28), nrmA rfl ?_⟩) | ((first | (with_reducible refine AL_id ?_); (fail_if_success (refine AL_glit rfl rfl rfl (by first | exact .inl (by with_reducible rfl) | exact .inr (by with_reducible rfl)) ?_)); first | refine AL_gdec rfl rfl rfl (fun hg => ?_) (fun hg => ?_) | refine AL_gnot rfl rfl rfl (fun hg => ?_) (fun hg => ?_) | refine AL_gcases rfl rfl rfl (fun hg => ?_) (fun hg => ?_)) <;> (try (exfalso; omega))) | refine AW_if rfl (fun hc => absurd hc (by omega)) (fun _ => ?_) | refine AW_if rfl (fun _ => ?_) (fun hc => absurd (by omega) hc)))
            all_goals exact ⟨_, _, rfl, rfl, rfl⟩
          | true =>
            rw [w0] at k41
            by_cases w4 : l.length < 3
            · cases w5 : inB d 0 (h.length - 1) with
              | false =>
                rw [w5] at k42
                (repeat' (first | refine stq ?_ | (refine AL_do2 rfl ?_; first | refine ⟨_, op_call1 rfl rfl rfl rfl (k27), nrmA rfl ?_⟩ | refine ⟨_, op_call1 rfl rfl rfl rfl (k80), nrmA rfl ?_⟩ | refine ⟨_, op_call1 rfl rfl rfl rfl (k41), nrmA rfl ?_⟩ | refine ⟨_, op_call1 rfl rfl rfl rfl (k42), nrmA rfl ?_⟩ | refine ⟨_, op_call1 rfl rfl rfl rfl (k43), nrmA rfl ?_⟩ | refine ⟨_, op_call1 rfl rfl rfl rfl (k44), nrmA rfl ?_⟩ | refine ⟨_, op_call1 rfl rfl rfl rfl (f28), nrmA rfl ?_⟩) | ((first | (with_reducible refine AL_id ?_); (fail_if_success (refine AL_glit rfl rfl rfl (by first | exact .inl (by with_reducible rfl) | exact .inr (by with_reducible rfl)) ?_)); first | refine AL_gdec rfl rfl rfl (fun hg => ?_) (fun hg => ?_) | refine AL_gnot rfl rfl rfl (fun hg => ?_) (fun hg => ?_) | refine AL_gcases rfl rfl rfl (fun hg => ?_) (fun hg => ?_)) <;> (try (exfalso; omega))) | refine AW_if rfl (fun hc => absurd hc (by omega)) (fun _ => ?_) | refine AW_if rfl (fun _ => ?_) (fun hc => absurd (by omega) hc)))
                all_goals exact ⟨_, _, rfl, rfl, rfl⟩
              | true =>
                rw [w5] at k42
                cases w6 : inB temper 0 2 with
                | false =>
                  rw [w6] at k43
                  (repeat' (first | refine stq ?_ | (refine AL_do2 rfl ?_; first | refine ⟨_, op_call1 rfl rfl rfl rfl (k27), nrmA rfl ?_⟩ | refine ⟨_, op_call1 rfl rfl rfl rfl (k80), nrmA rfl ?_⟩ | refine ⟨_, op_call1 rfl rfl rfl rfl (k41), nrmA rfl ?_⟩ | refine ⟨_, op_call1 rfl rfl rfl rfl (k42), nrmA rfl ?_⟩ | refine ⟨_, op_call1 rfl rfl rfl rfl (k43), nrmA rfl ?_⟩ | refine ⟨_, op_call1 rfl rfl rfl rfl (k44), nrmA rfl ?_⟩ | refine ⟨_, op_call1 rfl rfl rfl rfl (f28), nrmA rfl ?_⟩) | ((first | (with_reducible refine AL_id ?_); (fail_if_success (refine AL_glit rfl rfl rfl (by first | exact .inl (by with_reducible rfl) | exact .inr (by with_reducible rfl)) ?_)); first | refine AL_gdec rfl rfl rfl (fun hg => ?_) (fun hg => ?_) | refine AL_gnot rfl rfl rfl (fun hg => ?_) (fun hg => ?_) | refine AL_gcases rfl rfl rfl (fun hg => ?_) (fun hg => ?_)) <;> (try (exfalso; omega))) | refine AW_if rfl (fun hc => absurd hc (by omega)) (fun _ => ?_) | refine AW_if rfl (fun _ => ?_) (fun hc => absurd (by omega) hc)))
                  all_goals exact ⟨_, _, rfl, rfl, rfl⟩
                | true =>
                  rw [w6] at k43
                  cases w7 : isWishB want with
                  | false =>
                    rw [w7] at k44
                    (repeat' (first | refine stq ?_ | (refine AL_do2 rfl ?_; first | refine ⟨_, op_call1 rfl rfl rfl rfl (k27), nrmA rfl ?_⟩ | refine ⟨_, op_call1 rfl rfl rfl rfl (k80), nrmA rfl ?_⟩ | refine ⟨_, op_call1 rfl rfl rfl rfl (k41), nrmA rfl ?_⟩ | refine ⟨_, op_call1 rfl rfl rfl rfl (k42), nrmA rfl ?_⟩ | refine ⟨_, op_call1 rfl rfl rfl rfl (k43), nrmA rfl ?_⟩ | refine ⟨_, op_call1 rfl rfl rfl rfl (k44), nrmA rfl ?_⟩ | refine ⟨_, op_call1 rfl rfl rfl rfl (f28), nrmA rfl ?_⟩) | ((first | (with_reducible refine AL_id ?_); (fail_if_success (refine AL_glit rfl rfl rfl (by first | exact .inl (by with_reducible rfl) | exact .inr (by with_reducible rfl)) ?_)); first | refine AL_gdec rfl rfl rfl (fun hg => ?_) (fun hg => ?_) | refine AL_gnot rfl rfl rfl (fun hg => ?_) (fun hg => ?_) | refine AL_gcases rfl rfl rfl (fun hg => ?_) (fun hg => ?_)) <;> (try (exfalso; omega))) | refine AW_if rfl (fun hc => absurd hc (by omega)) (fun _ => ?_) | refine AW_if rfl (fun _ => ?_) (fun hc => absurd (by omega) hc)))
                    all_goals exact ⟨_, _, rfl, rfl, rfl⟩
                  | true =>
                    rw [w7] at k44
                    by_cases n0 : 0 ≤ n
                    · by_cases n1 : n ≤ 12
                      · simp only [Bool.and_eq_true] at w0
                        obtain ⟨⟨c1, c2⟩, c3⟩ := w0
                        have hH := houseP_of c1
                        have hL := lampP_of c3
                        have hB := batchP_of c2
                        have k40 := f40 h lamp l d temper want hOK (by omega) (by omega)
                        have e : ripeI h lamp l d temper want = match firstOk (ripeOk h lamp l d temper want) 13 0 with
                          | some s => (s, 0)
                          | none => (⟨0, 0⟩, 5) := by
                          rw [← ripeGo_none]; unfold ripeI
                          rw [if_pos (by simp only [c1, c2, c3, w5, w6, w7, Bool.and_true, Bool.true_and, decide_eq_true_eq]; omega)]; rfl
                        rw [e] at k40
                        have cb : isBatchB h (l ++ [⟨d, temper, ⟨n, n⟩⟩]) = true := by
                          simp only [isBatchB, Bool.and_eq_true, decide_eq_true_eq, Bool.not_eq_true', List.any_eq_false, Bool.not_eq_false] at c2 ⊢
                          refine ⟨by simp; omega, fun b hb => ?_⟩
                          rcases List.mem_append.1 hb with hb | hb
                          · exact c2.2 b hb
                          · simp only [List.mem_singleton] at hb; subst hb
                            simp only [isBathB, w5, w6, Bool.true_and, isSpanB, Bool.and_eq_true, decide_eq_true_eq]; omega
                        have hB' := batchP_of cb
                        have k88 := (f88 l d temper n (by omega)).pure
                        have k87 := f87 h lamp (l ++ [⟨d, temper, ⟨n, n⟩⟩]) want hOK (by omega) (by simp; omega)
                        rw [show lookE h lamp (l ++ [⟨d, temper, ⟨n, n⟩⟩]) = (lookI h lamp (l ++ [⟨d, temper, ⟨n, n⟩⟩]), 0) by simp [lookE, c1, c3, cb]] at k87
                        have k81 := f81 h (l ++ [⟨d, temper, ⟨n, n⟩⟩]) ts hs hOK.1 (by simp; omega) hTO
                        have k82 := f82 h (l ++ [⟨d, temper, ⟨n, n⟩⟩]) ts hs hOK (by simp; omega) hTO
                        have k78 := f78 h (l ++ [⟨d, temper, ⟨n, n⟩⟩]) ts hs hOK (by simp; omega) hTO
                        have hok : insideI (lookI h lamp (l ++ [⟨d, temper, ⟨n, n⟩⟩]), 0) want = if ripeOk h lamp l d temper want n then 1 else 0 := by
                          unfold insideI ripeOk
                          rw [if_neg (by simp)]
                          simp only [Bool.and_eq_true, decide_eq_true_eq]
                        rw [hok] at k87
                        have hlk : ripeOk h lamp l d temper want n = true → want.low ≤ (lookI h lamp (l ++ [⟨d, temper, ⟨n, n⟩⟩])).low ∧ (lookI h lamp (l ++ [⟨d, temper, ⟨n, n⟩⟩])).high ≤ want.high := fun hh2 => by
                          unfold ripeOk at hh2
                          simp only [Bool.and_eq_true, decide_eq_true_eq] at hh2; exact hh2
                        have k88 : ACalls Tryz.prog 88 [eBaths l, vi d, vi temper, vi n] (fun r => r = .pv (eBaths (l ++ [⟨d, temper, ⟨n, n⟩⟩]))) := k88
                        have hrun : truthB h (l ++ [⟨d, temper, ⟨n, n⟩⟩]) ts hs = true → fitsB h (l ++ [⟨d, temper, ⟨n, n⟩⟩]) ts hs = true → _ := fun t1 t2 => And.intro (run_facts hH hB' t1 t2) (run_look hH hL hB' t1 t2)
                        have hfe : truthB h (l ++ [⟨d, temper, ⟨n, n⟩⟩]) ts hs = true → fitsE h (l ++ [⟨d, temper, ⟨n, n⟩⟩]) ts hs = (fitsB h (l ++ [⟨d, temper, ⟨n, n⟩⟩]) ts hs, 0) := fun t1 => by simp [fitsE, c1, cb, t1]
                        have hre : truthB h (l ++ [⟨d, temper, ⟨n, n⟩⟩]) ts hs = true → fitsB h (l ++ [⟨d, temper, ⟨n, n⟩⟩]) ts hs = true → runE h (l ++ [⟨d, temper, ⟨n, n⟩⟩]) ts hs = (runGo (l ++ [⟨d, temper, ⟨n, n⟩⟩]) hs h ts 0, 0) := fun t1 t2 => by simp [runE, c1, cb, t1, t2]
                        have hh3 := hH.1
                        generalize l ++ [⟨d, temper, ⟨n, n⟩⟩] = m at *
                        generalize ripeOk h lamp l d temper want = ok at *
                        cases hf : firstOk ok 13 0 with
                        | none =>
                          have hn0 := firstOk_none ok 13 0 hf n n0 (by omega)
                          rw [hf] at k40
                          rw [hn0] at k87
                          have k40 : ACalls Tryz.prog 40 [eHouse h, eLamp lamp, eBaths l, vi d, vi temper, eS want] (fun r => r = .tup [eS ⟨0, 0⟩, vi 5]) := k40
                          have k87 : ACalls Tryz.prog 87 [eHouse h, eLamp lamp, eBaths m, eS want] (fun r => r = .pv (vi 0)) := k87
                          (repeat' (first | refine AL_skip rfl rfl ?_ | refine stq ?_ | (refine AL_do2 rfl ?_; first | refine ⟨_, op_call1 rfl rfl rfl rfl (k27), nrmA rfl ?_⟩ | refine ⟨_, op_call1 rfl rfl rfl rfl (k80), nrmA rfl ?_⟩ | refine ⟨_, op_call1 rfl rfl rfl rfl (k41), nrmA rfl ?_⟩ | refine ⟨_, op_call1 rfl rfl rfl rfl (k42), nrmA rfl ?_⟩ | refine ⟨_, op_call1 rfl rfl rfl rfl (k43), nrmA rfl ?_⟩ | refine ⟨_, op_call1 rfl rfl rfl rfl (k44), nrmA rfl ?_⟩ | refine ⟨_, op_call1 rfl rfl rfl rfl (k40), nrmA rfl ?_⟩) | ((first | (with_reducible refine AL_id ?_); (fail_if_success (refine AL_glit rfl rfl rfl (by first | exact .inl (by with_reducible rfl) | exact .inr (by with_reducible rfl)) ?_)); first | refine AL_gdec rfl rfl rfl (fun hg => ?_) (fun hg => ?_) | refine AL_gnot rfl rfl rfl (fun hg => ?_) (fun hg => ?_) | refine AL_gcases rfl rfl rfl (fun hg => ?_) (fun hg => ?_)) <;> (try (exfalso; omega))) | refine AW_if rfl (fun hc => absurd hc (by omega)) (fun _ => ?_) | refine AW_if rfl (fun _ => ?_) (fun hc => absurd (by omega) hc)))
                          (repeat (first | refine sdq ?_ | refine DG_next (D_call rfl rfl rfl rfl rfl (k88)) ?_ | refine DG_next (D_call rfl rfl rfl rfl rfl (k87)) ?_))
                          refine DG_end hM (by kernel_rfl) ?_
                          (repeat' (first | refine AL_skip rfl rfl ?_ | refine stq ?_ | (refine AL_do2 rfl ?_; first | refine ⟨_, op_call1 rfl rfl rfl rfl (k88), nrmA rfl ?_⟩ | refine ⟨_, op_call1 rfl rfl rfl rfl (f28), nrmA rfl ?_⟩) | ((first | (with_reducible refine AL_id ?_); (fail_if_success (refine AL_glit rfl rfl rfl (by first | exact .inl (by with_reducible rfl) | exact .inr (by with_reducible rfl)) ?_)); first | refine AL_gdec rfl rfl rfl (fun hg => ?_) (fun hg => ?_) | refine AL_gnot rfl rfl rfl (fun hg => ?_) (fun hg => ?_) | refine AL_gcases rfl rfl rfl (fun hg => ?_) (fun hg => ?_)) <;> (try (exfalso; omega))) | refine AW_if rfl (fun hc => absurd hc (by omega)) (fun _ => ?_) | refine AW_if rfl (fun _ => ?_) (fun hc => absurd (by omega) hc)))
                          all_goals exact ⟨_, _, rfl, rfl, rfl⟩
                        | some s =>
                          obtain ⟨s1, s2, s3, s4, s5, s6⟩ := firstOk_some ok 13 0 s hf
                          rw [hf] at k40
                          have k40 : ACalls Tryz.prog 40 [eHouse h, eLamp lamp, eBaths l, vi d, vi temper, eS want] (fun r => r = .tup [eS s, vi 0]) := k40
                          cases hb : ok n with
                          | false =>
                            rw [hb] at k87
                            have k87 : ACalls Tryz.prog 87 [eHouse h, eLamp lamp, eBaths m, eS want] (fun r => r = .pv (vi 0)) := k87
                            have hno : ¬ (s.low ≤ n ∧ n ≤ s.high) := fun hh2 => by have := s5 n hh2.1 hh2.2; rw [hb] at this; cases this
                            (repeat' (first | refine AL_skip rfl rfl ?_ | refine stq ?_ | (refine AL_do2 rfl ?_; first | refine ⟨_, op_call1 rfl rfl rfl rfl (k27), nrmA rfl ?_⟩ | refine ⟨_, op_call1 rfl rfl rfl rfl (k80), nrmA rfl ?_⟩ | refine ⟨_, op_call1 rfl rfl rfl rfl (k41), nrmA rfl ?_⟩ | refine ⟨_, op_call1 rfl rfl rfl rfl (k42), nrmA rfl ?_⟩ | refine ⟨_, op_call1 rfl rfl rfl rfl (k43), nrmA rfl ?_⟩ | refine ⟨_, op_call1 rfl rfl rfl rfl (k44), nrmA rfl ?_⟩ | refine ⟨_, op_call1 rfl rfl rfl rfl (k40), nrmA rfl ?_⟩) | ((first | (with_reducible refine AL_id ?_); (fail_if_success (refine AL_glit rfl rfl rfl (by first | exact .inl (by with_reducible rfl) | exact .inr (by with_reducible rfl)) ?_)); first | refine AL_gdec rfl rfl rfl (fun hg => ?_) (fun hg => ?_) | refine AL_gnot rfl rfl rfl (fun hg => ?_) (fun hg => ?_) | refine AL_gcases rfl rfl rfl (fun hg => ?_) (fun hg => ?_)) <;> (try (exfalso; omega))) | refine AW_if rfl (fun hc => absurd hc (by omega)) (fun _ => ?_) | refine AW_if rfl (fun _ => ?_) (fun hc => absurd (by omega) hc)))
                            (repeat (first | refine sdq ?_ | refine DG_next (D_call rfl rfl rfl rfl rfl (k88)) ?_ | refine DG_next (D_call rfl rfl rfl rfl rfl (k87)) ?_))
                            refine DG_end hM (by kernel_rfl) ?_
                            (repeat' (first | refine AL_skip rfl rfl ?_ | refine stq ?_ | (refine AL_do2 rfl ?_; first | refine ⟨_, op_call1 rfl rfl rfl rfl (k88), nrmA rfl ?_⟩ | refine ⟨_, op_call1 rfl rfl rfl rfl (f28), nrmA rfl ?_⟩) | ((first | (with_reducible refine AL_id ?_); (fail_if_success (refine AL_glit rfl rfl rfl (by first | exact .inl (by with_reducible rfl) | exact .inr (by with_reducible rfl)) ?_)); first | refine AL_gdec rfl rfl rfl (fun hg => ?_) (fun hg => ?_) | refine AL_gnot rfl rfl rfl (fun hg => ?_) (fun hg => ?_) | refine AL_gcases rfl rfl rfl (fun hg => ?_) (fun hg => ?_)) <;> (try (exfalso; omega))) | refine AW_if rfl (fun hc => absurd hc (by omega)) (fun _ => ?_) | refine AW_if rfl (fun _ => ?_) (fun hc => absurd (by omega) hc)))
                            all_goals exact ⟨_, _, rfl, rfl, rfl⟩
                          | true =>
                            rw [hb] at k87
                            have k87 : ACalls Tryz.prog 87 [eHouse h, eLamp lamp, eBaths m, eS want] (fun r => r = .pv (vi 1)) := k87
                            have hge : s.low ≤ n := by
                              by_cases h5 : n < s.low
                              · have := s4 n n0 h5; rw [hb] at this; cases this
                              · omega
                            have hne : n ≠ s.high + 1 := fun h5 => by
                              have := s6 (by omega)
                              rw [← h5, hb] at this; cases this
                            cases t1 : truthB h m ts hs with
                            | false =>
                              rw [t1] at k81
                              (repeat' (first | refine AL_skip rfl rfl ?_ | refine stq ?_ | (refine AL_do2 rfl ?_; first | refine ⟨_, op_call1 rfl rfl rfl rfl (k27), nrmA rfl ?_⟩ | refine ⟨_, op_call1 rfl rfl rfl rfl (k80), nrmA rfl ?_⟩ | refine ⟨_, op_call1 rfl rfl rfl rfl (k41), nrmA rfl ?_⟩ | refine ⟨_, op_call1 rfl rfl rfl rfl (k42), nrmA rfl ?_⟩ | refine ⟨_, op_call1 rfl rfl rfl rfl (k43), nrmA rfl ?_⟩ | refine ⟨_, op_call1 rfl rfl rfl rfl (k44), nrmA rfl ?_⟩ | refine ⟨_, op_call1 rfl rfl rfl rfl (k40), nrmA rfl ?_⟩) | ((first | (with_reducible refine AL_id ?_); (fail_if_success (refine AL_glit rfl rfl rfl (by first | exact .inl (by with_reducible rfl) | exact .inr (by with_reducible rfl)) ?_)); first | refine AL_gdec rfl rfl rfl (fun hg => ?_) (fun hg => ?_) | refine AL_gnot rfl rfl rfl (fun hg => ?_) (fun hg => ?_) | refine AL_gcases rfl rfl rfl (fun hg => ?_) (fun hg => ?_)) <;> (try (exfalso; omega))) | refine AW_if rfl (fun hc => absurd hc (by omega)) (fun _ => ?_) | refine AW_if rfl (fun _ => ?_) (fun hc => absurd (by omega) hc)))
                              (repeat (first | refine sdq ?_ | refine DG_next (D_call rfl rfl rfl rfl rfl (k88)) ?_ | refine DG_next (D_call rfl rfl rfl rfl rfl (k87)) ?_))
                              refine DG_end hM (by kernel_rfl) ?_
                              (repeat' (first | refine AL_skip rfl rfl ?_ | refine stq ?_ | (refine AL_do2 rfl ?_; first | refine ⟨_, op_call1 rfl rfl rfl rfl (k88), nrmA rfl ?_⟩ | refine ⟨_, op_call1 rfl rfl rfl rfl (k81), nrmA rfl ?_⟩ | refine ⟨_, op_call1 rfl rfl rfl rfl (f28), nrmA rfl ?_⟩) | ((first | (with_reducible refine AL_id ?_); (fail_if_success (refine AL_glit rfl rfl rfl (by first | exact .inl (by with_reducible rfl) | exact .inr (by with_reducible rfl)) ?_)); first | refine AL_gdec rfl rfl rfl (fun hg => ?_) (fun hg => ?_) | refine AL_gnot rfl rfl rfl (fun hg => ?_) (fun hg => ?_) | refine AL_gcases rfl rfl rfl (fun hg => ?_) (fun hg => ?_)) <;> (try (exfalso; omega))) | refine AW_if rfl (fun hc => absurd hc (by omega)) (fun _ => ?_) | refine AW_if rfl (fun _ => ?_) (fun hc => absurd (by omega) hc)))
                              all_goals exact ⟨_, _, rfl, rfl, rfl⟩
                            | true =>
                              rw [t1] at k81
                              rw [hfe t1] at k82
                              have k82 : ACalls Tryz.prog 82 [eHouse h, eBaths m, eTruth ts hs] (fun r => r = .tup [.bool (fitsB h m ts hs), vi 0]) := k82
                              cases t2 : fitsB h m ts hs with
                              | false =>
                                rw [t2] at k82
                                (repeat' (first | refine AL_skip rfl rfl ?_ | refine stq ?_ | (refine AL_do2 rfl ?_; first | refine ⟨_, op_call1 rfl rfl rfl rfl (k27), nrmA rfl ?_⟩ | refine ⟨_, op_call1 rfl rfl rfl rfl (k80), nrmA rfl ?_⟩ | refine ⟨_, op_call1 rfl rfl rfl rfl (k41), nrmA rfl ?_⟩ | refine ⟨_, op_call1 rfl rfl rfl rfl (k42), nrmA rfl ?_⟩ | refine ⟨_, op_call1 rfl rfl rfl rfl (k43), nrmA rfl ?_⟩ | refine ⟨_, op_call1 rfl rfl rfl rfl (k44), nrmA rfl ?_⟩ | refine ⟨_, op_call1 rfl rfl rfl rfl (k40), nrmA rfl ?_⟩) | ((first | (with_reducible refine AL_id ?_); (fail_if_success (refine AL_glit rfl rfl rfl (by first | exact .inl (by with_reducible rfl) | exact .inr (by with_reducible rfl)) ?_)); first | refine AL_gdec rfl rfl rfl (fun hg => ?_) (fun hg => ?_) | refine AL_gnot rfl rfl rfl (fun hg => ?_) (fun hg => ?_) | refine AL_gcases rfl rfl rfl (fun hg => ?_) (fun hg => ?_)) <;> (try (exfalso; omega))) | refine AW_if rfl (fun hc => absurd hc (by omega)) (fun _ => ?_) | refine AW_if rfl (fun _ => ?_) (fun hc => absurd (by omega) hc)))
                                (repeat (first | refine sdq ?_ | refine DG_next (D_call rfl rfl rfl rfl rfl (k88)) ?_ | refine DG_next (D_call rfl rfl rfl rfl rfl (k87)) ?_))
                                refine DG_end hM (by kernel_rfl) ?_
                                (repeat' (first | refine AL_skip rfl rfl ?_ | refine stq ?_ | (refine AL_do2 rfl ?_; first | refine ⟨_, op_call1 rfl rfl rfl rfl (k88), nrmA rfl ?_⟩ | refine ⟨_, op_call1 rfl rfl rfl rfl (k81), nrmA rfl ?_⟩ | refine ⟨_, op_call1 rfl rfl rfl rfl (k82), nrmA rfl ?_⟩ | refine ⟨_, op_call1 rfl rfl rfl rfl (f28), nrmA rfl ?_⟩) | ((first | (with_reducible refine AL_id ?_); (fail_if_success (refine AL_glit rfl rfl rfl (by first | exact .inl (by with_reducible rfl) | exact .inr (by with_reducible rfl)) ?_)); first | refine AL_gdec rfl rfl rfl (fun hg => ?_) (fun hg => ?_) | refine AL_gnot rfl rfl rfl (fun hg => ?_) (fun hg => ?_) | refine AL_gcases rfl rfl rfl (fun hg => ?_) (fun hg => ?_)) <;> (try (exfalso; omega))) | refine AW_if rfl (fun hc => absurd hc (by omega)) (fun _ => ?_) | refine AW_if rfl (fun _ => ?_) (fun hc => absurd (by omega) hc)))
                                all_goals exact ⟨_, _, rfl, rfl, rfl⟩
                              | true =>
                                rw [t2] at k82
                                obtain ⟨rf, rl⟩ := hrun t1 t2
                                rw [hre t1 t2] at k78
                                have hw := hlk hb
                                have k83 := f83 lamp (runGo m hs h ts 0) (by rw [rf.1, hL.1]) (by rw [rf.1]; omega) hL.2 rf.2.1
                                generalize dotI lamp (runGo m hs h ts 0) = u at k83 rl
                                generalize runGo m hs h ts 0 = y at k78 k83
                                generalize lookI h lamp m = v at hw rl
                                have k78 : ACalls Tryz.prog 78 [eHouse h, eBaths m, eTruth ts hs] (fun r => r = .tup [eInts y, vi 0]) := k78
                                (repeat' (first | refine AL_skip rfl rfl ?_ | refine stq ?_ | (refine AL_do2 rfl ?_; first | refine ⟨_, op_call1 rfl rfl rfl rfl (k27), nrmA rfl ?_⟩ | refine ⟨_, op_call1 rfl rfl rfl rfl (k80), nrmA rfl ?_⟩ | refine ⟨_, op_call1 rfl rfl rfl rfl (k41), nrmA rfl ?_⟩ | refine ⟨_, op_call1 rfl rfl rfl rfl (k42), nrmA rfl ?_⟩ | refine ⟨_, op_call1 rfl rfl rfl rfl (k43), nrmA rfl ?_⟩ | refine ⟨_, op_call1 rfl rfl rfl rfl (k44), nrmA rfl ?_⟩ | refine ⟨_, op_call1 rfl rfl rfl rfl (k40), nrmA rfl ?_⟩) | ((first | (with_reducible refine AL_id ?_); (fail_if_success (refine AL_glit rfl rfl rfl (by first | exact .inl (by with_reducible rfl) | exact .inr (by with_reducible rfl)) ?_)); first | refine AL_gdec rfl rfl rfl (fun hg => ?_) (fun hg => ?_) | refine AL_gnot rfl rfl rfl (fun hg => ?_) (fun hg => ?_) | refine AL_gcases rfl rfl rfl (fun hg => ?_) (fun hg => ?_)) <;> (try (exfalso; omega))) | refine AW_if rfl (fun hc => absurd hc (by omega)) (fun _ => ?_) | refine AW_if rfl (fun _ => ?_) (fun hc => absurd (by omega) hc)))
                                (repeat (first | refine sdq ?_ | refine DG_next (D_call rfl rfl rfl rfl rfl (k88)) ?_ | refine DG_next (D_call rfl rfl rfl rfl rfl (k87)) ?_))
                                refine DG_end hM (by kernel_rfl) ?_
                                (repeat' (first | refine AL_skip rfl rfl ?_ | refine stq ?_ | (refine AL_do2 rfl ?_; first | refine ⟨_, op_call1 rfl rfl rfl rfl (k88), nrmA rfl ?_⟩ | refine ⟨_, op_call1 rfl rfl rfl rfl (k81), nrmA rfl ?_⟩ | refine ⟨_, op_call1 rfl rfl rfl rfl (k82), nrmA rfl ?_⟩ | refine ⟨_, op_call1 rfl rfl rfl rfl (k78), nrmA rfl ?_⟩ | refine ⟨_, op_call1 rfl rfl rfl rfl (k83), nrmA rfl ?_⟩ | refine ⟨_, op_call1 rfl rfl rfl rfl (f28), nrmA rfl ?_⟩) | ((first | (with_reducible refine AL_id ?_); (fail_if_success (refine AL_glit rfl rfl rfl (by first | exact .inl (by with_reducible rfl) | exact .inr (by with_reducible rfl)) ?_)); first | refine AL_gdec rfl rfl rfl (fun hg => ?_) (fun hg => ?_) | refine AL_gnot rfl rfl rfl (fun hg => ?_) (fun hg => ?_) | refine AL_gcases rfl rfl rfl (fun hg => ?_) (fun hg => ?_)) <;> (try (exfalso; omega))) | refine AW_if rfl (fun hc => absurd hc (by omega)) (fun _ => ?_) | refine AW_if rfl (fun _ => ?_) (fun hc => absurd (by omega) hc)))
                                all_goals exact ⟨_, _, rfl, rfl, rfl⟩
                      · (repeat' (first | refine AL_skip rfl rfl ?_ | refine stq ?_ | (refine AL_do2 rfl ?_; first | refine ⟨_, op_call1 rfl rfl rfl rfl (k27), nrmA rfl ?_⟩ | refine ⟨_, op_call1 rfl rfl rfl rfl (k80), nrmA rfl ?_⟩ | refine ⟨_, op_call1 rfl rfl rfl rfl (k41), nrmA rfl ?_⟩ | refine ⟨_, op_call1 rfl rfl rfl rfl (k42), nrmA rfl ?_⟩ | refine ⟨_, op_call1 rfl rfl rfl rfl (k43), nrmA rfl ?_⟩ | refine ⟨_, op_call1 rfl rfl rfl rfl (k44), nrmA rfl ?_⟩ | refine ⟨_, op_call1 rfl rfl rfl rfl (f28), nrmA rfl ?_⟩) | ((first | (with_reducible refine AL_id ?_); (fail_if_success (refine AL_glit rfl rfl rfl (by first | exact .inl (by with_reducible rfl) | exact .inr (by with_reducible rfl)) ?_)); first | refine AL_gdec rfl rfl rfl (fun hg => ?_) (fun hg => ?_) | refine AL_gnot rfl rfl rfl (fun hg => ?_) (fun hg => ?_) | refine AL_gcases rfl rfl rfl (fun hg => ?_) (fun hg => ?_)) <;> (try (exfalso; omega))) | refine AW_if rfl (fun hc => absurd hc (by omega)) (fun _ => ?_) | refine AW_if rfl (fun _ => ?_) (fun hc => absurd (by omega) hc)))
                        all_goals exact ⟨_, _, rfl, rfl, rfl⟩
                    · (repeat' (first | refine stq ?_ | (refine AL_do2 rfl ?_; first | refine ⟨_, op_call1 rfl rfl rfl rfl (k27), nrmA rfl ?_⟩ | refine ⟨_, op_call1 rfl rfl rfl rfl (k80), nrmA rfl ?_⟩ | refine ⟨_, op_call1 rfl rfl rfl rfl (k41), nrmA rfl ?_⟩ | refine ⟨_, op_call1 rfl rfl rfl rfl (k42), nrmA rfl ?_⟩ | refine ⟨_, op_call1 rfl rfl rfl rfl (k43), nrmA rfl ?_⟩ | refine ⟨_, op_call1 rfl rfl rfl rfl (k44), nrmA rfl ?_⟩ | refine ⟨_, op_call1 rfl rfl rfl rfl (f28), nrmA rfl ?_⟩) | ((first | (with_reducible refine AL_id ?_); (fail_if_success (refine AL_glit rfl rfl rfl (by first | exact .inl (by with_reducible rfl) | exact .inr (by with_reducible rfl)) ?_)); first | refine AL_gdec rfl rfl rfl (fun hg => ?_) (fun hg => ?_) | refine AL_gnot rfl rfl rfl (fun hg => ?_) (fun hg => ?_) | refine AL_gcases rfl rfl rfl (fun hg => ?_) (fun hg => ?_)) <;> (try (exfalso; omega))) | refine AW_if rfl (fun hc => absurd hc (by omega)) (fun _ => ?_) | refine AW_if rfl (fun _ => ?_) (fun hc => absurd (by omega) hc)))
                      all_goals exact ⟨_, _, rfl, rfl, rfl⟩
            · (repeat' (first | refine stq ?_ | (refine AL_do2 rfl ?_; first | refine ⟨_, op_call1 rfl rfl rfl rfl (k27), nrmA rfl ?_⟩ | refine ⟨_, op_call1 rfl rfl rfl rfl (k80), nrmA rfl ?_⟩ | refine ⟨_, op_call1 rfl rfl rfl rfl (k41), nrmA rfl ?_⟩ | refine ⟨_, op_call1 rfl rfl rfl rfl (k42), nrmA rfl ?_⟩ | refine ⟨_, op_call1 rfl rfl rfl rfl (k43), nrmA rfl ?_⟩ | refine ⟨_, op_call1 rfl rfl rfl rfl (k44), nrmA rfl ?_⟩ | refine ⟨_, op_call1 rfl rfl rfl rfl (f28), nrmA rfl ?_⟩) | ((first | (with_reducible refine AL_id ?_); (fail_if_success (refine AL_glit rfl rfl rfl (by first | exact .inl (by with_reducible rfl) | exact .inr (by with_reducible rfl)) ?_)); first | refine AL_gdec rfl rfl rfl (fun hg => ?_) (fun hg => ?_) | refine AL_gnot rfl rfl rfl (fun hg => ?_) (fun hg => ?_) | refine AL_gcases rfl rfl rfl (fun hg => ?_) (fun hg => ?_)) <;> (try (exfalso; omega))) | refine AW_if rfl (fun hc => absurd hc (by omega)) (fun _ => ?_) | refine AW_if rfl (fun _ => ?_) (fun hc => absurd (by omega) hc)))
              all_goals exact ⟨_, _, rfl, rfl, rfl⟩
      · (repeat' (first | refine stq ?_ | (refine AL_do2 rfl ?_; first | refine ⟨_, op_call1 rfl rfl rfl rfl (k27), nrmA rfl ?_⟩ | refine ⟨_, op_call1 rfl rfl rfl rfl (k80), nrmA rfl ?_⟩ | refine ⟨_, op_call1 rfl rfl rfl rfl (f28), nrmA rfl ?_⟩) | ((first | (with_reducible refine AL_id ?_); (fail_if_success (refine AL_glit rfl rfl rfl (by first | exact .inl (by with_reducible rfl) | exact .inr (by with_reducible rfl)) ?_)); first | refine AL_gdec rfl rfl rfl (fun hg => ?_) (fun hg => ?_) | refine AL_gnot rfl rfl rfl (fun hg => ?_) (fun hg => ?_) | refine AL_gcases rfl rfl rfl (fun hg => ?_) (fun hg => ?_)) <;> (try (exfalso; omega))) | refine AW_if rfl (fun hc => absurd hc (by omega)) (fun _ => ?_) | refine AW_if rfl (fun _ => ?_) (fun hc => absurd (by omega) hc)))
        all_goals exact ⟨_, _, rfl, rfl, rfl⟩
    · (repeat' (first | refine stq ?_ | (refine AL_do2 rfl ?_; first | refine ⟨_, op_call1 rfl rfl rfl rfl (k27), nrmA rfl ?_⟩ | refine ⟨_, op_call1 rfl rfl rfl rfl (k80), nrmA rfl ?_⟩ | refine ⟨_, op_call1 rfl rfl rfl rfl (f28), nrmA rfl ?_⟩) | ((first | (with_reducible refine AL_id ?_); (fail_if_success (refine AL_glit rfl rfl rfl (by first | exact .inl (by with_reducible rfl) | exact .inr (by with_reducible rfl)) ?_)); first | refine AL_gdec rfl rfl rfl (fun hg => ?_) (fun hg => ?_) | refine AL_gnot rfl rfl rfl (fun hg => ?_) (fun hg => ?_) | refine AL_gcases rfl rfl rfl (fun hg => ?_) (fun hg => ?_)) <;> (try (exfalso; omega))) | refine AW_if rfl (fun hc => absurd hc (by omega)) (fun _ => ?_) | refine AW_if rfl (fun _ => ?_) (fun hc => absurd (by omega) hc)))
      all_goals exact ⟨_, _, rfl, rfl, rfl⟩
end Go.Abs
