/- DyeSuits, DyeRivals. -/
import Derived.Test.YtkmclnjmabljdaaGreatDoorNhC
import Derived.Test.YtkmclnjmabljdaaGreatDoorNcAbsAG
set_option linter.unusedVariables false
set_option linter.unusedSimpArgs false

namespace Go.Abs
open Go.Proofs
set_option linter.unusedVariables false
set_option linter.unusedSimpArgs false
set_option maxRecDepth 100000

theorem set_in {set : Int} {n : Nat} : inB set 0 (((2 ^ n : Nat) : Int) - 1) = setB set n := by
  unfold inB setB; rw [Bool.eq_iff_iff]; simp only [Bool.and_eq_true, decide_eq_true_eq]; omega
set_option maxHeartbeats 2000000 in
theorem f15 (h : List Dye) (c : Coat) (l : List Stock) (set : Int) : ACalls Tryz.prog 15 [eHouse h, eCoat c, eStocks l, vi set] (fun r => r = .pv (.bool true)) := by
  have k27 := f27 h
  have k46 := f46 c
  have k47 := f47 l
  refine ACalls.of_body hT Tryz.func15 rfl (by kernel_rfl) rfl ?_
  by_cases hs : slimB h = true ∧ tidyB c = true ∧ stockedB l = true
  · obtain ⟨hs, ht, hk⟩ := hs
    rw [hs] at k27
    rw [ht] at k46
    rw [hk] at k47
    have hOK := slim_houseOK hs
    have hcO := (tidy_ok ht).2.2.2
    have hsO := (stocked_ok hk).2.2
    have hl7 := (stocked_ok hk).1
    have k73 := f73 h c l set hOK hcO hsO (by omega)
    have k49 := f49 h c l hOK hcO hsO
    cases ha : (isHouseB h && isCoatB h c && areStocksB h l 1) with
    | false =>
      rw [ha] at k49
      have e : suitsE h c l set = (false, 2) := by unfold suitsE; rw [if_neg (by rw [ha]; simp)]
      rw [e] at k73
      have k73 : ACalls Tryz.prog 73 [eHouse h, eCoat c, eStocks l, vi set] (fun r => r = .tup [.bool false, vi 2]) := k73
      (repeat' (first | refine stq ?_ | (refine AL_do2 rfl ?_; first | refine ⟨_, op_call1 rfl rfl rfl rfl (k27), nrmA rfl ?_⟩ | refine ⟨_, op_call1 rfl rfl rfl rfl (k46), nrmA rfl ?_⟩ | refine ⟨_, op_call1 rfl rfl rfl rfl (k47), nrmA rfl ?_⟩ | refine ⟨_, op_call1 rfl rfl rfl rfl (k73), nrmA rfl ?_⟩ | refine ⟨_, op_call1 rfl rfl rfl rfl (k49), nrmA rfl ?_⟩ | refine ⟨_, op_call1 rfl rfl rfl rfl (f28), nrmA rfl ?_⟩) | (with_reducible refine AL_id ?_); (fail_if_success (refine AL_glit rfl rfl rfl (by first | exact .inl (by with_reducible rfl) | exact .inr (by with_reducible rfl)) ?_)); first | refine AL_gdec rfl rfl rfl (fun hg => ?_) (fun hg => ?_) | refine AL_gnot rfl rfl rfl (fun hg => ?_) (fun hg => ?_) | refine AL_gcases rfl rfl rfl (fun hg => ?_) (fun hg => ?_)))
      exact ⟨_, _, rfl, rfl, rfl⟩
    | true =>
      rw [ha] at k49
      obtain ⟨w1, w2, w3⟩ := asked_of ha
      have hS := stocksP_of w3
      have hS1 := hS.1
      have k67 := f67 set l.length hS.1
      cases hb : setB set l.length with
      | false =>
        rw [hb] at k67
        have e : suitsE h c l set = (false, 2) := by unfold suitsE; rw [if_neg (by rw [ha, set_in, hb]; simp)]
        rw [e] at k73
        have k73 : ACalls Tryz.prog 73 [eHouse h, eCoat c, eStocks l, vi set] (fun r => r = .tup [.bool false, vi 2]) := k73
        (repeat' (first | refine stq ?_ | (refine AL_do2 rfl ?_; first | refine ⟨_, op_call1 rfl rfl rfl rfl (k27), nrmA rfl ?_⟩ | refine ⟨_, op_call1 rfl rfl rfl rfl (k46), nrmA rfl ?_⟩ | refine ⟨_, op_call1 rfl rfl rfl rfl (k47), nrmA rfl ?_⟩ | refine ⟨_, op_call1 rfl rfl rfl rfl (k73), nrmA rfl ?_⟩ | refine ⟨_, op_call1 rfl rfl rfl rfl (k49), nrmA rfl ?_⟩ | refine ⟨_, op_call1 rfl rfl rfl rfl (k67), nrmA rfl ?_⟩ | refine ⟨_, op_call1 rfl rfl rfl rfl (f28), nrmA rfl ?_⟩) | (with_reducible refine AL_id ?_); (fail_if_success (refine AL_glit rfl rfl rfl (by first | exact .inl (by with_reducible rfl) | exact .inr (by with_reducible rfl)) ?_)); first | refine AL_gdec rfl rfl rfl (fun hg => ?_) (fun hg => ?_) | refine AL_gnot rfl rfl rfl (fun hg => ?_) (fun hg => ?_) | refine AL_gcases rfl rfl rfl (fun hg => ?_) (fun hg => ?_)))
        exact ⟨_, _, rfl, rfl, rfl⟩
      | true =>
        rw [hb] at k67
        have e : suitsE h c l set = (suitsI h c l set, 0) := by unfold suitsE; rw [if_pos (by rw [ha, set_in, hb]; rfl)]
        rw [e] at k73
        have k73 : ACalls Tryz.prog 73 [eHouse h, eCoat c, eStocks l, vi set] (fun r => r = .tup [.bool (suitsI h c l set), vi 0]) := k73
        have k74 := f74 h c l set (houseP_of w1) (coatP_of w2) (coat_eye w2) hS.1 hS.2
        cases hq : suitsI h c l set with
        | false =>
          rw [hq] at k73 k74
          (repeat' (first | refine stq ?_ | (refine AL_do2 rfl ?_; first | refine ⟨_, op_call1 rfl rfl rfl rfl (k27), nrmA rfl ?_⟩ | refine ⟨_, op_call1 rfl rfl rfl rfl (k46), nrmA rfl ?_⟩ | refine ⟨_, op_call1 rfl rfl rfl rfl (k47), nrmA rfl ?_⟩ | refine ⟨_, op_call1 rfl rfl rfl rfl (k73), nrmA rfl ?_⟩ | refine ⟨_, op_call1 rfl rfl rfl rfl (k49), nrmA rfl ?_⟩ | refine ⟨_, op_call1 rfl rfl rfl rfl (k67), nrmA rfl ?_⟩ | refine ⟨_, op_call1 rfl rfl rfl rfl (k74), nrmA rfl ?_⟩ | refine ⟨_, op_call1 rfl rfl rfl rfl (f28), nrmA rfl ?_⟩ | refine ⟨_, op_eqlB hT rfl rfl rfl rfl rfl rfl, ?_⟩) | (with_reducible refine AL_id ?_); (fail_if_success (refine AL_glit rfl rfl rfl (by first | exact .inl (by with_reducible rfl) | exact .inr (by with_reducible rfl)) ?_)); first | refine AL_gdec rfl rfl rfl (fun hg => ?_) (fun hg => ?_) | refine AL_gnot rfl rfl rfl (fun hg => ?_) (fun hg => ?_) | refine AL_gcases rfl rfl rfl (fun hg => ?_) (fun hg => ?_)))
          exact ⟨_, _, rfl, rfl, rfl⟩
        | true =>
          rw [hq] at k73 k74
          (repeat' (first | refine stq ?_ | (refine AL_do2 rfl ?_; first | refine ⟨_, op_call1 rfl rfl rfl rfl (k27), nrmA rfl ?_⟩ | refine ⟨_, op_call1 rfl rfl rfl rfl (k46), nrmA rfl ?_⟩ | refine ⟨_, op_call1 rfl rfl rfl rfl (k47), nrmA rfl ?_⟩ | refine ⟨_, op_call1 rfl rfl rfl rfl (k73), nrmA rfl ?_⟩ | refine ⟨_, op_call1 rfl rfl rfl rfl (k49), nrmA rfl ?_⟩ | refine ⟨_, op_call1 rfl rfl rfl rfl (k67), nrmA rfl ?_⟩ | refine ⟨_, op_call1 rfl rfl rfl rfl (k74), nrmA rfl ?_⟩ | refine ⟨_, op_call1 rfl rfl rfl rfl (f28), nrmA rfl ?_⟩ | refine ⟨_, op_eqlB hT rfl rfl rfl rfl rfl rfl, ?_⟩) | (with_reducible refine AL_id ?_); (fail_if_success (refine AL_glit rfl rfl rfl (by first | exact .inl (by with_reducible rfl) | exact .inr (by with_reducible rfl)) ?_)); first | refine AL_gdec rfl rfl rfl (fun hg => ?_) (fun hg => ?_) | refine AL_gnot rfl rfl rfl (fun hg => ?_) (fun hg => ?_) | refine AL_gcases rfl rfl rfl (fun hg => ?_) (fun hg => ?_)))
          exact ⟨_, _, rfl, rfl, rfl⟩
  · (repeat' (first | refine stq ?_ | (refine AL_do2 rfl ?_; first | refine ⟨_, op_call1 rfl rfl rfl rfl (k27), nrmA rfl ?_⟩ | refine ⟨_, op_call1 rfl rfl rfl rfl (k46), nrmA rfl ?_⟩ | refine ⟨_, op_call1 rfl rfl rfl rfl (k47), nrmA rfl ?_⟩ | refine ⟨_, op_call1 rfl rfl rfl rfl (f28), nrmA rfl ?_⟩) | (with_reducible refine AL_id ?_); (fail_if_success (refine AL_glit rfl rfl rfl (by first | exact .inl (by with_reducible rfl) | exact .inr (by with_reducible rfl)) ?_)); first | refine AL_gdec rfl rfl rfl (fun hg => ?_) (fun hg => ?_) | refine AL_gnot rfl rfl rfl (fun hg => ?_) (fun hg => ?_) | refine AL_gcases rfl rfl rfl (fun hg => ?_) (fun hg => ?_)))
    all_goals (first | exact ⟨_, _, rfl, rfl, rfl⟩ | skip)
    refine AW_cond rfl (fun hc => ?_) (fun hc => ?_)
    · (repeat' (first | refine stq ?_ | (refine AL_do2 rfl ?_; first | refine ⟨_, op_call1 rfl rfl rfl rfl (f28), nrmA rfl ?_⟩) | (with_reducible refine AL_id ?_); (fail_if_success (refine AL_glit rfl rfl rfl (by first | exact .inl (by with_reducible rfl) | exact .inr (by with_reducible rfl)) ?_)); first | refine AL_gdec rfl rfl rfl (fun hg => ?_) (fun hg => ?_) | refine AL_gnot rfl rfl rfl (fun hg => ?_) (fun hg => ?_) | refine AL_gcases rfl rfl rfl (fun hg => ?_) (fun hg => ?_)))
      exact ⟨_, _, rfl, rfl, rfl⟩
    · exfalso; apply hs; simp_all
theorem lessI_trans {l : List Stock} {a b c : Int} (h1 : lessI l a b = false) (h2 : lessI l b c = false) : lessI l a c = false := by
  simp only [lessI, decide_eq_false_iff_not] at h1 h2 ⊢; omega
theorem lessI_irrefl {l : List Stock} {a : Int} : lessI l a a = false := by
  simp only [lessI, decide_eq_false_iff_not]; omega
theorem lessI_asym {l : List Stock} {a b : Int} (h : lessI l a b = true) : lessI l b a = false := by
  simp only [lessI, decide_eq_false_iff_not, decide_eq_true_eq] at h ⊢; omega
theorem bestI_min {l : List Stock} {p : Int → Int → Bool} : ∀ (L : List Int), (∀ x ∈ L, ∀ y ∈ L, p x y = lessI l x y) → ∀ x ∈ L, lessI l x (bestI p L) = false := by
  intro L
  refine snocInd (p := fun L => (∀ x ∈ L, ∀ y ∈ L, p x y = lessI l x y) → ∀ x ∈ L, lessI l x (bestI p L) = false) (fun _ x h => by cases h) (fun L z ih hp x hx => ?_) L
  have hs := bestI_snoc p L z
  rw [hs]
  by_cases h0 : L.length = 0
  · rw [if_pos h0]
    have : L = [] := List.length_eq_zero_iff.1 h0
    subst this
    simp only [List.nil_append, List.mem_singleton] at hx
    subst hx; exact lessI_irrefl
  · rw [if_neg h0]
    have ih := ih fun u hu v hv => hp u (by simp [hu]) v (by simp [hv])
    have hbm := bestI_mem p L (by omega)
    rw [hp z (by simp) _ (by simp [hbm])]
    cases hb : lessI l z (bestI p L) with
    | true =>
      show lessI l x z = false
      rcases List.mem_append.1 hx with hx | hx
      · exact lessI_trans (ih x hx) (lessI_asym hb)
      · simp only [List.mem_singleton] at hx; subst hx; exact lessI_irrefl
    | false =>
      show lessI l x (bestI p L) = false
      rcases List.mem_append.1 hx with hx | hx
      · exact ih x hx
      · simp only [List.mem_singleton] at hx; subst hx; exact hb
theorem sets_mem {h : List Dye} {c : Coat} {l : List Stock} {set : Int} (hb : setB set l.length = true) : set ∈ setsI h c l (2 ^ l.length) ↔ suitsI h c l set = true := by
  simp only [setB, Bool.and_eq_true, decide_eq_true_eq] at hb
  simp only [setsI, List.mem_filter, List.mem_map, List.mem_range, Int.ofNat_eq_natCast]
  constructor
  · rintro ⟨_, h⟩; exact h
  · intro h; exact ⟨⟨set.toNat, by omega, by omega⟩, h⟩
set_option maxHeartbeats 2000000 in
theorem f16 (h : List Dye) (c : Coat) (l : List Stock) (set : Int) : ACalls Tryz.prog 16 [eHouse h, eCoat c, eStocks l, vi set] (fun r => r = .pv (.bool true)) := by
  have k27 := f27 h
  have k46 := f46 c
  have k47 := f47 l
  refine ACalls.of_body hT Tryz.func16 rfl (by kernel_rfl) rfl ?_
  by_cases hs : slimB h = true ∧ tidyB c = true ∧ stockedB l = true
  · obtain ⟨hs, ht, hk⟩ := hs
    rw [hs] at k27
    rw [ht] at k46
    rw [hk] at k47
    have hOK := slim_houseOK hs
    have hcO := (tidy_ok ht).2.2.2
    have hsO := (stocked_ok hk).2.2
    have hl7 := (stocked_ok hk).1
    have k49 := f49 h c l hOK hcO hsO
    cases ha : (isHouseB h && isCoatB h c && areStocksB h l 1) with
    | false =>
      rw [ha] at k49
      (repeat' (first | refine stq ?_ | (refine AL_do2 rfl ?_; first | refine ⟨_, op_call1 rfl rfl rfl rfl (k27), nrmA rfl ?_⟩ | refine ⟨_, op_call1 rfl rfl rfl rfl (k46), nrmA rfl ?_⟩ | refine ⟨_, op_call1 rfl rfl rfl rfl (k47), nrmA rfl ?_⟩ | refine ⟨_, op_call1 rfl rfl rfl rfl (k49), nrmA rfl ?_⟩ | refine ⟨_, op_call1 rfl rfl rfl rfl (f28), nrmA rfl ?_⟩) | (with_reducible refine AL_id ?_); (fail_if_success (refine AL_glit rfl rfl rfl (by first | exact .inl (by with_reducible rfl) | exact .inr (by with_reducible rfl)) ?_)); first | refine AL_gdec rfl rfl rfl (fun hg => ?_) (fun hg => ?_) | refine AL_gnot rfl rfl rfl (fun hg => ?_) (fun hg => ?_) | refine AL_gcases rfl rfl rfl (fun hg => ?_) (fun hg => ?_)))
      exact ⟨_, _, rfl, rfl, rfl⟩
    | true =>
      rw [ha] at k49
      obtain ⟨w1, w2, w3⟩ := asked_of ha
      have hS := stocksP_of w3
      have hS1 := hS.1
      have k67 := f67 set l.length hS.1
      cases hb : setB set l.length with
      | false =>
        rw [hb] at k67
        (repeat' (first | refine stq ?_ | (refine AL_do2 rfl ?_; first | refine ⟨_, op_call1 rfl rfl rfl rfl (k27), nrmA rfl ?_⟩ | refine ⟨_, op_call1 rfl rfl rfl rfl (k46), nrmA rfl ?_⟩ | refine ⟨_, op_call1 rfl rfl rfl rfl (k47), nrmA rfl ?_⟩ | refine ⟨_, op_call1 rfl rfl rfl rfl (k49), nrmA rfl ?_⟩ | refine ⟨_, op_call1 rfl rfl rfl rfl (k67), nrmA rfl ?_⟩ | refine ⟨_, op_call1 rfl rfl rfl rfl (f28), nrmA rfl ?_⟩) | (with_reducible refine AL_id ?_); (fail_if_success (refine AL_glit rfl rfl rfl (by first | exact .inl (by with_reducible rfl) | exact .inr (by with_reducible rfl)) ?_)); first | refine AL_gdec rfl rfl rfl (fun hg => ?_) (fun hg => ?_) | refine AL_gnot rfl rfl rfl (fun hg => ?_) (fun hg => ?_) | refine AL_gcases rfl rfl rfl (fun hg => ?_) (fun hg => ?_)))
        exact ⟨_, _, rfl, rfl, rfl⟩
      | true =>
        rw [hb] at k67
        have hpr : ∀ s ∈ l, 0 ≤ s.price ∧ s.price ≤ 999 := fun s hx => ⟨(hS.2 s hx).2.2.2.1, (hS.2 s hx).2.2.2.2⟩
        have eS : ∀ t, setB t l.length = true → ACalls Tryz.prog 73 [eHouse h, eCoat c, eStocks l, vi t] (fun r => r = .tup [.bool (suitsI h c l t), vi 0]) := fun t ht => by
          have := f73 h c l t hOK hcO hsO (by omega)
          rw [show suitsE h c l t = (suitsI h c l t, 0) by unfold suitsE; rw [if_pos (by rw [ha, set_in, ht]; rfl)]] at this
          exact this
        have k73 := eS set hb
        have k48 := f48 h c l hOK hcO hsO
        rw [coatE_eq ha] at k48
        have hB := bstI_bd h c l (2 ^ l.length)
        by_cases h0 : bstI h c l (2 ^ l.length) < 0
        · rw [if_pos h0] at k48
          have hno : suitsI h c l set = false := by
            cases hq : suitsI h c l set with
            | false => rfl
            | true =>
              have := (sets_mem (h := h) (c := c) hb).2 hq
              have := List.length_pos_of_mem this
              omega
          rw [hno] at k73
          have k48 : ACalls Tryz.prog 48 [eHouse h, eCoat c, eStocks l] (fun r => r = .tup [vi 0, vi 5]) := k48
          (repeat' (first | refine stq ?_ | (refine AL_do2 rfl ?_; first | refine ⟨_, op_call1 rfl rfl rfl rfl (k27), nrmA rfl ?_⟩ | refine ⟨_, op_call1 rfl rfl rfl rfl (k46), nrmA rfl ?_⟩ | refine ⟨_, op_call1 rfl rfl rfl rfl (k47), nrmA rfl ?_⟩ | refine ⟨_, op_call1 rfl rfl rfl rfl (k49), nrmA rfl ?_⟩ | refine ⟨_, op_call1 rfl rfl rfl rfl (k67), nrmA rfl ?_⟩ | refine ⟨_, op_call1 rfl rfl rfl rfl (k48), nrmA rfl ?_⟩ | refine ⟨_, op_call1 rfl rfl rfl rfl (k73), nrmA rfl ?_⟩ | refine ⟨_, op_call1 rfl rfl rfl rfl (f28), nrmA rfl ?_⟩) | (with_reducible refine AL_id ?_); (fail_if_success (refine AL_glit rfl rfl rfl (by first | exact .inl (by with_reducible rfl) | exact .inr (by with_reducible rfl)) ?_)); first | refine AL_gdec rfl rfl rfl (fun hg => ?_) (fun hg => ?_) | refine AL_gnot rfl rfl rfl (fun hg => ?_) (fun hg => ?_) | refine AL_gcases rfl rfl rfl (fun hg => ?_) (fun hg => ?_)))
          exact ⟨_, _, rfl, rfl, rfl⟩
        · rw [if_neg h0] at k48
          have hlen := hB.2.2.1 (by omega)
          have eB : bstI h c l (2 ^ l.length) = bestI (betterI l) (setsI h c l (2 ^ l.length)) := by unfold bstI; rw [if_pos hlen]
          have hbm := bestI_mem (betterI l) _ hlen
          rw [← eB] at hbm
          have hb2 : setB (bstI h c l (2 ^ l.length)) l.length = true := by
            simp only [setB, Bool.and_eq_true, decide_eq_true_eq]; omega
          have hsu := (sets_mem (h := h) (c := c) hb2).1 hbm
          have hmin : suitsI h c l set = true → lessI l set (bstI h c l (2 ^ l.length)) = false := fun hq => by
            rw [eB]
            exact bestI_min _ (fun x hx y hy => by
              have := setsI_bd x hx; have := setsI_bd y hy
              exact better_less hS.1 (by omega) (by omega)) set ((sets_mem hb).2 hq)
          have k73b := eS _ hb2
          rw [hsu] at k73b
          have k67b := f67 (bstI h c l (2 ^ l.length)) l.length hS.1
          rw [hb2] at k67b
          have k75 := f75 l set (bstI h c l (2 ^ l.length)) (by omega) hpr
          generalize bstI h c l (2 ^ l.length) = B at k48 k73b k67b k75 hmin
          have k48 : ACalls Tryz.prog 48 [eHouse h, eCoat c, eStocks l] (fun r => r = .tup [vi B, vi 0]) := k48
          cases hq : suitsI h c l set with
          | false =>
            rw [hq] at k73
            (repeat' (first | refine stq ?_ | (refine AL_do2 rfl ?_; first | refine ⟨_, op_call1 rfl rfl rfl rfl (k27), nrmA rfl ?_⟩ | refine ⟨_, op_call1 rfl rfl rfl rfl (k46), nrmA rfl ?_⟩ | refine ⟨_, op_call1 rfl rfl rfl rfl (k47), nrmA rfl ?_⟩ | refine ⟨_, op_call1 rfl rfl rfl rfl (k49), nrmA rfl ?_⟩ | refine ⟨_, op_call1 rfl rfl rfl rfl (k67), nrmA rfl ?_⟩ | refine ⟨_, op_call1 rfl rfl rfl rfl (k48), nrmA rfl ?_⟩ | refine ⟨_, op_call1 rfl rfl rfl rfl (k73), nrmA rfl ?_⟩ | refine ⟨_, op_call1 rfl rfl rfl rfl (k73b), nrmA rfl ?_⟩ | refine ⟨_, op_call1 rfl rfl rfl rfl (k67b), nrmA rfl ?_⟩ | refine ⟨_, op_call1 rfl rfl rfl rfl (f28), nrmA rfl ?_⟩) | (with_reducible refine AL_id ?_); (fail_if_success (refine AL_glit rfl rfl rfl (by first | exact .inl (by with_reducible rfl) | exact .inr (by with_reducible rfl)) ?_)); first | refine AL_gdec rfl rfl rfl (fun hg => ?_) (fun hg => ?_) | refine AL_gnot rfl rfl rfl (fun hg => ?_) (fun hg => ?_) | refine AL_gcases rfl rfl rfl (fun hg => ?_) (fun hg => ?_)))
            exact ⟨_, _, rfl, rfl, rfl⟩
          | true =>
            rw [hq] at k73
            rw [hmin hq] at k75
            (repeat' (first | refine stq ?_ | (refine AL_do2 rfl ?_; first | refine ⟨_, op_call1 rfl rfl rfl rfl (k27), nrmA rfl ?_⟩ | refine ⟨_, op_call1 rfl rfl rfl rfl (k46), nrmA rfl ?_⟩ | refine ⟨_, op_call1 rfl rfl rfl rfl (k47), nrmA rfl ?_⟩ | refine ⟨_, op_call1 rfl rfl rfl rfl (k49), nrmA rfl ?_⟩ | refine ⟨_, op_call1 rfl rfl rfl rfl (k67), nrmA rfl ?_⟩ | refine ⟨_, op_call1 rfl rfl rfl rfl (k48), nrmA rfl ?_⟩ | refine ⟨_, op_call1 rfl rfl rfl rfl (k73), nrmA rfl ?_⟩ | refine ⟨_, op_call1 rfl rfl rfl rfl (k73b), nrmA rfl ?_⟩ | refine ⟨_, op_call1 rfl rfl rfl rfl (k67b), nrmA rfl ?_⟩ | refine ⟨_, op_call1 rfl rfl rfl rfl (k75), nrmA rfl ?_⟩ | refine ⟨_, op_call1 rfl rfl rfl rfl (f28), nrmA rfl ?_⟩) | (with_reducible refine AL_id ?_); (fail_if_success (refine AL_glit rfl rfl rfl (by first | exact .inl (by with_reducible rfl) | exact .inr (by with_reducible rfl)) ?_)); first | refine AL_gdec rfl rfl rfl (fun hg => ?_) (fun hg => ?_) | refine AL_gnot rfl rfl rfl (fun hg => ?_) (fun hg => ?_) | refine AL_gcases rfl rfl rfl (fun hg => ?_) (fun hg => ?_)))
            exact ⟨_, _, rfl, rfl, rfl⟩
  · cases q1 : slimB h with
    | false =>
      rw [q1] at k27
      (repeat' (first | refine stq ?_ | (refine AL_do2 rfl ?_; first | refine ⟨_, op_call1 rfl rfl rfl rfl (k27), nrmA rfl ?_⟩ | refine ⟨_, op_call1 rfl rfl rfl rfl (f28), nrmA rfl ?_⟩) | (with_reducible refine AL_id ?_); (fail_if_success (refine AL_glit rfl rfl rfl (by first | exact .inl (by with_reducible rfl) | exact .inr (by with_reducible rfl)) ?_)); first | refine AL_gdec rfl rfl rfl (fun hg => ?_) (fun hg => ?_) | refine AL_gnot rfl rfl rfl (fun hg => ?_) (fun hg => ?_) | refine AL_gcases rfl rfl rfl (fun hg => ?_) (fun hg => ?_)))
      exact ⟨_, _, rfl, rfl, rfl⟩
    | true =>
      rw [q1] at k27
      cases q2 : tidyB c with
      | false =>
        rw [q2] at k46
        (repeat' (first | refine stq ?_ | (refine AL_do2 rfl ?_; first | refine ⟨_, op_call1 rfl rfl rfl rfl (k27), nrmA rfl ?_⟩ | refine ⟨_, op_call1 rfl rfl rfl rfl (k46), nrmA rfl ?_⟩ | refine ⟨_, op_call1 rfl rfl rfl rfl (f28), nrmA rfl ?_⟩) | (with_reducible refine AL_id ?_); (fail_if_success (refine AL_glit rfl rfl rfl (by first | exact .inl (by with_reducible rfl) | exact .inr (by with_reducible rfl)) ?_)); first | refine AL_gdec rfl rfl rfl (fun hg => ?_) (fun hg => ?_) | refine AL_gnot rfl rfl rfl (fun hg => ?_) (fun hg => ?_) | refine AL_gcases rfl rfl rfl (fun hg => ?_) (fun hg => ?_)))
        exact ⟨_, _, rfl, rfl, rfl⟩
      | true =>
        rw [q2] at k46
        cases q3 : stockedB l with
        | false =>
          rw [q3] at k47
          (repeat' (first | refine stq ?_ | (refine AL_do2 rfl ?_; first | refine ⟨_, op_call1 rfl rfl rfl rfl (k27), nrmA rfl ?_⟩ | refine ⟨_, op_call1 rfl rfl rfl rfl (k46), nrmA rfl ?_⟩ | refine ⟨_, op_call1 rfl rfl rfl rfl (k47), nrmA rfl ?_⟩ | refine ⟨_, op_call1 rfl rfl rfl rfl (f28), nrmA rfl ?_⟩) | (with_reducible refine AL_id ?_); (fail_if_success (refine AL_glit rfl rfl rfl (by first | exact .inl (by with_reducible rfl) | exact .inr (by with_reducible rfl)) ?_)); first | refine AL_gdec rfl rfl rfl (fun hg => ?_) (fun hg => ?_) | refine AL_gnot rfl rfl rfl (fun hg => ?_) (fun hg => ?_) | refine AL_gcases rfl rfl rfl (fun hg => ?_) (fun hg => ?_)))
          exact ⟨_, _, rfl, rfl, rfl⟩
        | true => exact absurd ⟨q1, q2, q3⟩ hs
end Go.Abs
