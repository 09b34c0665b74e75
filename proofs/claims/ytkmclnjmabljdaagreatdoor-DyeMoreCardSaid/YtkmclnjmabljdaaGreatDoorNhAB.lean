/- DyeMore. -/
import Derived.Test.YtkmclnjmabljdaaGreatDoorNhN
import Derived.Test.YtkmclnjmabljdaaGreatDoorNhD
import Derived.Test.YtkmclnjmabljdaaGreatDoorNcAbsAG
set_option linter.unusedVariables false
set_option linter.unusedSimpArgs false

namespace Go.Abs
open Go.Proofs
set_option linter.unusedVariables false
set_option linter.unusedSimpArgs false
set_option maxRecDepth 100000

theorem f64 (s : Span) (up down : Int) (h1 : -10000 ≤ s.low ∧ s.low ≤ 10000) (h2 : -10000 ≤ s.high ∧ s.high ≤ 10000) (h3 : 0 ≤ up ∧ up ≤ 1000) (h4 : 0 ≤ down ∧ down ≤ 1000) : ACalls Tryz.prog 64 [eS s, vi up, vi down] (fun r => r = .pv (eS (closerI up down s))) := by
  refine ACalls.of_body hT Tryz.func64 rfl (by kernel_rfl) rfl ?_
  (repeat' (first | refine stq ?_ | (refine AL_do2 rfl ?_; first | refine ⟨_, op_call1 rfl rfl rfl rfl (f61 (min s.high (s.low + up)) (max (min s.high (s.low + up)) (s.high - down))), ?_⟩) | (with_reducible refine AL_id ?_); (fail_if_success (refine AL_glit rfl rfl rfl (by first | exact .inl (by with_reducible rfl) | exact .inr (by with_reducible rfl)) ?_)); first | refine AL_gdec rfl rfl rfl (fun hg => ?_) (fun hg => ?_) | refine AL_gnot rfl rfl rfl (fun hg => ?_) (fun hg => ?_) | refine AL_gcases rfl rfl rfl (fun hg => ?_) (fun hg => ?_)))
  exact ⟨_, _, rfl, rfl, rfl⟩
theorem f65 (l : List Bath) (up down : Int) (hl : l.length ≤ 1000) (hb : ∀ b ∈ l, 0 ≤ b.hours.low ∧ b.hours.low ≤ 1000 ∧ 0 ≤ b.hours.high ∧ b.hours.high ≤ 1000) (h3 : 0 ≤ up ∧ up ≤ 1000) (h4 : 0 ≤ down ∧ down ≤ 1000) : ACalls Tryz.prog 65 [eBaths l, vi up, vi down] (fun r => r = .own 154 4 ((l.map (closeBath up down)).map eBath)) := by
  refine ACalls.of_body hT Tryz.func65 rfl (by kernel_rfl) rfl ?_
  (repeat (refine stq ?_))
  refine AL_do2 rfl ⟨_, op_append_nil1 (e := 154) (sz := 4) hT rfl rfl rfl rfl rfl rfl rfl rfl rfl rfl (by intro y hy; (first | (simp only [List.mem_cons, List.not_mem_nil, or_false] at hy; subst hy; rfl) | (simp only [List.mem_cons, List.not_mem_nil, or_false] at hy; rcases hy with hy | hy <;> subst hy <;> rfl) | (obtain ⟨_, _, rfl⟩ := List.mem_map.1 hy; rfl) | (cases hy))) (by simp only [List.length_map, List.length_take, List.length_cons, List.length_nil, List.length_append]; omega) rfl, ?_⟩
  (repeat (refine stq ?_))
  refine AW_loopC (fun k : Nat => k ≤ l.length) (fun k => mkSt [(1, .pv (vi up)), (2, .pv (vi down)), (7, .arr 0), (8, .pv (vi k))] [(0, .arr 154 4 (((l.take k).map (closeBath up down) ++ l.drop k).map eBath))] 1) (fun k => l.length - k) 0 (Nat.zero_le _) ?_ ?_
  · (refine Le.mk ?_ ?_; all_goals (repeat' (first | exact trivial | refine sle ?_ | refine ⟨?_, rfl, ?_⟩ | refine ⟨?_, by decide, rfl, ?_⟩ | fail)))
  · intro k hk
    have hml0 : ((l.take k).map (closeBath up down) ++ l.drop k).length = l.length := by simp; omega
    have hml : (((l.take k).map (closeBath up down) ++ l.drop k).map eBath).length = l.length := by rw [List.length_map, hml0]
    (repeat (refine stq ?_))
    refine AW_if rfl (fun hc => ?_) (fun hc => ?_)
    · have hk' : k < l.length := by rw [hml0] at hc; omega
      obtain ⟨b, hbx⟩ : ∃ b, l[k]? = some b := ⟨l[k], by simp [hk']⟩
      have hbb := hb b (List.mem_of_getElem? hbx)
      have e1 : (((l.take k).map (closeBath up down) ++ l.drop k).map eBath)[k]? = some (eBath b) := by
        rw [List.getElem?_map, List.getElem?_append_right (by simp; omega), List.getElem?_drop]
        have : k + (k - ((l.take k).map (closeBath up down)).length) = k := by simp; omega
        rw [this, hbx]; rfl
      have hst : (((l.take k).map (closeBath up down) ++ l.drop k).map eBath).set k (eBath (closeBath up down b)) = ((l.take (k + 1)).map (closeBath up down) ++ l.drop (k + 1)).map eBath := by
        rw [← List.map_set, List.set_append_right _ _ (by simp; omega)]
        have h1 : k - ((l.take k).map (closeBath up down)).length = 0 := by simp; omega
        rw [h1, List.drop_eq_getElem_cons hk', List.set_cons_zero, map_take_succ _ hbx, List.append_assoc]; rfl
      (repeat (refine stq ?_))
      refine AL_do2 rfl ⟨_, op_indexAddr_arr hT rfl rfl rfl rfl rfl rfl rfl rfl (by omega) (by rw [hml]; omega) rfl, ?_⟩
      (repeat (refine stq ?_))
      refine AL_do2 rfl ⟨_, op_load_aptr (el := eBath b) hT rfl rfl rfl rfl rfl e1 rfl, ?_⟩
      (repeat' (first | refine stq ?_ | (refine AL_do2 rfl ?_; first | refine ⟨_, op_call1 rfl rfl rfl rfl (f64 b.hours up down (by omega) (by omega) h3 h4), nrmA rfl ?_⟩) | (with_reducible refine AL_id ?_); (fail_if_success (refine AL_glit rfl rfl rfl (by first | exact .inl (by with_reducible rfl) | exact .inr (by with_reducible rfl)) ?_)); first | refine AL_gdec rfl rfl rfl (fun hg => ?_) (fun hg => ?_) | refine AL_gnot rfl rfl rfl (fun hg => ?_) (fun hg => ?_) | refine AL_gcases rfl rfl rfl (fun hg => ?_) (fun hg => ?_)))
      refine AL_do2 rfl ⟨_, op_indexAddr_arr hT rfl rfl rfl rfl rfl rfl rfl rfl (by omega) (by rw [hml]; omega) rfl, ?_⟩
      (repeat (refine stq ?_))
      refine AL_do2 rfl ⟨_, op_store_aptr (el := eBath b) hT rfl rfl rfl rfl rfl e1 rfl rfl rfl rfl, ?_⟩
      (repeat (refine stq ?_))
      refine ⟨k + 1, hk', by omega, ?_⟩
      (refine Le.mk ?_ ?_; all_goals (repeat' (first | exact trivial | refine sle ?_ | refine ⟨?_, rfl, ?_⟩ | refine ⟨?_, by decide, rfl, ?_⟩ | fail)))
      show some (AObj.arr 154 4 ((((l.take k).map (closeBath up down) ++ l.drop k).map eBath).set k (eBath (closeBath up down b)))) = some (AObj.arr 154 4 (((l.take (k + 1)).map (closeBath up down) ++ l.drop (k + 1)).map eBath))
      rw [hst]
    · have hk' : k = l.length := by rw [hml0] at hc; omega
      subst hk'
      (repeat (refine stq ?_))
      exact ⟨_, _, rfl, rfl, by simp⟩
/-- The stocks with more buttons, and the coat that needs fewer. -/
def richer (more : Int) (s : Stock) : Stock := ⟨s.baths, min 99 (s.many + more), s.price⟩
def lesser (more : Int) (c : Coat) : Coat := ⟨c.lamps, c.eye, c.old, max 1 (c.need - more)⟩
theorem chosen_map (f : Stock → Stock) (l : List Stock) (set : Int) : chosenL (l.map f) set = (chosenL l set).map f := by
  unfold chosenL
  rw [List.zipIdx_map, List.filter_map, List.map_map, List.map_map]; rfl
theorem ok_rich {h : List Dye} {c : Coat} {more : Int} {pre : List Stock} {s : Stock} : okI h (lesser more c) (pre.map (richer more)) (richer more s) = okI h c pre s := by
  unfold okI lesser richer
  simp only [List.all_map]; rfl
theorem okUp_rich {h : List Dye} {c : Coat} {l : List Stock} {set more : Int} (hu : okUp h c l set l.length) : okUp h (lesser more c) (l.map (richer more)) set (l.map (richer more)).length := fun i s hi hs hb => by
  rw [List.getElem?_map, Option.map_eq_some_iff] at hs
  obtain ⟨t, ht, rfl⟩ := hs
  rw [← List.map_take, chosen_map, ok_rich]
  exact hu i t (List.getElem?_eq_some_iff.1 ht).1 ht hb
theorem sum_mono {α : Type} {f g : α → Int} : ∀ {l : List α}, (∀ x ∈ l, f x ≤ g x) → sumI (l.map f) ≤ sumI (l.map g)
  | [], _ => Int.le_refl _
  | x :: l, h => by
    have h1 := h x (by simp)
    have h2 := sum_mono (l := l) fun y hy => h y (by simp [hy])
    simp only [List.map_cons, sumI]; omega
theorem suits_rich {h : List Dye} {c : Coat} {l : List Stock} {set more : Int} (hm : 0 ≤ more) (hn : 1 ≤ c.need) (hl : ∀ s ∈ l, s.many ≤ 99) (hs : suitsI h c l set = true) : suitsI h (lesser more c) (l.map (richer more)) set = true := by
  unfold suitsI at hs ⊢
  simp only [Bool.and_eq_true, decide_eq_true_eq] at hs ⊢
  refine ⟨all_ok.2 (okUp_rich (all_ok.1 hs.1)), ?_⟩
  rw [chosen_map, List.map_map]
  have h1 : sumI ((chosenL l set).map fun s : Stock => s.many) ≤ sumI ((chosenL l set).map ((fun s : Stock => s.many) ∘ richer more)) := sum_mono fun s hsm => by
    have := hl s (chosenL_mem hsm)
    simp only [Function.comp, richer]; omega
  have h2 := hs.2
  simp only [lesser]
  omega
theorem less_rich {l : List Stock} {more a b : Int} : lessI (l.map (richer more)) a b = lessI l a b := by
  have e : ∀ s, priceC (l.map (richer more)) s = priceC l s := fun s => by
    unfold priceC; rw [chosen_map, List.map_map]; rfl
  unfold lessI
  rw [e, e, chosen_map, chosen_map, List.length_map, List.length_map]
theorem more_coat {h : List Dye} {c : Coat} {l : List Stock} {more : Int} (hl : l.length ≤ 5) (hm : 0 ≤ more) (hn : 1 ≤ c.need) (hl9 : ∀ s ∈ l, s.many ≤ 99) (h0 : 0 ≤ bstI h c l (2 ^ l.length)) :
    0 ≤ bstI h (lesser more c) (l.map (richer more)) (2 ^ l.length) ∧ (chosenL l (bstI h (lesser more c) (l.map (richer more)) (2 ^ l.length))).length ≤ (chosenL l (bstI h c l (2 ^ l.length))).length := by
  have b1 := bstI_bd h c l (2 ^ l.length)
  have hlen := b1.2.2.1 h0
  have e1 : bstI h c l (2 ^ l.length) = bestI (betterI l) (setsI h c l (2 ^ l.length)) := by unfold bstI; rw [if_pos hlen]
  have hm1 := bestI_mem (betterI l) _ hlen
  rw [← e1] at hm1
  have hsub : ∀ x ∈ setsI h c l (2 ^ l.length), x ∈ setsI h (lesser more c) (l.map (richer more)) (2 ^ l.length) := fun x hx => by
    simp only [setsI, List.mem_filter] at hx ⊢
    exact ⟨hx.1, suits_rich hm hn hl9 hx.2⟩
  have hm2 := hsub _ hm1
  have hlen2 : (setsI h (lesser more c) (l.map (richer more)) (2 ^ l.length)).length > 0 := List.length_pos_of_mem hm2
  have b2 := bstI_bd h (lesser more c) (l.map (richer more)) (2 ^ l.length)
  have e2 : bstI h (lesser more c) (l.map (richer more)) (2 ^ l.length) = bestI (betterI (l.map (richer more))) (setsI h (lesser more c) (l.map (richer more)) (2 ^ l.length)) := by unfold bstI; rw [if_pos hlen2]
  refine ⟨b2.2.2.2 hlen2, ?_⟩
  have hmin := bestI_min (l := l.map (richer more)) (setsI h (lesser more c) (l.map (richer more)) (2 ^ l.length)) (fun x hx y hy => by
    have := setsI_bd x hx; have := setsI_bd y hy
    exact better_less (by simpa using hl) (by simp only [List.length_map]; omega) (by simp only [List.length_map]; omega)) _ hm2
  rw [← e2, less_rich] at hmin
  simp only [lessI, decide_eq_false_iff_not] at hmin
  omega
theorem coat_less {h : List Dye} {c : Coat} {more : Int} (hm : 0 ≤ more) (hc : isCoatB h c = true) : isCoatB h (lesser more c) = true := by
  unfold isCoatB at hc ⊢
  rw [Bool.and_eq_true] at hc ⊢
  refine ⟨hc.1, ?_⟩
  have h2 := hc.2
  simp only [inB, Bool.and_eq_true, decide_eq_true_eq] at h2 ⊢
  show 1 ≤ max 1 (c.need - more) ∧ max 1 (c.need - more) ≤ 300
  omega
theorem stocks_rich {h : List Dye} {l : List Stock} {more : Int} (hm : 0 ≤ more) (hl : areStocksB h l 1 = true) : areStocksB h (l.map (richer more)) 1 = true := by
  simp only [areStocksB, Bool.and_eq_true, Bool.not_eq_true', List.any_eq_false, List.length_map, Bool.not_eq_false] at hl ⊢
  refine ⟨hl.1, fun s' hs' => ?_⟩
  obtain ⟨s, hs, rfl⟩ := List.mem_map.1 hs'
  have h1 := hl.2 s hs
  unfold isStockB at h1 ⊢
  rw [Bool.and_eq_true, Bool.and_eq_true] at h1 ⊢
  refine ⟨⟨h1.1.1, ?_⟩, h1.2⟩
  have h3 := h1.1.2
  simp only [inB, Bool.and_eq_true, decide_eq_true_eq] at h3 ⊢
  show 0 ≤ min 99 (s.many + more) ∧ min 99 (s.many + more) ≤ 99
  omega
abbrev moE (a b : List Bath) (up down : Int) (l : List Stock) (more : Int) : List (Nat × FV) := [(1, .pv (eBaths a)), (2, .pv (eBaths b)), (3, .pv (vi up)), (4, .pv (vi down)), (6, .pv (eStocks l)), (7, .pv (vi more)), (8, .box 0 0), (13, .box 1 0), (17, .box 2 0)]
abbrev moO (h : List Dye) (c : Coat) : List (Nat × AObj) := [(0, .box [.pv (.sl (h.map eDye))]), (1, .box [.pv (eLamps c.lamps), .pv (vi c.eye.low), .pv (vi c.eye.high), .pv (eSpans c.old), .pv (vi c.need)])]
set_option maxHeartbeats 32000000 in
theorem f12 (h : List Dye) (a b : List Bath) (up down : Int) (c : Coat) (l : List Stock) (more : Int) :
    ACalls Tryz.prog 12 [eHouse h, eBaths a, eBaths b, vi up, vi down, eCoat c, eStocks l, vi more] (fun r => r = .pv (.bool true)) := by
  have k27 := f27 h
  have k46 := f46 c
  have k47 := f47 l
  refine ACalls.of_body hT Tryz.func12 rfl (by kernel_rfl) rfl ?_
  cases q1 : slimB h with
  | false =>
    rw [q1] at k27
    (repeat' (first | refine stq ?_ | (refine AL_do2 rfl ?_; first | refine ⟨_, op_call1 rfl rfl rfl rfl (k27), nrmA rfl ?_⟩ | refine ⟨_, op_call1 rfl rfl rfl rfl (k46), nrmA rfl ?_⟩ | refine ⟨_, op_call1 rfl rfl rfl rfl (k47), nrmA rfl ?_⟩ | refine ⟨_, op_call1 rfl rfl rfl rfl (f28), nrmA rfl ?_⟩) | ((first | (with_reducible refine AL_id ?_); (fail_if_success (refine AL_glit rfl rfl rfl (by first | exact .inl (by with_reducible rfl) | exact .inr (by with_reducible rfl)) ?_)); first | refine AL_gdec rfl rfl rfl (fun hg => ?_) (fun hg => ?_) | refine AL_gnot rfl rfl rfl (fun hg => ?_) (fun hg => ?_) | refine AL_gcases rfl rfl rfl (fun hg => ?_) (fun hg => ?_)) <;> (try (exfalso; omega))) | refine AW_if rfl (fun hc => absurd hc (by omega)) (fun _ => ?_) | refine AW_if rfl (fun _ => ?_) (fun hc => absurd (by omega) hc)))
    all_goals exact ⟨_, _, rfl, rfl, rfl⟩
  | true =>
    rw [q1] at k27
    by_cases q2 : a.length ≤ 5
    · by_cases q3 : b.length ≤ 5
      · cases q4 : tidyB c with
        | false =>
          rw [q4] at k46
          (repeat' (first | refine stq ?_ | (refine AL_do2 rfl ?_; first | refine ⟨_, op_call1 rfl rfl rfl rfl (k27), nrmA rfl ?_⟩ | refine ⟨_, op_call1 rfl rfl rfl rfl (k46), nrmA rfl ?_⟩ | refine ⟨_, op_call1 rfl rfl rfl rfl (k47), nrmA rfl ?_⟩ | refine ⟨_, op_call1 rfl rfl rfl rfl (f28), nrmA rfl ?_⟩) | ((first | (with_reducible refine AL_id ?_); (fail_if_success (refine AL_glit rfl rfl rfl (by first | exact .inl (by with_reducible rfl) | exact .inr (by with_reducible rfl)) ?_)); first | refine AL_gdec rfl rfl rfl (fun hg => ?_) (fun hg => ?_) | refine AL_gnot rfl rfl rfl (fun hg => ?_) (fun hg => ?_) | refine AL_gcases rfl rfl rfl (fun hg => ?_) (fun hg => ?_)) <;> (try (exfalso; omega))) | refine AW_if rfl (fun hc => absurd hc (by omega)) (fun _ => ?_) | refine AW_if rfl (fun _ => ?_) (fun hc => absurd (by omega) hc)))
          all_goals exact ⟨_, _, rfl, rfl, rfl⟩
        | true =>
          rw [q4] at k46
          cases q5 : stockedB l with
          | false =>
            rw [q5] at k47
            (repeat' (first | refine stq ?_ | (refine AL_do2 rfl ?_; first | refine ⟨_, op_call1 rfl rfl rfl rfl (k27), nrmA rfl ?_⟩ | refine ⟨_, op_call1 rfl rfl rfl rfl (k46), nrmA rfl ?_⟩ | refine ⟨_, op_call1 rfl rfl rfl rfl (k47), nrmA rfl ?_⟩ | refine ⟨_, op_call1 rfl rfl rfl rfl (f28), nrmA rfl ?_⟩) | ((first | (with_reducible refine AL_id ?_); (fail_if_success (refine AL_glit rfl rfl rfl (by first | exact .inl (by with_reducible rfl) | exact .inr (by with_reducible rfl)) ?_)); first | refine AL_gdec rfl rfl rfl (fun hg => ?_) (fun hg => ?_) | refine AL_gnot rfl rfl rfl (fun hg => ?_) (fun hg => ?_) | refine AL_gcases rfl rfl rfl (fun hg => ?_) (fun hg => ?_)) <;> (try (exfalso; omega))) | refine AW_if rfl (fun hc => absurd hc (by omega)) (fun _ => ?_) | refine AW_if rfl (fun _ => ?_) (fun hc => absurd (by omega) hc)))
            all_goals exact ⟨_, _, rfl, rfl, rfl⟩
          | true =>
            rw [q5] at k47
            have hOK := slim_houseOK q1
            have hcO := (tidy_ok q4).2.2.2
            have hsO := (stocked_ok q5).2.2
            have k49 := f49 h c l hOK hcO hsO
            have k31a := f31 h a hOK.1 (by omega)
            have k31b := f31 h b hOK.1 (by omega)
            cases ha : (isHouseB h && isCoatB h c && areStocksB h l 1) with
            | false =>
              rw [ha] at k49
              (repeat' (first | refine stq ?_ | (refine AL_do2 rfl ?_; first | refine ⟨_, op_call1 rfl rfl rfl rfl (k27), nrmA rfl ?_⟩ | refine ⟨_, op_call1 rfl rfl rfl rfl (k46), nrmA rfl ?_⟩ | refine ⟨_, op_call1 rfl rfl rfl rfl (k47), nrmA rfl ?_⟩ | refine ⟨_, op_call1 rfl rfl rfl rfl (k49), nrmA rfl ?_⟩ | refine ⟨_, op_call1 rfl rfl rfl rfl (k31a), nrmA rfl ?_⟩ | refine ⟨_, op_call1 rfl rfl rfl rfl (k31b), nrmA rfl ?_⟩ | refine ⟨_, op_call1 rfl rfl rfl rfl (f28), nrmA rfl ?_⟩) | ((first | (with_reducible refine AL_id ?_); (fail_if_success (refine AL_glit rfl rfl rfl (by first | exact .inl (by with_reducible rfl) | exact .inr (by with_reducible rfl)) ?_)); first | refine AL_gdec rfl rfl rfl (fun hg => ?_) (fun hg => ?_) | refine AL_gnot rfl rfl rfl (fun hg => ?_) (fun hg => ?_) | refine AL_gcases rfl rfl rfl (fun hg => ?_) (fun hg => ?_)) <;> (try (exfalso; omega))) | refine AW_if rfl (fun hc => absurd hc (by omega)) (fun _ => ?_) | refine AW_if rfl (fun _ => ?_) (fun hc => absurd (by omega) hc)))
              all_goals exact ⟨_, _, rfl, rfl, rfl⟩
            | true =>
              rw [ha] at k49
              cases c2 : isBatchB h a with
              | false =>
                rw [c2] at k31a
                (repeat' (first | refine stq ?_ | (refine AL_do2 rfl ?_; first | refine ⟨_, op_call1 rfl rfl rfl rfl (k27), nrmA rfl ?_⟩ | refine ⟨_, op_call1 rfl rfl rfl rfl (k46), nrmA rfl ?_⟩ | refine ⟨_, op_call1 rfl rfl rfl rfl (k47), nrmA rfl ?_⟩ | refine ⟨_, op_call1 rfl rfl rfl rfl (k49), nrmA rfl ?_⟩ | refine ⟨_, op_call1 rfl rfl rfl rfl (k31a), nrmA rfl ?_⟩ | refine ⟨_, op_call1 rfl rfl rfl rfl (k31b), nrmA rfl ?_⟩ | refine ⟨_, op_call1 rfl rfl rfl rfl (f28), nrmA rfl ?_⟩) | ((first | (with_reducible refine AL_id ?_); (fail_if_success (refine AL_glit rfl rfl rfl (by first | exact .inl (by with_reducible rfl) | exact .inr (by with_reducible rfl)) ?_)); first | refine AL_gdec rfl rfl rfl (fun hg => ?_) (fun hg => ?_) | refine AL_gnot rfl rfl rfl (fun hg => ?_) (fun hg => ?_) | refine AL_gcases rfl rfl rfl (fun hg => ?_) (fun hg => ?_)) <;> (try (exfalso; omega))) | refine AW_if rfl (fun hc => absurd hc (by omega)) (fun _ => ?_) | refine AW_if rfl (fun _ => ?_) (fun hc => absurd (by omega) hc)))
                all_goals exact ⟨_, _, rfl, rfl, rfl⟩
              | true =>
                rw [c2] at k31a
                cases c3 : isBatchB h b with
                | false =>
                  rw [c3] at k31b
                  (repeat' (first | refine stq ?_ | (refine AL_do2 rfl ?_; first | refine ⟨_, op_call1 rfl rfl rfl rfl (k27), nrmA rfl ?_⟩ | refine ⟨_, op_call1 rfl rfl rfl rfl (k46), nrmA rfl ?_⟩ | refine ⟨_, op_call1 rfl rfl rfl rfl (k47), nrmA rfl ?_⟩ | refine ⟨_, op_call1 rfl rfl rfl rfl (k49), nrmA rfl ?_⟩ | refine ⟨_, op_call1 rfl rfl rfl rfl (k31a), nrmA rfl ?_⟩ | refine ⟨_, op_call1 rfl rfl rfl rfl (k31b), nrmA rfl ?_⟩ | refine ⟨_, op_call1 rfl rfl rfl rfl (f28), nrmA rfl ?_⟩) | ((first | (with_reducible refine AL_id ?_); (fail_if_success (refine AL_glit rfl rfl rfl (by first | exact .inl (by with_reducible rfl) | exact .inr (by with_reducible rfl)) ?_)); first | refine AL_gdec rfl rfl rfl (fun hg => ?_) (fun hg => ?_) | refine AL_gnot rfl rfl rfl (fun hg => ?_) (fun hg => ?_) | refine AL_gcases rfl rfl rfl (fun hg => ?_) (fun hg => ?_)) <;> (try (exfalso; omega))) | refine AW_if rfl (fun hc => absurd hc (by omega)) (fun _ => ?_) | refine AW_if rfl (fun _ => ?_) (fun hc => absurd (by omega) hc)))
                  all_goals exact ⟨_, _, rfl, rfl, rfl⟩
                | true =>
                  rw [c3] at k31b
                  by_cases u0 : 0 ≤ up
                  · by_cases u1 : up ≤ 12
                    · by_cases d0 : 0 ≤ down
                      · by_cases d1 : down ≤ 12
                        · by_cases m0 : 0 ≤ more
                          · by_cases m1 : more ≤ 99
                            · obtain ⟨w1, w2, w3⟩ := asked_of ha
                              have hH := houseP_of w1
                              have hC := coatP_of w2
                              have hS := stocksP_of w3
                              have hA := batchP_of c2
                              have hB := batchP_of c3
                              have hh3 := hH.1
                              have hS1 := hS.1
                              have hcl := hC.len
                              have hcn := hC.need
                              (repeat' (first | refine stq ?_ | (refine AL_do2 rfl ?_; first | refine ⟨_, op_call1 rfl rfl rfl rfl (k27), nrmA rfl ?_⟩ | refine ⟨_, op_call1 rfl rfl rfl rfl (k46), nrmA rfl ?_⟩ | refine ⟨_, op_call1 rfl rfl rfl rfl (k47), nrmA rfl ?_⟩ | refine ⟨_, op_call1 rfl rfl rfl rfl (k49), nrmA rfl ?_⟩ | refine ⟨_, op_call1 rfl rfl rfl rfl (k31a), nrmA rfl ?_⟩ | refine ⟨_, op_call1 rfl rfl rfl rfl (k31b), nrmA rfl ?_⟩) | ((first | (with_reducible refine AL_id ?_); (fail_if_success (refine AL_glit rfl rfl rfl (by first | exact .inl (by with_reducible rfl) | exact .inr (by with_reducible rfl)) ?_)); first | refine AL_gdec rfl rfl rfl (fun hg => ?_) (fun hg => ?_) | refine AL_gnot rfl rfl rfl (fun hg => ?_) (fun hg => ?_) | refine AL_gcases rfl rfl rfl (fun hg => ?_) (fun hg => ?_)) <;> (try (exfalso; omega))) | refine AW_if rfl (fun hc => absurd hc (by omega)) (fun _ => ?_) | refine AW_if rfl (fun _ => ?_) (fun hc => absurd (by omega) hc)))
                              refine AW_nilBox 2 0 90 2 rfl rfl ?_
                              refine AW_loopC (fun k : Nat => k ≤ h.length) (fun k => mkSt (moE a b up down l more ++ [(18, .pv (vi k))]) (moO h c ++ [(2, .box [.arr 3]), (3, .arr 90 2 (((h.take k).map (closeDye up down)).map eDye))]) 4) (fun k => h.length - k) 0 (Nat.zero_le _) ?_ ?_
                              · (refine Le.mk ?_ ?_; all_goals (repeat' (first | exact trivial | refine sle ?_ | refine ⟨?_, rfl, ?_⟩ | refine ⟨?_, by decide, rfl, ?_⟩ | fail)))
                              · intro k hk
                                have htl : ((h.take k).map (closeDye up down)).length ≤ 1000 := by simp; omega
                                (repeat (refine stq ?_))
                                refine AW_if rfl (fun hc => ?_) (fun hc => ?_)
                                · have hk' : k < h.length := by omega
                                  obtain ⟨d, hd⟩ : ∃ d, h[k]? = some d := ⟨h[k], by simp [hk']⟩
                                  have e1 := get_map eDye hd
                                  have hdm := hH.2.2 d (List.mem_of_getElem? hd)
                                  have hsn : (h.take (k + 1)).map (closeDye up down) = (h.take k).map (closeDye up down) ++ [closeDye up down d] := map_take_succ _ hd
                                  generalize (h.take k).map (closeDye up down) = ds at htl hsn ⊢
                                  (repeat (refine stq ?_))
                                  refine AW_nilBox 4 0 37 2 rfl rfl ?_
                                  refine AW_loopC (fun t : Nat => t ≤ d.takes.length) (fun t => mkSt (moE a b up down l more ++ [(18, .pv (vi k)), (19, .box 4 0), (20, .pv (vi t))]) (moO h c ++ [(2, .box [.arr 3]), (3, .arr 90 2 (ds.map eDye)), (4, .box [.arr 5, .pv (vi d.full)]), (5, .arr 37 2 (((d.takes.take t).map (closerI up down)).map eSpan))]) 6) (fun t => d.takes.length - t) 0 (Nat.zero_le _) ?_ ?_
                                  · (refine Le.mk ?_ ?_; all_goals (repeat' (first | exact trivial | refine sle ?_ | refine ⟨?_, rfl, ?_⟩ | refine ⟨?_, by decide, rfl, ?_⟩ | fail)))
                                  · intro t ht
                                    have htl2 : ((d.takes.take t).map (closerI up down)).length ≤ 1000 := by simp; omega
                                    (repeat (refine stq ?_))
                                    refine AW_if rfl (fun hc2 => ?_) (fun hc2 => ?_)
                                    · have ht' : t < d.takes.length := by omega
                                      obtain ⟨u, hu⟩ : ∃ u, d.takes[t]? = some u := ⟨d.takes[t], by simp [ht']⟩
                                      have e2 := get_map eSpan hu
                                      have hub := hdm.2.2.2 u (List.mem_of_getElem? hu)
                                      have hsn2 : (d.takes.take (t + 1)).map (closerI up down) = (d.takes.take t).map (closerI up down) ++ [closerI up down u] := map_take_succ _ hu
                                      generalize (d.takes.take t).map (closerI up down) = us at htl2 hsn2 ⊢
                                      (repeat (refine stq ?_))
                                      (repeat (first | refine sdq ?_ | refine DG_next (D_call rfl rfl rfl rfl rfl (f64 u up down (by omega) (by omega) (by omega) (by omega))) ?_))
                                      refine DG_end hM (by kernel_rfl) ?_
                                      (repeat (refine stq ?_))
                                      refine ⟨t + 1, ht', by omega, ?_⟩
                                      rw [hsn2]
                                      (refine Le.mkR [(0, 0), (1, 1), (2, 2), (3, 3), (4, 4), (5, 6)] ?_ ?_ rfl; all_goals (repeat' (first | exact trivial | refine sle ?_ | refine ⟨?_, rfl, ?_⟩ | refine ⟨?_, by decide, rfl, ?_⟩ | fail)))
                                      simp [List.map_append]; rfl
                                    · have ht' : t = d.takes.length := by omega
                                      rw [ht', List.take_length]
                                      refine AW_arrBox (b := 4) 0 rfl rfl rfl rfl ?_
                                      (repeat (refine stq ?_))
                                      refine ⟨k + 1, hk', by omega, ?_⟩
                                      rw [hsn]
                                      (refine Le.mkR [(0, 0), (1, 1), (2, 2), (3, 7)] ?_ ?_ rfl; all_goals (repeat' (first | exact trivial | refine sle ?_ | refine ⟨?_, rfl, ?_⟩ | refine ⟨?_, by decide, rfl, ?_⟩ | fail)))
                                      show some (AObj.arr 90 2 (ds.map eDye ++ [[.sl ((d.takes.map (closerI up down)).map eSpan), vi d.full]])) = some (AObj.arr 90 2 ((ds ++ [closeDye up down d]).map eDye))
                                      rw [List.map_append]; rfl
                                · have hk' : k = h.length := by omega
                                  rw [hk', List.take_length]
                                  refine AW_arrBox (b := 2) 0 rfl rfl rfl rfl ?_
                                  clear k27 k46 k47 k49 k31a k31b
                                  have cw1 := house_sub (up := up) (down := down) u0 d0 w1
                                  have hxl : (h.map (closeDye up down)).length = h.length := by simp
                                  have ca := batch_sub (up := up) (down := down) hxl u0 d0 c2
                                  have cb := batch_sub (up := up) (down := down) hxl u0 d0 c3
                                  have hasub := fun (x : List Int) (n : Int) => apart_sub (lamp := x) u0 d0 hH hA hB n
                                  have k65a := (f65 a up down (by omega) (fun y hy => by have := hA.2 y hy; unfold BathP at this; omega) (by omega) (by omega)).pure
                                  have k65b := (f65 b up down (by omega) (fun y hy => by have := hB.2 y hy; unfold BathP at this; omega) (by omega) (by omega)).pure
                                  have k65a : ACalls Tryz.prog 65 [eBaths a, vi up, vi down] (fun r => r = .pv (eBaths (a.map (closeBath up down)))) := k65a
                                  have k65b : ACalls Tryz.prog 65 [eBaths b, vi up, vi down] (fun r => r = .pv (eBaths (b.map (closeBath up down)))) := k65b
                                  have hpl : (a.map (closeBath up down)).length ≤ 5 := by simpa using q2
                                  have hql : (b.map (closeBath up down)).length ≤ 5 := by simpa using q3
                                  generalize hX : h.map (closeDye up down) = X at *
                                  generalize hPP : a.map (closeBath up down) = p at *
                                  generalize hQQ : b.map (closeBath up down) = q at *
                                  have hLO : lampsOK c.lamps := ⟨hcO.1, hcO.2.2⟩
                                  have hXOK : houseOK X := by
                                    rw [← hX]
                                    refine ⟨by simp; omega, fun d hd => ?_⟩
                                    obtain ⟨e, he, rfl⟩ := List.mem_map.1 hd
                                    have := hOK.2 e he
                                    simpa [closeDye] using this
                                  have hlampX : ∀ x, isLampB X x = isLampB h x := fun x => by unfold isLampB; rw [hxl]
                                  have w2' := w2
                                  simp only [isCoatB, Bool.and_eq_true] at w2'
                                  have cw : wordsOK h c.lamps a b c.eye = true := by
                                    simp only [wordsOK, Bool.and_eq_true]; exact ⟨⟨⟨⟨⟨w1, w2'.1.1.1.1.1⟩, w2'.1.1.1.1.2⟩, c2⟩, c3⟩, w2'.1.1.1.2⟩
                                  have cw' : wordsOK X c.lamps p q c.eye = true := by
                                    simp only [wordsOK, Bool.and_eq_true, hlampX]; exact ⟨⟨⟨⟨⟨cw1, w2'.1.1.1.1.1⟩, w2'.1.1.1.1.2⟩, ca⟩, cb⟩, w2'.1.1.1.2⟩
                                  have k35 := f35 h c.lamps a b c.eye hOK hLO (by omega) (by omega)
                                  have k35' := f35 X c.lamps p q c.eye hXOK hLO (by omega) (by omega)
                                  rw [show wordsE h c.lamps a b c.eye = (c.lamps.map fun x => alikeI h x a b c.eye, 0) by unfold wordsE; rw [if_pos cw]] at k35
                                  rw [show wordsE X c.lamps p q c.eye = (c.lamps.map fun x => alikeI X x p q c.eye, 0) by unfold wordsE; rw [if_pos cw']] at k35'
                                  have hHX := houseP_of cw1
                                  have hPX := batchP_of ca
                                  have hQX := batchP_of cb
                                  have hce := coat_eye w2
                                  have lam : ∀ (k : Nat) x, c.lamps[k]? = some x → x.length ≤ 1000 ∧ isLampB h x = true ∧ (spanOf (apartL h x a b)).low ≤ (spanOf (apartL X x p q)).low ∧ (spanOf (apartL X x p q)).high ≤ (spanOf (apartL h x a b)).high ∧
                                      ((c.lamps.map fun x => alikeI h x a b c.eye)[k]? = some 2 ∨ ∃ w, (w = 1 ∨ w = 3) ∧ (c.lamps.map fun x => alikeI h x a b c.eye)[k]? = some w ∧ (c.lamps.map fun x => alikeI X x p q c.eye)[k]? = some w) := fun k x hx => by
                                    have hm := List.mem_of_getElem? hx
                                    have hne := apartL_ne (lamp := x) hHX hPX hQX
                                    have hs := spans_sub (hasub x) hne
                                    have hil : isLampB h x = true := by
                                      have := w2'.1.1.1.1.2
                                      simp only [Bool.not_eq_true', List.any_eq_false, Bool.not_eq_false] at this
                                      exact this x hm
                                    refine ⟨hLO.2 x hm, hil, hs.1, hs.2, ?_⟩
                                    by_cases hw : alikeI h x a b c.eye = 2
                                    · left; rw [List.getElem?_map, hx]; simp [hw]
                                    · right
                                      have e := word_sub hce.2.1 (hasub x) hne hw
                                      refine ⟨alikeI h x a b c.eye, ?_, by rw [List.getElem?_map, hx]; rfl, by rw [List.getElem?_map, hx]; exact congrArg some e⟩
                                      unfold alikeI wordI at hw ⊢
                                      split <;> (try split) <;> simp_all
                                  have wl : (c.lamps.map fun x => alikeI h x a b c.eye).length = c.lamps.length := by simp
                                  have wl' : (c.lamps.map fun x => alikeI X x p q c.eye).length = c.lamps.length := by simp
                                  have k66 : ∀ x, x.length ≤ 1000 → isLampB h x = true → ACalls Tryz.prog 66 [eHouse h, eLamp x, eBaths a, eBaths b] (fun r => r = .tup [eS (spanOf (apartL h x a b)), vi 0]) := fun x h1 h2 => by
                                    have := f66 h x a b hOK h1 (by omega) (by omega)
                                    rw [show apartE h x a b = (spanOf (apartL h x a b), 0) by simp [apartE, w1, h2, c2, c3]] at this
                                    exact this
                                  have k66' : ∀ x, x.length ≤ 1000 → isLampB h x = true → ACalls Tryz.prog 66 [eHouse X, eLamp x, eBaths p, eBaths q] (fun r => r = .tup [eS (spanOf (apartL X x p q)), vi 0]) := fun x h1 h2 => by
                                    have := f66 X x p q hXOK h1 (by omega) (by omega)
                                    rw [show apartE X x p q = (spanOf (apartL X x p q), 0) by simp [apartE, cw1, hlampX, h2, ca, cb]] at this
                                    exact this
                                  generalize (c.lamps.map fun x => alikeI h x a b c.eye) = ws at *
                                  generalize (c.lamps.map fun x => alikeI X x p q c.eye) = vs at *
                                  have k35 : ACalls Tryz.prog 35 [eHouse h, eLamps c.lamps, eBaths a, eBaths b, eS c.eye] (fun r => r = .tup [eInts ws, vi 0]) := k35
                                  have k35' : ACalls Tryz.prog 35 [eHouse X, eLamps c.lamps, eBaths p, eBaths q, eS c.eye] (fun r => r = .tup [eInts vs, vi 0]) := k35'
                                  (repeat' (first | refine stq ?_ | (refine AL_do2 rfl ?_; first | refine ⟨_, op_call1 rfl rfl rfl rfl (k65a), nrmA rfl ?_⟩ | refine ⟨_, op_call1 rfl rfl rfl rfl (k65b), nrmA rfl ?_⟩ | refine ⟨_, op_call1 rfl rfl rfl rfl (k35), nrmA rfl ?_⟩ | refine ⟨_, op_call1 rfl rfl rfl rfl (k35'), nrmA rfl ?_⟩) | ((first | (with_reducible refine AL_id ?_); (fail_if_success (refine AL_glit rfl rfl rfl (by first | exact .inl (by with_reducible rfl) | exact .inr (by with_reducible rfl)) ?_)); first | refine AL_gdec rfl rfl rfl (fun hg => ?_) (fun hg => ?_) | refine AL_gnot rfl rfl rfl (fun hg => ?_) (fun hg => ?_) | refine AL_gcases rfl rfl rfl (fun hg => ?_) (fun hg => ?_)) <;> (try (exfalso; omega))) | refine AW_if rfl (fun hc => absurd hc (by omega)) (fun _ => ?_) | refine AW_if rfl (fun _ => ?_) (fun hc => absurd (by omega) hc)))
                                  refine AW_loopC (fun k : Nat => k ≤ c.lamps.length) (fun k => mkSt (moE a b up down l more ++ [(21, .pv (eBaths p)), (22, .pv (eBaths q)), (23, .pv (eInts ws)), (25, .pv (eInts vs)), (27, .pv (vi k))]) (moO h c ++ [(2, .box [.pv (.sl (X.map eDye))])]) 4) (fun k => c.lamps.length - k) 0 (Nat.zero_le _) ?_ ?_
                                  · (refine Le.mk ?_ ?_; all_goals (repeat' (first | exact trivial | refine sle ?_ | refine ⟨?_, rfl, ?_⟩ | refine ⟨?_, by decide, rfl, ?_⟩ | fail)))
                                  · intro k hk
                                    (repeat (refine stq ?_))
                                    refine AW_if rfl (fun hc => ?_) (fun hc => ?_)
                                    · have hk' : k < c.lamps.length := by omega
                                      obtain ⟨x, hx⟩ : ∃ x, c.lamps[k]? = some x := ⟨c.lamps[k], by simp [hk']⟩
                                      have e1 := get_map eLampC hx
                                      obtain ⟨g1, g2, g3, g4, g5⟩ := lam k x hx
                                      have m1 := k66 x g1 g2
                                      have m2 := k66' x g1 g2
                                      generalize spanOf (apartL h x a b) = s at *
                                      generalize spanOf (apartL X x p q) = t at *
                                      (repeat (refine stq ?_))
                                      (repeat (first | refine DG_next (D_allocE hT rfl rfl rfl rfl) ?_ | refine DG_next (D_storeE hT rfl rfl rfl rfl rfl rfl rfl rfl rfl rfl) ?_ | refine sdq ?_ | refine DG_next (D_call_tup rfl rfl rfl rfl rfl (m1)) ?_))
                                      refine DG_end hM (by kernel_rfl) ?_
                                      (repeat (refine stq ?_))
                                      (repeat (first | refine DG_next (D_allocE hT rfl rfl rfl rfl) ?_ | refine DG_next (D_storeE hT rfl rfl rfl rfl rfl rfl rfl rfl rfl rfl) ?_ | refine sdq ?_ | refine DG_next (D_call_tup rfl rfl rfl rfl rfl (m2)) ?_))
                                      refine DG_end hM (by kernel_rfl) ?_
                                      (repeat (refine stq ?_))
                                      iterate 11 (refine sdq ?_)
                                      refine DG_boolF hT rfl (decide_eq_false (by omega)) ?_
                                      iterate 6 (refine sdq ?_)
                                      refine DG_boolF hT rfl (decide_eq_false (by omega)) ?_
                                      rcases g5 with g5 | ⟨w, rfl | rfl, g5, g6⟩
                                      · have e2 := get_map eInt g5
                                        (repeat (refine sdq ?_))
                                        refine DG_end hM (by kernel_rfl) ?_
                                        (repeat (refine stq ?_))
                                        refine ⟨k + 1, hk', by omega, ?_⟩
                                        (refine Le.mk ?_ ?_; all_goals (repeat' (first | exact trivial | refine sle ?_ | refine ⟨?_, rfl, ?_⟩ | refine ⟨?_, by decide, rfl, ?_⟩ | fail)))
                                      · have e2 := get_map eInt g5
                                        have e3 := get_map eInt g6
                                        (repeat (refine sdq ?_))
                                        refine DG_end hM (by kernel_rfl) ?_
                                        (repeat (refine stq ?_))
                                        refine ⟨k + 1, hk', by omega, ?_⟩
                                        (refine Le.mk ?_ ?_; all_goals (repeat' (first | exact trivial | refine sle ?_ | refine ⟨?_, rfl, ?_⟩ | refine ⟨?_, by decide, rfl, ?_⟩ | fail)))
                                      · have e2 := get_map eInt g5
                                        have e3 := get_map eInt g6
                                        (repeat (refine sdq ?_))
                                        refine DG_end hM (by kernel_rfl) ?_
                                        (repeat (refine stq ?_))
                                        refine ⟨k + 1, hk', by omega, ?_⟩
                                        (refine Le.mk ?_ ?_; all_goals (repeat' (first | exact trivial | refine sle ?_ | refine ⟨?_, rfl, ?_⟩ | refine ⟨?_, by decide, rfl, ?_⟩ | fail)))
                                    · clear k35 k35' k65a k65b
                                      (repeat (refine stq ?_))
                                      refine AL_do2 rfl ⟨_, op_append_nil1 (e := 95) (sz := 3) hT rfl rfl rfl rfl rfl rfl rfl rfl rfl rfl (by intro y hy; (first | (simp only [List.mem_cons, List.not_mem_nil, or_false] at hy; subst hy; rfl) | (simp only [List.mem_cons, List.not_mem_nil, or_false] at hy; rcases hy with hy | hy <;> subst hy <;> rfl) | (obtain ⟨_, _, rfl⟩ := List.mem_map.1 hy; rfl) | (cases hy))) (by simp only [List.length_map, List.length_take, List.length_cons, List.length_nil, List.length_append]; omega) rfl, ?_⟩
                                      (repeat (refine stq ?_))
                                      refine AW_loopC (fun i : Nat => i ≤ l.length) (fun i => mkSt (moE a b up down l more ++ [(32, .arr 4), (33, .pv (vi i))]) (moO h c ++ [(4, .arr 95 3 (((l.take i).map (richer more) ++ l.drop i).map eStock))]) 5) (fun i => l.length - i) 0 (Nat.zero_le _) ?_ ?_
                                      · (refine Le.mk ?_ ?_; all_goals (repeat' (first | exact trivial | refine sle ?_ | refine ⟨?_, rfl, ?_⟩ | refine ⟨?_, by decide, rfl, ?_⟩ | fail)))
                                      · intro i hi
                                        have hml0 : ((l.take i).map (richer more) ++ l.drop i).length = l.length := by simp; omega
                                        have hml : (((l.take i).map (richer more) ++ l.drop i).map eStock).length = l.length := by rw [List.length_map, hml0]
                                        (repeat (refine stq ?_))
                                        refine AW_if rfl (fun hc2 => ?_) (fun hc2 => ?_)
                                        · have hi' : i < l.length := by rw [hml0] at hc2; omega
                                          obtain ⟨s, hsx⟩ : ∃ s, l[i]? = some s := ⟨l[i], by simp [hi']⟩
                                          have hsP := hS.2 s (List.mem_of_getElem? hsx)
                                          have hsm : 0 ≤ s.many ∧ s.many ≤ 99 := ⟨hsP.2.1, hsP.2.2.1⟩
                                          have e1 : (((l.take i).map (richer more) ++ l.drop i).map eStock)[i]? = some (eStock s) := by
                                            rw [List.getElem?_map, List.getElem?_append_right (by simp; omega), List.getElem?_drop]
                                            have : i + (i - ((l.take i).map (richer more)).length) = i := by simp; omega
                                            rw [this, hsx]; rfl
                                          have hst : (((l.take i).map (richer more) ++ l.drop i).map eStock).set i (eStock (richer more s)) = ((l.take (i + 1)).map (richer more) ++ l.drop (i + 1)).map eStock := by
                                            rw [← List.map_set, List.set_append_right _ _ (by simp; omega)]
                                            have h1 : i - ((l.take i).map (richer more)).length = 0 := by simp; omega
                                            rw [h1, List.drop_eq_getElem_cons hi', List.set_cons_zero, map_take_succ _ hsx, List.append_assoc]; rfl
                                          (repeat (refine stq ?_))
                                          refine AL_do2 rfl ⟨_, op_indexAddr_arr hT rfl rfl rfl rfl rfl rfl rfl rfl (by omega) (by rw [hml]; omega) rfl, ?_⟩
                                          (repeat (refine stq ?_))
                                          refine AL_do2 rfl ⟨_, op_load_aptr (el := eStock s) hT rfl rfl rfl rfl rfl e1 rfl, ?_⟩
                                          (repeat (refine stq ?_))
                                          refine AL_do2 rfl ⟨_, op_indexAddr_arr hT rfl rfl rfl rfl rfl rfl rfl rfl (by omega) (by rw [hml]; omega) rfl, ?_⟩
                                          (repeat (refine stq ?_))
                                          refine AL_do2 rfl ⟨_, op_store_aptr (el := eStock s) hT rfl rfl rfl rfl rfl e1 rfl rfl rfl rfl, ?_⟩
                                          (repeat (refine stq ?_))
                                          refine ⟨i + 1, hi', by omega, ?_⟩
                                          (refine Le.mk ?_ ?_; all_goals (repeat' (first | exact trivial | refine sle ?_ | refine ⟨?_, rfl, ?_⟩ | refine ⟨?_, by decide, rfl, ?_⟩ | fail)))
                                          show some (AObj.arr 95 3 ((((l.take i).map (richer more) ++ l.drop i).map eStock).set i (eStock (richer more s)))) = some (AObj.arr 95 3 (((l.take (i + 1)).map (richer more) ++ l.drop (i + 1)).map eStock))
                                          rw [hst]
                                        · have hi' : i = l.length := by rw [hml0] at hc2; omega
                                          rw [hi', List.take_length, List.drop_length, List.append_nil]
                                          refine AW_pure (t := 32) rfl rfl ?_
                                          have hpr : ∀ s ∈ l, 0 ≤ s.price ∧ s.price ≤ 999 := fun s hx => ⟨(hS.2 s hx).2.2.2.1, (hS.2 s hx).2.2.2.2⟩
                                          have ha' : (isHouseB h && isCoatB h (lesser more c) && areStocksB h (l.map (richer more)) 1) = true := by rw [w1, coat_less m0 w2, stocks_rich m0 w3]; rfl
                                          have k48 := f48 h c l hOK hcO hsO
                                          have k48' := f48 h (lesser more c) (l.map (richer more)) hOK hcO ⟨by simp; omega, fun s' hs' => by
                                            obtain ⟨s, hs, rfl⟩ := List.mem_map.1 hs'
                                            exact hsO.2 s hs⟩
                                          rw [coatE_eq ha] at k48
                                          rw [coatE_eq ha', List.length_map] at k48'
                                          have hB1 := bstI_bd h c l (2 ^ l.length)
                                          have hB2 := bstI_bd h (lesser more c) (l.map (richer more)) (2 ^ l.length)
                                          have hmo := more_coat (h := h) (c := c) (more := more) hS1 m0 hcn.1 (fun s hs => (hS.2 s hs).2.2.1)
                                          have hset : ∀ B : Int, 0 ≤ B → B < ((2 ^ l.length : Nat) : Int) → setB B l.length = true := fun B h1 h2 => by
                                            simp only [setB, Bool.and_eq_true, decide_eq_true_eq]; exact ⟨h1, h2⟩
                                          generalize bstI h c l (2 ^ l.length) = B at *
                                          generalize bstI h (lesser more c) (l.map (richer more)) (2 ^ l.length) = C at *
                                          by_cases b0 : B < 0
                                          · rw [if_pos b0] at k48
                                            have k48 : ACalls Tryz.prog 48 [eHouse h, eCoat c, eStocks l] (fun r => r = .tup [vi 0, vi 5]) := k48
                                            by_cases b1 : C < 0
                                            · rw [if_pos b1] at k48'
                                              have k48' : ACalls Tryz.prog 48 [eHouse h, eCoat (lesser more c), eStocks (l.map (richer more))] (fun r => r = .tup [vi 0, vi 5]) := k48'
                                              (repeat' (first | refine stq ?_ | (refine AL_do2 rfl ?_; first | refine ⟨_, op_call1 rfl rfl rfl rfl (k48), nrmA rfl ?_⟩ | refine ⟨_, op_call1 rfl rfl rfl rfl (k48'), nrmA rfl ?_⟩ | refine ⟨_, op_call1 rfl rfl rfl rfl (f28), nrmA rfl ?_⟩) | (with_reducible refine AL_id ?_); (fail_if_success (refine AL_glit rfl rfl rfl (by first | exact .inl (by with_reducible rfl) | exact .inr (by with_reducible rfl)) ?_)); first | refine AL_gdec rfl rfl rfl (fun hg => ?_) (fun hg => ?_) | refine AL_gnot rfl rfl rfl (fun hg => ?_) (fun hg => ?_) | refine AL_gcases rfl rfl rfl (fun hg => ?_) (fun hg => ?_)))
                                              all_goals exact ⟨_, _, rfl, rfl, rfl⟩
                                            · rw [if_neg b1] at k48'
                                              have k48' : ACalls Tryz.prog 48 [eHouse h, eCoat (lesser more c), eStocks (l.map (richer more))] (fun r => r = .tup [vi C, vi 0]) := k48'
                                              (repeat' (first | refine stq ?_ | (refine AL_do2 rfl ?_; first | refine ⟨_, op_call1 rfl rfl rfl rfl (k48), nrmA rfl ?_⟩ | refine ⟨_, op_call1 rfl rfl rfl rfl (k48'), nrmA rfl ?_⟩ | refine ⟨_, op_call1 rfl rfl rfl rfl (f28), nrmA rfl ?_⟩) | (with_reducible refine AL_id ?_); (fail_if_success (refine AL_glit rfl rfl rfl (by first | exact .inl (by with_reducible rfl) | exact .inr (by with_reducible rfl)) ?_)); first | refine AL_gdec rfl rfl rfl (fun hg => ?_) (fun hg => ?_) | refine AL_gnot rfl rfl rfl (fun hg => ?_) (fun hg => ?_) | refine AL_gcases rfl rfl rfl (fun hg => ?_) (fun hg => ?_)))
                                              all_goals exact ⟨_, _, rfl, rfl, rfl⟩
                                          · obtain ⟨d1, d2⟩ := hmo (by omega)
                                            rw [if_neg b0] at k48
                                            rw [if_neg (by omega)] at k48'
                                            have k48 : ACalls Tryz.prog 48 [eHouse h, eCoat c, eStocks l] (fun r => r = .tup [vi B, vi 0]) := k48
                                            have k48' : ACalls Tryz.prog 48 [eHouse h, eCoat (lesser more c), eStocks (l.map (richer more))] (fun r => r = .tup [vi C, vi 0]) := k48'
                                            have k67a := f67 B l.length hS1
                                            have k67b := f67 C l.length hS1
                                            rw [hset B (by omega) hB1.2.1] at k67a
                                            rw [hset C d1 hB2.2.1] at k67b
                                            have k68a := f68 l B (by omega) hpr
                                            have k68b := f68 l C (by omega) hpr
                                            (repeat' (first | refine stq ?_ | (refine AL_do2 rfl ?_; first | refine ⟨_, op_call1 rfl rfl rfl rfl (k48), nrmA rfl ?_⟩ | refine ⟨_, op_call1 rfl rfl rfl rfl (k48'), nrmA rfl ?_⟩ | refine ⟨_, op_call1 rfl rfl rfl rfl (k67a), nrmA rfl ?_⟩ | refine ⟨_, op_call1 rfl rfl rfl rfl (k67b), nrmA rfl ?_⟩ | refine ⟨_, op_call1 rfl rfl rfl rfl (k68a), nrmA rfl ?_⟩ | refine ⟨_, op_call1 rfl rfl rfl rfl (k68b), nrmA rfl ?_⟩ | refine ⟨_, op_call1 rfl rfl rfl rfl (f28), nrmA rfl ?_⟩) | (with_reducible refine AL_id ?_); (fail_if_success (refine AL_glit rfl rfl rfl (by first | exact .inl (by with_reducible rfl) | exact .inr (by with_reducible rfl)) ?_)); first | refine AL_gdec rfl rfl rfl (fun hg => ?_) (fun hg => ?_) | refine AL_gnot rfl rfl rfl (fun hg => ?_) (fun hg => ?_) | refine AL_gcases rfl rfl rfl (fun hg => ?_) (fun hg => ?_)))
                                            all_goals (first | exact ⟨_, _, rfl, rfl, rfl⟩ | (exfalso; omega) | skip)
                            · (repeat' (first | refine stq ?_ | (refine AL_do2 rfl ?_; first | refine ⟨_, op_call1 rfl rfl rfl rfl (k27), nrmA rfl ?_⟩ | refine ⟨_, op_call1 rfl rfl rfl rfl (k46), nrmA rfl ?_⟩ | refine ⟨_, op_call1 rfl rfl rfl rfl (k47), nrmA rfl ?_⟩ | refine ⟨_, op_call1 rfl rfl rfl rfl (k49), nrmA rfl ?_⟩ | refine ⟨_, op_call1 rfl rfl rfl rfl (k31a), nrmA rfl ?_⟩ | refine ⟨_, op_call1 rfl rfl rfl rfl (k31b), nrmA rfl ?_⟩ | refine ⟨_, op_call1 rfl rfl rfl rfl (f28), nrmA rfl ?_⟩) | ((first | (with_reducible refine AL_id ?_); (fail_if_success (refine AL_glit rfl rfl rfl (by first | exact .inl (by with_reducible rfl) | exact .inr (by with_reducible rfl)) ?_)); first | refine AL_gdec rfl rfl rfl (fun hg => ?_) (fun hg => ?_) | refine AL_gnot rfl rfl rfl (fun hg => ?_) (fun hg => ?_) | refine AL_gcases rfl rfl rfl (fun hg => ?_) (fun hg => ?_)) <;> (try (exfalso; omega))) | refine AW_if rfl (fun hc => absurd hc (by omega)) (fun _ => ?_) | refine AW_if rfl (fun _ => ?_) (fun hc => absurd (by omega) hc)))
                              all_goals exact ⟨_, _, rfl, rfl, rfl⟩
                          · (repeat' (first | refine stq ?_ | (refine AL_do2 rfl ?_; first | refine ⟨_, op_call1 rfl rfl rfl rfl (k27), nrmA rfl ?_⟩ | refine ⟨_, op_call1 rfl rfl rfl rfl (k46), nrmA rfl ?_⟩ | refine ⟨_, op_call1 rfl rfl rfl rfl (k47), nrmA rfl ?_⟩ | refine ⟨_, op_call1 rfl rfl rfl rfl (k49), nrmA rfl ?_⟩ | refine ⟨_, op_call1 rfl rfl rfl rfl (k31a), nrmA rfl ?_⟩ | refine ⟨_, op_call1 rfl rfl rfl rfl (k31b), nrmA rfl ?_⟩ | refine ⟨_, op_call1 rfl rfl rfl rfl (f28), nrmA rfl ?_⟩) | ((first | (with_reducible refine AL_id ?_); (fail_if_success (refine AL_glit rfl rfl rfl (by first | exact .inl (by with_reducible rfl) | exact .inr (by with_reducible rfl)) ?_)); first | refine AL_gdec rfl rfl rfl (fun hg => ?_) (fun hg => ?_) | refine AL_gnot rfl rfl rfl (fun hg => ?_) (fun hg => ?_) | refine AL_gcases rfl rfl rfl (fun hg => ?_) (fun hg => ?_)) <;> (try (exfalso; omega))) | refine AW_if rfl (fun hc => absurd hc (by omega)) (fun _ => ?_) | refine AW_if rfl (fun _ => ?_) (fun hc => absurd (by omega) hc)))
                            all_goals exact ⟨_, _, rfl, rfl, rfl⟩
                        · (repeat' (first | refine stq ?_ | (refine AL_do2 rfl ?_; first | refine ⟨_, op_call1 rfl rfl rfl rfl (k27), nrmA rfl ?_⟩ | refine ⟨_, op_call1 rfl rfl rfl rfl (k46), nrmA rfl ?_⟩ | refine ⟨_, op_call1 rfl rfl rfl rfl (k47), nrmA rfl ?_⟩ | refine ⟨_, op_call1 rfl rfl rfl rfl (k49), nrmA rfl ?_⟩ | refine ⟨_, op_call1 rfl rfl rfl rfl (k31a), nrmA rfl ?_⟩ | refine ⟨_, op_call1 rfl rfl rfl rfl (k31b), nrmA rfl ?_⟩ | refine ⟨_, op_call1 rfl rfl rfl rfl (f28), nrmA rfl ?_⟩) | ((first | (with_reducible refine AL_id ?_); (fail_if_success (refine AL_glit rfl rfl rfl (by first | exact .inl (by with_reducible rfl) | exact .inr (by with_reducible rfl)) ?_)); first | refine AL_gdec rfl rfl rfl (fun hg => ?_) (fun hg => ?_) | refine AL_gnot rfl rfl rfl (fun hg => ?_) (fun hg => ?_) | refine AL_gcases rfl rfl rfl (fun hg => ?_) (fun hg => ?_)) <;> (try (exfalso; omega))) | refine AW_if rfl (fun hc => absurd hc (by omega)) (fun _ => ?_) | refine AW_if rfl (fun _ => ?_) (fun hc => absurd (by omega) hc)))
                          all_goals exact ⟨_, _, rfl, rfl, rfl⟩
                      · (repeat' (first | refine stq ?_ | (refine AL_do2 rfl ?_; first | refine ⟨_, op_call1 rfl rfl rfl rfl (k27), nrmA rfl ?_⟩ | refine ⟨_, op_call1 rfl rfl rfl rfl (k46), nrmA rfl ?_⟩ | refine ⟨_, op_call1 rfl rfl rfl rfl (k47), nrmA rfl ?_⟩ | refine ⟨_, op_call1 rfl rfl rfl rfl (k49), nrmA rfl ?_⟩ | refine ⟨_, op_call1 rfl rfl rfl rfl (k31a), nrmA rfl ?_⟩ | refine ⟨_, op_call1 rfl rfl rfl rfl (k31b), nrmA rfl ?_⟩ | refine ⟨_, op_call1 rfl rfl rfl rfl (f28), nrmA rfl ?_⟩) | ((first | (with_reducible refine AL_id ?_); (fail_if_success (refine AL_glit rfl rfl rfl (by first | exact .inl (by with_reducible rfl) | exact .inr (by with_reducible rfl)) ?_)); first | refine AL_gdec rfl rfl rfl (fun hg => ?_) (fun hg => ?_) | refine AL_gnot rfl rfl rfl (fun hg => ?_) (fun hg => ?_) | refine AL_gcases rfl rfl rfl (fun hg => ?_) (fun hg => ?_)) <;> (try (exfalso; omega))) | refine AW_if rfl (fun hc => absurd hc (by omega)) (fun _ => ?_) | refine AW_if rfl (fun _ => ?_) (fun hc => absurd (by omega) hc)))
                        all_goals exact ⟨_, _, rfl, rfl, rfl⟩
                    · (repeat' (first | refine stq ?_ | (refine AL_do2 rfl ?_; first | refine ⟨_, op_call1 rfl rfl rfl rfl (k27), nrmA rfl ?_⟩ | refine ⟨_, op_call1 rfl rfl rfl rfl (k46), nrmA rfl ?_⟩ | refine ⟨_, op_call1 rfl rfl rfl rfl (k47), nrmA rfl ?_⟩ | refine ⟨_, op_call1 rfl rfl rfl rfl (k49), nrmA rfl ?_⟩ | refine ⟨_, op_call1 rfl rfl rfl rfl (k31a), nrmA rfl ?_⟩ | refine ⟨_, op_call1 rfl rfl rfl rfl (k31b), nrmA rfl ?_⟩ | refine ⟨_, op_call1 rfl rfl rfl rfl (f28), nrmA rfl ?_⟩) | ((first | (with_reducible refine AL_id ?_); (fail_if_success (refine AL_glit rfl rfl rfl (by first | exact .inl (by with_reducible rfl) | exact .inr (by with_reducible rfl)) ?_)); first | refine AL_gdec rfl rfl rfl (fun hg => ?_) (fun hg => ?_) | refine AL_gnot rfl rfl rfl (fun hg => ?_) (fun hg => ?_) | refine AL_gcases rfl rfl rfl (fun hg => ?_) (fun hg => ?_)) <;> (try (exfalso; omega))) | refine AW_if rfl (fun hc => absurd hc (by omega)) (fun _ => ?_) | refine AW_if rfl (fun _ => ?_) (fun hc => absurd (by omega) hc)))
                      all_goals exact ⟨_, _, rfl, rfl, rfl⟩
                  · (repeat' (first | refine stq ?_ | (refine AL_do2 rfl ?_; first | refine ⟨_, op_call1 rfl rfl rfl rfl (k27), nrmA rfl ?_⟩ | refine ⟨_, op_call1 rfl rfl rfl rfl (k46), nrmA rfl ?_⟩ | refine ⟨_, op_call1 rfl rfl rfl rfl (k47), nrmA rfl ?_⟩ | refine ⟨_, op_call1 rfl rfl rfl rfl (k49), nrmA rfl ?_⟩ | refine ⟨_, op_call1 rfl rfl rfl rfl (k31a), nrmA rfl ?_⟩ | refine ⟨_, op_call1 rfl rfl rfl rfl (k31b), nrmA rfl ?_⟩ | refine ⟨_, op_call1 rfl rfl rfl rfl (f28), nrmA rfl ?_⟩) | ((first | (with_reducible refine AL_id ?_); (fail_if_success (refine AL_glit rfl rfl rfl (by first | exact .inl (by with_reducible rfl) | exact .inr (by with_reducible rfl)) ?_)); first | refine AL_gdec rfl rfl rfl (fun hg => ?_) (fun hg => ?_) | refine AL_gnot rfl rfl rfl (fun hg => ?_) (fun hg => ?_) | refine AL_gcases rfl rfl rfl (fun hg => ?_) (fun hg => ?_)) <;> (try (exfalso; omega))) | refine AW_if rfl (fun hc => absurd hc (by omega)) (fun _ => ?_) | refine AW_if rfl (fun _ => ?_) (fun hc => absurd (by omega) hc)))
                    all_goals exact ⟨_, _, rfl, rfl, rfl⟩
      · (repeat' (first | refine stq ?_ | (refine AL_do2 rfl ?_; first | refine ⟨_, op_call1 rfl rfl rfl rfl (k27), nrmA rfl ?_⟩ | refine ⟨_, op_call1 rfl rfl rfl rfl (k46), nrmA rfl ?_⟩ | refine ⟨_, op_call1 rfl rfl rfl rfl (k47), nrmA rfl ?_⟩ | refine ⟨_, op_call1 rfl rfl rfl rfl (f28), nrmA rfl ?_⟩) | ((first | (with_reducible refine AL_id ?_); (fail_if_success (refine AL_glit rfl rfl rfl (by first | exact .inl (by with_reducible rfl) | exact .inr (by with_reducible rfl)) ?_)); first | refine AL_gdec rfl rfl rfl (fun hg => ?_) (fun hg => ?_) | refine AL_gnot rfl rfl rfl (fun hg => ?_) (fun hg => ?_) | refine AL_gcases rfl rfl rfl (fun hg => ?_) (fun hg => ?_)) <;> (try (exfalso; omega))) | refine AW_if rfl (fun hc => absurd hc (by omega)) (fun _ => ?_) | refine AW_if rfl (fun _ => ?_) (fun hc => absurd (by omega) hc)))
        all_goals exact ⟨_, _, rfl, rfl, rfl⟩
    · (repeat' (first | refine stq ?_ | (refine AL_do2 rfl ?_; first | refine ⟨_, op_call1 rfl rfl rfl rfl (k27), nrmA rfl ?_⟩ | refine ⟨_, op_call1 rfl rfl rfl rfl (k46), nrmA rfl ?_⟩ | refine ⟨_, op_call1 rfl rfl rfl rfl (k47), nrmA rfl ?_⟩ | refine ⟨_, op_call1 rfl rfl rfl rfl (f28), nrmA rfl ?_⟩) | ((first | (with_reducible refine AL_id ?_); (fail_if_success (refine AL_glit rfl rfl rfl (by first | exact .inl (by with_reducible rfl) | exact .inr (by with_reducible rfl)) ?_)); first | refine AL_gdec rfl rfl rfl (fun hg => ?_) (fun hg => ?_) | refine AL_gnot rfl rfl rfl (fun hg => ?_) (fun hg => ?_) | refine AL_gcases rfl rfl rfl (fun hg => ?_) (fun hg => ?_)) <;> (try (exfalso; omega))) | refine AW_if rfl (fun hc => absurd hc (by omega)) (fun _ => ?_) | refine AW_if rfl (fun _ => ?_) (fun hc => absurd (by omega) hc)))
      all_goals exact ⟨_, _, rfl, rfl, rfl⟩
end Go.Abs
