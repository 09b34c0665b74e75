/- DyeCoats: small parts of the reference. -/
import Derived.Test.YtkmclnjmabljdaaGreatDoorNhA
set_option linter.unusedVariables false
set_option linter.unusedSimpArgs false

namespace Go.Abs
open Go.Proofs
set_option linter.unusedVariables false
set_option linter.unusedSimpArgs false
set_option maxRecDepth 100000

def tidyB (c : Coat) : Bool := fewB c.lamps && decide (c.old.length ≤ 5)
theorem f46 (c : Coat) : ACalls Tryz.prog 46 [eCoat c] (fun r => r = .pv (.bool (tidyB c))) := by
  refine ACalls.of_body hT Tryz.func46 rfl (by kernel_rfl) rfl ?_
  (repeat' (first | refine stq ?_ | (refine AL_do2 rfl ?_; first | refine ⟨_, op_call1 rfl rfl rfl rfl (f34 c.lamps), nrmA rfl ?_⟩) | (with_reducible refine AL_id ?_); (fail_if_success (refine AL_glit rfl rfl rfl (by first | exact .inl (by with_reducible rfl) | exact .inr (by with_reducible rfl)) ?_)); first | refine AL_gdec rfl rfl rfl (fun hg => ?_) (fun hg => ?_) | refine AL_gnot rfl rfl rfl (fun hg => ?_) (fun hg => ?_) | refine AL_gcases rfl rfl rfl (fun hg => ?_) (fun hg => ?_)))
  all_goals exact ⟨_, _, rfl, rfl, by simp_all [tidyB]; try omega⟩
theorem tidy_ok {c : Coat} (h : tidyB c = true) : c.lamps.length ≤ 5 ∧ c.old.length ≤ 5 ∧ (∀ d ∈ c.lamps, d.length ≤ 5) ∧ coatOK c := by
  simp only [tidyB, Bool.and_eq_true, decide_eq_true_eq] at h
  obtain ⟨h1, h2⟩ := few_ok h.1
  refine ⟨h1, h.2, h2, by omega, by omega, fun d hd => ?_⟩
  have := h2 d hd; omega
def stockedB (l : List Stock) : Bool := !(l.take 8).any (fun s => decide (s.baths.length > 5)) && decide (l.length ≤ 7)
theorem stocked_ok {l : List Stock} (hs : stockedB l = true) : l.length ≤ 7 ∧ (∀ s ∈ l, s.baths.length ≤ 5) ∧ stocksOK l := by
  simp only [stockedB, Bool.and_eq_true, Bool.not_eq_true', List.any_eq_false, decide_eq_true_eq] at hs
  have h2 : ∀ s ∈ l, s.baths.length ≤ 5 := fun s hd => by
    have := hs.1 s (by rw [List.take_of_length_le (by omega)]; exact hd)
    omega
  refine ⟨hs.2, h2, by omega, fun s hd => ?_⟩
  have := h2 s hd; omega
theorem f47 (l : List Stock) : ACalls Tryz.prog 47 [eStocks l] (fun r => r = .pv (.bool (stockedB l))) := by
  refine ACalls.of_body hT Tryz.func47 rfl (by kernel_rfl) rfl ?_
  (repeat (refine stq ?_))
  refine AW_loopC (fun k : Nat => k ≤ l.length ∧ k ≤ 8 ∧ ∀ s ∈ l.take k, s.baths.length ≤ 5) (fun k => mkSt [(0, .pv (eStocks l)), (3, .pv (vi k))] [] 0) (fun k => 8 - k) 0 ⟨Nat.zero_le _, by omega, by simp⟩ ?_ ?_
  · (refine Le.mk ?_ ?_; all_goals (repeat' (first | exact trivial | refine sle ?_ | refine ⟨?_, rfl, ?_⟩ | refine ⟨?_, by decide, rfl, ?_⟩ | fail)))
  · rintro k ⟨hk, hk6, hall⟩
    (repeat' (first | refine stq ?_ | (with_reducible refine AL_id ?_); (fail_if_success (refine AL_glit rfl rfl rfl (by first | exact .inl (by with_reducible rfl) | exact .inr (by with_reducible rfl)) ?_)); first | refine AL_gdec rfl rfl rfl (fun hg => ?_) (fun hg => ?_) | refine AL_gnot rfl rfl rfl (fun hg => ?_) (fun hg => ?_) | refine AL_gcases rfl rfl rfl (fun hg => ?_) (fun hg => ?_)))
    · refine AW_if rfl (fun hc => ?_) (fun hc => ?_)
      · have hk' : k < l.length := by omega
        obtain ⟨d, hd⟩ : ∃ d, l[k]? = some d := ⟨l[k], by simp [hk']⟩
        have e1 := get_map eStock hd
        (repeat (refine stq ?_))
        refine AW_if rfl (fun hc2 => ?_) (fun hc2 => ?_)
        · (repeat (refine stq ?_))
          refine ⟨_, _, rfl, rfl, ?_⟩
          have : stockedB l = false := by
            simp only [stockedB, Bool.and_eq_false_iff, Bool.not_eq_false', List.any_eq_true, decide_eq_true_eq]
            exact .inl ⟨d, List.mem_of_getElem? (i := k) (by rw [List.getElem?_take, if_pos (by omega)]; exact hd), by omega⟩
          rw [this]
        · (repeat (refine stq ?_))
          refine ⟨k + 1, ⟨hk', by omega, all_take_succ hall hd (by omega)⟩, by omega, ?_⟩
          (refine Le.mk ?_ ?_; all_goals (repeat' (first | exact trivial | refine sle ?_ | refine ⟨?_, rfl, ?_⟩ | refine ⟨?_, by decide, rfl, ?_⟩ | fail)))
      · have hk' : k = 8 := by omega
        subst hk'
        (repeat (refine stq ?_))
        refine ⟨_, _, rfl, rfl, ?_⟩
        have h1 : (l.take 8).any (fun s => decide (s.baths.length > 5)) = false := by
          simp only [List.any_eq_false, decide_eq_true_eq]; intro d hd; have := hall d hd; omega
        simp [stockedB, h1]; omega
    · have hk' : k = l.length := by omega
      refine ⟨_, _, rfl, rfl, ?_⟩
      subst hk'
      have h1 : (l.take 8).any (fun s => decide (s.baths.length > 5)) = false := by
        simp only [List.any_eq_false, decide_eq_true_eq]; intro d hd
        have := hall d (by rw [List.take_length]; exact List.mem_of_mem_take hd); omega
      simp [stockedB, h1]; omega
theorem f137 (h : List Dye) (c : Coat) (hh : h.length ≤ 1000) (hc : coatOK c) : ACalls Tryz.prog 137 [eHouse h, eCoat c] (fun r => r = .pv (.bool (isCoatB h c))) := by
  have hl : lampsOK c.lamps := ⟨hc.1, hc.2.2⟩
  have hol := hc.2.1
  have hll := hc.1
  refine ACalls.of_body hT Tryz.func137 rfl (by kernel_rfl) rfl ?_
  (repeat (refine stq ?_))
  refine AW_loopC (fun k : Nat => k ≤ c.old.length ∧ ∀ s ∈ c.old.take k, isWishB s = true) (fun k => mkSt [(2, .box 0 0), (3, .box 1 0), (5, .pv (vi k))] [(0, .box [.pv (.sl (h.map eDye))]), (1, .box [.pv (eLamps c.lamps), .pv (vi c.eye.low), .pv (vi c.eye.high), .pv (eSpans c.old), .pv (vi c.need)])] 2) (fun k => c.old.length - k) 0 ⟨Nat.zero_le _, by simp⟩ ?_ ?_
  · (refine Le.mk ?_ ?_; all_goals (repeat' (first | exact trivial | refine sle ?_ | refine ⟨?_, rfl, ?_⟩ | refine ⟨?_, by decide, rfl, ?_⟩ | fail)))
  · rintro k ⟨hk, hall⟩
    (repeat (refine stq ?_))
    refine AW_if rfl (fun hc1 => ?_) (fun hc1 => ?_)
    · have hk' : k < c.old.length := by omega
      obtain ⟨s, hs⟩ : ∃ s, c.old[k]? = some s := ⟨c.old[k], by simp [hk']⟩
      have e1 := get_map eSpan hs
      (repeat' (first | refine stq ?_ | (refine AL_do2 rfl ?_; first | refine ⟨_, op_call1 rfl rfl rfl rfl (f44 s), nrmA rfl ?_⟩) | (with_reducible refine AL_id ?_); (fail_if_success (refine AL_glit rfl rfl rfl (by first | exact .inl (by with_reducible rfl) | exact .inr (by with_reducible rfl)) ?_)); first | refine AL_gdec rfl rfl rfl (fun hg => ?_) (fun hg => ?_) | refine AL_gnot rfl rfl rfl (fun hg => ?_) (fun hg => ?_) | refine AL_gcases rfl rfl rfl (fun hg => ?_) (fun hg => ?_)))
      refine AW_cond rfl (fun hc2 => ?_) (fun hc2 => ?_)
      · (repeat (refine stq ?_))
        refine ⟨_, _, rfl, rfl, ?_⟩
        have : c.old.any (fun s => !isWishB s) = true := by
          rw [List.any_eq_true]; exact ⟨s, List.mem_of_getElem? hs, hc2⟩
        simp [isCoatB, this]
      · (repeat (refine stq ?_))
        refine ⟨k + 1, ⟨hk', all_take_succ hall hs (by simpa using hc2)⟩, by omega, ?_⟩
        (refine Le.mk ?_ ?_; all_goals (repeat' (first | exact trivial | refine sle ?_ | refine ⟨?_, rfl, ?_⟩ | refine ⟨?_, by decide, rfl, ?_⟩ | fail)))
    · have hk' : k = c.old.length := by omega
      rw [hk', List.take_length] at hall
      have hany : c.old.any (fun s => !isWishB s) = false := by
        rw [List.any_eq_false]; intro s hs; simp [hall s hs]
      (repeat' (first | refine stq ?_ | (refine AL_do2 rfl ?_; first | refine ⟨_, op_call1 rfl rfl rfl rfl (f36 h c.lamps hh hl), nrmA rfl ?_⟩ | refine ⟨_, op_call1 rfl rfl rfl rfl (f37 c.eye), nrmA rfl ?_⟩ | refine ⟨_, op_call1 rfl rfl rfl rfl (f109 c.need 1 300), nrmA rfl ?_⟩) | (with_reducible refine AL_id ?_); (fail_if_success (refine AL_glit rfl rfl rfl (by first | exact .inl (by with_reducible rfl) | exact .inr (by with_reducible rfl)) ?_)); first | refine AL_gdec rfl rfl rfl (fun hg => ?_) (fun hg => ?_) | refine AL_gnot rfl rfl rfl (fun hg => ?_) (fun hg => ?_) | refine AL_gcases rfl rfl rfl (fun hg => ?_) (fun hg => ?_)))
      all_goals exact ⟨_, _, rfl, rfl, by simp_all [isCoatB]; try first | omega | grind⟩
theorem f91 (h : List Dye) (l : List Stock) (lo : Int) (hh : h.length ≤ 1000) (hl : stocksOK l) : ACalls Tryz.prog 91 [eHouse h, eStocks l, vi lo] (fun r => r = .pv (.bool (areStocksB h l lo))) := by
  have hl1 := hl.1
  refine ACalls.of_body hT Tryz.func91 rfl (by kernel_rfl) rfl ?_
  (repeat (refine stq ?_))
  refine AW_loopC (fun k : Nat => k ≤ l.length ∧ ∀ s ∈ l.take k, isStockB h s = true) (fun k => mkSt [(1, .pv (eStocks l)), (2, .pv (vi lo)), (3, .box 0 0), (7, .pv (vi k))] [(0, .box [.pv (.sl (h.map eDye))])] 1) (fun k => l.length - k) 0 ⟨Nat.zero_le _, by simp⟩ ?_ ?_
  · (refine Le.mk ?_ ?_; all_goals (repeat' (first | exact trivial | refine sle ?_ | refine ⟨?_, rfl, ?_⟩ | refine ⟨?_, by decide, rfl, ?_⟩ | fail)))
  · rintro k ⟨hk, hall⟩
    (repeat (refine stq ?_))
    refine AW_if rfl (fun hc1 => ?_) (fun hc1 => ?_)
    · have hk' : k < l.length := by omega
      obtain ⟨s, hs⟩ : ∃ s, l[k]? = some s := ⟨l[k], by simp [hk']⟩
      have e1 := get_map eStock hs
      have k1 := f31 h s.baths hh (hl.2 s (List.mem_of_getElem? hs))
      have k2 := f109 s.many 0 99
      have k3 := f109 s.price 0 999
      have bad : isStockB h s = false → areStocksB h l lo = false := fun hb => by
        have : l.any (fun s => !isStockB h s) = true := by
          rw [List.any_eq_true]; exact ⟨s, List.mem_of_getElem? hs, by simp [hb]⟩
        simp [areStocksB, this]
      (repeat (refine stq ?_))
      cases b1 : isBatchB h s.baths with
      | false =>
        rw [b1] at k1
        (repeat (first | refine sdq ?_ | refine DG_next (D_call rfl rfl rfl rfl rfl (k1)) ?_))
        refine DG_end hM (by kernel_rfl) ?_
        (repeat (refine stq ?_))
        exact ⟨_, _, rfl, rfl, by rw [bad (by simp [isStockB, b1])]⟩
      | true =>
        rw [b1] at k1
        cases b2 : inB s.many 0 99 with
        | false =>
          rw [b2] at k2
          (repeat (first | refine sdq ?_ | refine DG_next (D_call rfl rfl rfl rfl rfl (k1)) ?_ | refine DG_next (D_call rfl rfl rfl rfl rfl (k2)) ?_))
          refine DG_end hM (by kernel_rfl) ?_
          (repeat (refine stq ?_))
          exact ⟨_, _, rfl, rfl, by rw [bad (by simp [isStockB, b2])]⟩
        | true =>
          rw [b2] at k2
          cases b3 : inB s.price 0 999 with
          | false =>
            rw [b3] at k3
            (repeat (first | refine sdq ?_ | refine DG_next (D_call rfl rfl rfl rfl rfl (k1)) ?_ | refine DG_next (D_call rfl rfl rfl rfl rfl (k2)) ?_ | refine DG_next (D_call rfl rfl rfl rfl rfl (k3)) ?_))
            refine DG_end hM (by kernel_rfl) ?_
            (repeat (refine stq ?_))
            exact ⟨_, _, rfl, rfl, by rw [bad (by simp [isStockB, b3])]⟩
          | true =>
            rw [b3] at k3
            (repeat (first | refine sdq ?_ | refine DG_next (D_call rfl rfl rfl rfl rfl (k1)) ?_ | refine DG_next (D_call rfl rfl rfl rfl rfl (k2)) ?_ | refine DG_next (D_call rfl rfl rfl rfl rfl (k3)) ?_))
            refine DG_end hM (by kernel_rfl) ?_
            (repeat (refine stq ?_))
            refine ⟨k + 1, ⟨hk', all_take_succ hall hs (by simp [isStockB, b1, b2, b3])⟩, by omega, ?_⟩
            (refine Le.mk ?_ ?_; all_goals (repeat' (first | exact trivial | refine sle ?_ | refine ⟨?_, rfl, ?_⟩ | refine ⟨?_, by decide, rfl, ?_⟩ | fail)))
    · have hk' : k = l.length := by omega
      rw [hk', List.take_length] at hall
      have hany : l.any (fun s => !isStockB h s) = false := by
        rw [List.any_eq_false]; intro s hs; simp [hall s hs]
      (repeat' (first | refine stq ?_ | (refine AL_do2 rfl ?_; first | refine ⟨_, op_call1 rfl rfl rfl rfl (f109 l.length lo 5), nrmA rfl ?_⟩) | (with_reducible refine AL_id ?_); (fail_if_success (refine AL_glit rfl rfl rfl (by first | exact .inl (by with_reducible rfl) | exact .inr (by with_reducible rfl)) ?_)); first | refine AL_gdec rfl rfl rfl (fun hg => ?_) (fun hg => ?_) | refine AL_gnot rfl rfl rfl (fun hg => ?_) (fun hg => ?_) | refine AL_gcases rfl rfl rfl (fun hg => ?_) (fun hg => ?_)))
      exact ⟨_, _, rfl, rfl, by simp [areStocksB, hany]⟩
theorem f49 (h : List Dye) (c : Coat) (l : List Stock) (hh : houseOK h) (hc : coatOK c) (hl : stocksOK l) : ACalls Tryz.prog 49 [eHouse h, eCoat c, eStocks l] (fun r => r = .pv (.bool (isHouseB h && isCoatB h c && areStocksB h l 1))) := by
  refine ACalls.of_body hT Tryz.func49 rfl (by kernel_rfl) rfl ?_
  (repeat' (first | refine stq ?_ | (refine AL_do2 rfl ?_; first | refine ⟨_, op_call1 rfl rfl rfl rfl (f30 h hh), nrmA rfl ?_⟩ | refine ⟨_, op_call1 rfl rfl rfl rfl (f137 h c hh.1 hc), nrmA rfl ?_⟩ | refine ⟨_, op_call1 rfl rfl rfl rfl (f91 h l 1 hh.1 hl), nrmA rfl ?_⟩) | (with_reducible refine AL_id ?_); (fail_if_success (refine AL_glit rfl rfl rfl (by first | exact .inl (by with_reducible rfl) | exact .inr (by with_reducible rfl)) ?_)); first | refine AL_gdec rfl rfl rfl (fun hg => ?_) (fun hg => ?_) | refine AL_gnot rfl rfl rfl (fun hg => ?_) (fun hg => ?_) | refine AL_gcases rfl rfl rfl (fun hg => ?_) (fun hg => ?_)))
  all_goals exact ⟨_, _, rfl, rfl, by simp_all⟩
theorem f89 (set : Int) (n : Nat) (hn : n < 64) : ACalls Tryz.prog 89 [vi set, vi n] (fun r => r = .pv (.bool (bitI set n))) := by
  have hw : IntKind.u64.wrap (n : Int) = n := by
    have h0 : ((n : Int)) % 18446744073709551616 = n := by omega
    first | exact h0 | (simp only [IntKind.wrap]; simp; omega) | (unfold IntKind.wrap; simp [IntKind.bits, IntKind.signed]; omega)
  have hw0 : 0 ≤ IntKind.u64.wrap (n : Int) := by omega
  refine ACalls.of_body hT Tryz.func89 rfl (by kernel_rfl) rfl ?_
  (repeat (refine stq ?_))
  exact ⟨_, _, rfl, rfl, by rw [hw]; rfl⟩
def nearB (s old : Span) (eye : Int) : Bool := decide (old.high - s.low ≤ eye) && decide (s.high - old.low ≤ eye)
theorem f152 (s old : Span) (eye : Int) (h1 : -100000 ≤ s.low ∧ s.low ≤ 100000) (h2 : -100000 ≤ s.high ∧ s.high ≤ 100000) (h3 : -100000 ≤ old.low ∧ old.low ≤ 100000) (h4 : -100000 ≤ old.high ∧ old.high ≤ 100000) : ACalls Tryz.prog 152 [eS s, eS old, vi eye] (fun r => r = .pv (.bool (nearB s old eye))) := by
  refine ACalls.of_body hT Tryz.func152 rfl (by kernel_rfl) rfl ?_
  (repeat' (first | refine stq ?_ | (with_reducible refine AL_id ?_); (fail_if_success (refine AL_glit rfl rfl rfl (by first | exact .inl (by with_reducible rfl) | exact .inr (by with_reducible rfl)) ?_)); first | refine AL_gdec rfl rfl rfl (fun hg => ?_) (fun hg => ?_) | refine AL_gnot rfl rfl rfl (fun hg => ?_) (fun hg => ?_) | refine AL_gcases rfl rfl rfl (fun hg => ?_) (fun hg => ?_)))
  all_goals exact ⟨_, _, rfl, rfl, by simp_all [nearB]; try omega⟩
theorem sum_bd : ∀ (l : List Stock), (∀ s ∈ l, 0 ≤ s.price ∧ s.price ≤ 999) → 0 ≤ sumI (l.map fun s : Stock => s.price) ∧ sumI (l.map fun s : Stock => s.price) ≤ 999 * l.length
  | [], _ => by simp [sumI]
  | x :: l, h => by
    have h1 := h x (by simp)
    have h2 := sum_bd l fun s hs => h s (by simp [hs])
    simp only [List.map_cons, sumI, List.length_cons]; omega
theorem sum_app : ∀ (l : List Int) (x : Int), sumI (l ++ [x]) = sumI l + x
  | [], x => by simp [sumI]
  | y :: l, x => by have := sum_app l x; simp only [List.cons_append, sumI, this]; omega
theorem f68 (l : List Stock) (set : Int) (hl : l.length ≤ 60) (hp : ∀ s ∈ l, 0 ≤ s.price ∧ s.price ≤ 999) : ACalls Tryz.prog 68 [eStocks l, vi set] (fun r => r = .tup [vi (chosenL l set).length, vi (sumI ((chosenL l set).map fun s : Stock => s.price))]) := by
  refine ACalls.of_body hT Tryz.func68 rfl (by kernel_rfl) rfl ?_
  (repeat (refine stq ?_))
  refine AW_loopC (fun k : Nat => k ≤ l.length) (fun k => mkSt [(0, .pv (eStocks l)), (1, .pv (vi set)), (6, .pv (vi (chosenL (l.take k) set).length)), (7, .pv (vi (sumI ((chosenL (l.take k) set).map fun s : Stock => s.price)))), (8, .pv (vi k))] [] 0) (fun k => l.length - k) 0 (Nat.zero_le _) ?_ ?_
  · (refine Le.mk ?_ ?_; all_goals (repeat' (first | exact trivial | refine sle ?_ | refine ⟨?_, rfl, ?_⟩ | refine ⟨?_, by decide, rfl, ?_⟩ | fail)))
  · intro k hk
    (repeat (refine stq ?_))
    refine AW_if rfl (fun hc => ?_) (fun hc => ?_)
    · have hk' : k < l.length := by omega
      obtain ⟨x, hx⟩ : ∃ x, l[k]? = some x := ⟨l[k], by simp [hk']⟩
      have e1 := get_map eStock hx
      have hs := chosenL_succ set hx
      have hcl := chosenL_len (l.take k) set
      simp only [List.length_take] at hcl
      have hx1 := hp x (List.mem_of_getElem? hx)
      have hsb := sum_bd (chosenL (l.take k) set) fun s hs => hp s (List.mem_of_mem_take (chosenL_mem hs))
      (repeat' (first | refine stq ?_ | (refine AL_do2 rfl ?_; first | refine ⟨_, op_call1 rfl rfl rfl rfl (f89 set k (by omega)), nrmA rfl ?_⟩) | (with_reducible refine AL_id ?_); (fail_if_success (refine AL_glit rfl rfl rfl (by first | exact .inl (by with_reducible rfl) | exact .inr (by with_reducible rfl)) ?_)); first | refine AL_gdec rfl rfl rfl (fun hg => ?_) (fun hg => ?_) | refine AL_gnot rfl rfl rfl (fun hg => ?_) (fun hg => ?_) | refine AL_gcases rfl rfl rfl (fun hg => ?_) (fun hg => ?_)))
      refine AW_cond rfl (fun hc2 => ?_) (fun hc2 => ?_)
      · have hb : bitI set k = true := hc2
        rw [hb, if_pos rfl] at hs
        (repeat (refine stq ?_))
        (repeat (refine sdq ?_))
        refine DG_end hM (by kernel_rfl) ?_
        (repeat (refine stq ?_))
        refine ⟨k + 1, hk', by omega, ?_⟩
        (refine Le.mk ?_ ?_; all_goals (repeat' (first | exact trivial | refine sle ?_ | refine ⟨?_, rfl, ?_⟩ | refine ⟨?_, by decide, rfl, ?_⟩ | fail)))
        all_goals (rw [hs]; simp [sum_app]; try rfl)
      · have hb : bitI set k = false := hc2
        rw [hb] at hs
        (repeat (refine stq ?_))
        refine ⟨k + 1, hk', by omega, ?_⟩
        (refine Le.mk ?_ ?_; all_goals (repeat' (first | exact trivial | refine sle ?_ | refine ⟨?_, rfl, ?_⟩ | refine ⟨?_, by decide, rfl, ?_⟩ | fail)))
        all_goals (rw [hs]; simp; try rfl)
    · have hk' : k = l.length := by omega
      rw [hk', List.take_length]
      (repeat (refine stq ?_))
      exact ⟨_, _, rfl, rfl, rfl⟩
def priceC (l : List Stock) (set : Int) : Int := sumI ((chosenL l set).map fun s : Stock => s.price)
def lessI (l : List Stock) (a b : Int) : Bool := decide ((chosenL l a).length < (chosenL l b).length ∨ (chosenL l a).length = (chosenL l b).length ∧ (priceC l a < priceC l b ∨ priceC l a = priceC l b ∧ a < b))
theorem f75 (l : List Stock) (a b : Int) (hl : l.length ≤ 60) (hp : ∀ s ∈ l, 0 ≤ s.price ∧ s.price ≤ 999) : ACalls Tryz.prog 75 [eStocks l, vi a, vi b] (fun r => r = .pv (.bool (lessI l a b))) := by
  have ka := f68 l a hl hp
  have kb := f68 l b hl hp
  have ka : ACalls Tryz.prog 68 [eStocks l, vi a] (fun v => v = .tup [vi (chosenL l a).length, vi (priceC l a)]) := ka
  have kb : ACalls Tryz.prog 68 [eStocks l, vi b] (fun v => v = .tup [vi (chosenL l b).length, vi (priceC l b)]) := kb
  have hd : lessI l a b = decide (((chosenL l a).length : Int) < ((chosenL l b).length : Int) ∨ ((chosenL l a).length : Int) = ((chosenL l b).length : Int) ∧ (priceC l a < priceC l b ∨ priceC l a = priceC l b ∧ a < b)) := by
    unfold lessI; congr 1; apply propext; omega
  rw [hd]
  generalize ((chosenL l a).length : Int) = n at ka ⊢
  generalize ((chosenL l b).length : Int) = m at kb ⊢
  generalize priceC l a = x at ka ⊢
  generalize priceC l b = y at kb ⊢
  refine ACalls.of_body hT Tryz.func75 rfl (by kernel_rfl) rfl ?_
  (repeat' (first | refine AL_skip rfl rfl ?_ | refine stq ?_ | (refine AL_do2 rfl ?_; first | refine ⟨_, op_call1 rfl rfl rfl rfl (ka), nrmA rfl ?_⟩ | refine ⟨_, op_call1 rfl rfl rfl rfl (kb), nrmA rfl ?_⟩) | (with_reducible refine AL_id ?_); (fail_if_success (refine AL_glit rfl rfl rfl (by first | exact .inl (by with_reducible rfl) | exact .inr (by with_reducible rfl)) ?_)); first | refine AL_gdec rfl rfl rfl (fun hg => ?_) (fun hg => ?_) | refine AL_gnot rfl rfl rfl (fun hg => ?_) (fun hg => ?_) | refine AL_gcases rfl rfl rfl (fun hg => ?_) (fun hg => ?_)))
  all_goals exact ⟨_, _, rfl, rfl, by (refine congrArg (fun b => RV.pv (.bool b)) ?_); first | (symm; rw [decide_eq_true_iff]; omega) | (symm; rw [decide_eq_false_iff_not]; omega) | (apply decide_eq_decide.2; omega) | grind⟩
end Go.Abs
