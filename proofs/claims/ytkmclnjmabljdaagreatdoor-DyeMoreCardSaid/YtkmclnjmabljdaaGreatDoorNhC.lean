/- DyeCoats, DyeSuits, DyeRivals: the reference's sets. -/
import Derived.Test.YtkmclnjmabljdaaGreatDoorNhM
set_option linter.unusedVariables false
set_option linter.unusedSimpArgs false

namespace Go.Abs
open Go.Proofs
set_option linter.unusedVariables false
set_option linter.unusedSimpArgs false
set_option maxRecDepth 100000

theorem wrap_u64 {n : Nat} (hn : n < 64) : IntKind.u64.wrap (n : Int) = n := by
  have h0 : ((n : Int)) % 18446744073709551616 = n := by omega
  first | exact h0 | (simp only [IntKind.wrap]; simp; omega) | (unfold IntKind.wrap; simp [IntKind.bits, IntKind.signed]; omega)
def setB (set : Int) (n : Nat) : Bool := decide (set ≥ 0) && decide (set < ((2 ^ n : Nat) : Int))
theorem f67 (set : Int) (n : Nat) (hn : n ≤ 5) : ACalls Tryz.prog 67 [vi set, vi n] (fun r => r = .pv (.bool (setB set n))) := by
  have hw := wrap_u64 (n := n) (by omega)
  have hw0 : 0 ≤ IntKind.u64.wrap (n : Int) := by omega
  have hsh := (shl_len hn).1
  refine ACalls.of_body hT Tryz.func67 rfl (by kernel_rfl) rfl ?_
  (repeat' (first | refine stq ?_ | (with_reducible refine AL_id ?_); (fail_if_success (refine AL_glit rfl rfl rfl (by first | exact .inl (by with_reducible rfl) | exact .inr (by with_reducible rfl)) ?_)); first | refine AL_gdec rfl rfl rfl (fun hg => ?_) (fun hg => ?_) | refine AL_gnot rfl rfl rfl (fun hg => ?_) (fun hg => ?_) | refine AL_gcases rfl rfl rfl (fun hg => ?_) (fun hg => ?_)))
  all_goals exact ⟨_, _, rfl, rfl, by simp_all [setB]; try omega⟩
def suitsE (h : List Dye) (c : Coat) (l : List Stock) (set : Int) : Bool × Int := if isHouseB h && isCoatB h c && areStocksB h l 1 && inB set 0 (((2 ^ l.length : Nat) : Int) - 1) then (suitsI h c l set, 0) else (false, 2)
theorem f73 (h : List Dye) (c : Coat) (l : List Stock) (set : Int) (hh : houseOK h) (hc : coatOK c) (hl : stocksOK l) (hl5 : l.length ≤ 20) : ACalls Tryz.prog 73 [eHouse h, eCoat c, eStocks l, vi set] (fun r => r = .tup [.bool (suitsE h c l set).1, vi (suitsE h c l set).2]) := by
  have hl1 := hl.1
  have k105 := f105 h hh.1 hh.2
  have k126 := f126 h c hh.1 hc
  have k127 := f127 h l 1 hh.1 hl
  refine ACalls.of_body hT Tryz.func73 rfl (by kernel_rfl) rfl ?_
  cases c1 : isHouseB h with
  | false =>
    rw [c1] at k105
    (repeat' (first | refine stq ?_ | (refine AL_do2 rfl ?_; first | refine ⟨_, op_call1 rfl rfl rfl rfl (k105), nrmA rfl ?_⟩) | (with_reducible refine AL_id ?_); (fail_if_success (refine AL_glit rfl rfl rfl (by first | exact .inl (by with_reducible rfl) | exact .inr (by with_reducible rfl)) ?_)); first | refine AL_gdec rfl rfl rfl (fun hg => ?_) (fun hg => ?_) | refine AL_gnot rfl rfl rfl (fun hg => ?_) (fun hg => ?_) | refine AL_gcases rfl rfl rfl (fun hg => ?_) (fun hg => ?_)))
    exact ⟨_, _, rfl, rfl, by simp [suitsE, c1]⟩
  | true =>
    rw [c1] at k105
    cases c2 : isCoatB h c with
    | false =>
      rw [c2] at k126
      (repeat' (first | refine stq ?_ | (refine AL_do2 rfl ?_; first | refine ⟨_, op_call1 rfl rfl rfl rfl (k105), nrmA rfl ?_⟩ | refine ⟨_, op_call1 rfl rfl rfl rfl (k126), nrmA rfl ?_⟩) | (with_reducible refine AL_id ?_); (fail_if_success (refine AL_glit rfl rfl rfl (by first | exact .inl (by with_reducible rfl) | exact .inr (by with_reducible rfl)) ?_)); first | refine AL_gdec rfl rfl rfl (fun hg => ?_) (fun hg => ?_) | refine AL_gnot rfl rfl rfl (fun hg => ?_) (fun hg => ?_) | refine AL_gcases rfl rfl rfl (fun hg => ?_) (fun hg => ?_)))
      exact ⟨_, _, rfl, rfl, by simp [suitsE, c2]⟩
    | true =>
      rw [c2] at k126
      cases c3 : areStocksB h l 1 with
      | false =>
        rw [c3] at k127
        (repeat' (first | refine stq ?_ | (refine AL_do2 rfl ?_; first | refine ⟨_, op_call1 rfl rfl rfl rfl (k105), nrmA rfl ?_⟩ | refine ⟨_, op_call1 rfl rfl rfl rfl (k126), nrmA rfl ?_⟩ | refine ⟨_, op_call1 rfl rfl rfl rfl (k127), nrmA rfl ?_⟩) | (with_reducible refine AL_id ?_); (fail_if_success (refine AL_glit rfl rfl rfl (by first | exact .inl (by with_reducible rfl) | exact .inr (by with_reducible rfl)) ?_)); first | refine AL_gdec rfl rfl rfl (fun hg => ?_) (fun hg => ?_) | refine AL_gnot rfl rfl rfl (fun hg => ?_) (fun hg => ?_) | refine AL_gcases rfl rfl rfl (fun hg => ?_) (fun hg => ?_)))
        exact ⟨_, _, rfl, rfl, by simp [suitsE, c3]⟩
      | true =>
        rw [c3] at k127
        have hS := stocksP_of c3
        have hsh := shl_len hS.1
        have k113 := f113 set 0 (shlR .i64 1 l.length - 1)
        rw [hsh.1] at k113
        have hsb : -9223372036854775808 ≤ shlR .i64 1 l.length - 1 ∧ shlR .i64 1 l.length - 1 ≤ 9223372036854775807 := by
          have h32 := hsh.2
          rw [hsh.1]
          generalize (2 ^ l.length : Nat) = N at *
          omega
        have k113' : ACalls Tryz.prog 113 [vi set, vi 0, vi (shlR .i64 1 l.length - 1)] (fun r => r = .pv (.bool (inB set 0 (((2 ^ l.length : Nat) : Int) - 1)))) := by rw [hsh.1]; exact k113
        cases c4 : inB set 0 (((2 ^ l.length : Nat) : Int) - 1) with
        | false =>
          rw [c4] at k113'
          (repeat' (first | refine stq ?_ | (refine AL_do2 rfl ?_; first | refine ⟨_, op_call1 rfl rfl rfl rfl (k105), nrmA rfl ?_⟩ | refine ⟨_, op_call1 rfl rfl rfl rfl (k126), nrmA rfl ?_⟩ | refine ⟨_, op_call1 rfl rfl rfl rfl (k127), nrmA rfl ?_⟩ | refine ⟨_, op_call1 rfl rfl rfl rfl (k113'), nrmA rfl ?_⟩) | (with_reducible refine AL_id ?_); (fail_if_success (refine AL_glit rfl rfl rfl (by first | exact .inl (by with_reducible rfl) | exact .inr (by with_reducible rfl)) ?_)); first | refine AL_gdec rfl rfl rfl (fun hg => ?_) (fun hg => ?_) | refine AL_gnot rfl rfl rfl (fun hg => ?_) (fun hg => ?_) | refine AL_gcases rfl rfl rfl (fun hg => ?_) (fun hg => ?_)))
          exact ⟨_, _, rfl, rfl, by rw [show suitsE h c l set = (false, 2) by unfold suitsE; rw [if_neg (by rw [c4]; simp)]]⟩
        | true =>
          rw [c4] at k113'
          (repeat' (first | refine stq ?_ | (refine AL_do2 rfl ?_; first | refine ⟨_, op_call1 rfl rfl rfl rfl (k105), nrmA rfl ?_⟩ | refine ⟨_, op_call1 rfl rfl rfl rfl (k126), nrmA rfl ?_⟩ | refine ⟨_, op_call1 rfl rfl rfl rfl (k127), nrmA rfl ?_⟩ | refine ⟨_, op_call1 rfl rfl rfl rfl (k113'), nrmA rfl ?_⟩ | refine ⟨_, op_call1 rfl rfl rfl rfl (f131 h c l set (houseP_of c1) (coatP_of c2) (by omega) hS.2), nrmA rfl ?_⟩) | (with_reducible refine AL_id ?_); (fail_if_success (refine AL_glit rfl rfl rfl (by first | exact .inl (by with_reducible rfl) | exact .inr (by with_reducible rfl)) ?_)); first | refine AL_gdec rfl rfl rfl (fun hg => ?_) (fun hg => ?_) | refine AL_gnot rfl rfl rfl (fun hg => ?_) (fun hg => ?_) | refine AL_gcases rfl rfl rfl (fun hg => ?_) (fun hg => ?_)))
          exact ⟨_, _, rfl, rfl, by rw [show suitsE h c l set = (suitsI h c l set, 0) by unfold suitsE; rw [if_pos (by rw [c1, c2, c3, c4]; rfl)]]⟩
abbrev suO (h : List Dye) (c : Coat) : List (Nat × AObj) := [(0, .box [.pv (.sl (h.map eDye))]), (1, .box [.pv (eLamps c.lamps), .pv (vi c.eye.low), .pv (vi c.eye.high), .pv (eSpans c.old), .pv (vi c.need)])]
def manyC (l : List Stock) (set : Int) : Int := sumI ((chosenL l set).map fun s : Stock => s.many)
abbrev suE (l : List Stock) (set n : Int) (i : Nat) : List (Nat × FV) := [(2, .pv (eStocks l)), (3, .pv (vi set)), (4, .box 0 0), (5, .box 1 0), (9, .pv (vi n)), (10, .pv (vi i))]
set_option maxHeartbeats 4000000 in
theorem f74 (h : List Dye) (c : Coat) (l : List Stock) (set : Int) (hh : HouseP h) (hC : CoatP h c) (he : 0 ≤ c.eye.low ∧ c.eye.low ≤ c.eye.high ∧ c.eye.high ≤ 200) (hl : l.length ≤ 5) (hs : ∀ s ∈ l, StockP h s) :
    ACalls Tryz.prog 74 [eHouse h, eCoat c, eStocks l, vi set] (fun r => r = .pv (.bool (suitsI h c l set))) := by
  have hclen := hC.len
  have hneed := hC.need
  have hold := hC.old
  refine ACalls.of_body hT Tryz.func74 rfl (by kernel_rfl) rfl ?_
  (repeat (refine stq ?_))
  refine AW_loopC (fun i : Nat => i ≤ l.length ∧ okUp h c l set i) (fun i => mkSt (suE l set (manyC (l.take i) set) i) (suO h c) 2) (fun i => l.length - i) 0 ⟨Nat.zero_le _, fun i _ hi => by omega⟩ ?_ ?_
  · (refine Le.mk ?_ ?_; all_goals (repeat' (first | exact trivial | refine sle ?_ | refine ⟨?_, rfl, ?_⟩ | refine ⟨?_, by decide, rfl, ?_⟩ | fail)))
  · rintro i ⟨hi, hok⟩
    (repeat (refine stq ?_))
    refine AW_if rfl (fun hc1 => ?_) (fun hc1 => ?_)
    · have hi' : i < l.length := by omega
      obtain ⟨s, hsx⟩ : ∃ s, l[i]? = some s := ⟨l[i], by simp [hi']⟩
      have e1 := get_map eStock hsx
      have hsP := hs s (List.mem_of_getElem? hsx)
      have hsn := chosenL_succ set hsx
      have hcl := chosenL_len (l.take i) set
      simp only [List.length_take] at hcl
      have hmb : -99 * ((chosenL (l.take i) set).length : Int) ≤ manyC (l.take i) set ∧ manyC (l.take i) set ≤ 99 * ((chosenL (l.take i) set).length : Int) := by
        have := sumI_bd (c := 99) (l := (chosenL (l.take i) set).map fun s : Stock => s.many) fun x hx => by
          obtain ⟨y, hy, rfl⟩ := List.mem_map.1 hx
          have := hs y (List.mem_of_mem_take (chosenL_mem hy)); unfold StockP at this; omega
        simpa [manyC] using this
      have hsm : 0 ≤ s.many ∧ s.many ≤ 99 := ⟨hsP.2.1, hsP.2.2.1⟩
      (repeat' (first | refine stq ?_ | (refine AL_do2 rfl ?_; first | refine ⟨_, op_call1 rfl rfl rfl rfl (f89 set i (by omega)), nrmA rfl ?_⟩) | (with_reducible refine AL_id ?_); (fail_if_success (refine AL_glit rfl rfl rfl (by first | exact .inl (by with_reducible rfl) | exact .inr (by with_reducible rfl)) ?_)); first | refine AL_gdec rfl rfl rfl (fun hg => ?_) (fun hg => ?_) | refine AL_gnot rfl rfl rfl (fun hg => ?_) (fun hg => ?_) | refine AL_gcases rfl rfl rfl (fun hg => ?_) (fun hg => ?_)))
      refine AW_cond rfl (fun hc2 => ?_) (fun hc2 => ?_)
      · have hb : bitI set i = false := by simpa using hc2
        rw [hb] at hsn
        (repeat (refine stq ?_))
        refine ⟨i + 1, ⟨hi', okUp_succ hok hsx fun hb' => by rw [hb] at hb'; cases hb'⟩, by omega, ?_⟩
        (refine Le.mk ?_ ?_; all_goals (repeat' (first | exact trivial | refine sle ?_ | refine ⟨?_, rfl, ?_⟩ | refine ⟨?_, by decide, rfl, ?_⟩ | fail)))
        show some (FV.pv (vi (manyC (l.take i) set))) = some (FV.pv (vi (manyC (l.take (i + 1)) set)))
        simp [manyC, hsn]
      · have hb : bitI set i = true := by simpa using hc2
        rw [hb, if_pos rfl] at hsn
        have hm2 : manyC (l.take (i + 1)) set = manyC (l.take i) set + s.many := by simp [manyC, hsn, sum_app]
        have hbad := suits_bad (h := h) (c := c) hsx hb
        (repeat (refine stq ?_))
        refine AW_loopC (fun k : Nat => k ≤ c.lamps.length ∧ ∀ j, j < k → nearB (lookI h (c.lamps.getD j []) s.baths) (c.old.getD j ⟨0, 0⟩) c.eye.low = true) (fun k => mkSt (suE l set (manyC (l.take (i + 1)) set) i ++ [(11, .pv (vi k))]) (suO h c) 2) (fun k => c.lamps.length - k) 0 ⟨Nat.zero_le _, fun j hj => by omega⟩ ?_ ?_
        · rw [hm2]; (refine Le.mk ?_ ?_; all_goals (repeat' (first | exact trivial | refine sle ?_ | refine ⟨?_, rfl, ?_⟩ | refine ⟨?_, by decide, rfl, ?_⟩ | fail)))
        · rintro k ⟨hk, hnr⟩
          (repeat (refine stq ?_))
          refine AW_if rfl (fun hc3 => ?_) (fun hc3 => ?_)
          · have hk' : k < c.lamps.length := by omega
            obtain ⟨x, hx⟩ : ∃ x, c.lamps[k]? = some x := ⟨c.lamps[k], by simp [hk']⟩
            obtain ⟨u, hu⟩ : ∃ u, c.old[k]? = some u := ⟨c.old[k]'(by omega), by simp⟩
            have e2 := get_map eLampC hx
            have e3 := get_map eSpan hu
            have hxL := hC.lamps x (List.mem_of_getElem? hx)
            have hub := hC.oldb u (List.mem_of_getElem? hu)
            have k70 := f70 h x s.baths hh hxL hsP.1
            rw [look_eq hh hsP.1] at k70
            have hlb := lookI_bd hh hxL hsP.1
            unfold spanB at hlb
            have k152 := f152 (lookI h x s.baths) u c.eye.low (by omega) (by omega) (by omega) (by omega)
            have g1 : c.lamps.getD k [] = x := by simp [List.getD, hx]
            have g2 : c.old.getD k ⟨0, 0⟩ = u := by simp [List.getD, hu]
            (repeat (refine stq ?_))
            (repeat (first | refine sdq ?_ | refine DG_next (D_call rfl rfl rfl rfl rfl (k70)) ?_ | refine DG_next (D_call rfl rfl rfl rfl rfl (k152)) ?_))
            refine DG_end hM (by kernel_rfl) ?_
            (repeat (refine stq ?_))
            refine AW_cond rfl (fun hc4 => ?_) (fun hc4 => ?_)
            · have hnb : nearB (lookI h x s.baths) u c.eye.low = false := by simpa using hc4
              (repeat (refine stq ?_))
              refine ⟨_, _, rfl, rfl, ?_⟩
              rw [hbad]
              unfold okI
              rw [Bool.and_eq_false_iff]
              refine .inl ?_
              rw [Bool.eq_false_iff]
              intro hh2
              have := List.all_eq_true.1 hh2 k (by simp [hk'])
              rw [g1, g2, hnb] at this; cases this
            · have hnb : nearB (lookI h x s.baths) u c.eye.low = true := by simpa using hc4
              (repeat (refine stq ?_))
              refine ⟨k + 1, ⟨hk', fun j hj => ?_⟩, by omega, ?_⟩
              · rcases Nat.lt_or_ge j k with h1 | h1
                · exact hnr j h1
                · have : j = k := by omega
                  subst this
                  rw [g1, g2]; exact hnb
              · (refine Le.mk ?_ ?_; all_goals (repeat' (first | exact trivial | refine sle ?_ | refine ⟨?_, rfl, ?_⟩ | refine ⟨?_, by decide, rfl, ?_⟩ | fail)))
          · have hk' : k = c.lamps.length := by omega
            subst hk'
            (repeat (refine stq ?_))
            refine AW_loopC (fun j : Nat => j ≤ i ∧ ∀ j' o, j' < j → l[j']? = some o → bitI set j' = true → (c.lamps.all fun x => decide (alikeI h x s.baths o.baths c.eye = 3)) = true) (fun j => mkSt (suE l set (manyC (l.take (i + 1)) set) i ++ [(12, .pv (vi j))]) (suO h c) 2) (fun j => i - j) 0 ⟨Nat.zero_le _, fun j' o hj => by omega⟩ ?_ ?_
            · (refine Le.mk ?_ ?_; all_goals (repeat' (first | exact trivial | refine sle ?_ | refine ⟨?_, rfl, ?_⟩ | refine ⟨?_, by decide, rfl, ?_⟩ | fail)))
            · rintro j ⟨hj, hall⟩
              (repeat (refine stq ?_))
              refine AW_if rfl (fun hc3 => ?_) (fun hc3 => ?_)
              · have hj' : j < i := by omega
                obtain ⟨o, hox⟩ : ∃ o, l[j]? = some o := ⟨l[j]'(by omega), by simp⟩
                have e2 := get_map eStock hox
                have hoP := hs o (List.mem_of_getElem? hox)
                (repeat' (first | refine stq ?_ | (refine AL_do2 rfl ?_; first | refine ⟨_, op_call1 rfl rfl rfl rfl (f89 set j (by omega)), nrmA rfl ?_⟩) | (with_reducible refine AL_id ?_); (fail_if_success (refine AL_glit rfl rfl rfl (by first | exact .inl (by with_reducible rfl) | exact .inr (by with_reducible rfl)) ?_)); first | refine AL_gdec rfl rfl rfl (fun hg => ?_) (fun hg => ?_) | refine AL_gnot rfl rfl rfl (fun hg => ?_) (fun hg => ?_) | refine AL_gcases rfl rfl rfl (fun hg => ?_) (fun hg => ?_)))
                refine AW_cond rfl (fun hc4 => ?_) (fun hc4 => ?_)
                · have hbj : bitI set j = false := by simpa using hc4
                  (repeat (refine stq ?_))
                  refine ⟨j + 1, ⟨hj', fun j' o' h1 h2 h3 => ?_⟩, by omega, ?_⟩
                  · rcases Nat.lt_or_ge j' j with h4 | h4
                    · exact hall j' o' h4 h2 h3
                    · have : j' = j := by omega
                      subst this
                      rw [hbj] at h3; cases h3
                  · (refine Le.mk ?_ ?_; all_goals (repeat' (first | exact trivial | refine sle ?_ | refine ⟨?_, rfl, ?_⟩ | refine ⟨?_, by decide, rfl, ?_⟩ | fail)))
                · have hbj : bitI set j = true := by simpa using hc4
                  have kW := (f39 h c.lamps s.baths o.baths c.eye hh (by omega) hC.lamps hsP.1 hoP.1 he).pure
                  have hweq : (c.lamps.map fun x => wordL c.eye (diffsR h x s.baths o.baths)) = c.lamps.map fun x => alikeI h x s.baths o.baths c.eye := List.map_congr_left fun x hx => by
                    rw [wordL_eq he.2.1 (diffsR_mem hh hsP.1 hoP.1)]; rfl
                  rw [hweq] at kW
                  have kW : ACalls Tryz.prog 39 [eHouse h, eLamps c.lamps, eBaths s.baths, eBaths o.baths, eS c.eye] (fun r => r = .pv (eInts (c.lamps.map fun x => alikeI h x s.baths o.baths c.eye))) := kW
                  have hwall : (c.lamps.all fun x => decide (alikeI h x s.baths o.baths c.eye = 3)) = true ↔ ∀ y ∈ (c.lamps.map fun x => alikeI h x s.baths o.baths c.eye), y = 3 := by simp
                  have hwl : (c.lamps.map fun x => alikeI h x s.baths o.baths c.eye).length ≤ 3 := by simpa using hclen
                  generalize hW : (c.lamps.map fun x => alikeI h x s.baths o.baths c.eye) = w at kW hwall hwl
                  (repeat (refine stq ?_))
                  (repeat (first | refine sdq ?_ | refine DG_next (D_call rfl rfl rfl rfl rfl (kW)) ?_))
                  refine DG_end hM (by kernel_rfl) ?_
                  (repeat (refine stq ?_))
                  refine AW_loopC (fun q : Nat => q ≤ w.length ∧ ∀ y ∈ w.take q, y = 3) (fun q => mkSt (suE l set (manyC (l.take (i + 1)) set) i ++ [(12, .pv (vi j)), (13, .pv (eInts w)), (14, .pv (vi q))]) (suO h c) 2) (fun q => w.length - q) 0 ⟨Nat.zero_le _, by simp⟩ ?_ ?_
                  · (refine Le.mk ?_ ?_; all_goals (repeat' (first | exact trivial | refine sle ?_ | refine ⟨?_, rfl, ?_⟩ | refine ⟨?_, by decide, rfl, ?_⟩ | fail)))
                  · rintro q ⟨hq, hqa⟩
                    (repeat (refine stq ?_))
                    refine AW_if rfl (fun hc5 => ?_) (fun hc5 => ?_)
                    · have hq' : q < w.length := by omega
                      obtain ⟨y, hy⟩ : ∃ y, w[q]? = some y := ⟨w[q], by simp [hq']⟩
                      have e4 := get_map eInt hy
                      (repeat (refine stq ?_))
                      refine AW_if rfl (fun hc6 => ?_) (fun hc6 => ?_)
                      · (repeat (refine stq ?_))
                        refine ⟨_, _, rfl, rfl, ?_⟩
                        rw [hbad]
                        unfold okI
                        rw [Bool.and_eq_false_iff]
                        refine .inr ?_
                        rw [Bool.eq_false_iff]
                        intro hh2
                        have h7 := List.all_eq_true.1 hh2 o (chosen_mem_idx hox hbj hj')
                        exact hc6 (hwall.1 h7 y (List.mem_of_getElem? hy))
                      · (repeat (refine stq ?_))
                        refine ⟨q + 1, ⟨hq', all_take_succ hqa hy (by omega)⟩, by omega, ?_⟩
                        (refine Le.mk ?_ ?_; all_goals (repeat' (first | exact trivial | refine sle ?_ | refine ⟨?_, rfl, ?_⟩ | refine ⟨?_, by decide, rfl, ?_⟩ | fail)))
                    · have hq' : q = w.length := by omega
                      rw [hq', List.take_length] at hqa
                      (repeat (refine stq ?_))
                      refine ⟨j + 1, ⟨hj', fun j' o' h1 h2 h3 => ?_⟩, by omega, ?_⟩
                      · rcases Nat.lt_or_ge j' j with h4 | h4
                        · exact hall j' o' h4 h2 h3
                        · have : j' = j := by omega
                          subst this
                          rw [hox] at h2; cases h2
                          exact hwall.2 hqa
                      · (refine Le.mk ?_ ?_; all_goals (repeat' (first | exact trivial | refine sle ?_ | refine ⟨?_, rfl, ?_⟩ | refine ⟨?_, by decide, rfl, ?_⟩ | fail)))
              · have hj' : j = i := by omega
                subst hj'
                (repeat (refine stq ?_))
                refine ⟨j + 1, ⟨hi', okUp_succ hok hsx fun _ => ?_⟩, by omega, ?_⟩
                · unfold okI
                  rw [Bool.and_eq_true]
                  refine ⟨List.all_eq_true.2 fun q hq => hnr q (by simpa using hq), List.all_eq_true.2 fun o ho => ?_⟩
                  obtain ⟨p, hp⟩ := List.mem_iff_getElem?.1 ho
                  obtain ⟨j', h1, h2, h3, h4⟩ := chosen_idx _ p o hp
                  exact hall j' o h1 h2 h3
                · (refine Le.mk ?_ ?_; all_goals (repeat' (first | exact trivial | refine sle ?_ | refine ⟨?_, rfl, ?_⟩ | refine ⟨?_, by decide, rfl, ?_⟩ | fail)))
    · have hi' : i = l.length := by omega
      subst hi'
      (repeat (refine stq ?_))
      refine ⟨_, _, rfl, rfl, ?_⟩
      have ha := all_ok.2 hok
      unfold suitsI
      rw [ha, List.take_length]
      simp [manyC]
set_option maxHeartbeats 2000000 in
theorem f50 (h : List Dye) (c : Coat) (l : List Stock) (hh : HouseP h) (hC : CoatP h c) (he : 0 ≤ c.eye.low ∧ c.eye.low ≤ c.eye.high ∧ c.eye.high ≤ 200) (hl : l.length ≤ 5) (hs : ∀ s ∈ l, StockP h s) :
    ACalls Tryz.prog 50 [eHouse h, eCoat c, eStocks l] (fun r => r = .pv (vi (bstI h c l (2 ^ l.length)))) := by
  have hw := wrap_u64 (n := l.length) (by omega)
  have hw0 : 0 ≤ IntKind.u64.wrap (l.length : Int) := by omega
  have hsh := shl_len hl
  have hN := hsh.2
  have hbl := @better_less l hl
  have hpr : ∀ s ∈ l, 0 ≤ s.price ∧ s.price ≤ 999 := fun s hx => ⟨(hs s hx).2.2.2.1, (hs s hx).2.2.2.2⟩
  generalize hNN : (2 ^ l.length : Nat) = N at *
  refine ACalls.of_body hT Tryz.func50 rfl (by kernel_rfl) rfl ?_
  (repeat (refine stq ?_))
  refine AW_loopC (fun k : Nat => k ≤ N) (fun k => mkSt [(2, .pv (eStocks l)), (3, .box 0 0), (4, .box 1 0), (7, .pv (vi (bstI h c l k))), (8, .pv (vi k))] (suO h c) 2) (fun k => N - k) 0 (Nat.zero_le _) ?_ ?_
  · (refine Le.mk ?_ ?_; all_goals (repeat' (first | exact trivial | refine sle ?_ | refine ⟨?_, rfl, ?_⟩ | refine ⟨?_, by decide, rfl, ?_⟩ | fail)))
  · intro k hk
    have hbd := bstI_bd h c l k
    have hsn := bstI_succ h c l k
    (repeat (refine stq ?_))
    refine AW_if rfl (fun hc => ?_) (fun hc => ?_)
    · rw [hw, hsh.1] at hc
      have hk' : k < N := by omega
      have k74 := f74 h c l k hh hC he hl hs
      have k75 := f75 l k (bstI h c l k) (by omega) hpr
      generalize hB : bstI h c l k = B at hbd hsn k75 ⊢
      by_cases h0 : B < 0
      · (repeat' (first | refine stq ?_ | (refine AL_do2 rfl ?_; first | refine ⟨_, op_call1 rfl rfl rfl rfl (k74), nrmA rfl ?_⟩) | (with_reducible refine AL_id ?_); (fail_if_success (refine AL_glit rfl rfl rfl (by first | exact .inl (by with_reducible rfl) | exact .inr (by with_reducible rfl)) ?_)); first | refine AL_gdec rfl rfl rfl (fun hg => ?_) (fun hg => ?_) | refine AL_gnot rfl rfl rfl (fun hg => ?_) (fun hg => ?_) | refine AL_gcases rfl rfl rfl (fun hg => ?_) (fun hg => ?_)))
        all_goals (try (exfalso; omega))
        refine AW_cond rfl (fun hc2 => ?_) (fun hc2 => ?_)
        · rw [hc2, if_pos ⟨.inl h0, rfl⟩] at hsn
          (repeat (refine stq ?_))
          refine ⟨k + 1, hk', by omega, ?_⟩
          rw [hsn]
          (refine Le.mk ?_ ?_; all_goals (repeat' (first | exact trivial | refine sle ?_ | refine ⟨?_, rfl, ?_⟩ | refine ⟨?_, by decide, rfl, ?_⟩ | fail)))
        · rw [hc2, if_neg (by simp)] at hsn
          (repeat (refine stq ?_))
          refine ⟨k + 1, hk', by omega, ?_⟩
          rw [hsn]
          (refine Le.mk ?_ ?_; all_goals (repeat' (first | exact trivial | refine sle ?_ | refine ⟨?_, rfl, ?_⟩ | refine ⟨?_, by decide, rfl, ?_⟩ | fail)))
      · rw [← hbl (by omega) (by omega)] at k75
        cases b1 : betterI l k B with
        | false =>
          rw [b1] at k75 hsn
          rw [if_neg (by simp; omega)] at hsn
          (repeat' (first | refine stq ?_ | (refine AL_do2 rfl ?_; first | refine ⟨_, op_call1 rfl rfl rfl rfl (k75), nrmA rfl ?_⟩) | (with_reducible refine AL_id ?_); (fail_if_success (refine AL_glit rfl rfl rfl (by first | exact .inl (by with_reducible rfl) | exact .inr (by with_reducible rfl)) ?_)); first | refine AL_gdec rfl rfl rfl (fun hg => ?_) (fun hg => ?_) | refine AL_gnot rfl rfl rfl (fun hg => ?_) (fun hg => ?_) | refine AL_gcases rfl rfl rfl (fun hg => ?_) (fun hg => ?_)))
          all_goals (try (exfalso; omega))
          refine ⟨k + 1, hk', by omega, ?_⟩
          rw [hsn]
          (refine Le.mk ?_ ?_; all_goals (repeat' (first | exact trivial | refine sle ?_ | refine ⟨?_, rfl, ?_⟩ | refine ⟨?_, by decide, rfl, ?_⟩ | fail)))
        | true =>
          rw [b1] at k75 hsn
          (repeat' (first | refine stq ?_ | (refine AL_do2 rfl ?_; first | refine ⟨_, op_call1 rfl rfl rfl rfl (k75), nrmA rfl ?_⟩ | refine ⟨_, op_call1 rfl rfl rfl rfl (k74), nrmA rfl ?_⟩) | (with_reducible refine AL_id ?_); (fail_if_success (refine AL_glit rfl rfl rfl (by first | exact .inl (by with_reducible rfl) | exact .inr (by with_reducible rfl)) ?_)); first | refine AL_gdec rfl rfl rfl (fun hg => ?_) (fun hg => ?_) | refine AL_gnot rfl rfl rfl (fun hg => ?_) (fun hg => ?_) | refine AL_gcases rfl rfl rfl (fun hg => ?_) (fun hg => ?_)))
          all_goals (try (exfalso; omega))
          refine AW_cond rfl (fun hc2 => ?_) (fun hc2 => ?_)
          · rw [hc2, if_pos ⟨.inr rfl, rfl⟩] at hsn
            (repeat (refine stq ?_))
            refine ⟨k + 1, hk', by omega, ?_⟩
            rw [hsn]
            (refine Le.mk ?_ ?_; all_goals (repeat' (first | exact trivial | refine sle ?_ | refine ⟨?_, rfl, ?_⟩ | refine ⟨?_, by decide, rfl, ?_⟩ | fail)))
          · rw [hc2, if_neg (by simp)] at hsn
            (repeat (refine stq ?_))
            refine ⟨k + 1, hk', by omega, ?_⟩
            rw [hsn]
            (refine Le.mk ?_ ?_; all_goals (repeat' (first | exact trivial | refine sle ?_ | refine ⟨?_, rfl, ?_⟩ | refine ⟨?_, by decide, rfl, ?_⟩ | fail)))
    · rw [hw, hsh.1] at hc
      have hk' : k = N := by omega
      subst hk'
      (repeat (refine stq ?_))
      exact ⟨_, _, rfl, rfl, rfl⟩
theorem asked_of {h : List Dye} {c : Coat} {l : List Stock} (ha : (isHouseB h && isCoatB h c && areStocksB h l 1) = true) : isHouseB h = true ∧ isCoatB h c = true ∧ areStocksB h l 1 = true := by
  simp only [Bool.and_eq_true] at ha; exact ⟨ha.1.1, ha.1.2, ha.2⟩
theorem coat_eye {h : List Dye} {c : Coat} (hc : isCoatB h c = true) : 0 ≤ c.eye.low ∧ c.eye.low ≤ c.eye.high ∧ c.eye.high ≤ 200 := by
  simp only [isCoatB, Bool.and_eq_true] at hc
  have := eyeB_of hc.1.1.1.2; omega
theorem coatE_eq {h : List Dye} {c : Coat} {l : List Stock} (ha : (isHouseB h && isCoatB h c && areStocksB h l 1) = true) : coatE h c l = if bstI h c l (2 ^ l.length) < 0 then (0, 5) else (bstI h c l (2 ^ l.length), 0) := by
  have hb := bstI_bd h c l (2 ^ l.length)
  unfold coatE
  rw [if_pos ha]
  by_cases h0 : (setsI h c l (2 ^ l.length)).length > 0
  · rw [if_pos h0, if_neg (by omega)]
    unfold bstI; rw [if_pos h0]
  · rw [if_neg h0, if_pos (by omega)]
set_option maxHeartbeats 2000000 in
theorem f6 (h : List Dye) (c : Coat) (l : List Stock) : ACalls Tryz.prog 6 [eHouse h, eCoat c, eStocks l] (fun r => r = .pv (.bool true)) := by
  have k27 := f27 h
  have k46 := f46 c
  have k47 := f47 l
  refine ACalls.of_body hT Tryz.func6 rfl (by kernel_rfl) rfl ?_
  by_cases hs : slimB h = true ∧ tidyB c = true ∧ stockedB l = true
  · obtain ⟨hs, ht, hk⟩ := hs
    rw [hs] at k27
    rw [ht] at k46
    rw [hk] at k47
    have hOK := slim_houseOK hs
    have hcO := (tidy_ok ht).2.2.2
    have hsO := (stocked_ok hk).2.2
    have k48 := f48 h c l hOK hcO hsO
    have k49 := f49 h c l hOK hcO hsO
    cases ha : (isHouseB h && isCoatB h c && areStocksB h l 1) with
    | false =>
      rw [ha] at k49
      have e : coatE h c l = (0, 2) := by unfold coatE; rw [if_neg (by rw [ha]; simp)]
      rw [e] at k48
      have k48 : ACalls Tryz.prog 48 [eHouse h, eCoat c, eStocks l] (fun r => r = .tup [vi 0, vi 2]) := k48
      (repeat' (first | refine stq ?_ | (refine AL_do2 rfl ?_; first | refine ⟨_, op_call1 rfl rfl rfl rfl (k27), nrmA rfl ?_⟩ | refine ⟨_, op_call1 rfl rfl rfl rfl (k46), nrmA rfl ?_⟩ | refine ⟨_, op_call1 rfl rfl rfl rfl (k47), nrmA rfl ?_⟩ | refine ⟨_, op_call1 rfl rfl rfl rfl (k48), nrmA rfl ?_⟩ | refine ⟨_, op_call1 rfl rfl rfl rfl (k49), nrmA rfl ?_⟩ | refine ⟨_, op_call1 rfl rfl rfl rfl (f28), nrmA rfl ?_⟩) | (with_reducible refine AL_id ?_); (fail_if_success (refine AL_glit rfl rfl rfl (by first | exact .inl (by with_reducible rfl) | exact .inr (by with_reducible rfl)) ?_)); first | refine AL_gdec rfl rfl rfl (fun hg => ?_) (fun hg => ?_) | refine AL_gnot rfl rfl rfl (fun hg => ?_) (fun hg => ?_) | refine AL_gcases rfl rfl rfl (fun hg => ?_) (fun hg => ?_)))
      exact ⟨_, _, rfl, rfl, rfl⟩
    | true =>
      rw [ha] at k49
      obtain ⟨w1, w2, w3⟩ := asked_of ha
      have hS := stocksP_of w3
      have k50 := f50 h c l (houseP_of w1) (coatP_of w2) (coat_eye w2) hS.1 hS.2
      rw [coatE_eq ha] at k48
      generalize bstI h c l (2 ^ l.length) = B at k48 k50
      by_cases h0 : B < 0
      · rw [if_pos h0] at k48
        have k48 : ACalls Tryz.prog 48 [eHouse h, eCoat c, eStocks l] (fun r => r = .tup [vi 0, vi 5]) := k48
        (repeat' (first | refine stq ?_ | (refine AL_do2 rfl ?_; first | refine ⟨_, op_call1 rfl rfl rfl rfl (k27), nrmA rfl ?_⟩ | refine ⟨_, op_call1 rfl rfl rfl rfl (k46), nrmA rfl ?_⟩ | refine ⟨_, op_call1 rfl rfl rfl rfl (k47), nrmA rfl ?_⟩ | refine ⟨_, op_call1 rfl rfl rfl rfl (k48), nrmA rfl ?_⟩ | refine ⟨_, op_call1 rfl rfl rfl rfl (k49), nrmA rfl ?_⟩ | refine ⟨_, op_call1 rfl rfl rfl rfl (k50), nrmA rfl ?_⟩) | (with_reducible refine AL_id ?_); (fail_if_success (refine AL_glit rfl rfl rfl (by first | exact .inl (by with_reducible rfl) | exact .inr (by with_reducible rfl)) ?_)); first | refine AL_gdec rfl rfl rfl (fun hg => ?_) (fun hg => ?_) | refine AL_gnot rfl rfl rfl (fun hg => ?_) (fun hg => ?_) | refine AL_gcases rfl rfl rfl (fun hg => ?_) (fun hg => ?_)))
        refine AW_if rfl (fun hc2 => ?_) (fun hc2 => absurd h0 hc2)
        (repeat' (first | refine stq ?_ | (refine AL_do2 rfl ?_; first | refine ⟨_, op_call1 rfl rfl rfl rfl (f28), nrmA rfl ?_⟩) | (with_reducible refine AL_id ?_); (fail_if_success (refine AL_glit rfl rfl rfl (by first | exact .inl (by with_reducible rfl) | exact .inr (by with_reducible rfl)) ?_)); first | refine AL_gdec rfl rfl rfl (fun hg => ?_) (fun hg => ?_) | refine AL_gnot rfl rfl rfl (fun hg => ?_) (fun hg => ?_) | refine AL_gcases rfl rfl rfl (fun hg => ?_) (fun hg => ?_)))
        exact ⟨_, _, rfl, rfl, rfl⟩
      · rw [if_neg h0] at k48
        have k48 : ACalls Tryz.prog 48 [eHouse h, eCoat c, eStocks l] (fun r => r = .tup [vi B, vi 0]) := k48
        (repeat' (first | refine stq ?_ | (refine AL_do2 rfl ?_; first | refine ⟨_, op_call1 rfl rfl rfl rfl (k27), nrmA rfl ?_⟩ | refine ⟨_, op_call1 rfl rfl rfl rfl (k46), nrmA rfl ?_⟩ | refine ⟨_, op_call1 rfl rfl rfl rfl (k47), nrmA rfl ?_⟩ | refine ⟨_, op_call1 rfl rfl rfl rfl (k48), nrmA rfl ?_⟩ | refine ⟨_, op_call1 rfl rfl rfl rfl (k49), nrmA rfl ?_⟩ | refine ⟨_, op_call1 rfl rfl rfl rfl (k50), nrmA rfl ?_⟩) | (with_reducible refine AL_id ?_); (fail_if_success (refine AL_glit rfl rfl rfl (by first | exact .inl (by with_reducible rfl) | exact .inr (by with_reducible rfl)) ?_)); first | refine AL_gdec rfl rfl rfl (fun hg => ?_) (fun hg => ?_) | refine AL_gnot rfl rfl rfl (fun hg => ?_) (fun hg => ?_) | refine AL_gcases rfl rfl rfl (fun hg => ?_) (fun hg => ?_)))
        refine AW_if rfl (fun hc2 => absurd hc2 h0) (fun hc2 => ?_)
        (repeat' (first | refine stq ?_ | (refine AL_do2 rfl ?_; first | refine ⟨_, op_call1 rfl rfl rfl rfl (f28), nrmA rfl ?_⟩) | (with_reducible refine AL_id ?_); (fail_if_success (refine AL_glit rfl rfl rfl (by first | exact .inl (by with_reducible rfl) | exact .inr (by with_reducible rfl)) ?_)); first | refine AL_gdec rfl rfl rfl (fun hg => ?_) (fun hg => ?_) | refine AL_gnot rfl rfl rfl (fun hg => ?_) (fun hg => ?_) | refine AL_gcases rfl rfl rfl (fun hg => ?_) (fun hg => ?_)))
        all_goals (first | exact ⟨_, _, rfl, rfl, rfl⟩ | (exfalso; simp_all; done) | skip)
  · (repeat' (first | refine stq ?_ | (refine AL_do2 rfl ?_; first | refine ⟨_, op_call1 rfl rfl rfl rfl (k27), nrmA rfl ?_⟩ | refine ⟨_, op_call1 rfl rfl rfl rfl (k46), nrmA rfl ?_⟩ | refine ⟨_, op_call1 rfl rfl rfl rfl (k47), nrmA rfl ?_⟩ | refine ⟨_, op_call1 rfl rfl rfl rfl (f28), nrmA rfl ?_⟩) | (with_reducible refine AL_id ?_); (fail_if_success (refine AL_glit rfl rfl rfl (by first | exact .inl (by with_reducible rfl) | exact .inr (by with_reducible rfl)) ?_)); first | refine AL_gdec rfl rfl rfl (fun hg => ?_) (fun hg => ?_) | refine AL_gnot rfl rfl rfl (fun hg => ?_) (fun hg => ?_) | refine AL_gcases rfl rfl rfl (fun hg => ?_) (fun hg => ?_)))
    all_goals (first | exact ⟨_, _, rfl, rfl, rfl⟩ | skip)
    refine AW_cond rfl (fun hc => ?_) (fun hc => ?_)
    · (repeat' (first | refine stq ?_ | (refine AL_do2 rfl ?_; first | refine ⟨_, op_call1 rfl rfl rfl rfl (f28), nrmA rfl ?_⟩) | (with_reducible refine AL_id ?_); (fail_if_success (refine AL_glit rfl rfl rfl (by first | exact .inl (by with_reducible rfl) | exact .inr (by with_reducible rfl)) ?_)); first | refine AL_gdec rfl rfl rfl (fun hg => ?_) (fun hg => ?_) | refine AL_gnot rfl rfl rfl (fun hg => ?_) (fun hg => ?_) | refine AL_gcases rfl rfl rfl (fun hg => ?_) (fun hg => ?_)))
      exact ⟨_, _, rfl, rfl, rfl⟩
    · exfalso; apply hs; simp_all
end Go.Abs
