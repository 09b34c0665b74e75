/- DrumTops: the contract of the statement's function. -/
import Derived.Test.YtmplfjolcdlipaaGreatDoorLdQ5
import Derived.Test.YtmplfjolcdlipaaGreatDoorDrN
import Derived.Test.YtmplfjolcdlipaaGreatDoorNcG
import Derived.Test.YtmplfjolcdlipaaGreatDoorXQ5
set_option linter.unusedVariables false
set_option linter.unusedSimpArgs false
namespace Go.Abs
open Go.Proofs
set_option linter.unusedVariables false
set_option linter.unusedSimpArgs false
set_option maxRecDepth 100000
theorem f36 (d : Drum) (hour : Int) (hl : d.strips.length ≤ 1000) : ACalls Tryz.prog 36 [eDrum d, vi hour] (fun r => r = .pv (.bool (lateB d hour))) := by
  refine ACalls.of_body hT Tryz.func36 rfl (by kernel_rfl) rfl ?_
  (repeat (refine stq ?_))
  refine AW_loopC (fun k : Nat => k ≤ d.strips.length ∧ ∀ x ∈ d.strips.take k, ¬ x.hour ≥ hour) (fun k => mkSt [(1, .pv (vi hour)), (2, .box 0 0), (5, .pv (vi k))] [(0, .box ((eDrumC d).map FV.pv))] 1) (fun k => d.strips.length - k) 0 ⟨Nat.zero_le _, by simp⟩ ?_ ?_
  · (refine Le.mk ?_ ?_; all_goals (repeat' (first | exact trivial | refine sle ?_ | refine ⟨?_, rfl, ?_⟩ | refine ⟨?_, by decide, rfl, ?_⟩ | fail)))
  · rintro k ⟨hk, hall⟩
    (repeat (refine stq ?_))
    refine AW_if rfl (fun hc => ?_) (fun hc => ?_)
    · have hk' : k < d.strips.length := by omega
      obtain ⟨s, hs⟩ : ∃ x, d.strips[k]? = some x := ⟨d.strips[k], by simp [hk']⟩
      have e1 := get_map eStrip hs
      (repeat (refine stq ?_))
      refine AW_if rfl (fun hc2 => ?_) (fun hc2 => ?_)
      · (repeat (refine stq ?_))
        exact ⟨_, _, rfl, rfl, by
          rw [show lateB d hour = true from List.any_eq_true.2 ⟨s, List.mem_of_getElem? hs, by simp; omega⟩]⟩
      · (repeat (refine stq ?_))
        refine ⟨k + 1, ⟨hk', fun x hx => ?_⟩, by omega, ?_⟩
        · rw [List.take_add_one, List.mem_append] at hx
          rcases hx with hx | hx
          · exact hall x hx
          · rw [hs] at hx; simp at hx; rw [hx]; exact hc2
        · (refine Le.mk ?_ ?_; all_goals (repeat' (first | exact trivial | refine sle ?_ | refine ⟨?_, rfl, ?_⟩ | refine ⟨?_, by decide, rfl, ?_⟩ | fail)))
    · have hk' : k = d.strips.length := by omega
      subst hk'
      rw [List.take_length] at hall
      (repeat (refine stq ?_))
      exact ⟨_, _, rfl, rfl, by
        rw [show lateB d hour = false from List.any_eq_false.2 fun x hx => by have := hall x hx; simp; omega]⟩
set_option maxHeartbeats 4000000 in
theorem f80 (d : Drum) (h : Nat) (n : Int) (hh : h < d.adds.length) (hl : d.adds.length ≤ 1000) : ACalls Tryz.prog 80 [eDrum d, vi h, vi n] (fun r => r = .pv (eDrum (putD d h n))) := by
  have hlt : ((h : Nat) : Int).toNat < (d.adds.map eInt).length := by rw [List.length_map]; omega
  have e3 : (d.adds.map eInt)[((h : Nat) : Int).toNat]? = some (eInt (d.adds.getD h 0)) := by
    rw [show ((h : Nat) : Int).toNat = h by omega, List.getElem?_map, List.getD_eq_getElem?_getD, List.getElem?_eq_getElem hh]; rfl
  refine ACalls.of_body hT Tryz.func80 rfl (by kernel_rfl) rfl ?_
  (repeat (refine stq ?_))
  refine AL_do2 rfl ⟨_, op_append_nil1 (e := 3) (sz := 1) hT rfl rfl rfl rfl rfl rfl rfl rfl rfl rfl (by intro y hy; (first | (simp only [List.mem_cons, List.not_mem_nil, or_false] at hy; subst hy; rfl) | (simp only [List.mem_cons, List.not_mem_nil, or_false] at hy; rcases hy with hy | hy <;> subst hy <;> rfl) | (obtain ⟨_, _, rfl⟩ := List.mem_map.1 hy; rfl) | (cases hy))) (by simp only [List.length_map, List.length_take, List.length_cons, List.length_nil, List.length_append]; omega) rfl, ?_⟩
  (repeat (refine stq ?_))
  refine AL_do2 rfl ⟨_, op_indexAddr_arr (k := .i64) (n := (h : Int)) (id := 3) (e' := 3) (sz := 1) (es := d.adds.map eInt) hT rfl rfl rfl rfl rfl rfl rfl rfl (by omega) hlt rfl, ?_⟩
  refine AL_do2 rfl ⟨_, op_store_aptr (el := eInt (d.adds.getD h 0)) hT rfl rfl rfl rfl rfl e3 rfl rfl rfl rfl, ?_⟩
  refine AL_nil ?_
  refine then_normal ?_
  refine AW_arrBox (b := 2) 3 rfl rfl rfl rfl ?_
  (repeat (refine stq ?_))
  refine ⟨_, _, rfl, rfl, ?_⟩
  have hm := map_putI d.adds h n
  exact congrArg (fun es => RV.pv (.agg [.sl (d.acids.map eAcid), vi d.known, vi d.hours, .sl es, .sl (d.strips.map eStrip), .sl (d.batches.map eBatch)])) hm
theorem top_same (d : Drum) (by_ : Int) : inB by_ (meetL (winR d)).low (meetL (winR d)).high = inB by_ (allW d).low (allW d).high := by
  have h := win_same (d := d) (p := fun _ => true) (n := by_)
  rw [pick_all (winR d) fun _ _ => rfl] at h
  unfold inB
  rw [Bool.eq_iff_iff]
  simp only [Bool.and_eq_true, decide_eq_true_eq]
  exact h
def topV (o : Option Nat) : Int := match o with | some n => n | none => -1
set_option maxHeartbeats 4000000 in
theorem f37 (d : Drum) (hP : DrumP d) (h : Nat) (by_ : Int) (hh : (h : Int) < d.hours) : ACalls Tryz.prog 37 [eDrum d, vi h, vi by_] (fun r => r = .pv (vi (topV (topO d h by_)))) := by
  have hal := hP.al
  have h1 := hP.h1
  have hb1 := hP.b1
  refine ACalls.of_body hT Tryz.func37 rfl (by kernel_rfl) rfl ?_
  (repeat (refine stq ?_))
  refine AW_loopC (fun k : Nat => k ≤ 101 ∧ ∀ i, i < k → topB d h by_ i = false) (fun k => mkSt [(1, .pv (vi h)), (2, .pv (vi by_)), (3, .box 0 0), (7, .pv (vi k))] [(0, .box ((eDrumC d).map FV.pv))] 1) (fun k => 101 - k) 0 ⟨Nat.zero_le _, fun i hi => by omega⟩ ?_ ?_
  · (refine Le.mk ?_ ?_; all_goals (repeat' (first | exact trivial | refine sle ?_ | refine ⟨?_, rfl, ?_⟩ | refine ⟨?_, by decide, rfl, ?_⟩ | fail)))
  · rintro k ⟨hk, hno⟩
    (repeat (refine stq ?_))
    refine AW_if rfl (fun hc => ?_) (fun hc => ?_)
    · have hk' : k < 101 := by omega
      have k80 := f80 d h k (by omega) (by omega)
      have hxP := put_P hP h (n := (k : Int)) (by omega) (by omega)
      have k49 := f49 (putD d h k) hxP
      have hwl : (winR (putD d h k)).length ≤ 1000 := by rw [winR_len]; show d.batches.length ≤ 1000; omega
      have k57 := f57 (winR (putD d h k)) [] 0 hwl (by simp) (.inl rfl)
      rw [common_nil] at k57
      have htb : topB d h by_ k = inB by_ (meetL (winR (putD d h k))).low (meetL (winR (putD d h k))).high := (top_same _ _).symm
      generalize meetL (winR (putD d h k)) = A at *
      generalize winR (putD d h k) = W at *
      have k103 := f103 by_ A.low A.high
      cases hb : topB d h by_ k with
      | true =>
        rw [← htb, hb] at k103
        (repeat' (first | refine stq ?_ | (refine AL_do2 rfl ?_; first | refine ⟨_, op_call1 rfl rfl rfl rfl (k80), nrmA rfl ?_⟩ | refine ⟨_, op_call1 rfl rfl rfl rfl (k49), nrmA rfl ?_⟩ | refine ⟨_, op_call1 rfl rfl rfl rfl (k57), nrmA rfl ?_⟩ | refine ⟨_, op_call1 rfl rfl rfl rfl (k103), nrmA rfl ?_⟩) | (with_reducible refine AL_id ?_); (fail_if_success (refine AL_glit rfl rfl rfl (by first | exact .inl (by with_reducible rfl) | exact .inr (by with_reducible rfl)) ?_)); first | refine AL_gdec rfl rfl rfl (fun hg => ?_) (fun hg => ?_) | refine AL_gnot rfl rfl rfl (fun hg => ?_) (fun hg => ?_) | refine AL_gcases rfl rfl rfl (fun hg => ?_) (fun hg => ?_)))
        exact ⟨_, _, rfl, rfl, by rw [topO_some hk' hb hno]; rfl⟩
      | false =>
        rw [← htb, hb] at k103
        (repeat' (first | refine stq ?_ | (refine AL_do2 rfl ?_; first | refine ⟨_, op_call1 rfl rfl rfl rfl (k80), nrmA rfl ?_⟩ | refine ⟨_, op_call1 rfl rfl rfl rfl (k49), nrmA rfl ?_⟩ | refine ⟨_, op_call1 rfl rfl rfl rfl (k57), nrmA rfl ?_⟩ | refine ⟨_, op_call1 rfl rfl rfl rfl (k103), nrmA rfl ?_⟩) | (with_reducible refine AL_id ?_); (fail_if_success (refine AL_glit rfl rfl rfl (by first | exact .inl (by with_reducible rfl) | exact .inr (by with_reducible rfl)) ?_)); first | refine AL_gdec rfl rfl rfl (fun hg => ?_) (fun hg => ?_) | refine AL_gnot rfl rfl rfl (fun hg => ?_) (fun hg => ?_) | refine AL_gcases rfl rfl rfl (fun hg => ?_) (fun hg => ?_)))
        refine ⟨k + 1, ⟨by omega, fun i hi => ?_⟩, by omega, ?_⟩
        · by_cases hik : i = k
          · rw [hik]; exact hb
          · exact hno i (by omega)
        · (refine Le.mk ?_ ?_; all_goals (repeat' (first | exact trivial | refine sle ?_ | refine ⟨?_, rfl, ?_⟩ | refine ⟨?_, by decide, rfl, ?_⟩ | fail)))
    · have hk' : k = 101 := by omega
      subst hk'
      (repeat (refine stq ?_))
      exact ⟨_, _, rfl, rfl, by rw [topO_none hno]; rfl⟩
theorem f35e {d : Drum} {hour by_ : Int} (hd : drumOK d) (he : errE d (fineT d hour by_) ≠ 0) : ACalls Tryz.prog 35 [eDrum d, vi hour, vi by_] (fun r => r = .tup [vi 0, vi (errE d (fineT d hour by_))]) := by
  have k := f35 d hour by_ hd
  rw [topE, if_neg he] at k
  exact k
theorem f35l {d : Drum} {hour by_ : Int} (hd : drumOK d) (he : errE d (fineT d hour by_) = 0) (hl : lateB d hour = true) : ACalls Tryz.prog 35 [eDrum d, vi hour, vi by_] (fun r => r = .tup [vi 0, vi 7]) := by
  have k := f35 d hour by_ hd
  rw [topE, if_pos he, if_pos hl] at k
  exact k
theorem f35s {d : Drum} {hour by_ : Int} {n : Nat} (hd : drumOK d) (he : errE d (fineT d hour by_) = 0) (hl : lateB d hour = false) (ho : topO d hour.toNat by_ = some n) : ACalls Tryz.prog 35 [eDrum d, vi hour, vi by_] (fun r => r = .tup [vi n, vi 0]) := by
  have k := f35 d hour by_ hd
  rw [topE, if_pos he, hl, ho] at k
  exact k
theorem f35n {d : Drum} {hour by_ : Int} (hd : drumOK d) (he : errE d (fineT d hour by_) = 0) (hl : lateB d hour = false) (ho : topO d hour.toNat by_ = none) : ACalls Tryz.prog 35 [eDrum d, vi hour, vi by_] (fun r => r = .tup [vi 0, vi 5]) := by
  have k := f35 d hour by_ hd
  rw [topE, if_pos he, hl, ho] at k
  exact k
theorem fineT_iff {d : Drum} {hour by_ : Int} : fineT d hour by_ = decide (0 ≤ hour ∧ hour < d.hours ∧ hour < by_ ∧ by_ ≤ d.hours) := by
  unfold fineT inB; rw [Bool.eq_iff_iff]; simp only [Bool.and_eq_true, decide_eq_true_eq]; omega
set_option maxHeartbeats 16000000 in
theorem f5 (d : Drum) (hour by_ : Int) : ACalls Tryz.prog 5 [eDrum d, vi hour, vi by_] (fun r => r = .pv (.bool true)) := by
  have k23 := f23' d
  cases hs : shortB d with
  | false =>
    rw [hs] at k23
    refine ACalls.of_body hT Tryz.func5 rfl (by kernel_rfl) rfl ?_
    (repeat' (first | refine stq ?_ | (refine AL_do2 rfl ?_; first | refine ⟨_, op_call1 rfl rfl rfl rfl (k23), nrmA rfl ?_⟩ | refine ⟨_, op_call1 rfl rfl rfl rfl (f24), nrmA rfl ?_⟩) | (with_reducible refine AL_id ?_); (fail_if_success (refine AL_glit rfl rfl rfl (by first | exact .inl (by with_reducible rfl) | exact .inr (by with_reducible rfl)) ?_)); first | refine AL_gdec rfl rfl rfl (fun hg => ?_) (fun hg => ?_) | refine AL_gnot rfl rfl rfl (fun hg => ?_) (fun hg => ?_) | refine AL_gcases rfl rfl rfl (fun hg => ?_) (fun hg => ?_)))
    all_goals (try (exfalso; simp at hg; done))
    exact ⟨_, _, rfl, rfl, rfl⟩
  | true =>
    rw [hs] at k23
    have hd := short_ok hs
    by_cases hf : 0 ≤ hour ∧ hour < d.hours ∧ hour < by_ ∧ by_ ≤ d.hours
    · have hft : fineT d hour by_ = true := by rw [fineT_iff, decide_eq_true hf]
      have k27 := f27 d true hd
      by_cases he : errE d true = 0
      · obtain ⟨hP, _, hne, _⟩ := asked_ok he
        rw [he] at k27
        have k36 := f36 d hour (by have := hP.sl; omega)
        have he' : errE d (fineT d hour by_) = 0 := by rw [hft]; exact he
        cases hl : lateB d hour with
        | true =>
          rw [hl] at k36
          have k35 := f35l hd he' hl
          refine ACalls.of_body hT Tryz.func5 rfl (by kernel_rfl) rfl ?_
          (repeat' (first | refine stq ?_ | (refine AL_do2 rfl ?_; first | refine ⟨_, op_call1 rfl rfl rfl rfl (k23), nrmA rfl ?_⟩ | refine ⟨_, op_call1 rfl rfl rfl rfl (f24), nrmA rfl ?_⟩ | refine ⟨_, op_call1 rfl rfl rfl rfl (k35), nrmA rfl ?_⟩ | refine ⟨_, op_call1 rfl rfl rfl rfl (k27), nrmA rfl ?_⟩ | refine ⟨_, op_call1 rfl rfl rfl rfl (k36), nrmA rfl ?_⟩) | ((first | (with_reducible refine AL_id ?_); (fail_if_success (refine AL_glit rfl rfl rfl (by first | exact .inl (by with_reducible rfl) | exact .inr (by with_reducible rfl)) ?_)); first | refine AL_gdec rfl rfl rfl (fun hg => ?_) (fun hg => ?_) | refine AL_gnot rfl rfl rfl (fun hg => ?_) (fun hg => ?_) | refine AL_gcases rfl rfl rfl (fun hg => ?_) (fun hg => ?_)) <;> (try (exfalso; omega))) | refine AW_if rfl (fun hc => absurd hc (by omega)) (fun _ => ?_) | refine AW_if rfl (fun _ => ?_) (fun hc => absurd (by omega) hc)))
          all_goals (try rw [show decide (by_ ≤ d.hours) = true from decide_eq_true hf.2.2.2])
          all_goals (repeat' (first | refine stq ?_ | (refine AL_do2 rfl ?_; first | refine ⟨_, op_call1 rfl rfl rfl rfl (k23), nrmA rfl ?_⟩ | refine ⟨_, op_call1 rfl rfl rfl rfl (f24), nrmA rfl ?_⟩ | refine ⟨_, op_call1 rfl rfl rfl rfl (k35), nrmA rfl ?_⟩ | refine ⟨_, op_call1 rfl rfl rfl rfl (k27), nrmA rfl ?_⟩ | refine ⟨_, op_call1 rfl rfl rfl rfl (k36), nrmA rfl ?_⟩) | ((first | (with_reducible refine AL_id ?_); (fail_if_success (refine AL_glit rfl rfl rfl (by first | exact .inl (by with_reducible rfl) | exact .inr (by with_reducible rfl)) ?_)); first | refine AL_gdec rfl rfl rfl (fun hg => ?_) (fun hg => ?_) | refine AL_gnot rfl rfl rfl (fun hg => ?_) (fun hg => ?_) | refine AL_gcases rfl rfl rfl (fun hg => ?_) (fun hg => ?_)) <;> (try (exfalso; omega))) | refine AW_if rfl (fun hc => absurd hc (by omega)) (fun _ => ?_) | refine AW_if rfl (fun _ => ?_) (fun hc => absurd (by omega) hc)))
          all_goals first | exact ⟨_, _, rfl, rfl, rfl⟩ | (exfalso; omega)
        | false =>
          rw [hl] at k36
          obtain ⟨h, rfl⟩ : ∃ h : Nat, hour = h := ⟨hour.toNat, by omega⟩
          have k37 := f37 d hP h by_ hf.2.1
          cases ho : topO d h by_ with
          | none =>
            rw [ho] at k37
            have k37 : ACalls Tryz.prog 37 [eDrum d, vi h, vi by_] (fun r => r = .pv (vi (-1))) := k37
            have k35 := f35n hd he' hl (by rw [Int.toNat_natCast]; exact ho)
            refine ACalls.of_body hT Tryz.func5 rfl (by kernel_rfl) rfl ?_
            (repeat' (first | refine stq ?_ | (refine AL_do2 rfl ?_; first | refine ⟨_, op_call1 rfl rfl rfl rfl (k23), nrmA rfl ?_⟩ | refine ⟨_, op_call1 rfl rfl rfl rfl (f24), nrmA rfl ?_⟩ | refine ⟨_, op_call1 rfl rfl rfl rfl (k35), nrmA rfl ?_⟩ | refine ⟨_, op_call1 rfl rfl rfl rfl (k27), nrmA rfl ?_⟩ | refine ⟨_, op_call1 rfl rfl rfl rfl (k36), nrmA rfl ?_⟩ | refine ⟨_, op_call1 rfl rfl rfl rfl (k37), nrmA rfl ?_⟩) | ((first | (with_reducible refine AL_id ?_); (fail_if_success (refine AL_glit rfl rfl rfl (by first | exact .inl (by with_reducible rfl) | exact .inr (by with_reducible rfl)) ?_)); first | refine AL_gdec rfl rfl rfl (fun hg => ?_) (fun hg => ?_) | refine AL_gnot rfl rfl rfl (fun hg => ?_) (fun hg => ?_) | refine AL_gcases rfl rfl rfl (fun hg => ?_) (fun hg => ?_)) <;> (try (exfalso; omega))) | refine AW_if rfl (fun hc => absurd hc (by omega)) (fun _ => ?_) | refine AW_if rfl (fun _ => ?_) (fun hc => absurd (by omega) hc)))
            all_goals (try rw [show decide (by_ ≤ d.hours) = true from decide_eq_true hf.2.2.2])
            all_goals (repeat' (first | refine stq ?_ | (refine AL_do2 rfl ?_; first | refine ⟨_, op_call1 rfl rfl rfl rfl (k23), nrmA rfl ?_⟩ | refine ⟨_, op_call1 rfl rfl rfl rfl (f24), nrmA rfl ?_⟩ | refine ⟨_, op_call1 rfl rfl rfl rfl (k35), nrmA rfl ?_⟩ | refine ⟨_, op_call1 rfl rfl rfl rfl (k27), nrmA rfl ?_⟩ | refine ⟨_, op_call1 rfl rfl rfl rfl (k36), nrmA rfl ?_⟩ | refine ⟨_, op_call1 rfl rfl rfl rfl (k37), nrmA rfl ?_⟩) | ((first | (with_reducible refine AL_id ?_); (fail_if_success (refine AL_glit rfl rfl rfl (by first | exact .inl (by with_reducible rfl) | exact .inr (by with_reducible rfl)) ?_)); first | refine AL_gdec rfl rfl rfl (fun hg => ?_) (fun hg => ?_) | refine AL_gnot rfl rfl rfl (fun hg => ?_) (fun hg => ?_) | refine AL_gcases rfl rfl rfl (fun hg => ?_) (fun hg => ?_)) <;> (try (exfalso; omega))) | refine AW_if rfl (fun hc => absurd hc (by omega)) (fun _ => ?_) | refine AW_if rfl (fun _ => ?_) (fun hc => absurd (by omega) hc)))
            all_goals first | exact ⟨_, _, rfl, rfl, rfl⟩ | (exfalso; omega)
          | some n =>
            rw [ho] at k37
            have k37 : ACalls Tryz.prog 37 [eDrum d, vi h, vi by_] (fun r => r = .pv (vi n)) := k37
            have k35 := f35s hd he' hl (by rw [Int.toNat_natCast]; exact ho)
            refine ACalls.of_body hT Tryz.func5 rfl (by kernel_rfl) rfl ?_
            (repeat' (first | refine stq ?_ | (refine AL_do2 rfl ?_; first | refine ⟨_, op_call1 rfl rfl rfl rfl (k23), nrmA rfl ?_⟩ | refine ⟨_, op_call1 rfl rfl rfl rfl (f24), nrmA rfl ?_⟩ | refine ⟨_, op_call1 rfl rfl rfl rfl (k35), nrmA rfl ?_⟩ | refine ⟨_, op_call1 rfl rfl rfl rfl (k27), nrmA rfl ?_⟩ | refine ⟨_, op_call1 rfl rfl rfl rfl (k36), nrmA rfl ?_⟩ | refine ⟨_, op_call1 rfl rfl rfl rfl (k37), nrmA rfl ?_⟩) | ((first | (with_reducible refine AL_id ?_); (fail_if_success (refine AL_glit rfl rfl rfl (by first | exact .inl (by with_reducible rfl) | exact .inr (by with_reducible rfl)) ?_)); first | refine AL_gdec rfl rfl rfl (fun hg => ?_) (fun hg => ?_) | refine AL_gnot rfl rfl rfl (fun hg => ?_) (fun hg => ?_) | refine AL_gcases rfl rfl rfl (fun hg => ?_) (fun hg => ?_)) <;> (try (exfalso; omega))) | refine AW_if rfl (fun hc => absurd hc (by omega)) (fun _ => ?_) | refine AW_if rfl (fun _ => ?_) (fun hc => absurd (by omega) hc)))
            all_goals (try rw [show decide (by_ ≤ d.hours) = true from decide_eq_true hf.2.2.2])
            all_goals (repeat' (first | refine stq ?_ | (refine AL_do2 rfl ?_; first | refine ⟨_, op_call1 rfl rfl rfl rfl (k23), nrmA rfl ?_⟩ | refine ⟨_, op_call1 rfl rfl rfl rfl (f24), nrmA rfl ?_⟩ | refine ⟨_, op_call1 rfl rfl rfl rfl (k35), nrmA rfl ?_⟩ | refine ⟨_, op_call1 rfl rfl rfl rfl (k27), nrmA rfl ?_⟩ | refine ⟨_, op_call1 rfl rfl rfl rfl (k36), nrmA rfl ?_⟩ | refine ⟨_, op_call1 rfl rfl rfl rfl (k37), nrmA rfl ?_⟩) | ((first | (with_reducible refine AL_id ?_); (fail_if_success (refine AL_glit rfl rfl rfl (by first | exact .inl (by with_reducible rfl) | exact .inr (by with_reducible rfl)) ?_)); first | refine AL_gdec rfl rfl rfl (fun hg => ?_) (fun hg => ?_) | refine AL_gnot rfl rfl rfl (fun hg => ?_) (fun hg => ?_) | refine AL_gcases rfl rfl rfl (fun hg => ?_) (fun hg => ?_)) <;> (try (exfalso; omega))) | refine AW_if rfl (fun hc => absurd hc (by omega)) (fun _ => ?_) | refine AW_if rfl (fun _ => ?_) (fun hc => absurd (by omega) hc)))
            all_goals first | exact ⟨_, _, rfl, rfl, rfl⟩ | (exfalso; omega)
      · have k35 := f35e (hour := hour) (by_ := by_) hd (by rw [hft]; exact he)
        rw [hft] at k35
        generalize errE d true = e at *
        refine ACalls.of_body hT Tryz.func5 rfl (by kernel_rfl) rfl ?_
        (repeat' (first | refine stq ?_ | (refine AL_do2 rfl ?_; first | refine ⟨_, op_call1 rfl rfl rfl rfl (k23), nrmA rfl ?_⟩ | refine ⟨_, op_call1 rfl rfl rfl rfl (f24), nrmA rfl ?_⟩ | refine ⟨_, op_call1 rfl rfl rfl rfl (k35), nrmA rfl ?_⟩ | refine ⟨_, op_call1 rfl rfl rfl rfl (k27), nrmA rfl ?_⟩) | ((first | (with_reducible refine AL_id ?_); (fail_if_success (refine AL_glit rfl rfl rfl (by first | exact .inl (by with_reducible rfl) | exact .inr (by with_reducible rfl)) ?_)); first | refine AL_gdec rfl rfl rfl (fun hg => ?_) (fun hg => ?_) | refine AL_gnot rfl rfl rfl (fun hg => ?_) (fun hg => ?_) | refine AL_gcases rfl rfl rfl (fun hg => ?_) (fun hg => ?_)) <;> (try (exfalso; omega))) | refine AW_if rfl (fun hc => absurd hc (by omega)) (fun _ => ?_) | refine AW_if rfl (fun _ => ?_) (fun hc => absurd (by omega) hc)))
        all_goals (try rw [show decide (by_ ≤ d.hours) = true from decide_eq_true hf.2.2.2])
        all_goals (repeat' (first | refine stq ?_ | (refine AL_do2 rfl ?_; first | refine ⟨_, op_call1 rfl rfl rfl rfl (k23), nrmA rfl ?_⟩ | refine ⟨_, op_call1 rfl rfl rfl rfl (f24), nrmA rfl ?_⟩ | refine ⟨_, op_call1 rfl rfl rfl rfl (k35), nrmA rfl ?_⟩ | refine ⟨_, op_call1 rfl rfl rfl rfl (k27), nrmA rfl ?_⟩) | ((first | (with_reducible refine AL_id ?_); (fail_if_success (refine AL_glit rfl rfl rfl (by first | exact .inl (by with_reducible rfl) | exact .inr (by with_reducible rfl)) ?_)); first | refine AL_gdec rfl rfl rfl (fun hg => ?_) (fun hg => ?_) | refine AL_gnot rfl rfl rfl (fun hg => ?_) (fun hg => ?_) | refine AL_gcases rfl rfl rfl (fun hg => ?_) (fun hg => ?_)) <;> (try (exfalso; omega))) | refine AW_if rfl (fun hc => absurd hc (by omega)) (fun _ => ?_) | refine AW_if rfl (fun _ => ?_) (fun hc => absurd (by omega) hc)))
        all_goals first | exact ⟨_, _, rfl, rfl, rfl⟩ | (exfalso; omega)
    · have hft : fineT d hour by_ = false := by rw [fineT_iff, decide_eq_false hf]
      have k27 := f27 d false hd
      have k35 := f35e (hour := hour) (by_ := by_) hd (by rw [hft, err_false]; decide)
      rw [hft, err_false] at k35
      rw [err_false] at k27
      refine ACalls.of_body hT Tryz.func5 rfl (by kernel_rfl) rfl ?_
      (repeat' (first | refine stq ?_ | (refine AL_do2 rfl ?_; first | refine ⟨_, op_call1 rfl rfl rfl rfl (k23), nrmA rfl ?_⟩ | refine ⟨_, op_call1 rfl rfl rfl rfl (f24), nrmA rfl ?_⟩ | refine ⟨_, op_call1 rfl rfl rfl rfl (k35), nrmA rfl ?_⟩ | refine ⟨_, op_call1 rfl rfl rfl rfl (k27), nrmA rfl ?_⟩) | ((first | (with_reducible refine AL_id ?_); (fail_if_success (refine AL_glit rfl rfl rfl (by first | exact .inl (by with_reducible rfl) | exact .inr (by with_reducible rfl)) ?_)); first | refine AL_gdec rfl rfl rfl (fun hg => ?_) (fun hg => ?_) | refine AL_gnot rfl rfl rfl (fun hg => ?_) (fun hg => ?_) | refine AL_gcases rfl rfl rfl (fun hg => ?_) (fun hg => ?_)) <;> (try (exfalso; omega))) | refine AW_if rfl (fun hc => absurd hc (by omega)) (fun _ => ?_) | refine AW_if rfl (fun _ => ?_) (fun hc => absurd (by omega) hc)))
      all_goals (try rw [show decide (by_ ≤ d.hours) = false from decide_eq_false (by omega)])
      all_goals (repeat' (first | refine stq ?_ | (refine AL_do2 rfl ?_; first | refine ⟨_, op_call1 rfl rfl rfl rfl (k23), nrmA rfl ?_⟩ | refine ⟨_, op_call1 rfl rfl rfl rfl (f24), nrmA rfl ?_⟩ | refine ⟨_, op_call1 rfl rfl rfl rfl (k35), nrmA rfl ?_⟩ | refine ⟨_, op_call1 rfl rfl rfl rfl (k27), nrmA rfl ?_⟩) | ((first | (with_reducible refine AL_id ?_); (fail_if_success (refine AL_glit rfl rfl rfl (by first | exact .inl (by with_reducible rfl) | exact .inr (by with_reducible rfl)) ?_)); first | refine AL_gdec rfl rfl rfl (fun hg => ?_) (fun hg => ?_) | refine AL_gnot rfl rfl rfl (fun hg => ?_) (fun hg => ?_) | refine AL_gcases rfl rfl rfl (fun hg => ?_) (fun hg => ?_)) <;> (try (exfalso; omega))) | refine AW_if rfl (fun hc => absurd hc (by omega)) (fun _ => ?_) | refine AW_if rfl (fun _ => ?_) (fun hc => absurd (by omega) hc)))
      all_goals first | exact ⟨_, _, rfl, rfl, rfl⟩ | (exfalso; omega)
end Go.Abs
