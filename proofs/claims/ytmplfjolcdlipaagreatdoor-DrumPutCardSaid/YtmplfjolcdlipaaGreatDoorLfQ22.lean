/- DrumTops: the contract of the statement's function. -/
import Derived.Test.YtmplfjolcdlipaaGreatDoorLdQ22
import Derived.Test.YtmplfjolcdlipaaGreatDoorDrN
import Derived.Test.YtmplfjolcdlipaaGreatDoorNcG
import Derived.Test.YtmplfjolcdlipaaGreatDoorXQ22
import Derived.Test.YtmplfjolcdlipaaGreatDoorLcQ22
import Derived.Test.YtmplfjolcdlipaaGreatDoorLbQ22
import Derived.Test.YtmplfjolcdlipaaGreatDoorNcAbsSLQ22
set_option linter.unusedVariables false
set_option linter.unusedSimpArgs false
namespace Go.Abs
open Go.Proofs
set_option linter.unusedVariables false
set_option linter.unusedSimpArgs false
set_option maxRecDepth 100000
set_option maxHeartbeats 4000000 in
theorem f80 (d : Drum) (h : Nat) (n : Int) (hh : h < d.adds.length) (hl : d.adds.length ≤ 1000) : ACalls Tryz.prog 80 [eDrum d, vi h, vi n] (fun r => r = .pv (eDrum (putD d h n))) := by
  have hlt : ((h : Nat) : Int).toNat < (d.adds.map eInt).length := by rw [List.length_map]; omega
  have e3 : (d.adds.map eInt)[((h : Nat) : Int).toNat]? = some (eInt (d.adds.getD h 0)) := by
    rw [show ((h : Nat) : Int).toNat = h by omega, List.getElem?_map, List.getD_eq_getElem?_getD, List.getElem?_eq_getElem hh]; rfl
  refine ACalls.of_body hT Tryz.func80 rfl (by kernel_rfl) rfl ?_
  (repeat (refine stq ?_))
  refine AL_do2 rfl ⟨_, op_append_nil1 (e := 3) (sz := 1) hT rfl rfl rfl rfl rfl rfl rfl rfl rfl rfl (by intro y hy; (first | (simp only [List.mem_cons, List.not_mem_nil, or_false] at hy; subst hy; rfl) | (simp only [List.mem_cons, List.not_mem_nil, or_false] at hy; rcases hy with hy | hy <;> subst hy <;> rfl) | (obtain ⟨_, _, rfl⟩ := List.mem_map.1 hy; rfl) | (cases hy))) (by simp only [List.length_map, List.length_take, List.length_cons, List.length_nil, List.length_append]; omega) rfl, ?_⟩
  (repeat (refine stq ?_))
  refine AL_do2 rfl ⟨_, op_indexAddr_arr (k := .i64) (n := (h : Int)) (id := 3) (e' := 3) (sz := 1) (es := d.adds.map eInt) hT rfl rfl rfl rfl rfl rfl rfl rfl (by omega) hlt rfl, ?_⟩
  refine AL_do2 rfl ⟨_, op_store_aptr (el := eInt (d.adds.getD h 0)) hT rfl rfl rfl rfl rfl e3 rfl rfl rfl rfl, ?_⟩
  refine AL_nil ?_
  refine then_normal ?_
  refine AW_arrBox (b := 2) 3 rfl rfl rfl rfl ?_
  (repeat (refine stq ?_))
  refine ⟨_, _, rfl, rfl, ?_⟩
  have hm := map_putI d.adds h n
  exact congrArg (fun es => RV.pv (.agg [.sl (d.acids.map eAcid), vi d.known, vi d.hours, .sl es, .sl (d.strips.map eStrip), .sl (d.batches.map eBatch)])) hm
theorem f35e {d : Drum} {hour by_ : Int} (hd : drumOK d) (he : errE d (fineT d hour by_) ≠ 0) : ACalls Tryz.prog 35 [eDrum d, vi hour, vi by_] (fun r => r = .tup [vi 0, vi (errE d (fineT d hour by_))]) := by
  have k := f35 d hour by_ hd
  rw [topE, if_neg he] at k
  exact k
theorem f35l {d : Drum} {hour by_ : Int} (hd : drumOK d) (he : errE d (fineT d hour by_) = 0) (hl : lateB d hour = true) : ACalls Tryz.prog 35 [eDrum d, vi hour, vi by_] (fun r => r = .tup [vi 0, vi 7]) := by
  have k := f35 d hour by_ hd
  rw [topE, if_pos he, if_pos hl] at k
  exact k
theorem f35s {d : Drum} {hour by_ : Int} {n : Nat} (hd : drumOK d) (he : errE d (fineT d hour by_) = 0) (hl : lateB d hour = false) (ho : topO d hour.toNat by_ = some n) : ACalls Tryz.prog 35 [eDrum d, vi hour, vi by_] (fun r => r = .tup [vi n, vi 0]) := by
  have k := f35 d hour by_ hd
  rw [topE, if_pos he, hl, ho] at k
  exact k
theorem f35n {d : Drum} {hour by_ : Int} (hd : drumOK d) (he : errE d (fineT d hour by_) = 0) (hl : lateB d hour = false) (ho : topO d hour.toNat by_ = none) : ACalls Tryz.prog 35 [eDrum d, vi hour, vi by_] (fun r => r = .tup [vi 0, vi 5]) := by
  have k := f35 d hour by_ hd
  rw [topE, if_pos he, hl, ho] at k
  exact k
theorem fineT_iff {d : Drum} {hour by_ : Int} : fineT d hour by_ = decide (0 ≤ hour ∧ hour < d.hours ∧ hour < by_ ∧ by_ ≤ d.hours) := by
  unfold fineT inB; rw [Bool.eq_iff_iff]; simp only [Bool.and_eq_true, decide_eq_true_eq]; omega
end Go.Abs
namespace Go.Abs
open Go.Proofs
set_option linter.unusedVariables false
set_option linter.unusedSimpArgs false
set_option maxRecDepth 100000
theorem win_of {d : Drum} (hd : drumOK d) (q : drumB d = true) : (filledL d = [] ∧ ACalls Tryz.prog 55 [eDrum d] (fun r => r = .tup [eS ⟨0, 0⟩, vi 7])) ∨ (filledL d ≠ [] ∧ openS (allW d) = false ∧ ACalls Tryz.prog 55 [eDrum d] (fun r => r = .tup [eS ⟨0, 0⟩, vi 5])) ∨ (filledL d ≠ [] ∧ openS (allW d) = true ∧ ACalls Tryz.prog 55 [eDrum d] (fun r => r = .tup [eS (allW d), vi 0])) := by
  rcases err_cases q with ⟨h, he⟩ | ⟨h, he⟩
  · have k := f55e hd (by rw [he]; decide)
    rw [he] at k
    exact .inl ⟨h, k⟩
  · cases ho : openS (allW d) with
    | false => exact .inr (.inl ⟨h, rfl, f55n hd he ho⟩)
    | true => exact .inr (.inr ⟨h, rfl, f55y hd he ho⟩)
end Go.Abs
namespace Go.Abs
open Go.Proofs
set_option linter.unusedVariables false
set_option linter.unusedSimpArgs false
set_option maxRecDepth 100000
theorem topO_of {d : Drum} {h : Nat} {b : Int} {n : Nat} (ho : topO d h b = some n) : n < 101 ∧ topB d h b n = true ∧ ∀ i, i < n → topB d h b i = false := by
  unfold topO at ho
  rw [List.find?_range_eq_some] at ho
  obtain ⟨h1, h2, h3⟩ := ho
  exact ⟨List.mem_range.1 h2, h1, fun i hi => by simpa using h3 i hi⟩
theorem topO_no {d : Drum} {h : Nat} {b : Int} (ho : topO d h b = none) : ∀ i, i < 101 → topB d h b i = false := fun i hi => by
  unfold topO at ho
  rw [List.find?_eq_none] at ho
  simpa using ho i (List.mem_range.2 hi)
theorem put_ok {d : Drum} (hd : drumOK d) (h : Nat) (n : Int) : drumOK (putD d h n) :=
  ⟨hd.1, by show (d.adds.set h n).length ≤ 1000; rw [List.length_set]; exact hd.2.1, hd.2.2⟩
theorem sure_state {d : Drum} {acid : Int} {t : List Int} (hP : DrumP d) (hz : sizedB d acid t = true) (hq : fitsB d acid t = true) {h : Nat} (hh : h ≤ d.hours.toNat) (hw : inS (allW d) h) : ∀ b ∈ d.batches, (stateI b t h).rough ≤ b.goal ∧ b.least ≤ (stateI b t h).thick := fun b hb => by
  obtain ⟨hm, htr, htl⟩ := fits_mem hP hz hq
  have hne : filledL d ≠ [] := fun e => by rw [e] at hm; cases hm
  obtain ⟨w1, w2, w3, w4⟩ := state_bounds hP (hP.batch b hb) hm htl htr (h := h) hh
  have hs := (all_sure hP hne hh).1 hw b hb
  simp only [sureB, Bool.and_eq_true, decide_eq_true_eq] at hs
  omega
set_option maxHeartbeats 16000000 in
theorem f22 (d : Drum) (hour by_ : Int) (acid : Int) (t : List Int) (other : Int) : ACalls Tryz.prog 22 [eDrum d, vi hour, vi by_, eTruth acid t, vi other] (fun r => r = .pv (.bool true)) := by
  have k23 := f23' d
  cases hs : shortB d with
  | false =>
    rw [hs] at k23
    refine ACalls.of_body hT Tryz.func22 rfl (by kernel_rfl) rfl ?_
    (repeat' (first | refine stq ?_ | (refine AL_do2 rfl ?_; first | refine ⟨_, op_call1 rfl rfl rfl rfl (k23), nrmA rfl ?_⟩ | refine ⟨_, op_call1 rfl rfl rfl rfl (f24), nrmA rfl ?_⟩) | (with_reducible refine AL_id ?_); (fail_if_success (refine AL_glit rfl rfl rfl (by first | exact .inl (by with_reducible rfl) | exact .inr (by with_reducible rfl)) ?_)); first | refine AL_gdec rfl rfl rfl (fun hg => ?_) (fun hg => ?_) | refine AL_gnot rfl rfl rfl (fun hg => ?_) (fun hg => ?_) | refine AL_gcases rfl rfl rfl (fun hg => ?_) (fun hg => ?_)))
    all_goals (try (exfalso; simp at hg; done))
    exact ⟨_, _, rfl, rfl, rfl⟩
  | true =>
    rw [hs] at k23
    have hd := short_ok hs
    by_cases ht : t.length ≤ 15
    · have ht' : t.length ≤ 1000 := by omega
      have k39 := f39 d hd
      cases q : drumB d with
      | false =>
        rw [q] at k39
        refine ACalls.of_body hT Tryz.func22 rfl (by kernel_rfl) rfl ?_
        (repeat' (first | refine stq ?_ | (refine AL_do2 rfl ?_; first | refine ⟨_, op_call1 rfl rfl rfl rfl (k23), nrmA rfl ?_⟩ | refine ⟨_, op_call1 rfl rfl rfl rfl (f24), nrmA rfl ?_⟩ | refine ⟨_, op_call1 rfl rfl rfl rfl (k39), nrmA rfl ?_⟩) | ((first | (with_reducible refine AL_id ?_); (fail_if_success (refine AL_glit rfl rfl rfl (by first | exact .inl (by with_reducible rfl) | exact .inr (by with_reducible rfl)) ?_)); first | refine AL_gdec rfl rfl rfl (fun hg => ?_) (fun hg => ?_) | refine AL_gnot rfl rfl rfl (fun hg => ?_) (fun hg => ?_) | refine AL_gcases rfl rfl rfl (fun hg => ?_) (fun hg => ?_)) <;> (try (exfalso; omega))) | refine AW_if rfl (fun hc => absurd hc (by omega)) (fun _ => ?_) | refine AW_if rfl (fun _ => ?_) (fun hc => absurd (by omega) hc)))
        all_goals exact ⟨_, _, rfl, rfl, rfl⟩
      | true =>
        rw [q] at k39
        have hP := drumP_of.1 q
        have hh1 := hP.h1
        have hbl := hP.b1
        have hal := hP.al
        by_cases hf : (0 ≤ hour ∧ hour < d.hours ∧ hour < by_ ∧ by_ ≤ d.hours) ∧ 0 ≤ other ∧ other ≤ 100
        · obtain ⟨hf, ho1, ho2⟩ := hf
          have hft : fineT d hour by_ = true := by rw [fineT_iff, decide_eq_true hf]
          obtain ⟨hf1, hf2, hf3, hf4⟩ := hf
          refine ACalls.of_body hT Tryz.func22 rfl (by kernel_rfl) rfl ?_
          (repeat' (first | refine stq ?_ | (refine AL_do2 rfl ?_; first | refine ⟨_, op_call1 rfl rfl rfl rfl (k23), nrmA rfl ?_⟩ | refine ⟨_, op_call1 rfl rfl rfl rfl (f24), nrmA rfl ?_⟩ | refine ⟨_, op_call1 rfl rfl rfl rfl (k39), nrmA rfl ?_⟩) | ((first | (with_reducible refine AL_id ?_); (fail_if_success (refine AL_glit rfl rfl rfl (by first | exact .inl (by with_reducible rfl) | exact .inr (by with_reducible rfl)) ?_)); first | refine AL_gdec rfl rfl rfl (fun hg => ?_) (fun hg => ?_) | refine AL_gnot rfl rfl rfl (fun hg => ?_) (fun hg => ?_) | refine AL_gcases rfl rfl rfl (fun hg => ?_) (fun hg => ?_)) <;> (try (exfalso; omega))) | refine AW_if rfl (fun hc => absurd hc (by omega)) (fun _ => ?_) | refine AW_if rfl (fun _ => ?_) (fun hc => absurd (by omega) hc)))
          all_goals (try (exfalso; omega))
          have TOP : ACalls Tryz.prog 35 [eDrum d, vi hour, vi by_] (fun r => r = .tup [vi 0, vi 7]) ∨ (filledL d ≠ [] ∧ errE d (fineT d hour by_) = 0 ∧ lateB d hour = false) := by
            rcases err_cases q with ⟨h1, he⟩ | ⟨h1, he⟩
            · have k := f35e (hour := hour) (by_ := by_) hd (by rw [hft, he]; decide)
              rw [hft, he] at k
              exact .inl k
            · have he' : errE d (fineT d hour by_) = 0 := by rw [hft]; exact he
              cases hl : lateB d hour with
              | true => exact .inl (f35l hd he' hl)
              | false => exact .inr ⟨h1, he', rfl⟩
          rcases TOP with k35 | ⟨hne, he, hl⟩
          · (repeat' (first | refine AL_skip rfl rfl ?_ | refine stq ?_ | (refine AL_do2 rfl ?_; first | refine ⟨_, op_call1 rfl rfl rfl rfl (k35), nrmA rfl ?_⟩ | refine ⟨_, op_call1 rfl rfl rfl rfl (f24), nrmA rfl ?_⟩) | ((first | (with_reducible refine AL_id ?_); (fail_if_success (refine AL_glit rfl rfl rfl (by first | exact .inl (by with_reducible rfl) | exact .inr (by with_reducible rfl)) ?_)); first | refine AL_gdec rfl rfl rfl (fun hg => ?_) (fun hg => ?_) | refine AL_gnot rfl rfl rfl (fun hg => ?_) (fun hg => ?_) | refine AL_gcases rfl rfl rfl (fun hg => ?_) (fun hg => ?_)) <;> (try (exfalso; omega))) | refine AW_if rfl (fun hc => absurd hc (by omega)) (fun _ => ?_) | refine AW_if rfl (fun _ => ?_) (fun hc => absurd (by omega) hc)))
            all_goals first | exact ⟨_, _, rfl, rfl, rfl⟩ | (exfalso; omega)
          · obtain ⟨h, rfl⟩ : ∃ h : Nat, hour = h := ⟨hour.toNat, by omega⟩
            obtain ⟨j, rfl⟩ : ∃ j : Nat, by_ = j := ⟨by_.toNat, by omega⟩
            obtain ⟨o, rfl⟩ : ∃ o : Nat, other = o := ⟨other.toNat, by omega⟩
            have hlt := late_iff (d := d) (hour := h) hf1 hl
            rw [Int.toNat_natCast] at hlt
            have PUT : ∀ n : Nat, n ≤ 100 → DrumP (putD d h n) ∧ filledL (putD d h n) ≠ [] := fun n hn => ⟨put_P hP h (by omega) (by omega), by rw [filled_put hP hlt]; exact hne⟩
            have k80 : ∀ n : Nat, ACalls Tryz.prog 80 [eDrum d, vi h, vi n] (fun r => r = .pv (eDrum (putD d h n))) := fun n => f80 d h n (by omega) (by omega)
            have k80o := k80 o
            have WO : ∃ (w : Span) (f : Int), ACalls Tryz.prog 55 [eDrum (putD d h o)] (fun r => r = .tup [eS w, vi f]) ∧ (f = 5 ∨ (f = 0 ∧ (topB d h j o = false → (j : Int) < w.low ∨ w.high < j))) := by
              obtain ⟨p1, p2⟩ := PUT o (by omega)
              rcases win_of (put_ok hd h o) (drumP_of.2 p1) with ⟨g, _⟩ | ⟨_, _, k⟩ | ⟨_, _, k⟩
              · exact absurd g p2
              · exact ⟨_, _, k, .inl rfl⟩
              · refine ⟨_, _, k, .inr ⟨rfl, fun hb => ?_⟩⟩
                unfold topB inB at hb
                simp only [Bool.and_eq_false_iff, decide_eq_false_iff_not] at hb
                omega
            obtain ⟨w, f, k55o, WO⟩ := WO
            cases ho : topO d h j with
            | none =>
              have k35 := f35n hd he hl (by rw [Int.toNat_natCast]; exact ho)
              have WO : f = 5 ∨ (f = 0 ∧ ((j : Int) < w.low ∨ w.high < j)) := WO.imp id fun g => ⟨g.1, g.2 (topO_no ho o (by omega))⟩
              rcases WO with rfl | ⟨rfl, g⟩
              · (repeat' (first | refine AL_skip rfl rfl ?_ | refine stq ?_ | (refine AL_do2 rfl ?_; first | refine ⟨_, op_call1 rfl rfl rfl rfl (k35), nrmA rfl ?_⟩ | refine ⟨_, op_call1 rfl rfl rfl rfl (k80o), nrmA rfl ?_⟩ | refine ⟨_, op_call1 rfl rfl rfl rfl (k55o), nrmA rfl ?_⟩ | refine ⟨_, op_call1 rfl rfl rfl rfl (f24), nrmA rfl ?_⟩) | ((first | (with_reducible refine AL_id ?_); (fail_if_success (refine AL_glit rfl rfl rfl (by first | exact .inl (by with_reducible rfl) | exact .inr (by with_reducible rfl)) ?_)); first | refine AL_gdec rfl rfl rfl (fun hg => ?_) (fun hg => ?_) | refine AL_gnot rfl rfl rfl (fun hg => ?_) (fun hg => ?_) | refine AL_gcases rfl rfl rfl (fun hg => ?_) (fun hg => ?_)) <;> (try (exfalso; omega))) | refine AW_if rfl (fun hc => absurd hc (by omega)) (fun _ => ?_) | refine AW_if rfl (fun _ => ?_) (fun hc => absurd (by omega) hc)))
                all_goals first | exact ⟨_, _, rfl, rfl, rfl⟩ | (exfalso; omega)
              · (repeat' (first | refine AL_skip rfl rfl ?_ | refine stq ?_ | (refine AL_do2 rfl ?_; first | refine ⟨_, op_call1 rfl rfl rfl rfl (k35), nrmA rfl ?_⟩ | refine ⟨_, op_call1 rfl rfl rfl rfl (k80o), nrmA rfl ?_⟩ | refine ⟨_, op_call1 rfl rfl rfl rfl (k55o), nrmA rfl ?_⟩ | refine ⟨_, op_call1 rfl rfl rfl rfl (f24), nrmA rfl ?_⟩) | ((first | (with_reducible refine AL_id ?_); (fail_if_success (refine AL_glit rfl rfl rfl (by first | exact .inl (by with_reducible rfl) | exact .inr (by with_reducible rfl)) ?_)); first | refine AL_gdec rfl rfl rfl (fun hg => ?_) (fun hg => ?_) | refine AL_gnot rfl rfl rfl (fun hg => ?_) (fun hg => ?_) | refine AL_gcases rfl rfl rfl (fun hg => ?_) (fun hg => ?_)) <;> (try (exfalso; omega))) | refine AW_if rfl (fun hc => absurd hc (by omega)) (fun _ => ?_) | refine AW_if rfl (fun _ => ?_) (fun hc => absurd (by omega) hc)))
                all_goals first | exact ⟨_, _, rfl, rfl, rfl⟩ | (exfalso; omega)
            | some n =>
              obtain ⟨tn, tb, tl⟩ := topO_of ho
              have k35 := f35s hd he hl (by rw [Int.toNat_natCast]; exact ho)
              have k80n := k80 n
              obtain ⟨p1, p2⟩ := PUT n (by omega)
              have hdn := put_ok hd h n
              have htv : (allW (putD d h n)).low ≤ j ∧ (j : Int) ≤ (allW (putD d h n)).high := by
                unfold topB inB at tb
                simpa only [Bool.and_eq_true, decide_eq_true_eq] using tb
              have k55n : ACalls Tryz.prog 55 [eDrum (putD d h n)] (fun r => r = .tup [eS (allW (putD d h n)), vi 0]) := by
                rcases win_of hdn (drumP_of.2 p1) with ⟨g, _⟩ | ⟨_, g, _⟩ | ⟨_, _, k⟩
                · exact absurd g p2
                · exfalso
                  simp only [openS, decide_eq_false_iff_not] at g
                  omega
                · exact k
              have k63 := f63 (putD d h n) acid t hd.1 ht'
              have WO : f = 5 ∨ (f = 0 ∧ ((n : Int) ≤ o ∨ (j : Int) < w.low ∨ w.high < j)) := WO.imp id fun g => ⟨g.1, by
                by_cases hon : o < n
                · exact .inr (g.2 (tl o hon))
                · exact .inl (by omega)⟩
              have hj : j ≤ (putD d h n).hours.toNat := by show j ≤ d.hours.toNat; omega
              have main := fun (hz : sizedB (putD d h n) acid t = true) (hq : fitsB (putD d h n) acid t = true) => sure_state (acid := acid) (t := t) p1 hz hq hj htv
              have k72 := fun (hz : sizedB (putD d h n) acid t = true) => f72' (acid := acid) (t := t) p1 hz
              have k70 := fun (hz : sizedB (putD d h n) acid t = true) (hq : fitsB (putD d h n) acid t = true) => f70y (acid := acid) (t := t) (hours := j) hdn ht' (by rw [runOK, drumP_of.2 p1, hz, hq, show inB (j : Int) 0 (putD d h n).hours = true by show inB (j : Int) 0 d.hours = true; simp [inB]; omega]; rfl)
              have hbb : (putD d h n).batches = d.batches := rfl
              rw [hbb] at main k70
              simp only [Int.toNat_natCast] at k70
              generalize allW (putD d h n) = V at *
              generalize hX : putD d h n = X at *
              clear hX k80 PUT
              have hb2 : ∀ (k : Nat) (b : Batch), d.batches[k]? = some b → (d.batches.map fun b => stateI b t j)[k]? = some (stateI b t j) := fun k b hb => by rw [List.getElem?_map, hb]; rfl
              have hll : (d.batches.map fun b => stateI b t j).length = d.batches.length := by simp
              (repeat' (first | refine AL_skip rfl rfl ?_ | refine stq ?_ | (refine AL_do2 rfl ?_; first | refine ⟨_, op_call1 rfl rfl rfl rfl (k35), nrmA rfl ?_⟩) | ((first | (with_reducible refine AL_id ?_); (fail_if_success (refine AL_glit rfl rfl rfl (by first | exact .inl (by with_reducible rfl) | exact .inr (by with_reducible rfl)) ?_)); first | refine AL_gdec rfl rfl rfl (fun hg => ?_) (fun hg => ?_) | refine AL_gnot rfl rfl rfl (fun hg => ?_) (fun hg => ?_) | refine AL_gcases rfl rfl rfl (fun hg => ?_) (fun hg => ?_)) <;> (try (exfalso; omega))) | refine AW_if rfl (fun hc => absurd hc (by omega)) (fun _ => ?_) | refine AW_if rfl (fun _ => ?_) (fun hc => absurd (by omega) hc)))
              refine AL_do2 rfl ⟨_, op_call1 rfl rfl rfl rfl (k80o), ?_⟩
              refine AL_do2 rfl ⟨_, op_call1 rfl rfl rfl rfl (k55o), ?_⟩
              iterate 7 (refine stq ?_)
              refine AW_mid2 (mkSt [(1, .pv (vi h)), (2, .pv (vi j)), (5, .box 0 0), (8, .box 1 0), (11, .pv (vi n)), (12, .pv (vi 0))] [(0, .box ((eDrumC d).map FV.pv)), (1, .box [.pv (vi acid), .pv (eInts t)])] 3) ?_ ?_
              · rcases WO with rfl | ⟨rfl, g⟩
                · (repeat' (first | refine AL_skip rfl rfl ?_ | refine stq ?_ | ((first | (with_reducible refine AL_id ?_); (fail_if_success (refine AL_glit rfl rfl rfl (by first | exact .inl (by with_reducible rfl) | exact .inr (by with_reducible rfl)) ?_)); first | refine AL_gdec rfl rfl rfl (fun hg => ?_) (fun hg => ?_) | refine AL_gnot rfl rfl rfl (fun hg => ?_) (fun hg => ?_) | refine AL_gcases rfl rfl rfl (fun hg => ?_) (fun hg => ?_)) <;> (try (exfalso; omega))) | refine AW_if rfl (fun hc => absurd hc (by omega)) (fun _ => ?_) | refine AW_if rfl (fun _ => ?_) (fun hc => absurd (by omega) hc)))
                  all_goals (try (exfalso; omega))
                  all_goals (refine Le.mk ?_ ?_; all_goals (repeat' (first | exact trivial | refine sle ?_ | refine ⟨?_, rfl, ?_⟩ | refine ⟨?_, by decide, rfl, ?_⟩ | fail)))
                · (repeat' (first | refine AL_skip rfl rfl ?_ | refine stq ?_ | ((first | (with_reducible refine AL_id ?_); (fail_if_success (refine AL_glit rfl rfl rfl (by first | exact .inl (by with_reducible rfl) | exact .inr (by with_reducible rfl)) ?_)); first | refine AL_gdec rfl rfl rfl (fun hg => ?_) (fun hg => ?_) | refine AL_gnot rfl rfl rfl (fun hg => ?_) (fun hg => ?_) | refine AL_gcases rfl rfl rfl (fun hg => ?_) (fun hg => ?_)) <;> (try (exfalso; omega))) | refine AW_if rfl (fun hc => absurd hc (by omega)) (fun _ => ?_) | refine AW_if rfl (fun _ => ?_) (fun hc => absurd (by omega) hc)))
                  all_goals (try (exfalso; omega))
                  all_goals (refine Le.mk ?_ ?_; all_goals (repeat' (first | exact trivial | refine sle ?_ | refine ⟨?_, rfl, ?_⟩ | refine ⟨?_, by decide, rfl, ?_⟩ | fail)))
              · cases hz : sizedB X acid t with
                | false =>
                  rw [hz] at k63
                  (repeat' (first | refine AL_skip rfl rfl ?_ | refine stq ?_ | (refine AL_do2 rfl ?_; first | refine ⟨_, op_call1 rfl rfl rfl rfl (k80n), nrmA rfl ?_⟩ | refine ⟨_, op_call1 rfl rfl rfl rfl (k55n), nrmA rfl ?_⟩ | refine ⟨_, op_call1 rfl rfl rfl rfl (k63), nrmA rfl ?_⟩ | refine ⟨_, op_call1 rfl rfl rfl rfl (f24), nrmA rfl ?_⟩) | ((first | (with_reducible refine AL_id ?_); (fail_if_success (refine AL_glit rfl rfl rfl (by first | exact .inl (by with_reducible rfl) | exact .inr (by with_reducible rfl)) ?_)); first | refine AL_gdec rfl rfl rfl (fun hg => ?_) (fun hg => ?_) | refine AL_gnot rfl rfl rfl (fun hg => ?_) (fun hg => ?_) | refine AL_gcases rfl rfl rfl (fun hg => ?_) (fun hg => ?_)) <;> (try (exfalso; omega))) | refine AW_if rfl (fun hc => absurd hc (by omega)) (fun _ => ?_) | refine AW_if rfl (fun _ => ?_) (fun hc => absurd (by omega) hc)))
                  all_goals first | exact ⟨_, _, rfl, rfl, rfl⟩ | (exfalso; omega)
                | true =>
                  rw [hz] at k63
                  have k72 := k72 hz
                  cases hq : fitsB X acid t with
                  | false =>
                    rw [hq] at k72
                    (repeat' (first | refine AL_skip rfl rfl ?_ | refine stq ?_ | (refine AL_do2 rfl ?_; first | refine ⟨_, op_call1 rfl rfl rfl rfl (k80n), nrmA rfl ?_⟩ | refine ⟨_, op_call1 rfl rfl rfl rfl (k55n), nrmA rfl ?_⟩ | refine ⟨_, op_call1 rfl rfl rfl rfl (k63), nrmA rfl ?_⟩ | refine ⟨_, op_call1 rfl rfl rfl rfl (k72), nrmA rfl ?_⟩ | refine ⟨_, op_call1 rfl rfl rfl rfl (f24), nrmA rfl ?_⟩) | ((first | (with_reducible refine AL_id ?_); (fail_if_success (refine AL_glit rfl rfl rfl (by first | exact .inl (by with_reducible rfl) | exact .inr (by with_reducible rfl)) ?_)); first | refine AL_gdec rfl rfl rfl (fun hg => ?_) (fun hg => ?_) | refine AL_gnot rfl rfl rfl (fun hg => ?_) (fun hg => ?_) | refine AL_gcases rfl rfl rfl (fun hg => ?_) (fun hg => ?_)) <;> (try (exfalso; omega))) | refine AW_if rfl (fun hc => absurd hc (by omega)) (fun _ => ?_) | refine AW_if rfl (fun _ => ?_) (fun hc => absurd (by omega) hc)))
                    all_goals first | exact ⟨_, _, rfl, rfl, rfl⟩ | (exfalso; omega)
                  | true =>
                    rw [hq] at k72
                    have k70 := k70 hz hq
                    have main := main hz hq
                    generalize (d.batches.map fun b => stateI b t j) = L at *
                    (repeat' (first | refine AL_skip rfl rfl ?_ | refine stq ?_ | (refine AL_do2 rfl ?_; first | refine ⟨_, op_call1 rfl rfl rfl rfl (k80n), nrmA rfl ?_⟩ | refine ⟨_, op_call1 rfl rfl rfl rfl (k55n), nrmA rfl ?_⟩ | refine ⟨_, op_call1 rfl rfl rfl rfl (k63), nrmA rfl ?_⟩ | refine ⟨_, op_call1 rfl rfl rfl rfl (k72), nrmA rfl ?_⟩ | refine ⟨_, op_call1 rfl rfl rfl rfl (k70), nrmA rfl ?_⟩) | ((first | (with_reducible refine AL_id ?_); (fail_if_success (refine AL_glit rfl rfl rfl (by first | exact .inl (by with_reducible rfl) | exact .inr (by with_reducible rfl)) ?_)); first | refine AL_gdec rfl rfl rfl (fun hg => ?_) (fun hg => ?_) | refine AL_gnot rfl rfl rfl (fun hg => ?_) (fun hg => ?_) | refine AL_gcases rfl rfl rfl (fun hg => ?_) (fun hg => ?_)) <;> (try (exfalso; omega))) | refine AW_if rfl (fun hc => absurd hc (by omega)) (fun _ => ?_) | refine AW_if rfl (fun _ => ?_) (fun hc => absurd (by omega) hc)))
                    all_goals (try (exfalso; omega))
                    refine AW_loopC (fun k : Nat => k ≤ d.batches.length) (fun k => mkSt [(5, .box 0 0), (18, .pv (eStates L)), (20, .pv (vi k))] [(0, .box ((eDrumC d).map FV.pv))] 5) (fun k => d.batches.length - k) 0 (Nat.zero_le _) ?_ ?_
                    · (refine Le.mk ?_ ?_; all_goals (repeat' (first | exact trivial | refine sle ?_ | refine ⟨?_, rfl, ?_⟩ | refine ⟨?_, by decide, rfl, ?_⟩ | fail)))
                    · intro k hk
                      (repeat (refine stq ?_))
                      refine AW_if rfl (fun hc => ?_) (fun hc => ?_)
                      · have hk' : k < d.batches.length := by omega
                        obtain ⟨b, hb⟩ : ∃ b, d.batches[k]? = some b := ⟨d.batches[k], by simp [hk']⟩
                        have e0 := get_map eBatch hb
                        have ea := get_map eState (hb2 k b hb)
                        have hm := main b (List.mem_of_getElem? hb)
                        generalize stateI b t j = S at *
                        (repeat (refine stq ?_))
                        iterate 11 (refine sdq ?_)
                        refine DG_cmp hT rfl (fun hg => absurd hg (by omega)) (fun _ => ?_)
                        iterate 12 (refine sdq ?_)
                        refine DG_cmp hT rfl (fun hg => absurd hg (by omega)) (fun _ => ?_)
                        refine sdq ?_
                        refine DG_end hM (by kernel_rfl) ?_
                        (repeat (refine stq ?_))
                        refine ⟨k + 1, hk', by omega, ?_⟩
                        (refine Le.mk ?_ ?_; all_goals (repeat' (first | exact trivial | refine sle ?_ | refine ⟨?_, rfl, ?_⟩ | refine ⟨?_, by decide, rfl, ?_⟩ | fail)))
                      · (repeat' (first | refine stq ?_ | (refine AL_do2 rfl ?_; first | refine ⟨_, op_call1 rfl rfl rfl rfl (f24), nrmA rfl ?_⟩) | (with_reducible refine AL_id ?_); (fail_if_success (refine AL_glit rfl rfl rfl (by first | exact .inl (by with_reducible rfl) | exact .inr (by with_reducible rfl)) ?_)); first | refine AL_gdec rfl rfl rfl (fun hg => ?_) (fun hg => ?_) | refine AL_gnot rfl rfl rfl (fun hg => ?_) (fun hg => ?_) | refine AL_gcases rfl rfl rfl (fun hg => ?_) (fun hg => ?_)))
                        exact ⟨_, _, rfl, rfl, rfl⟩
        · refine ACalls.of_body hT Tryz.func22 rfl (by kernel_rfl) rfl ?_
          (repeat' (first | refine stq ?_ | (refine AL_do2 rfl ?_; first | refine ⟨_, op_call1 rfl rfl rfl rfl (k23), nrmA rfl ?_⟩ | refine ⟨_, op_call1 rfl rfl rfl rfl (f24), nrmA rfl ?_⟩ | refine ⟨_, op_call1 rfl rfl rfl rfl (k39), nrmA rfl ?_⟩) | ((first | (with_reducible refine AL_id ?_); (fail_if_success (refine AL_glit rfl rfl rfl (by first | exact .inl (by with_reducible rfl) | exact .inr (by with_reducible rfl)) ?_)); first | refine AL_gdec rfl rfl rfl (fun hg => ?_) (fun hg => ?_) | refine AL_gnot rfl rfl rfl (fun hg => ?_) (fun hg => ?_) | refine AL_gcases rfl rfl rfl (fun hg => ?_) (fun hg => ?_)) <;> (try (exfalso; omega))) | refine AW_if rfl (fun hc => absurd hc (by omega)) (fun _ => ?_) | refine AW_if rfl (fun _ => ?_) (fun hc => absurd (by omega) hc)))
          all_goals first | exact ⟨_, _, rfl, rfl, rfl⟩ | (exfalso; omega)
    · refine ACalls.of_body hT Tryz.func22 rfl (by kernel_rfl) rfl ?_
      (repeat' (first | refine stq ?_ | (refine AL_do2 rfl ?_; first | refine ⟨_, op_call1 rfl rfl rfl rfl (k23), nrmA rfl ?_⟩ | refine ⟨_, op_call1 rfl rfl rfl rfl (f24), nrmA rfl ?_⟩) | ((first | (with_reducible refine AL_id ?_); (fail_if_success (refine AL_glit rfl rfl rfl (by first | exact .inl (by with_reducible rfl) | exact .inr (by with_reducible rfl)) ?_)); first | refine AL_gdec rfl rfl rfl (fun hg => ?_) (fun hg => ?_) | refine AL_gnot rfl rfl rfl (fun hg => ?_) (fun hg => ?_) | refine AL_gcases rfl rfl rfl (fun hg => ?_) (fun hg => ?_)) <;> (try (exfalso; omega))) | refine AW_if rfl (fun hc => absurd hc (by omega)) (fun _ => ?_) | refine AW_if rfl (fun _ => ?_) (fun hc => absurd (by omega) hc)))
      all_goals first | exact ⟨_, _, rfl, rfl, rfl⟩ | (exfalso; omega)
end Go.Abs
