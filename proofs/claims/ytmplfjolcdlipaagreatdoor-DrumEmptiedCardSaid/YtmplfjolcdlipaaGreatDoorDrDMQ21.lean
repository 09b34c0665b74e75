/- DrumEmptied: the contract of the statement's function. -/
import Derived.Test.YtmplfjolcdlipaaGreatDoorLcMQ21
import Derived.Test.YtmplfjolcdlipaaGreatDoorXQ21
set_option linter.unusedVariables false
set_option linter.unusedSimpArgs false
namespace Go.Abs
open Go.Proofs
set_option linter.unusedVariables false
set_option linter.unusedSimpArgs false
set_option maxRecDepth 100000
set_option maxHeartbeats 16000000 in
theorem f21 (d : Drum) (acid : Int) (t : List Int) (hours : Int) : ACalls Tryz.prog 21 [eDrum d, eTruth acid t, vi hours] (fun r => r = .pv (.bool true)) := by
  have k23 := f23' d
  cases hs : shortB d with
  | false =>
    rw [hs] at k23
    refine ACalls.of_body hT Tryz.func21 rfl (by kernel_rfl) rfl ?_
    (repeat' (first | refine stq ?_ | (refine AL_do2 rfl ?_; first | refine ⟨_, op_call1 rfl rfl rfl rfl (k23), nrmA rfl ?_⟩ | refine ⟨_, op_call1 rfl rfl rfl rfl (f24), nrmA rfl ?_⟩) | (with_reducible refine AL_id ?_); (fail_if_success (refine AL_glit rfl rfl rfl (by first | exact .inl (by with_reducible rfl) | exact .inr (by with_reducible rfl)) ?_)); first | refine AL_gdec rfl rfl rfl (fun hg => ?_) (fun hg => ?_) | refine AL_gnot rfl rfl rfl (fun hg => ?_) (fun hg => ?_) | refine AL_gcases rfl rfl rfl (fun hg => ?_) (fun hg => ?_)))
    all_goals (try (exfalso; simp at hg; done))
    exact ⟨_, _, rfl, rfl, rfl⟩
  | true =>
    rw [hs] at k23
    have hd := short_ok hs
    by_cases ht : t.length ≤ 15
    · have ht' : t.length ≤ 1000 := by omega
      have k39 := f39 d hd
      cases q : drumB d with
      | false =>
        rw [q] at k39
        refine ACalls.of_body hT Tryz.func21 rfl (by kernel_rfl) rfl ?_
        (repeat' (first | refine stq ?_ | (refine AL_do2 rfl ?_; first | refine ⟨_, op_call1 rfl rfl rfl rfl (k23), nrmA rfl ?_⟩ | refine ⟨_, op_call1 rfl rfl rfl rfl (f24), nrmA rfl ?_⟩ | refine ⟨_, op_call1 rfl rfl rfl rfl (k39), nrmA rfl ?_⟩) | ((first | (with_reducible refine AL_id ?_); (fail_if_success (refine AL_glit rfl rfl rfl (by first | exact .inl (by with_reducible rfl) | exact .inr (by with_reducible rfl)) ?_)); first | refine AL_gdec rfl rfl rfl (fun hg => ?_) (fun hg => ?_) | refine AL_gnot rfl rfl rfl (fun hg => ?_) (fun hg => ?_) | refine AL_gcases rfl rfl rfl (fun hg => ?_) (fun hg => ?_)) <;> (try (exfalso; omega))) | refine AW_if rfl (fun hc => absurd hc (by omega)) (fun _ => ?_) | refine AW_if rfl (fun _ => ?_) (fun hc => absurd (by omega) hc)))
        all_goals exact ⟨_, _, rfl, rfl, rfl⟩
      | true =>
        rw [q] at k39
        have hP := drumP_of.1 q
        have k63 := f63 d acid t hd.1 ht'
        have hbl := hP.b1
        have hh1 := hP.h1
        have hh0 := hP.h0
        cases hz : sizedB d acid t with
        | false =>
          rw [hz] at k63
          refine ACalls.of_body hT Tryz.func21 rfl (by kernel_rfl) rfl ?_
          (repeat' (first | refine stq ?_ | (refine AL_do2 rfl ?_; first | refine ⟨_, op_call1 rfl rfl rfl rfl (k23), nrmA rfl ?_⟩ | refine ⟨_, op_call1 rfl rfl rfl rfl (f24), nrmA rfl ?_⟩ | refine ⟨_, op_call1 rfl rfl rfl rfl (k39), nrmA rfl ?_⟩ | refine ⟨_, op_call1 rfl rfl rfl rfl (k63), nrmA rfl ?_⟩) | ((first | (with_reducible refine AL_id ?_); (fail_if_success (refine AL_glit rfl rfl rfl (by first | exact .inl (by with_reducible rfl) | exact .inr (by with_reducible rfl)) ?_)); first | refine AL_gdec rfl rfl rfl (fun hg => ?_) (fun hg => ?_) | refine AL_gnot rfl rfl rfl (fun hg => ?_) (fun hg => ?_) | refine AL_gcases rfl rfl rfl (fun hg => ?_) (fun hg => ?_)) <;> (try (exfalso; omega))) | refine AW_if rfl (fun hc => absurd hc (by omega)) (fun _ => ?_) | refine AW_if rfl (fun _ => ?_) (fun hc => absurd (by omega) hc)))
          all_goals exact ⟨_, _, rfl, rfl, rfl⟩
        | true =>
          rw [hz] at k63
          have k72 := f72' hP hz
          cases hq : fitsB d acid t with
          | false =>
            rw [hq] at k72
            refine ACalls.of_body hT Tryz.func21 rfl (by kernel_rfl) rfl ?_
            (repeat' (first | refine stq ?_ | (refine AL_do2 rfl ?_; first | refine ⟨_, op_call1 rfl rfl rfl rfl (k23), nrmA rfl ?_⟩ | refine ⟨_, op_call1 rfl rfl rfl rfl (f24), nrmA rfl ?_⟩ | refine ⟨_, op_call1 rfl rfl rfl rfl (k39), nrmA rfl ?_⟩ | refine ⟨_, op_call1 rfl rfl rfl rfl (k63), nrmA rfl ?_⟩ | refine ⟨_, op_call1 rfl rfl rfl rfl (k72), nrmA rfl ?_⟩) | ((first | (with_reducible refine AL_id ?_); (fail_if_success (refine AL_glit rfl rfl rfl (by first | exact .inl (by with_reducible rfl) | exact .inr (by with_reducible rfl)) ?_)); first | refine AL_gdec rfl rfl rfl (fun hg => ?_) (fun hg => ?_) | refine AL_gnot rfl rfl rfl (fun hg => ?_) (fun hg => ?_) | refine AL_gcases rfl rfl rfl (fun hg => ?_) (fun hg => ?_)) <;> (try (exfalso; omega))) | refine AW_if rfl (fun hc => absurd hc (by omega)) (fun _ => ?_) | refine AW_if rfl (fun _ => ?_) (fun hc => absurd (by omega) hc)))
            all_goals exact ⟨_, _, rfl, rfl, rfl⟩
          | true =>
            rw [hq] at k72
            by_cases hf : 0 ≤ hours ∧ hours ≤ d.hours
            · obtain ⟨h, rfl⟩ : ∃ h : Nat, hours = h := ⟨hours.toNat, by omega⟩
              have he := err_fits q hz hq
              obtain ⟨hm, htr, htl⟩ := fits_mem hP hz hq
              have hne : filledL d ≠ [] := fun e => by rw [e] at hm; cases hm
              have hin : inB (h : Int) 0 d.hours = true := by simp [inB]; omega
              have k70 := f70y (acid := acid) (t := t) (hours := h) hd ht' (by simp [runOK, q, hz, hq, hin])
              have k71 := f71y (hours := h) hd (by rw [hin]; exact he)
              rw [Int.toNat_natCast] at k70 k71
              have la : (d.batches.map fun b => stateI b t h).length = d.batches.length := by simp
              have lc : (d.batches.map fun b => boundsI d b h).length = d.batches.length := by simp
              have ha : ∀ (k : Nat) (b : Batch), d.batches[k]? = some b → (d.batches.map fun b => stateI b t h)[k]? = some (stateI b t h) := fun k b hb => by rw [List.getElem?_map, hb]; rfl
              have hc' : ∀ (k : Nat) (b : Batch), d.batches[k]? = some b → (d.batches.map fun b => boundsI d b h)[k]? = some (boundsI d b h) := fun k b hb => by rw [List.getElem?_map, hb]; rfl
              have hsure := all_sure hP hne (h := h) (by omega)
              have main : ∀ b ∈ d.batches, sureB d b h = true → (stateI b t h).rough ≤ b.goal ∧ b.least ≤ (stateI b t h).thick := fun b hb hs => by
                obtain ⟨w1, w2, w3, w4⟩ := state_bounds hP (hP.batch b hb) hm htl htr (h := h) (by omega)
                simp only [sureB, Bool.and_eq_true, decide_eq_true_eq] at hs
                omega
              have hsb : ∀ b : Batch, sureB d b h = (decide ((boundsI d b h).rough.high ≤ b.goal) && decide ((boundsI d b h).thick.low ≥ b.least)) := fun b => rfl
              have W : ∃ (w : Span) (e : Int) (IN : Bool), ACalls Tryz.prog 55 [eDrum d] (fun r => r = .tup [eS w, vi e]) ∧ ((e = 0 ∧ (IN = true ↔ w.low ≤ h ∧ h ≤ w.high)) ∨ (e = 5 ∧ IN = false)) ∧ (IN = d.batches.all fun b => sureB d b h) := by
                cases ho : openS (allW d) with
                | true =>
                  refine ⟨_, _, d.batches.all fun b => sureB d b h, f55y hd he ho, .inl ⟨rfl, ?_⟩, rfl⟩
                  rw [List.all_eq_true]; exact hsure.symm
                | false =>
                  refine ⟨_, _, _, f55n hd he ho, .inr ⟨rfl, rfl⟩, ?_⟩
                  symm
                  rw [← Bool.not_eq_true, List.all_eq_true]
                  intro h1
                  have := open_iff.2 ⟨_, hsure.2 h1⟩
                  rw [ho] at this; cases this
              obtain ⟨w, e, IN, k55, W1, W2⟩ := W
              generalize (d.batches.map fun b => stateI b t h) = LA at *
              generalize (d.batches.map fun b => boundsI d b h) = LC at *
              have W1 : (e = 0 ∧ IN = true ∧ w.low ≤ h ∧ h ≤ w.high) ∨ (e = 0 ∧ IN = false ∧ (h : Int) < w.low) ∨ (e = 0 ∧ IN = false ∧ w.low ≤ h ∧ w.high < h) ∨ (e = 5 ∧ IN = false) := by
                rcases W1 with ⟨h1, h2⟩ | h1
                · cases IN with
                  | true => have := h2.1 rfl; exact .inl ⟨h1, rfl, this⟩
                  | false =>
                    have : ¬ (w.low ≤ h ∧ h ≤ w.high) := fun g => by have := h2.2 g; cases this
                    by_cases g : (h : Int) < w.low
                    · exact .inr (.inl ⟨h1, rfl, g⟩)
                    · exact .inr (.inr (.inl ⟨h1, rfl, by omega, by omega⟩))
                · exact .inr (.inr (.inr h1))
              rcases W1 with ⟨rfl, rfl, g1, g2⟩ | ⟨rfl, rfl, g1⟩ | ⟨rfl, rfl, g1, g2⟩ | ⟨rfl, rfl⟩
              · exact f21x0 k23 k39 k63 k72 ht hbl hh1 hf k55 k70 k71 la lc ha hc' main hsb W2 g1 g2
              · exact f21x1 k23 k39 k63 k72 ht hbl hh1 hf k55 k70 k71 la lc ha hc' main hsb W2 g1
              · exact f21x2 k23 k39 k63 k72 ht hbl hh1 hf k55 k70 k71 la lc ha hc' main hsb W2 g1 g2
              · exact f21x3 k23 k39 k63 k72 ht hbl hh1 hf k55 k70 k71 la lc ha hc' main hsb W2
            · refine ACalls.of_body hT Tryz.func21 rfl (by kernel_rfl) rfl ?_
              (repeat' (first | refine stq ?_ | (refine AL_do2 rfl ?_; first | refine ⟨_, op_call1 rfl rfl rfl rfl (k23), nrmA rfl ?_⟩ | refine ⟨_, op_call1 rfl rfl rfl rfl (f24), nrmA rfl ?_⟩ | refine ⟨_, op_call1 rfl rfl rfl rfl (k39), nrmA rfl ?_⟩ | refine ⟨_, op_call1 rfl rfl rfl rfl (k63), nrmA rfl ?_⟩ | refine ⟨_, op_call1 rfl rfl rfl rfl (k72), nrmA rfl ?_⟩) | ((first | (with_reducible refine AL_id ?_); (fail_if_success (refine AL_glit rfl rfl rfl (by first | exact .inl (by with_reducible rfl) | exact .inr (by with_reducible rfl)) ?_)); first | refine AL_gdec rfl rfl rfl (fun hg => ?_) (fun hg => ?_) | refine AL_gnot rfl rfl rfl (fun hg => ?_) (fun hg => ?_) | refine AL_gcases rfl rfl rfl (fun hg => ?_) (fun hg => ?_)) <;> (try (exfalso; omega))) | refine AW_if rfl (fun hc => absurd hc (by omega)) (fun _ => ?_) | refine AW_if rfl (fun _ => ?_) (fun hc => absurd (by omega) hc)))
              all_goals first | exact ⟨_, _, rfl, rfl, rfl⟩ | (exfalso; omega)
    · refine ACalls.of_body hT Tryz.func21 rfl (by kernel_rfl) rfl ?_
      (repeat' (first | refine stq ?_ | (refine AL_do2 rfl ?_; first | refine ⟨_, op_call1 rfl rfl rfl rfl (k23), nrmA rfl ?_⟩ | refine ⟨_, op_call1 rfl rfl rfl rfl (f24), nrmA rfl ?_⟩) | ((first | (with_reducible refine AL_id ?_); (fail_if_success (refine AL_glit rfl rfl rfl (by first | exact .inl (by with_reducible rfl) | exact .inr (by with_reducible rfl)) ?_)); first | refine AL_gdec rfl rfl rfl (fun hg => ?_) (fun hg => ?_) | refine AL_gnot rfl rfl rfl (fun hg => ?_) (fun hg => ?_) | refine AL_gcases rfl rfl rfl (fun hg => ?_) (fun hg => ?_)) <;> (try (exfalso; omega))) | refine AW_if rfl (fun hc => absurd hc (by omega)) (fun _ => ?_) | refine AW_if rfl (fun _ => ?_) (fun hc => absurd (by omega) hc)))
      all_goals first | exact ⟨_, _, rfl, rfl, rfl⟩ | (exfalso; omega)
end Go.Abs
