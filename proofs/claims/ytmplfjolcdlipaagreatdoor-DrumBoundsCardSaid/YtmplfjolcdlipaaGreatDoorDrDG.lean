/- DrumBounds: the contract of the statement's function. -/
import Derived.Test.YtmplfjolcdlipaaGreatDoorDrDF
import Derived.Test.YtmplfjolcdlipaaGreatDoorX
set_option linter.unusedVariables false
set_option linter.unusedSimpArgs false
namespace Go.Abs
open Go.Proofs
set_option linter.unusedVariables false
set_option linter.unusedSimpArgs false
set_option maxRecDepth 100000
theorem fits_mem {d : Drum} {acid : Int} {t : List Int} (hP : DrumP d) (hz : sizedB d acid t = true) (hq : fitsB d acid t = true) :
    (d.acids.getD acid.toNat ⟨⟨0, 0⟩, ⟨0, 0⟩⟩, acid.toNat) ∈ filledL d ∧ truesB d (d.acids.getD acid.toNat ⟨⟨0, 0⟩, ⟨0, 0⟩⟩) t = true ∧ t.length = d.hours.toNat := by
  obtain ⟨h0, hac, hl⟩ := sized_of hz
  simp only [fitsB, Bool.and_eq_true] at hq
  have ha := hP.acid _ (List.mem_of_getElem? hac)
  have hkb := known_bd hP
  have hn := (List.getElem?_eq_some_iff.1 hac).1
  have ha4 := hP.a1
  refine ⟨filled_mem.2 ⟨hac, ?_, true_may hP ha hq.2⟩, hq.2, by omega⟩
  rw [← bit_has hkb.1 hkb.2 (by omega)]
  exact hq.1
theorem err_cases {d : Drum} (h : drumB d = true) : (filledL d = [] ∧ errE d true = 7) ∨ (filledL d ≠ [] ∧ errE d true = 0) := by
  unfold errE askedE
  rw [h, Bool.and_true, if_pos rfl]
  by_cases h0 : (filledL d).length = 0
  · rw [if_pos h0]; exact .inl ⟨List.length_eq_zero_iff.1 h0, rfl⟩
  · rw [if_neg h0]; exact .inr ⟨fun e => h0 (by rw [e]; rfl), rfl⟩
set_option maxHeartbeats 16000000 in
theorem f18 (d : Drum) (acid : Int) (t : List Int) (hour : Int) : ACalls Tryz.prog 18 [eDrum d, eTruth acid t, vi hour] (fun r => r = .pv (.bool true)) := by
  have k23 := f23' d
  cases hs : shortB d with
  | false =>
    rw [hs] at k23
    refine ACalls.of_body hT Tryz.func18 rfl (by kernel_rfl) rfl ?_
    (repeat' (first | refine stq ?_ | (refine AL_do2 rfl ?_; first | refine ⟨_, op_call1 rfl rfl rfl rfl (k23), nrmA rfl ?_⟩ | refine ⟨_, op_call1 rfl rfl rfl rfl (f24), nrmA rfl ?_⟩) | (with_reducible refine AL_id ?_); (fail_if_success (refine AL_glit rfl rfl rfl (by first | exact .inl (by with_reducible rfl) | exact .inr (by with_reducible rfl)) ?_)); first | refine AL_gdec rfl rfl rfl (fun hg => ?_) (fun hg => ?_) | refine AL_gnot rfl rfl rfl (fun hg => ?_) (fun hg => ?_) | refine AL_gcases rfl rfl rfl (fun hg => ?_) (fun hg => ?_)))
    all_goals (try (exfalso; simp at hg; done))
    exact ⟨_, _, rfl, rfl, rfl⟩
  | true =>
    rw [hs] at k23
    have hd := short_ok hs
    by_cases ht : t.length ≤ 15
    · have ht' : t.length ≤ 1000 := by omega
      have k39 := f39 d hd
      cases q : drumB d with
      | false =>
        rw [q] at k39
        refine ACalls.of_body hT Tryz.func18 rfl (by kernel_rfl) rfl ?_
        (repeat' (first | refine stq ?_ | (refine AL_do2 rfl ?_; first | refine ⟨_, op_call1 rfl rfl rfl rfl (k23), nrmA rfl ?_⟩ | refine ⟨_, op_call1 rfl rfl rfl rfl (f24), nrmA rfl ?_⟩ | refine ⟨_, op_call1 rfl rfl rfl rfl (k39), nrmA rfl ?_⟩) | ((first | (with_reducible refine AL_id ?_); (fail_if_success (refine AL_glit rfl rfl rfl (by first | exact .inl (by with_reducible rfl) | exact .inr (by with_reducible rfl)) ?_)); first | refine AL_gdec rfl rfl rfl (fun hg => ?_) (fun hg => ?_) | refine AL_gnot rfl rfl rfl (fun hg => ?_) (fun hg => ?_) | refine AL_gcases rfl rfl rfl (fun hg => ?_) (fun hg => ?_)) <;> (try (exfalso; omega))) | refine AW_if rfl (fun hc => absurd hc (by omega)) (fun _ => ?_) | refine AW_if rfl (fun _ => ?_) (fun hc => absurd (by omega) hc)))
        all_goals exact ⟨_, _, rfl, rfl, rfl⟩
      | true =>
        rw [q] at k39
        have hP := drumP_of.1 q
        have k63 := f63 d acid t hd.1 ht'
        have hbl := hP.b1
        have hh1 := hP.h1
        cases hz : sizedB d acid t with
        | false =>
          rw [hz] at k63
          refine ACalls.of_body hT Tryz.func18 rfl (by kernel_rfl) rfl ?_
          (repeat' (first | refine stq ?_ | (refine AL_do2 rfl ?_; first | refine ⟨_, op_call1 rfl rfl rfl rfl (k23), nrmA rfl ?_⟩ | refine ⟨_, op_call1 rfl rfl rfl rfl (f24), nrmA rfl ?_⟩ | refine ⟨_, op_call1 rfl rfl rfl rfl (k39), nrmA rfl ?_⟩ | refine ⟨_, op_call1 rfl rfl rfl rfl (k63), nrmA rfl ?_⟩) | ((first | (with_reducible refine AL_id ?_); (fail_if_success (refine AL_glit rfl rfl rfl (by first | exact .inl (by with_reducible rfl) | exact .inr (by with_reducible rfl)) ?_)); first | refine AL_gdec rfl rfl rfl (fun hg => ?_) (fun hg => ?_) | refine AL_gnot rfl rfl rfl (fun hg => ?_) (fun hg => ?_) | refine AL_gcases rfl rfl rfl (fun hg => ?_) (fun hg => ?_)) <;> (try (exfalso; omega))) | refine AW_if rfl (fun hc => absurd hc (by omega)) (fun _ => ?_) | refine AW_if rfl (fun _ => ?_) (fun hc => absurd (by omega) hc)))
          all_goals exact ⟨_, _, rfl, rfl, rfl⟩
        | true =>
          rw [hz] at k63
          by_cases hf : 0 ≤ hour ∧ hour < d.hours
          · obtain ⟨h, rfl⟩ : ∃ h : Nat, hour = h := ⟨hour.toNat, by omega⟩
            have in1 : inB (h : Int) 0 d.hours = true := by simp [inB]; omega
            have in2 : inB ((h : Int) + 1) 0 d.hours = true := by simp [inB]; omega
            cases hq : fitsB d acid t with
            | false =>
              have k70a := f70n (acid := acid) (t := t) (hours := h) hd ht' (by simp [runOK, hq])
              have k70b := f70n (acid := acid) (t := t) (hours := (h : Int) + 1) hd ht' (by simp [runOK, hq])
              rcases err_cases q with ⟨_, he⟩ | ⟨_, he⟩
              · have k71 := f71n (hours := h) hd (by rw [in1, he]; decide)
                rw [in1, he] at k71
                refine ACalls.of_body hT Tryz.func18 rfl (by kernel_rfl) rfl ?_
                (repeat' (first | refine stq ?_ | (refine AL_do2 rfl ?_; first | refine ⟨_, op_call1 rfl rfl rfl rfl (k23), nrmA rfl ?_⟩ | refine ⟨_, op_call1 rfl rfl rfl rfl (f24), nrmA rfl ?_⟩ | refine ⟨_, op_call1 rfl rfl rfl rfl (k39), nrmA rfl ?_⟩ | refine ⟨_, op_call1 rfl rfl rfl rfl (k63), nrmA rfl ?_⟩ | refine ⟨_, op_call1 rfl rfl rfl rfl (k70a), nrmA rfl ?_⟩ | refine ⟨_, op_call1 rfl rfl rfl rfl (k70b), nrmA rfl ?_⟩ | refine ⟨_, op_call1 rfl rfl rfl rfl (k71), nrmA rfl ?_⟩) | ((first | (with_reducible refine AL_id ?_); (fail_if_success (refine AL_glit rfl rfl rfl (by first | exact .inl (by with_reducible rfl) | exact .inr (by with_reducible rfl)) ?_)); first | refine AL_gdec rfl rfl rfl (fun hg => ?_) (fun hg => ?_) | refine AL_gnot rfl rfl rfl (fun hg => ?_) (fun hg => ?_) | refine AL_gcases rfl rfl rfl (fun hg => ?_) (fun hg => ?_)) <;> (try (exfalso; omega))) | refine AW_if rfl (fun hc => absurd hc (by omega)) (fun _ => ?_) | refine AW_if rfl (fun _ => ?_) (fun hc => absurd (by omega) hc)))
                all_goals first | exact ⟨_, _, rfl, rfl, rfl⟩ | (exfalso; omega)
              · have k71 := f71y (hours := h) hd (by rw [in1]; exact he)
                refine ACalls.of_body hT Tryz.func18 rfl (by kernel_rfl) rfl ?_
                (repeat' (first | refine stq ?_ | (refine AL_do2 rfl ?_; first | refine ⟨_, op_call1 rfl rfl rfl rfl (k23), nrmA rfl ?_⟩ | refine ⟨_, op_call1 rfl rfl rfl rfl (f24), nrmA rfl ?_⟩ | refine ⟨_, op_call1 rfl rfl rfl rfl (k39), nrmA rfl ?_⟩ | refine ⟨_, op_call1 rfl rfl rfl rfl (k63), nrmA rfl ?_⟩ | refine ⟨_, op_call1 rfl rfl rfl rfl (k70a), nrmA rfl ?_⟩ | refine ⟨_, op_call1 rfl rfl rfl rfl (k70b), nrmA rfl ?_⟩ | refine ⟨_, op_call1 rfl rfl rfl rfl (k71), nrmA rfl ?_⟩) | ((first | (with_reducible refine AL_id ?_); (fail_if_success (refine AL_glit rfl rfl rfl (by first | exact .inl (by with_reducible rfl) | exact .inr (by with_reducible rfl)) ?_)); first | refine AL_gdec rfl rfl rfl (fun hg => ?_) (fun hg => ?_) | refine AL_gnot rfl rfl rfl (fun hg => ?_) (fun hg => ?_) | refine AL_gcases rfl rfl rfl (fun hg => ?_) (fun hg => ?_)) <;> (try (exfalso; omega))) | refine AW_if rfl (fun hc => absurd hc (by omega)) (fun _ => ?_) | refine AW_if rfl (fun _ => ?_) (fun hc => absurd (by omega) hc)))
                all_goals first | exact ⟨_, _, rfl, rfl, rfl⟩ | (exfalso; omega)
            | true =>
              obtain ⟨hm, htr, htl⟩ := fits_mem hP hz hq
              have he : errE d true = 0 := by
                rcases err_cases q with ⟨hn, _⟩ | ⟨_, he⟩
                · rw [hn] at hm; simp at hm
                · exact he
              have k70a := f70y (acid := acid) (t := t) (hours := h) hd ht' (by simp [runOK, q, hz, hq, in1])
              have k70b := f70y (acid := acid) (t := t) (hours := (h : Int) + 1) hd ht' (by simp [runOK, q, hz, hq, in2])
              have k71 := f71y (hours := h) hd (by rw [in1]; exact he)
              rw [Int.toNat_natCast] at k70a k71
              rw [show ((h : Int) + 1).toNat = h + 1 by omega] at k70b
              have la : (d.batches.map fun b => stateI b t h).length = d.batches.length := by simp
              have lb : (d.batches.map fun b => stateI b t (h + 1)).length = d.batches.length := by simp
              have lc : (d.batches.map fun b => boundsI d b h).length = d.batches.length := by simp
              have ha : ∀ (k : Nat) (b : Batch), d.batches[k]? = some b → (d.batches.map fun b => stateI b t h)[k]? = some (stateI b t h) := fun k b hb => by rw [List.getElem?_map, hb]; rfl
              have hb' : ∀ (k : Nat) (b : Batch), d.batches[k]? = some b → (d.batches.map fun b => stateI b t (h + 1))[k]? = some (stateI b t (h + 1)) := fun k b hb => by rw [List.getElem?_map, hb]; rfl
              have hc' : ∀ (k : Nat) (b : Batch), d.batches[k]? = some b → (d.batches.map fun b => boundsI d b h)[k]? = some (boundsI d b h) := fun k b hb => by rw [List.getElem?_map, hb]; rfl
              have htn : 0 ≤ t.getD h 0 := by
                have h1 := true_fwd hP (filled_acid hP hm) htr h (by omega)
                have h2 := fwd_bd hP (filled_acid hP hm) h
                omega
              have main : ∀ b ∈ d.batches, (boundsI d b h).rough.low ≤ (stateI b t h).rough ∧ (stateI b t h).rough ≤ (boundsI d b h).rough.high ∧ (boundsI d b h).thick.low ≤ (stateI b t h).thick ∧ (stateI b t h).thick ≤ (boundsI d b h).thick.high ∧ (stateI b t (h + 1)).rough ≤ (stateI b t h).rough ∧ (stateI b t (h + 1)).thick ≤ (stateI b t h).thick := fun b hb => by
                obtain ⟨w1, w2, w3, w4⟩ := state_bounds hP (hP.batch b hb) hm htl htr (h := h) (by omega)
                obtain ⟨w5, w6⟩ := state_later (hP.batch b hb) (t := t) (h := h) (by omega) htn
                exact ⟨w1, w2, w3, w4, w5, w6⟩
              generalize (d.batches.map fun b => stateI b t h) = LA at *
              generalize (d.batches.map fun b => stateI b t (h + 1)) = LB at *
              generalize (d.batches.map fun b => boundsI d b h) = LC at *
              refine ACalls.of_body hT Tryz.func18 rfl (by kernel_rfl) rfl ?_
              (repeat' (first | refine stq ?_ | (refine AL_do2 rfl ?_; first | refine ⟨_, op_call1 rfl rfl rfl rfl (k23), nrmA rfl ?_⟩ | refine ⟨_, op_call1 rfl rfl rfl rfl (f24), nrmA rfl ?_⟩ | refine ⟨_, op_call1 rfl rfl rfl rfl (k39), nrmA rfl ?_⟩ | refine ⟨_, op_call1 rfl rfl rfl rfl (k63), nrmA rfl ?_⟩ | refine ⟨_, op_call1 rfl rfl rfl rfl (k70a), nrmA rfl ?_⟩ | refine ⟨_, op_call1 rfl rfl rfl rfl (k70b), nrmA rfl ?_⟩ | refine ⟨_, op_call1 rfl rfl rfl rfl (k71), nrmA rfl ?_⟩) | ((first | (with_reducible refine AL_id ?_); (fail_if_success (refine AL_glit rfl rfl rfl (by first | exact .inl (by with_reducible rfl) | exact .inr (by with_reducible rfl)) ?_)); first | refine AL_gdec rfl rfl rfl (fun hg => ?_) (fun hg => ?_) | refine AL_gnot rfl rfl rfl (fun hg => ?_) (fun hg => ?_) | refine AL_gcases rfl rfl rfl (fun hg => ?_) (fun hg => ?_)) <;> (try (exfalso; omega))) | refine AW_if rfl (fun hc => absurd hc (by omega)) (fun _ => ?_) | refine AW_if rfl (fun _ => ?_) (fun hc => absurd (by omega) hc)))
              all_goals (try (exfalso; omega))
              refine AW_loopC (fun k : Nat => k ≤ d.batches.length) (fun k => mkSt [(7, .pv (eStates LA)), (9, .pv (eStates LB)), (11, .pv (eBoundsL LC)), (13, .pv (vi k))] [] 2) (fun k => d.batches.length - k) 0 (Nat.zero_le _) ?_ ?_
              · (refine Le.mk ?_ ?_; all_goals (repeat' (first | exact trivial | refine sle ?_ | refine ⟨?_, rfl, ?_⟩ | refine ⟨?_, by decide, rfl, ?_⟩ | fail)))
              · intro k hk
                (repeat (refine stq ?_))
                refine AW_if rfl (fun hc => ?_) (fun hc => ?_)
                · have hk' : k < d.batches.length := by omega
                  obtain ⟨b, hb⟩ : ∃ b, d.batches[k]? = some b := ⟨d.batches[k], by simp [hk']⟩
                  have ea := get_map eState (ha k b hb)
                  have eb := get_map eState (hb' k b hb)
                  have ec := get_map eBounds (hc' k b hb)
                  obtain ⟨w1, w2, w3, w4, w5, w6⟩ := main b (List.mem_of_getElem? hb)
                  generalize stateI b t h = A at *
                  generalize stateI b t (h + 1) = A' at *
                  generalize boundsI d b h = B at *
                  (repeat (refine stq ?_))
                  iterate 11 (refine sdq ?_)
                  refine DG_cmp hT rfl (fun hg => absurd hg (by omega)) (fun _ => ?_)
                  iterate 12 (refine sdq ?_)
                  refine DG_cmp hT rfl (fun hg => absurd hg (by omega)) (fun _ => ?_)
                  iterate 13 (refine sdq ?_)
                  refine DG_cmp hT rfl (fun hg => absurd hg (by omega)) (fun _ => ?_)
                  iterate 13 (refine sdq ?_)
                  refine DG_cmp hT rfl (fun hg => absurd hg (by omega)) (fun _ => ?_)
                  iterate 12 (refine sdq ?_)
                  refine DG_cmp hT rfl (fun hg => absurd hg (by omega)) (fun _ => ?_)
                  iterate 12 (refine sdq ?_)
                  refine DG_cmp hT rfl (fun hg => absurd hg (by omega)) (fun _ => ?_)
                  refine sdq ?_
                  refine DG_end hM (by kernel_rfl) ?_
                  (repeat (refine stq ?_))
                  refine ⟨k + 1, hk', by omega, ?_⟩
                  (refine Le.mk ?_ ?_; all_goals (repeat' (first | exact trivial | refine sle ?_ | refine ⟨?_, rfl, ?_⟩ | refine ⟨?_, by decide, rfl, ?_⟩ | fail)))
                · (repeat' (first | refine stq ?_ | (refine AL_do2 rfl ?_; first | refine ⟨_, op_call1 rfl rfl rfl rfl (f24), nrmA rfl ?_⟩) | (with_reducible refine AL_id ?_); (fail_if_success (refine AL_glit rfl rfl rfl (by first | exact .inl (by with_reducible rfl) | exact .inr (by with_reducible rfl)) ?_)); first | refine AL_gdec rfl rfl rfl (fun hg => ?_) (fun hg => ?_) | refine AL_gnot rfl rfl rfl (fun hg => ?_) (fun hg => ?_) | refine AL_gcases rfl rfl rfl (fun hg => ?_) (fun hg => ?_)))
                  exact ⟨_, _, rfl, rfl, rfl⟩
          · refine ACalls.of_body hT Tryz.func18 rfl (by kernel_rfl) rfl ?_
            (repeat' (first | refine stq ?_ | (refine AL_do2 rfl ?_; first | refine ⟨_, op_call1 rfl rfl rfl rfl (k23), nrmA rfl ?_⟩ | refine ⟨_, op_call1 rfl rfl rfl rfl (f24), nrmA rfl ?_⟩ | refine ⟨_, op_call1 rfl rfl rfl rfl (k39), nrmA rfl ?_⟩ | refine ⟨_, op_call1 rfl rfl rfl rfl (k63), nrmA rfl ?_⟩) | ((first | (with_reducible refine AL_id ?_); (fail_if_success (refine AL_glit rfl rfl rfl (by first | exact .inl (by with_reducible rfl) | exact .inr (by with_reducible rfl)) ?_)); first | refine AL_gdec rfl rfl rfl (fun hg => ?_) (fun hg => ?_) | refine AL_gnot rfl rfl rfl (fun hg => ?_) (fun hg => ?_) | refine AL_gcases rfl rfl rfl (fun hg => ?_) (fun hg => ?_)) <;> (try (exfalso; omega))) | refine AW_if rfl (fun hc => absurd hc (by omega)) (fun _ => ?_) | refine AW_if rfl (fun _ => ?_) (fun hc => absurd (by omega) hc)))
            all_goals first | exact ⟨_, _, rfl, rfl, rfl⟩ | (exfalso; omega)
    · refine ACalls.of_body hT Tryz.func18 rfl (by kernel_rfl) rfl ?_
      (repeat' (first | refine stq ?_ | (refine AL_do2 rfl ?_; first | refine ⟨_, op_call1 rfl rfl rfl rfl (k23), nrmA rfl ?_⟩ | refine ⟨_, op_call1 rfl rfl rfl rfl (f24), nrmA rfl ?_⟩) | ((first | (with_reducible refine AL_id ?_); (fail_if_success (refine AL_glit rfl rfl rfl (by first | exact .inl (by with_reducible rfl) | exact .inr (by with_reducible rfl)) ?_)); first | refine AL_gdec rfl rfl rfl (fun hg => ?_) (fun hg => ?_) | refine AL_gnot rfl rfl rfl (fun hg => ?_) (fun hg => ?_) | refine AL_gcases rfl rfl rfl (fun hg => ?_) (fun hg => ?_)) <;> (try (exfalso; omega))) | refine AW_if rfl (fun hc => absurd hc (by omega)) (fun _ => ?_) | refine AW_if rfl (fun _ => ?_) (fun hc => absurd (by omega) hc)))
      all_goals first | exact ⟨_, _, rfl, rfl, rfl⟩ | (exfalso; omega)
end Go.Abs
