/- DrumSure: the contract of the statement's function. -/
import Derived.Test.YtmplfjolcdlipaaGreatDoorDrDK0Q19
import Derived.Test.YtmplfjolcdlipaaGreatDoorDrDK1Q19
import Derived.Test.YtmplfjolcdlipaaGreatDoorDrDK2Q19
import Derived.Test.YtmplfjolcdlipaaGreatDoorXQ19
set_option linter.unusedVariables false
set_option linter.unusedSimpArgs false
namespace Go.Abs
open Go.Proofs
set_option linter.unusedVariables false
set_option linter.unusedSimpArgs false
set_option maxRecDepth 100000
set_option maxHeartbeats 16000000 in
theorem f19 (d : Drum) (acid : Int) (t : List Int) (batch hours : Int) : ACalls Tryz.prog 19 [eDrum d, eTruth acid t, vi batch, vi hours] (fun r => r = .pv (.bool true)) := by
  have k23 := f23' d
  cases hs : shortB d with
  | false =>
    rw [hs] at k23
    refine ACalls.of_body hT Tryz.func19 rfl (by kernel_rfl) rfl ?_
    (repeat' (first | refine stq ?_ | (refine AL_do2 rfl ?_; first | refine ⟨_, op_call1 rfl rfl rfl rfl (k23), nrmA rfl ?_⟩ | refine ⟨_, op_call1 rfl rfl rfl rfl (f24), nrmA rfl ?_⟩) | (with_reducible refine AL_id ?_); (fail_if_success (refine AL_glit rfl rfl rfl (by first | exact .inl (by with_reducible rfl) | exact .inr (by with_reducible rfl)) ?_)); first | refine AL_gdec rfl rfl rfl (fun hg => ?_) (fun hg => ?_) | refine AL_gnot rfl rfl rfl (fun hg => ?_) (fun hg => ?_) | refine AL_gcases rfl rfl rfl (fun hg => ?_) (fun hg => ?_)))
    all_goals (try (exfalso; simp at hg; done))
    exact ⟨_, _, rfl, rfl, rfl⟩
  | true =>
    rw [hs] at k23
    have hd := short_ok hs
    by_cases ht : t.length ≤ 15
    · have ht' : t.length ≤ 1000 := by omega
      have k39 := f39 d hd
      cases q : drumB d with
      | false =>
        rw [q] at k39
        refine ACalls.of_body hT Tryz.func19 rfl (by kernel_rfl) rfl ?_
        (repeat' (first | refine stq ?_ | (refine AL_do2 rfl ?_; first | refine ⟨_, op_call1 rfl rfl rfl rfl (k23), nrmA rfl ?_⟩ | refine ⟨_, op_call1 rfl rfl rfl rfl (f24), nrmA rfl ?_⟩ | refine ⟨_, op_call1 rfl rfl rfl rfl (k39), nrmA rfl ?_⟩) | ((first | (with_reducible refine AL_id ?_); (fail_if_success (refine AL_glit rfl rfl rfl (by first | exact .inl (by with_reducible rfl) | exact .inr (by with_reducible rfl)) ?_)); first | refine AL_gdec rfl rfl rfl (fun hg => ?_) (fun hg => ?_) | refine AL_gnot rfl rfl rfl (fun hg => ?_) (fun hg => ?_) | refine AL_gcases rfl rfl rfl (fun hg => ?_) (fun hg => ?_)) <;> (try (exfalso; omega))) | refine AW_if rfl (fun hc => absurd hc (by omega)) (fun _ => ?_) | refine AW_if rfl (fun _ => ?_) (fun hc => absurd (by omega) hc)))
        all_goals exact ⟨_, _, rfl, rfl, rfl⟩
      | true =>
        rw [q] at k39
        have hP := drumP_of.1 q
        have k63 := f63 d acid t hd.1 ht'
        have hbl := hP.b1
        have hh1 := hP.h1
        have hh0 := hP.h0
        cases hz : sizedB d acid t with
        | false =>
          rw [hz] at k63
          refine ACalls.of_body hT Tryz.func19 rfl (by kernel_rfl) rfl ?_
          (repeat' (first | refine stq ?_ | (refine AL_do2 rfl ?_; first | refine ⟨_, op_call1 rfl rfl rfl rfl (k23), nrmA rfl ?_⟩ | refine ⟨_, op_call1 rfl rfl rfl rfl (f24), nrmA rfl ?_⟩ | refine ⟨_, op_call1 rfl rfl rfl rfl (k39), nrmA rfl ?_⟩ | refine ⟨_, op_call1 rfl rfl rfl rfl (k63), nrmA rfl ?_⟩) | ((first | (with_reducible refine AL_id ?_); (fail_if_success (refine AL_glit rfl rfl rfl (by first | exact .inl (by with_reducible rfl) | exact .inr (by with_reducible rfl)) ?_)); first | refine AL_gdec rfl rfl rfl (fun hg => ?_) (fun hg => ?_) | refine AL_gnot rfl rfl rfl (fun hg => ?_) (fun hg => ?_) | refine AL_gcases rfl rfl rfl (fun hg => ?_) (fun hg => ?_)) <;> (try (exfalso; omega))) | refine AW_if rfl (fun hc => absurd hc (by omega)) (fun _ => ?_) | refine AW_if rfl (fun _ => ?_) (fun hc => absurd (by omega) hc)))
          all_goals exact ⟨_, _, rfl, rfl, rfl⟩
        | true =>
          rw [hz] at k63
          have k72 := f72' hP hz
          cases hq : fitsB d acid t with
          | false =>
            rw [hq] at k72
            refine ACalls.of_body hT Tryz.func19 rfl (by kernel_rfl) rfl ?_
            (repeat' (first | refine stq ?_ | (refine AL_do2 rfl ?_; first | refine ⟨_, op_call1 rfl rfl rfl rfl (k23), nrmA rfl ?_⟩ | refine ⟨_, op_call1 rfl rfl rfl rfl (f24), nrmA rfl ?_⟩ | refine ⟨_, op_call1 rfl rfl rfl rfl (k39), nrmA rfl ?_⟩ | refine ⟨_, op_call1 rfl rfl rfl rfl (k63), nrmA rfl ?_⟩ | refine ⟨_, op_call1 rfl rfl rfl rfl (k72), nrmA rfl ?_⟩) | ((first | (with_reducible refine AL_id ?_); (fail_if_success (refine AL_glit rfl rfl rfl (by first | exact .inl (by with_reducible rfl) | exact .inr (by with_reducible rfl)) ?_)); first | refine AL_gdec rfl rfl rfl (fun hg => ?_) (fun hg => ?_) | refine AL_gnot rfl rfl rfl (fun hg => ?_) (fun hg => ?_) | refine AL_gcases rfl rfl rfl (fun hg => ?_) (fun hg => ?_)) <;> (try (exfalso; omega))) | refine AW_if rfl (fun hc => absurd hc (by omega)) (fun _ => ?_) | refine AW_if rfl (fun _ => ?_) (fun hc => absurd (by omega) hc)))
            all_goals exact ⟨_, _, rfl, rfl, rfl⟩
          | true =>
            rw [hq] at k72
            by_cases hf : 0 ≤ batch ∧ batch < d.batches.length ∧ 0 ≤ hours ∧ hours ≤ d.hours
            · obtain ⟨n, rfl⟩ : ∃ n : Nat, batch = n := ⟨batch.toNat, by omega⟩
              obtain ⟨h, rfl⟩ : ∃ h : Nat, hours = h := ⟨hours.toNat, by omega⟩
              obtain ⟨b, hbx⟩ : ∃ b, d.batches[n]? = some b := ⟨d.batches[n]'(by omega), by simp⟩
              have hB := hP.batch b (List.mem_of_getElem? hbx)
              have he := err_fits q hz hq
              obtain ⟨hm, htr, htl⟩ := fits_mem hP hz hq
              have hne : filledL d ≠ [] := fun e => by rw [e] at hm; cases hm
              have k77 := f77 hd hP ht' hz hq hbx hf.2.2.2
              have k31 := f31 d n hd
              have k32 := f32 d n hd
              have gb : d.batches.getD (n : Int).toNat ⟨0, 0, 0, 0, 0, 0⟩ = b := by rw [Int.toNat_natCast, List.getD_eq_getElem?_getD, hbx]; rfl
              simp only [hourE, inB_last] at k31 k32
              rw [decide_eq_true ⟨by omega, by omega⟩, if_pos he, gb] at k31 k32
              have e0 := get_map eBatch hbx
              obtain ⟨_, w2, w3, _⟩ := state_bounds hP hB hm htl htr (h := h) (by omega)
              have sm := fun (j : Nat) (hj : (j : Int) ≤ d.hours) => smooth_spec hP hne hB (h := j) (by omega)
              have tn := fun (j : Nat) (hj : (j : Int) ≤ d.hours) => thin_spec hP hne hB (h := j) (by omega)
              have sb := smooth_bd d b
              have tb := thin_bd d b
              have A : 0 ≤ smoothI d b → smoothI d b ≤ h → (stateI b t h).rough ≤ b.goal := fun h1 h2 => by
                have := (sm h hf.2.2.2).2 ⟨h1, h2⟩; omega
              have B : (h : Int) ≤ thinI d b → b.least ≤ (stateI b t h).thick := fun h1 => by
                have := (tn h hf.2.2.2).2 h1; omega
              have lb : ∀ j : Nat, (d.batches.map fun b => boundsI d b j).length = d.batches.length := fun j => by simp
              have gl : ∀ j : Nat, (d.batches.map fun b => boundsI d b j)[n]? = some (boundsI d b j) := fun j => by rw [List.getElem?_map, hbx]; rfl
              have k71 : ∀ j : Nat, (j : Int) ≤ d.hours → ACalls Tryz.prog 71 [eDrum d, vi j] (fun r => r = .tup [eBoundsL (d.batches.map fun b => boundsI d b j), vi 0]) := fun j hj => by
                have k := f71y (d := d) (hours := j) hd (by rw [show inB (j : Int) 0 d.hours = true by simp [inB]; omega]; exact he)
                rw [Int.toNat_natCast] at k
                exact k
              have E : smoothI d b = 0 ∨ ∃ (m : Nat) (L : List Bounds) (X : Bounds), (m : Int) = (if smoothI d b < 0 then d.hours else smoothI d b - 1) ∧ ACalls Tryz.prog 71 [eDrum d, vi m] (fun r => r = .tup [eBoundsL L, vi 0]) ∧ L.length = d.batches.length ∧ L[n]? = some X ∧ ¬ X.rough.high ≤ b.goal := by
                by_cases h0 : smoothI d b = 0
                · exact .inl h0
                · refine .inr ⟨(if smoothI d b < 0 then d.hours else smoothI d b - 1).toNat, _, _, ?_, k71 _ ?_, lb _, gl _, ?_⟩
                  · split <;> omega
                  · split <;> omega
                  · intro hx
                    have := (sm _ (by split <;> omega)).1 hx
                    split at this <;> omega
              have F : thinI d b = d.hours ∨ ∃ (m : Nat) (L : List Bounds) (X : Bounds), (m : Int) = thinI d b + 1 ∧ ACalls Tryz.prog 71 [eDrum d, vi m] (fun r => r = .tup [eBoundsL L, vi 0]) ∧ L.length = d.batches.length ∧ L[n]? = some X ∧ ¬ X.thick.low ≥ b.least := by
                by_cases h0 : thinI d b = d.hours
                · exact .inl h0
                · refine .inr ⟨(thinI d b + 1).toNat, _, _, by omega, k71 _ (by omega), lb _, gl _, ?_⟩
                  intro hx
                  have := (tn _ (by omega)).1 hx
                  omega
              clear sm tn k71 lb gl w2 w3 htr hm htl
              generalize stateI b t h = S at *
              generalize smoothI d b = x at *
              generalize thinI d b = y at *
              have hxc : x < 0 ∨ x = 0 ∨ 0 < x := by clear E F A B; omega
              rcases hxc with hx | hx | hx
              · exact f19x0 k23 k39 k63 k72 ht hbl hh1 hh0 hf e0 k77 k31 k32 sb tb A B E F hx
              · exact f19x1 k23 k39 k63 k72 ht hbl hh1 hh0 hf e0 k77 k31 k32 sb tb A B E F hx
              · exact f19x2 k23 k39 k63 k72 ht hbl hh1 hh0 hf e0 k77 k31 k32 sb tb A B E F hx
            · refine ACalls.of_body hT Tryz.func19 rfl (by kernel_rfl) rfl ?_
              (repeat' (first | refine stq ?_ | (refine AL_do2 rfl ?_; first | refine ⟨_, op_call1 rfl rfl rfl rfl (k23), nrmA rfl ?_⟩ | refine ⟨_, op_call1 rfl rfl rfl rfl (f24), nrmA rfl ?_⟩ | refine ⟨_, op_call1 rfl rfl rfl rfl (k39), nrmA rfl ?_⟩ | refine ⟨_, op_call1 rfl rfl rfl rfl (k63), nrmA rfl ?_⟩ | refine ⟨_, op_call1 rfl rfl rfl rfl (k72), nrmA rfl ?_⟩) | ((first | (with_reducible refine AL_id ?_); (fail_if_success (refine AL_glit rfl rfl rfl (by first | exact .inl (by with_reducible rfl) | exact .inr (by with_reducible rfl)) ?_)); first | refine AL_gdec rfl rfl rfl (fun hg => ?_) (fun hg => ?_) | refine AL_gnot rfl rfl rfl (fun hg => ?_) (fun hg => ?_) | refine AL_gcases rfl rfl rfl (fun hg => ?_) (fun hg => ?_)) <;> (try (exfalso; omega))) | refine AW_if rfl (fun hc => absurd hc (by omega)) (fun _ => ?_) | refine AW_if rfl (fun _ => ?_) (fun hc => absurd (by omega) hc)))
              all_goals first | exact ⟨_, _, rfl, rfl, rfl⟩ | (exfalso; omega)
    · refine ACalls.of_body hT Tryz.func19 rfl (by kernel_rfl) rfl ?_
      (repeat' (first | refine stq ?_ | (refine AL_do2 rfl ?_; first | refine ⟨_, op_call1 rfl rfl rfl rfl (k23), nrmA rfl ?_⟩ | refine ⟨_, op_call1 rfl rfl rfl rfl (f24), nrmA rfl ?_⟩) | ((first | (with_reducible refine AL_id ?_); (fail_if_success (refine AL_glit rfl rfl rfl (by first | exact .inl (by with_reducible rfl) | exact .inr (by with_reducible rfl)) ?_)); first | refine AL_gdec rfl rfl rfl (fun hg => ?_) (fun hg => ?_) | refine AL_gnot rfl rfl rfl (fun hg => ?_) (fun hg => ?_) | refine AL_gcases rfl rfl rfl (fun hg => ?_) (fun hg => ?_)) <;> (try (exfalso; omega))) | refine AW_if rfl (fun hc => absurd hc (by omega)) (fun _ => ?_) | refine AW_if rfl (fun _ => ?_) (fun hc => absurd (by omega) hc)))
      all_goals first | exact ⟨_, _, rfl, rfl, rfl⟩ | (exfalso; omega)
end Go.Abs
