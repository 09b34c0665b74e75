/- The smooth hour, the thin hour, and all batches after some hours, as the reference has them. -/
import Derived.Test.YtmplfjolcdlipaaGreatDoorDrDC
import Derived.Test.YtmplfjolcdlipaaGreatDoorX
set_option linter.unusedVariables false
set_option linter.unusedSimpArgs false
namespace Go.Abs
open Go.Proofs
set_option linter.unusedVariables false
set_option linter.unusedSimpArgs false
set_option maxRecDepth 100000
set_option maxHeartbeats 4000000 in
theorem f33 (d : Drum) (hP : DrumP d) (n : Nat) (b : Batch) (hbx : d.batches[n]? = some b) : ACalls Tryz.prog 33 [eDrum d, vi n] (fun r => r = .pv (vi (smoothI d b))) := by
  obtain ⟨m, hm⟩ : ∃ m : Nat, d.hours = m := ⟨d.hours.toNat, by have := hP.h0; omega⟩
  have hmm : d.hours.toNat = m := by omega
  have h12 := hP.h1
  have hbl := hP.b1
  have hnb : n < d.batches.length := (List.getElem?_eq_some_iff.1 hbx).1
  have e1 := get_map eBatch hbx
  refine ACalls.of_body hT Tryz.func33 rfl (by kernel_rfl) rfl ?_
  (repeat (refine stq ?_))
  refine AW_loopC (fun h : Nat => h ≤ m + 1 ∧ ∀ j, j < h → decide ((boundsI d b j).rough.high ≤ b.goal) = false) (fun h => mkSt [(1, .pv (vi n)), (2, .box 0 0), (5, .pv (vi h))] [(0, .box ((eDrumC d).map FV.pv))] 1) (fun h => m + 1 - h) 0 ⟨Nat.zero_le _, fun j h => by omega⟩ ?_ ?_
  · (refine Le.mk ?_ ?_; all_goals (repeat' (first | exact trivial | refine sle ?_ | refine ⟨?_, rfl, ?_⟩ | refine ⟨?_, by decide, rfl, ?_⟩ | fail)))
  · rintro h ⟨hh, hall⟩
    (repeat (refine stq ?_))
    refine AW_if rfl (fun hc => ?_) (fun hc => ?_)
    · have hlt : h < m + 1 := by omega
      have k94 := f94 d hP n b hbx h (by omega)
      have hall' : (boundsI d b h).rough.high ≤ b.goal → smoothI d b = h := fun hq => by
        unfold smoothI
        rw [hmm]
        exact first_at hall (by simpa using hq) hlt
      have next : ¬ (boundsI d b h).rough.high ≤ b.goal → ∀ j, j < h + 1 → decide ((boundsI d b j).rough.high ≤ b.goal) = false := fun hq j hj => by
        by_cases hjh : j = h
        · rw [hjh]; simpa using hq
        · exact hall j (by omega)
      generalize boundsI d b h = B at *
      (repeat (refine stq ?_))
      (repeat (first | refine sdq ?_ | refine DG_next (D_call rfl rfl rfl rfl rfl (k94)) ?_))
      refine DG_end hM (by kernel_rfl) ?_
      (repeat (refine stq ?_))
      refine AW_if rfl (fun hc2 => ?_) (fun hc2 => ?_)
      · (repeat (refine stq ?_))
        exact ⟨_, _, rfl, rfl, by rw [hall' hc2]⟩
      · (repeat (refine stq ?_))
        refine ⟨h + 1, ⟨hlt, next hc2⟩, by omega, ?_⟩
        (refine Le.mk ?_ ?_; all_goals (repeat' (first | exact trivial | refine sle ?_ | refine ⟨?_, rfl, ?_⟩ | refine ⟨?_, by decide, rfl, ?_⟩ | fail)))
    · have hhm : h = m + 1 := by omega
      (repeat (refine stq ?_))
      exact ⟨_, _, rfl, rfl, by
        have : smoothI d b = -1 := by unfold smoothI; rw [hmm]; exact first_none (by rw [← hhm]; exact hall)
        rw [this]⟩
set_option maxHeartbeats 4000000 in
theorem f34 (d : Drum) (hP : DrumP d) (n : Nat) (b : Batch) (hbx : d.batches[n]? = some b) : ACalls Tryz.prog 34 [eDrum d, vi n] (fun r => r = .pv (vi (thinI d b))) := by
  obtain ⟨m, hm⟩ : ∃ m : Nat, d.hours = m := ⟨d.hours.toNat, by have := hP.h0; omega⟩
  have hmm : d.hours.toNat = m := by omega
  have h12 := hP.h1
  have hbl := hP.b1
  have hnb : n < d.batches.length := (List.getElem?_eq_some_iff.1 hbx).1
  have e1 := get_map eBatch hbx
  refine ACalls.of_body hT Tryz.func34 rfl (by kernel_rfl) rfl ?_
  (repeat (refine stq ?_))
  refine AW_loopC (fun h : Nat => h ≤ m + 1 ∧ ∀ j, h ≤ j → j < m + 1 → decide ((boundsI d b j).thick.low ≥ b.least) = false) (fun h => mkSt [(1, .pv (vi n)), (2, .box 0 0), (5, .pv (vi ((h : Int) - 1)))] [(0, .box ((eDrumC d).map FV.pv))] 1) (fun h => h) (m + 1) ⟨Nat.le_refl _, fun j h1 h2 => by omega⟩ ?_ ?_
  · (refine Le.mk ?_ ?_; all_goals (repeat' (first | exact trivial | refine sle ?_ | refine ⟨?_, rfl, ?_⟩ | refine ⟨?_, by decide, rfl, ?_⟩ | fail)))
    exact congrArg some (congrArg FV.pv (congrArg vi (by omega)))
  · rintro h ⟨hh, hall⟩
    (repeat (refine stq ?_))
    refine AW_if rfl (fun hc => ?_) (fun hc => ?_)
    · obtain ⟨j, rfl⟩ : ∃ j, h = j + 1 := ⟨h - 1, by omega⟩
      have k94 : ACalls Tryz.prog 94 [eDrum d, vi n, vi (((j + 1 : Nat) : Int) - 1)] (fun r => r = .pv (.agg (eBounds (boundsI d b j)))) := by
        rw [show ((j + 1 : Nat) : Int) - 1 = (j : Int) by omega]
        exact f94 d hP n b hbx j (by omega)
      have hall' : (boundsI d b j).thick.low ≥ b.least → thinI d b = j := fun hq => by
        unfold thinI
        rw [hmm]
        exact last_at (fun i h1 h2 => hall i (by omega) h2) (by simpa using hq) (by omega)
      have next : ¬ (boundsI d b j).thick.low ≥ b.least → ∀ i, j ≤ i → i < m + 1 → decide ((boundsI d b i).thick.low ≥ b.least) = false := fun hq i h1 h2 => by
        by_cases hij : i = j
        · rw [hij]; simpa using hq
        · exact hall i (by omega) h2
      generalize boundsI d b j = B at *
      (repeat (refine stq ?_))
      (repeat (first | refine sdq ?_ | refine DG_next (D_call rfl rfl rfl rfl rfl (k94)) ?_))
      refine DG_end hM (by kernel_rfl) ?_
      (repeat (refine stq ?_))
      refine AW_if rfl (fun hc2 => ?_) (fun hc2 => ?_)
      · (repeat (refine stq ?_))
        exact ⟨_, _, rfl, rfl, by rw [hall' hc2]; exact congrArg RV.pv (congrArg vi (by omega))⟩
      · (repeat (refine stq ?_))
        refine ⟨j, ⟨by omega, next hc2⟩, by omega, ?_⟩
        (refine Le.mk ?_ ?_; all_goals (repeat' (first | exact trivial | refine sle ?_ | refine ⟨?_, rfl, ?_⟩ | refine ⟨?_, by decide, rfl, ?_⟩ | fail)))
        exact congrArg some (congrArg FV.pv (congrArg vi (by omega)))
    · have h0 : h = 0 := by omega
      subst h0
      (repeat (refine stq ?_))
      exact ⟨_, _, rfl, rfl, by
        have : thinI d b = -1 := by unfold thinI; rw [hmm]; exact last_none (fun j hj => hall j (Nat.zero_le _) hj)
        rw [this]⟩
end Go.Abs
