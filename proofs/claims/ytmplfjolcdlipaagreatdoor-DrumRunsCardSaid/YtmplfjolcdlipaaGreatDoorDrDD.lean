/- The smooth hour, the thin hour, and all batches after some hours, as the reference has them. -/
import Derived.Test.YtmplfjolcdlipaaGreatDoorDrDC
import Derived.Test.YtmplfjolcdlipaaGreatDoorX
set_option linter.unusedVariables false
set_option linter.unusedSimpArgs false
namespace Go.Abs
open Go.Proofs
set_option linter.unusedVariables false
set_option linter.unusedSimpArgs false
set_option maxRecDepth 100000
set_option maxHeartbeats 4000000 in
theorem f76 (d : Drum) (hP : DrumP d) (h : Nat) (hh : h ≤ d.hours.toNat) : ACalls Tryz.prog 76 [eDrum d, vi h] (fun r => r = .pv (eBoundsL (d.batches.map fun b => boundsI d b h))) := by
  have hbl := hP.b1
  refine ACalls.of_body hT Tryz.func76 rfl (by kernel_rfl) rfl ?_
  (repeat (refine stq ?_))
  refine AW_own_nil (e := 103) (sz := 4) (t := 5) rfl rfl ?_
  (repeat (refine stq ?_))
  refine AW_loopC (fun k : Nat => k ≤ d.batches.length) (fun k => mkSt [(1, .pv (vi h)), (2, .box 0 0), (5, .arr 1), (6, .pv (vi k))] [(0, .box ((eDrumC d).map FV.pv)), (1, .arr 103 4 (((d.batches.take k).map fun b => boundsI d b h).map eBounds))] 2) (fun k => d.batches.length - k) 0 (Nat.zero_le _) ?_ ?_
  · (refine Le.mk ?_ ?_; all_goals (repeat' (first | exact trivial | refine sle ?_ | refine ⟨?_, rfl, ?_⟩ | refine ⟨?_, by decide, rfl, ?_⟩ | fail)))
  · intro k hk
    (repeat (refine stq ?_))
    refine AW_if rfl (fun hc => ?_) (fun hc => ?_)
    · have hk' : k < d.batches.length := by omega
      obtain ⟨b, hb⟩ : ∃ b, d.batches[k]? = some b := ⟨d.batches[k], by simp [hk']⟩
      have k94 := f94 d hP k b hb h hh
      have hsn : (d.batches.take (k + 1)).map (fun b => boundsI d b h) = (d.batches.take k).map (fun b => boundsI d b h) ++ [boundsI d b h] := map_take_succ _ hb
      have htl : ((d.batches.take k).map fun b => boundsI d b h).length ≤ 1000 := by simp; omega
      generalize ((d.batches.take k).map fun b => boundsI d b h) = ts at *
      generalize boundsI d b h = B at *
      (repeat' (first | refine stq ?_ | (refine AL_do2 rfl ?_; first | refine ⟨_, op_call1 rfl rfl rfl rfl (k94), nrmA rfl ?_⟩) | (with_reducible refine AL_id ?_); (fail_if_success (refine AL_glit rfl rfl rfl (by first | exact .inl (by with_reducible rfl) | exact .inr (by with_reducible rfl)) ?_)); first | refine AL_gdec rfl rfl rfl (fun hg => ?_) (fun hg => ?_) | refine AL_gnot rfl rfl rfl (fun hg => ?_) (fun hg => ?_) | refine AL_gcases rfl rfl rfl (fun hg => ?_) (fun hg => ?_)))
      refine ⟨k + 1, hk', by omega, ?_⟩
      rw [hsn]
      (refine Le.mkR [(0, 0), (1, 3)] ?_ ?_ rfl; all_goals (repeat' (first | exact trivial | refine sle ?_ | refine ⟨?_, rfl, ?_⟩ | refine ⟨?_, by decide, rfl, ?_⟩ | fail)))
      rw [List.map_append]; rfl
    · have hk' : k = d.batches.length := by omega
      subst hk'
      rw [List.take_length]
      refine AW_pure (t := 5) rfl rfl ?_
      (repeat (refine stq ?_))
      exact ⟨_, _, rfl, rfl, rfl⟩
set_option maxHeartbeats 4000000 in
theorem f74 (d : Drum) (hP : DrumP d) (acid : Int) (t : List Int) (htb : bdU 1400 t) (h : Nat) (hh : h ≤ t.length) (h12 : h ≤ 12) : ACalls Tryz.prog 74 [eDrum d, eTruth acid t, vi h] (fun r => r = .pv (eStates (d.batches.map fun b => stateI b t h))) := by
  have hbl := hP.b1
  refine ACalls.of_body hT Tryz.func74 rfl (by kernel_rfl) rfl ?_
  (repeat (refine stq ?_))
  refine AW_own_nil (e := 101) (sz := 2) (t := 7) rfl rfl ?_
  (repeat (refine stq ?_))
  refine AW_loopC (fun k : Nat => k ≤ d.batches.length) (fun k => mkSt [(2, .pv (vi h)), (3, .box 0 0), (4, .box 1 0), (7, .arr 2), (8, .pv (vi k))] [(0, .box ((eDrumC d).map FV.pv)), (1, .box [.pv (vi acid), .pv (eInts t)]), (2, .arr 101 2 (((d.batches.take k).map fun b => stateI b t h).map eState))] 3) (fun k => d.batches.length - k) 0 (Nat.zero_le _) ?_ ?_
  · (refine Le.mk ?_ ?_; all_goals (repeat' (first | exact trivial | refine sle ?_ | refine ⟨?_, rfl, ?_⟩ | refine ⟨?_, by decide, rfl, ?_⟩ | fail)))
  · intro k hk
    (repeat (refine stq ?_))
    refine AW_if rfl (fun hc => ?_) (fun hc => ?_)
    · have hk' : k < d.batches.length := by omega
      obtain ⟨b, hb⟩ : ∃ b, d.batches[k]? = some b := ⟨d.batches[k], by simp [hk']⟩
      have e1 := get_map eBatch hb
      have k140 := f140 b (hP.batch b (List.mem_of_getElem? hb)) t h hh h12 htb
      have hsn : (d.batches.take (k + 1)).map (fun b => stateI b t h) = (d.batches.take k).map (fun b => stateI b t h) ++ [stateI b t h] := map_take_succ _ hb
      have htl : ((d.batches.take k).map fun b => stateI b t h).length ≤ 1000 := by simp; omega
      generalize ((d.batches.take k).map fun b => stateI b t h) = ts at *
      generalize stateI b t h = B at *
      (repeat (refine stq ?_))
      (repeat (first | refine sdq ?_ | refine DG_next (D_call rfl rfl rfl rfl rfl (k140)) ?_))
      refine DG_end hM (by kernel_rfl) ?_
      (repeat (refine stq ?_))
      refine ⟨k + 1, hk', by omega, ?_⟩
      rw [hsn]
      (refine Le.mkR [(0, 0), (1, 1), (2, 3)] ?_ ?_ rfl; all_goals (repeat' (first | exact trivial | refine sle ?_ | refine ⟨?_, rfl, ?_⟩ | refine ⟨?_, by decide, rfl, ?_⟩ | fail)))
      rw [List.map_append]; rfl
    · have hk' : k = d.batches.length := by omega
      subst hk'
      rw [List.take_length]
      refine AW_pure (t := 7) rfl rfl ?_
      (repeat (refine stq ?_))
      exact ⟨_, _, rfl, rfl, rfl⟩
end Go.Abs
