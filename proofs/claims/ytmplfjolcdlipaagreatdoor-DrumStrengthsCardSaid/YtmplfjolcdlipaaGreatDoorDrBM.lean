/- The strengths of the hours, as the reference has them. -/
import Derived.Test.YtmplfjolcdlipaaGreatDoorDrBL
import Derived.Test.YtmplfjolcdlipaaGreatDoorDrG
set_option linter.unusedVariables false
set_option linter.unusedSimpArgs false
namespace Go.Abs
open Go.Proofs
set_option linter.unusedVariables false
set_option linter.unusedSimpArgs false
set_option maxRecDepth 100000
theorem could_get {d : Drum} {k : Nat} {p : Acid × Nat} (h : (filledL d)[k]? = some p) : (couldL d)[k]? = some (p.2 : Int) := by
  unfold couldL; rw [List.getElem?_map, h]; rfl
theorem may_of {d : Drum} {p : Acid × Nat} (h : p ∈ filledL d) : mayI d p.2 p.1 = true := by
  have := filled_mem.1 h
  unfold mayI; rw [this.2.1, this.2.2]; rfl
def hK (d : Drum) (k i : Nat) : Span := hullL ((hourL d i).take k)
theorem hour_get {d : Drum} {k : Nat} {p : Acid × Nat} (h : (filledL d)[k]? = some p) (i : Nat) : (hourL d i)[k]? = some (strongS d p.1 i) := by
  unfold hourL; rw [List.getElem?_map, h]; rfl
theorem hK_succ {d : Drum} {k : Nat} {p : Acid × Nat} (h : (filledL d)[k]? = some p) (i : Nat) : hK d (k + 1) i = if k = 0 then strongS d p.1 i else hull2 (hK d k i) (strongS d p.1 i) := by
  unfold hK
  rw [List.take_add_one, hour_get h i]
  show hullL ((hourL d i).take k ++ [_]) = _
  rw [hull_snoc]
  have hl : k < (hourL d i).length := (List.getElem?_eq_some_iff.1 (hour_get h i)).1
  by_cases h0 : k = 0
  · subst h0; simp
  · have : (hourL d i).take k ≠ [] := fun e => by
      have h2 := congrArg List.length e
      rw [List.length_take] at h2; simp only [List.length_nil] at h2; omega
    rw [if_neg this, if_neg h0]
def oL (d : Drum) (m k : Nat) : List Span := (List.range m).map (hK d k)
def oM (d : Drum) (m k i : Nat) : List Span := (List.range m).map fun j => if j < i then hK d (k + 1) j else hK d k j
theorem oM_zero (d : Drum) (m k : Nat) : oM d m k 0 = oL d m k := by
  unfold oM oL; exact List.map_congr_left fun j _ => by rw [if_neg (by omega)]
theorem oM_all (d : Drum) (m k : Nat) : oM d m k m = oL d m (k + 1) := by
  unfold oM oL; exact List.map_congr_left fun j hj => by rw [if_pos (List.mem_range.1 hj)]
theorem oM_set (d : Drum) (m k i : Nat) : (oM d m k i).set i (hK d (k + 1) i) = oM d m k (i + 1) :=
  range_set (by simp) fun j hj => by
    by_cases h1 : j < i
    · rw [if_pos (by omega), if_pos h1]
    · rw [if_neg (by omega), if_neg h1]
theorem oM_get {d : Drum} {m k i : Nat} (hi : i < m) : (oM d m k i)[i]? = some (hK d k i) := by
  have := range_get (m := m) (fun j => if j < i then hK d (k + 1) j else hK d k j) hi
  rwa [if_neg (by omega)] at this
theorem oL_one (d : Drum) (i : Nat) : oL d (i + 1) 1 = oL d i 1 ++ [hK d 1 i] := by
  unfold oL; rw [List.range_succ, List.map_append]; rfl
theorem oL_all {d : Drum} (h : filledL d ≠ []) : oL d d.hours.toNat (filledL d).length = strengthL d := by
  unfold oL strengthL
  refine List.map_congr_left fun i _ => ?_
  unfold hK
  rw [List.take_of_length_le (by simp [hourL])]; rfl
set_option maxHeartbeats 8000000 in
theorem f29 (d : Drum) (hd : DrumP d) (hne : filledL d ≠ []) : ACalls Tryz.prog 29 [eDrum d] (fun r => r = .pv (eSpans (strengthL d))) := by
  have k79 := f79 d hd
  have hl := filled_len hd
  have hc := could_len d
  have hh0 := hd.h0; have hh1 := hd.h1
  obtain ⟨m, hm⟩ : ∃ m : Nat, d.hours = (m : Int) := ⟨d.hours.toNat, by omega⟩
  have hmm : m = d.hours.toNat := by omega
  refine ACalls.of_body hT Tryz.func29 rfl (by kernel_rfl) rfl ?_
  (repeat' (first | refine stq ?_ | (refine AL_do2 rfl ?_; first | refine ⟨_, op_call1 rfl rfl rfl rfl (k79), nrmA rfl ?_⟩) | (with_reducible refine AL_id ?_); (fail_if_success (refine AL_glit rfl rfl rfl (by first | exact .inl (by with_reducible rfl) | exact .inr (by with_reducible rfl)) ?_)); first | refine AL_gdec rfl rfl rfl (fun hg => ?_) (fun hg => ?_) | refine AL_gnot rfl rfl rfl (fun hg => ?_) (fun hg => ?_) | refine AL_gcases rfl rfl rfl (fun hg => ?_) (fun hg => ?_)))
  refine AW_own_nil (e := 67) (sz := 2) (t := 4) rfl rfl ?_
  (repeat (refine stq ?_))
  refine AW_loopC (fun k : Nat => k ≤ (filledL d).length) (fun k => mkSt [(1, .box 0 0), (3, .pv (eInts (couldL d))), (4, .arr 1), (5, .pv (vi k))] [(0, boO d), (1, .arr 67 2 ((if k = 0 then [] else oL d m k).map eSpan))] 2) (fun k => (filledL d).length - k) 0 (Nat.zero_le _) ?_ ?_
  · (refine Le.mk ?_ ?_; all_goals (repeat' (first | exact trivial | refine sle ?_ | refine ⟨?_, rfl, ?_⟩ | refine ⟨?_, by decide, rfl, ?_⟩ | fail)))
  · intro k hk
    (repeat (refine stq ?_))
    refine AW_if rfl (fun hcc => ?_) (fun hcc => ?_)
    · have hk' : k < (filledL d).length := by omega
      obtain ⟨p, hp⟩ : ∃ p, (filledL d)[k]? = some p := ⟨(filledL d)[k], by simp [hk']⟩
      have hpm := List.mem_of_getElem? hp
      have hac := (filled_mem.1 hpm).1
      have ha := filled_acid hd hpm
      have hmay := (filled_mem.1 hpm).2.2
      have e1 : ((couldL d).map eInt)[((k : Nat) : Int).toNat]? = some (eInt (p.2 : Int)) := get_map eInt (could_get hp)
      have k90 := f90 d hd p.2 p.1 hac
      rw [may_of hpm, if_pos rfl] at k90
      have hsu := hK_succ hp
      (repeat (refine stq ?_))
      (repeat' (first | refine DG_next (StepOK.skipU rfl rfl) ?_ | ((refine DG_cmp hT rfl (fun hg => ?_) (fun hg => ?_)) <;> (try (exfalso; omega))) | refine DG_next (D_shl rfl rfl rfl rfl rfl (by omega)) ?_ | refine DG_next (D_shr rfl rfl rfl rfl rfl (by omega)) ?_ | refine sdq ?_ | refine DG_next (D_call_tup rfl rfl rfl rfl rfl (k90)) ?_))
      refine DG_end hM (by kernel_rfl) ?_
      (repeat (refine stq ?_))
      by_cases hk0 : k = 0
      · subst hk0
        refine AW_loopC (fun i : Nat => i ≤ m) (fun i => mkSt [(1, .box 0 0), (3, .pv (eInts (couldL d))), (4, .arr 1), (5, .pv (vi (0 : Nat))), (6, .pv (eSpans (strongL d p.1))), (8, .pv (vi i))] [(0, boO d), (1, .arr 67 2 ((oL d i 1).map eSpan))] 2) (fun i => m - i) 0 (Nat.zero_le _) ?_ ?_
        · (refine Le.mk ?_ ?_; all_goals (repeat' (first | exact trivial | refine sle ?_ | refine ⟨?_, rfl, ?_⟩ | refine ⟨?_, by decide, rfl, ?_⟩ | fail)))
        · intro i hi
          (repeat (refine stq ?_))
          refine AW_if rfl (fun hc2 => ?_) (fun hc2 => ?_)
          · have hi' : i < m := by omega
            have e2 : ((strongL d p.1).map eSpan)[((i : Nat) : Int).toNat]? = some (eSpan (strongS d p.1 i)) := map_get (strongL_get (by omega))
            have hsn := oL_one d i
            have hs1 := hsu i
            rw [if_pos rfl] at hs1
            rw [hs1] at hsn
            have hol : ((oL d i 1).map eSpan).length = i := by simp [oL]
            have e3 : ((oL d i 1).map eSpan ++ [eSpan (strongS d p.1 i)])[((i : Nat) : Int).toNat]? = some (eSpan (strongS d p.1 i)) := by
              rw [Int.toNat_natCast, List.getElem?_append_right (by omega), hol]; simp
            have hlt : ((i : Nat) : Int).toNat < ((oL d i 1).map eSpan ++ [eSpan (strongS d p.1 i)]).length := by
              rw [List.length_append, hol]; simp
            have hself := hull2_self (strongS d p.1 i)
            have hsetl : ((oL d i 1).map eSpan ++ [eSpan (strongS d p.1 i)]).set i (eSpan (strongS d p.1 i)) = (oL d (i + 1) 1).map eSpan := by
              rw [hsn, List.map_append]
              have := set_mid ((oL d i 1).map eSpan) (eSpan (strongS d p.1 i)) (eSpan (strongS d p.1 i)) []
              rw [hol] at this
              exact this
            generalize (oL d i 1).map eSpan = O at *
            generalize strongS d p.1 i = u at *
            (repeat (refine stq ?_))
            iterate 4 (refine sdq ?_)
            refine DG_next (D_indexAddr_arr (n := (i : Int)) hT rfl rfl rfl rfl rfl rfl rfl rfl rfl (by omega) hlt rfl) ?_
            refine sdq ?_
            refine DG_next (D_load_aptr (el := eSpan u) hT rfl rfl rfl rfl rfl rfl e3 rfl) ?_
            iterate 8 (refine sdq ?_)
            refine DG_next (D_indexAddr_arr (n := (i : Int)) hT rfl rfl rfl rfl rfl rfl rfl rfl rfl (by omega) hlt rfl) ?_
            refine sdq ?_
            refine DG_next (D_load_aptr (el := eSpan u) hT rfl rfl rfl rfl rfl rfl e3 rfl) ?_
            iterate 7 (refine sdq ?_)
            refine DG_next (D_indexAddr_arr (n := (i : Int)) hT rfl rfl rfl rfl rfl rfl rfl rfl rfl (by omega) hlt rfl) ?_
            refine DG_end hM (by kernel_rfl) ?_
            (repeat (refine stq ?_))
            refine AL_do2 rfl ⟨_, op_store_aptr (el := eSpan u) hT rfl rfl rfl rfl rfl e3 rfl rfl rfl rfl, ?_⟩
            (repeat (refine stq ?_))
            refine ⟨i + 1, hi', by omega, ?_⟩
            rw [← hsetl]
            (refine Le.mkR [(0, 0), (1, 3)] ?_ ?_ rfl; all_goals (repeat' (first | exact trivial | refine sle ?_ | refine ⟨?_, rfl, ?_⟩ | refine ⟨?_, by decide, rfl, ?_⟩ | fail)))
            exact congrArg some (congrArg (AObj.arr 67 2) (congrArg (fun v => (O ++ [eSpan u]).set i v) (congrArg eSpan hself)))
          · have hi' : i = m := by omega
            subst hi'
            (repeat (refine stq ?_))
            refine ⟨0 + 1, by omega, by omega, ?_⟩
            rw [if_neg (by omega)]
            (refine Le.mk ?_ ?_; all_goals (repeat' (first | exact trivial | refine sle ?_ | refine ⟨?_, rfl, ?_⟩ | refine ⟨?_, by decide, rfl, ?_⟩ | fail)))
      · rw [if_neg hk0, ← oM_zero]
        refine AW_loopC (fun i : Nat => i ≤ m) (fun i => mkSt [(1, .box 0 0), (3, .pv (eInts (couldL d))), (4, .arr 1), (5, .pv (vi k)), (6, .pv (eSpans (strongL d p.1))), (8, .pv (vi i))] [(0, boO d), (1, .arr 67 2 ((oM d m k i).map eSpan))] 2) (fun i => m - i) 0 (Nat.zero_le _) ?_ ?_
        · (refine Le.mk ?_ ?_; all_goals (repeat' (first | exact trivial | refine sle ?_ | refine ⟨?_, rfl, ?_⟩ | refine ⟨?_, by decide, rfl, ?_⟩ | fail)))
        · intro i hi
          (repeat (refine stq ?_))
          refine AW_if rfl (fun hc2 => ?_) (fun hc2 => ?_)
          · have hi' : i < m := by omega
            have e2 : ((strongL d p.1).map eSpan)[((i : Nat) : Int).toNat]? = some (eSpan (strongS d p.1 i)) := map_get (strongL_get (by omega))
            have hs1 := hsu i
            rw [if_neg hk0] at hs1
            have e3 : ((oM d m k i).map eSpan)[((i : Nat) : Int).toNat]? = some (eSpan (hK d k i)) := map_get (oM_get hi')
            have hlt : ((i : Nat) : Int).toNat < ((oM d m k i).map eSpan).length := by simp [oM]; omega
            have hset := oM_set d m k i
            rw [hs1] at hset
            generalize strongS d p.1 i = x at *
            generalize hK d k i = u at *
            (repeat (refine stq ?_))
            refine AW_if rfl (fun hc3 => absurd (show k = 0 by omega) hk0) (fun hc3 => ?_)
            (repeat (refine stq ?_))
            iterate 4 (refine sdq ?_)
            refine DG_next (D_indexAddr_arr (n := (i : Int)) hT rfl rfl rfl rfl rfl rfl rfl rfl rfl (by omega) hlt rfl) ?_
            refine sdq ?_
            refine DG_next (D_load_aptr (el := eSpan u) hT rfl rfl rfl rfl rfl rfl e3 rfl) ?_
            iterate 8 (refine sdq ?_)
            refine DG_next (D_indexAddr_arr (n := (i : Int)) hT rfl rfl rfl rfl rfl rfl rfl rfl rfl (by omega) hlt rfl) ?_
            refine sdq ?_
            refine DG_next (D_load_aptr (el := eSpan u) hT rfl rfl rfl rfl rfl rfl e3 rfl) ?_
            iterate 7 (refine sdq ?_)
            refine DG_next (D_indexAddr_arr (n := (i : Int)) hT rfl rfl rfl rfl rfl rfl rfl rfl rfl (by omega) hlt rfl) ?_
            refine DG_end hM (by kernel_rfl) ?_
            (repeat (refine stq ?_))
            refine AL_do2 rfl ⟨_, op_store_aptr (el := eSpan u) hT rfl rfl rfl rfl rfl e3 rfl rfl rfl rfl, ?_⟩
            (repeat (refine stq ?_))
            refine ⟨i + 1, hi', by omega, ?_⟩
            rw [← hset]
            (refine Le.mk ?_ ?_; all_goals (repeat' (first | exact trivial | refine sle ?_ | refine ⟨?_, rfl, ?_⟩ | refine ⟨?_, by decide, rfl, ?_⟩ | fail)))
            exact congrArg some (congrArg (AObj.arr 67 2) (map_put (oM d m k i) i (hull2 u x)))
          · have hi' : i = m := by omega
            subst hi'
            rw [oM_all]
            (repeat (refine stq ?_))
            refine ⟨k + 1, hk', by omega, ?_⟩
            rw [if_neg (by omega)]
            (refine Le.mk ?_ ?_; all_goals (repeat' (first | exact trivial | refine sle ?_ | refine ⟨?_, rfl, ?_⟩ | refine ⟨?_, by decide, rfl, ?_⟩ | fail)))
    · have hk' : k = (filledL d).length := by omega
      subst hk'
      rw [if_neg (fun h => hne (List.eq_nil_of_length_eq_zero h)), hmm, oL_all hne]
      refine AW_pure (t := 4) rfl rfl ?_
      (repeat (refine stq ?_))
      exact ⟨_, _, rfl, rfl, rfl⟩
end Go.Abs
