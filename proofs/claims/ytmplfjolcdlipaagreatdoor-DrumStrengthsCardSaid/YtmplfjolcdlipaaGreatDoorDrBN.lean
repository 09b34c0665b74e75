/- The hour in which a strip tells all acids apart, as the reference has it. -/
import Derived.Test.YtmplfjolcdlipaaGreatDoorDrBM
import Derived.Test.YtmplfjolcdlipaaGreatDoorDrF
set_option linter.unusedVariables false
set_option linter.unusedSimpArgs false
namespace Go.Abs
open Go.Proofs
set_option linter.unusedVariables false
set_option linter.unusedSimpArgs false
set_option maxRecDepth 100000
theorem pairs_snoc {α : Type} (r : α → α → Bool) : ∀ (l : List α) (x : α), pairsB r (l ++ [x]) = (pairsB r l && l.all fun y => r x y)
  | [], x => by simp [pairsB]
  | a :: l, x => by
    simp only [List.cons_append, pairsB, pairs_snoc r l x, List.all_append, List.all_cons, List.all_nil, Bool.and_true]
    generalize pairsB r l = b1
    generalize (l.all fun y => r x y) = b2
    generalize (l.all fun y => r y a) = b3
    generalize r x a = b4
    cases b1 <;> cases b2 <;> cases b3 <;> cases b4 <;> rfl
theorem all_take {α : Type} (f : α → Bool) {l : List α} {k : Nat} {y : α} (h : l[k]? = some y) : (l.take (k + 1)).all f = ((l.take k).all f && f y) := by
  rw [List.take_add_one, h]; simp
set_option maxHeartbeats 8000000 in
theorem f30 (d : Drum) (hd : DrumP d) (off : Int) (ho : 0 ≤ off ∧ off ≤ 50) : ACalls Tryz.prog 30 [eDrum d, vi off] (fun r => r = .pv (vi (tellsI d off))) := by
  have k79 := f79 d hd
  have hl := filled_len hd
  have hc := could_len d
  have hh0 := hd.h0; have hh1 := hd.h1
  have hmul : -9223372036854775808 ≤ 2 * off ∧ 2 * off ≤ 9223372036854775807 := by omega
  obtain ⟨m, hm⟩ : ∃ m : Nat, d.hours = (m : Int) := ⟨d.hours.toNat, by omega⟩
  have hmm : m = d.hours.toNat := by omega
  refine ACalls.of_body hT Tryz.func30 rfl (by kernel_rfl) rfl ?_
  (repeat' (first | refine stq ?_ | (refine AL_do2 rfl ?_; first | refine ⟨_, op_call1 rfl rfl rfl rfl (k79), nrmA rfl ?_⟩) | (with_reducible refine AL_id ?_); (fail_if_success (refine AL_glit rfl rfl rfl (by first | exact .inl (by with_reducible rfl) | exact .inr (by with_reducible rfl)) ?_)); first | refine AL_gdec rfl rfl rfl (fun hg => ?_) (fun hg => ?_) | refine AL_gnot rfl rfl rfl (fun hg => ?_) (fun hg => ?_) | refine AL_gcases rfl rfl rfl (fun hg => ?_) (fun hg => ?_)))
  refine AW_loopC (fun h : Nat => h ≤ m ∧ ∀ j, j < h → tellsB d off j = false) (fun h => mkSt [(1, .pv (vi off)), (2, .box 0 0), (5, .pv (eInts (couldL d))), (6, .pv (vi h))] [(0, boO d)] 1) (fun h => m - h) 0 ⟨Nat.zero_le _, fun j h => by omega⟩ ?_ ?_
  · (refine Le.mk ?_ ?_; all_goals (repeat' (first | exact trivial | refine sle ?_ | refine ⟨?_, rfl, ?_⟩ | refine ⟨?_, by decide, rfl, ?_⟩ | fail)))
  · rintro h ⟨hh, hno⟩
    (repeat (refine stq ?_))
    refine AW_if rfl (fun hcc => ?_) (fun hcc => ?_)
    · have hh' : h < m := by omega
      (repeat (refine stq ?_))
      refine AW_loopC (fun i : Nat => i ≤ (filledL d).length) (fun i => mkSt [(1, .pv (vi off)), (2, .box 0 0), (5, .pv (eInts (couldL d))), (6, .pv (vi h)), (7, .pv (.bool (pairsB (farB d off h) ((filledL d).take i)))), (8, .pv (vi i))] [(0, boO d)] 1) (fun i => (filledL d).length - i) 0 (Nat.zero_le _) ?_ ?_
      · (refine Le.mk ?_ ?_; all_goals (repeat' (first | exact trivial | refine sle ?_ | refine ⟨?_, rfl, ?_⟩ | refine ⟨?_, by decide, rfl, ?_⟩ | fail)))
      · intro i hi
        (repeat (refine stq ?_))
        refine AW_if rfl (fun hc2 => ?_) (fun hc2 => ?_)
        · have hi' : i < (filledL d).length := by omega
          obtain ⟨p, hp⟩ : ∃ p, (filledL d)[i]? = some p := ⟨(filledL d)[i], by simp [hi']⟩
          have hpm := List.mem_of_getElem? hp
          have hpb := strong_bd hd (filled_acid hd hpm) (filled_mem.1 hpm).2.2 (i := h) (by omega)
          have e1 : ((couldL d).map eInt)[((i : Nat) : Int).toNat]? = some (eInt (p.2 : Int)) := get_map eInt (could_get hp)
          have k90p := f90 d hd p.2 p.1 (filled_mem.1 hpm).1
          rw [may_of hpm, if_pos rfl] at k90p
          have e2 : ((strongL d p.1).map eSpan)[((h : Nat) : Int).toNat]? = some (eSpan (strongS d p.1 h)) := map_get (strongL_get (by omega))
          have hsn : pairsB (farB d off h) ((filledL d).take (i + 1)) = (pairsB (farB d off h) ((filledL d).take i) && ((filledL d).take i).all fun y => farB d off h p y) := by
            rw [List.take_add_one, hp]; exact pairs_snoc _ _ _
          generalize pairsB (farB d off h) ((filledL d).take i) = B0 at *
          (repeat (refine stq ?_))
          refine AW_loopC (fun k : Nat => k ≤ i) (fun k => mkSt [(1, .pv (vi off)), (2, .box 0 0), (5, .pv (eInts (couldL d))), (6, .pv (vi h)), (7, .pv (.bool (B0 && ((filledL d).take k).all fun y => farB d off h p y))), (8, .pv (vi i)), (9, .pv (vi k))] [(0, boO d)] 1) (fun k => i - k) 0 (Nat.zero_le _) ?_ ?_
          · (refine Le.mk ?_ ?_; all_goals (repeat' (first | exact trivial | refine sle ?_ | refine ⟨?_, rfl, ?_⟩ | refine ⟨?_, by decide, rfl, ?_⟩ | fail)))
            show some (FV.pv (PV.bool B0)) = some (FV.pv (PV.bool (B0 && ((filledL d).take 0).all fun y => farB d off h p y))); simp
          · intro k hk
            (repeat (refine stq ?_))
            refine AW_if rfl (fun hc3 => ?_) (fun hc3 => ?_)
            · have hk' : k < i := by omega
              obtain ⟨q, hq⟩ : ∃ q, (filledL d)[k]? = some q := ⟨(filledL d)[k]'(by omega), by simp⟩
              have hqm := List.mem_of_getElem? hq
              have hqb := strong_bd hd (filled_acid hd hqm) (filled_mem.1 hqm).2.2 (i := h) (by omega)
              have e3 : ((couldL d).map eInt)[((k : Nat) : Int).toNat]? = some (eInt (q.2 : Int)) := get_map eInt (could_get hq)
              have k90q := f90 d hd q.2 q.1 (filled_mem.1 hqm).1
              rw [may_of hqm, if_pos rfl] at k90q
              have e4 : ((strongL d q.1).map eSpan)[((h : Nat) : Int).toNat]? = some (eSpan (strongS d q.1 h)) := map_get (strongL_get (by omega))
              have hall := all_take (fun y => farB d off h p y) hq
              have hfar : farB d off h p q = !(decide ((strongS d p.1 h).low - (strongS d q.1 h).high ≤ 2 * off) && decide ((strongS d q.1 h).low - (strongS d p.1 h).high ≤ 2 * off)) := rfl
              generalize strongS d p.1 h = u at *
              generalize strongS d q.1 h = v at *
              generalize hF : farB d off h p q = F at *
              generalize hA : (((filledL d).take k).all fun y => farB d off h p y) = A at *
              cases hB : (B0 && A) with
              | false =>
                have hnew : (B0 && (A && F)) = false := by rw [← Bool.and_assoc, hB]; rfl
                (repeat (refine stq ?_))
                (repeat' (first | refine DG_next (StepOK.skipU rfl rfl) ?_ | ((refine DG_cmp hT rfl (fun hg => ?_) (fun hg => ?_)) <;> (try (exfalso; omega))) | refine DG_next (D_shl rfl rfl rfl rfl rfl (by omega)) ?_ | refine DG_next (D_shr rfl rfl rfl rfl rfl (by omega)) ?_ | refine sdq ?_ | refine DG_next (D_call_tup rfl rfl rfl rfl rfl (k90p)) ?_))
                refine DG_end hM (by kernel_rfl) ?_
                (repeat (refine stq ?_))
                (repeat' (first | refine DG_next (StepOK.skipU rfl rfl) ?_ | ((refine DG_cmp hT rfl (fun hg => ?_) (fun hg => ?_)) <;> (try (exfalso; omega))) | refine DG_next (D_shl rfl rfl rfl rfl rfl (by omega)) ?_ | refine DG_next (D_shr rfl rfl rfl rfl rfl (by omega)) ?_ | refine sdq ?_ | refine DG_next (D_call_tup rfl rfl rfl rfl rfl (k90q)) ?_))
                refine DG_end hM (by kernel_rfl) ?_
                (repeat (refine stq ?_))
                iterate 2 (refine sdq ?_)
                iterate 30 (first | refine DG_next (StepOK.skipU rfl rfl) ?_ | refine sdq ?_)
                iterate 2 (refine sdq ?_)
                refine DG_end hM (by kernel_rfl) ?_
                (repeat (refine stq ?_))
                refine ⟨k + 1, hk', by omega, ?_⟩
                rw [hall, hnew]
                (refine Le.mk ?_ ?_; all_goals (repeat' (first | exact trivial | refine sle ?_ | refine ⟨?_, rfl, ?_⟩ | refine ⟨?_, by decide, rfl, ?_⟩ | fail)))
              | true =>
                have hnew : (B0 && (A && F)) = F := by rw [← Bool.and_assoc, hB]; rfl
                (repeat (refine stq ?_))
                (repeat' (first | refine DG_next (StepOK.skipU rfl rfl) ?_ | ((refine DG_cmp hT rfl (fun hg => ?_) (fun hg => ?_)) <;> (try (exfalso; omega))) | refine DG_next (D_shl rfl rfl rfl rfl rfl (by omega)) ?_ | refine DG_next (D_shr rfl rfl rfl rfl rfl (by omega)) ?_ | refine sdq ?_ | refine DG_next (D_call_tup rfl rfl rfl rfl rfl (k90p)) ?_))
                refine DG_end hM (by kernel_rfl) ?_
                (repeat (refine stq ?_))
                (repeat' (first | refine DG_next (StepOK.skipU rfl rfl) ?_ | ((refine DG_cmp hT rfl (fun hg => ?_) (fun hg => ?_)) <;> (try (exfalso; omega))) | refine DG_next (D_shl rfl rfl rfl rfl rfl (by omega)) ?_ | refine DG_next (D_shr rfl rfl rfl rfl rfl (by omega)) ?_ | refine sdq ?_ | refine DG_next (D_call_tup rfl rfl rfl rfl rfl (k90q)) ?_))
                refine DG_end hM (by kernel_rfl) ?_
                (repeat (refine stq ?_))
                iterate 15 (refine sdq ?_)
                refine DG_cmp hT rfl (fun hg1 => ?_) (fun hg1 => ?_)
                · have hv : F = true := by
                    rw [hfar, decide_eq_false (show ¬ (u.low - v.high ≤ 2 * off) by omega)]; rfl
                  iterate 18 (refine sdq ?_)
                  refine DG_end hM (by kernel_rfl) ?_
                  (repeat (refine stq ?_))
                  refine ⟨k + 1, hk', by omega, ?_⟩
                  rw [hall, hnew, hv]
                  (refine Le.mk ?_ ?_; all_goals (repeat' (first | exact trivial | refine sle ?_ | refine ⟨?_, rfl, ?_⟩ | refine ⟨?_, by decide, rfl, ?_⟩ | fail)))
                · iterate 14 (refine sdq ?_)
                  refine DG_cmp hT rfl (fun hg2 => ?_) (fun hg2 => ?_)
                  · have hv : F = true := by
                      rw [hfar, decide_eq_false (show ¬ (v.low - u.high ≤ 2 * off) by omega), Bool.and_false]; rfl
                    iterate 3 (refine sdq ?_)
                    refine DG_end hM (by kernel_rfl) ?_
                    (repeat (refine stq ?_))
                    refine ⟨k + 1, hk', by omega, ?_⟩
                    rw [hall, hnew, hv]
                    (refine Le.mk ?_ ?_; all_goals (repeat' (first | exact trivial | refine sle ?_ | refine ⟨?_, rfl, ?_⟩ | refine ⟨?_, by decide, rfl, ?_⟩ | fail)))
                  · have hv : F = false := by
                      rw [hfar, decide_eq_true (show u.low - v.high ≤ 2 * off by omega), decide_eq_true (show v.low - u.high ≤ 2 * off by omega)]; rfl
                    iterate 3 (refine sdq ?_)
                    refine DG_end hM (by kernel_rfl) ?_
                    (repeat (refine stq ?_))
                    refine ⟨k + 1, hk', by omega, ?_⟩
                    rw [hall, hnew, hv]
                    (refine Le.mk ?_ ?_; all_goals (repeat' (first | exact trivial | refine sle ?_ | refine ⟨?_, rfl, ?_⟩ | refine ⟨?_, by decide, rfl, ?_⟩ | fail)))
            · have hk' : k = i := by omega
              subst hk'
              rw [← hsn]
              (repeat (refine stq ?_))
              refine ⟨k + 1, hi', by omega, ?_⟩
              (refine Le.mk ?_ ?_; all_goals (repeat' (first | exact trivial | refine sle ?_ | refine ⟨?_, rfl, ?_⟩ | refine ⟨?_, by decide, rfl, ?_⟩ | fail)))
        · have hi' : i = (filledL d).length := by omega
          subst hi'
          rw [List.take_length]
          have ht : pairsB (farB d off h) (filledL d) = tellsB d off h := rfl
          rw [ht]
          cases q : tellsB d off h with
          | true =>
            (repeat (refine stq ?_))
            exact ⟨_, _, rfl, rfl, by unfold tellsI; rw [first_at (h := h) hno q (by omega)]⟩
          | false =>
            (repeat (refine stq ?_))
            refine ⟨h + 1, ⟨hh', fun j hj => ?_⟩, by omega, ?_⟩
            · by_cases hjh : j = h
              · rw [hjh]; exact q
              · exact hno j (by omega)
            · (refine Le.mk ?_ ?_; all_goals (repeat' (first | exact trivial | refine sle ?_ | refine ⟨?_, rfl, ?_⟩ | refine ⟨?_, by decide, rfl, ?_⟩ | fail)))
    · have hh' : h = m := by omega
      (repeat (refine stq ?_))
      exact ⟨_, _, rfl, rfl, by unfold tellsI; rw [first_none fun j hj => hno j (by omega)]⟩
end Go.Abs
