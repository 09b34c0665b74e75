/- DyeEnds. -/
import Derived.Test.YtkmclnjmabljdaaGreatDoorNhU
import Derived.Test.YtkmclnjmabljdaaGreatDoorNcAbsAG
set_option linter.unusedVariables false
set_option linter.unusedSimpArgs false

namespace Go.Abs
open Go.Proofs
set_option linter.unusedVariables false
set_option linter.unusedSimpArgs false
set_option maxRecDepth 100000

def endTakes (h : List Dye) (high : Bool) : List (List Int) := h.map fun d : Dye => d.takes.map (endI high)
def endHours (l : List Bath) (high : Bool) : List Int := l.map fun b : Bath => endI high b.hours
abbrev enE (l : List Bath) (high : Bool) : List (Nat × FV) := [(1, .pv (eBaths l)), (2, .pv (.bool high)), (3, .box 0 0), (6, .box 1 0), (7, .box 2 0)]
abbrev enO (h : List Dye) (ts : List (List Int)) (hs : List Int) : List (Nat × AObj) := [(0, .box [.pv (.sl (h.map eDye))]), (1, .box [.nils, .nils]), (2, .box [.arr 3, .arr 4]), (3, .arr 47 1 (ts.map eIntsC)), (4, .arr 3 1 (hs.map eInt))]
set_option maxHeartbeats 4000000 in
theorem f79 (h : List Dye) (l : List Bath) (high : Bool) (hh : houseOK h) (hl : l.length ≤ 1000) : ACalls Tryz.prog 79 [eHouse h, eBaths l, .bool high] (fun r => r = .pv (eTruth (endTakes h high) (endHours l high))) := by
  have hh1 := hh.1
  refine ACalls.of_body hT Tryz.func79 rfl (by kernel_rfl) rfl ?_
  (repeat (refine stq ?_))
  refine AW_nilBox 2 0 47 1 rfl rfl ?_
  refine AW_nilBox 2 1 3 1 rfl rfl ?_
  refine AW_loopC (fun k : Nat => k ≤ h.length) (fun k => mkSt (enE l high ++ [(8, .pv (vi k))]) (enO h (endTakes (h.take k) high) []) 5) (fun k => h.length - k) 0 (Nat.zero_le _) ?_ ?_
  · (refine Le.mk ?_ ?_; all_goals (repeat' (first | exact trivial | refine sle ?_ | refine ⟨?_, rfl, ?_⟩ | refine ⟨?_, by decide, rfl, ?_⟩ | fail)))
  · intro k hk
    have htl : (endTakes (h.take k) high).length ≤ 1000 := by simp [endTakes]; omega
    (repeat (refine stq ?_))
    refine AW_if rfl (fun hc => ?_) (fun hc => ?_)
    · have hk' : k < h.length := by omega
      obtain ⟨d, hd⟩ : ∃ d, h[k]? = some d := ⟨h[k], by simp [hk']⟩
      have e1 := get_map eDye hd
      have hdl := hh.2 d (List.mem_of_getElem? hd)
      have hsn : endTakes (h.take (k + 1)) high = endTakes (h.take k) high ++ [d.takes.map (endI high)] := map_take_succ _ hd
      generalize endTakes (h.take k) high = ts at htl hsn ⊢
      (repeat (refine stq ?_))
      refine AW_own_nil (e := 3) (sz := 1) (t := 9) rfl rfl ?_
      refine AW_loopC (fun j : Nat => j ≤ d.takes.length) (fun j => mkSt (enE l high ++ [(8, .pv (vi k)), (9, .arr 5), (10, .pv (vi j))]) (enO h ts [] ++ [(5, .arr 3 1 (((d.takes.take j).map (endI high)).map eInt))]) 6) (fun j => d.takes.length - j) 0 (Nat.zero_le _) ?_ ?_
      · (refine Le.mk ?_ ?_; all_goals (repeat' (first | exact trivial | refine sle ?_ | refine ⟨?_, rfl, ?_⟩ | refine ⟨?_, by decide, rfl, ?_⟩ | fail)))
      · intro j hj
        have htl2 : ((d.takes.take j).map (endI high)).length ≤ 1000 := by simp; omega
        (repeat (refine stq ?_))
        refine AW_if rfl (fun hc2 => ?_) (fun hc2 => ?_)
        · have hj' : j < d.takes.length := by omega
          obtain ⟨u, hu⟩ : ∃ u, d.takes[j]? = some u := ⟨d.takes[j], by simp [hj']⟩
          have e2 := get_map eSpan hu
          have hsn2 : (d.takes.take (j + 1)).map (endI high) = (d.takes.take j).map (endI high) ++ [endI high u] := map_take_succ _ hu
          generalize (d.takes.take j).map (endI high) = tk at htl2 hsn2 ⊢
          (repeat (refine stq ?_))
          refine AW_cond rfl (fun hb => ?_) (fun hb => ?_)
          · (repeat (refine stq ?_))
            refine ⟨j + 1, hj', by omega, ?_⟩
            rw [hsn2, hb]
            (refine Le.mkR [(0, 0), (1, 1), (2, 2), (3, 3), (4, 4), (5, 8)] ?_ ?_ rfl; all_goals (repeat' (first | exact trivial | refine sle ?_ | refine ⟨?_, rfl, ?_⟩ | refine ⟨?_, by decide, rfl, ?_⟩ | fail)))
            simp [List.map_append]; rfl
          · (repeat (refine stq ?_))
            refine ⟨j + 1, hj', by omega, ?_⟩
            rw [hsn2, hb]
            (refine Le.mkR [(0, 0), (1, 1), (2, 2), (3, 3), (4, 4), (5, 8)] ?_ ?_ rfl; all_goals (repeat' (first | exact trivial | refine sle ?_ | refine ⟨?_, rfl, ?_⟩ | refine ⟨?_, by decide, rfl, ?_⟩ | fail)))
            simp [List.map_append]; rfl
        · have hj' : j = d.takes.length := by omega
          rw [hj', List.take_length]
          refine AW_pure (t := 9) rfl rfl ?_
          (repeat (refine stq ?_))
          refine ⟨k + 1, hk', by omega, ?_⟩
          rw [hsn]
          (refine Le.mkR [(0, 0), (1, 1), (2, 2), (3, 7), (4, 4)] ?_ ?_ rfl; all_goals (repeat' (first | exact trivial | refine sle ?_ | refine ⟨?_, rfl, ?_⟩ | refine ⟨?_, by decide, rfl, ?_⟩ | fail)))
          show some (AObj.arr 47 1 (ts.map eIntsC ++ [[.sl ((d.takes.map (endI high)).map eInt)]])) = some (AObj.arr 47 1 ((ts ++ [d.takes.map (endI high)]).map eIntsC))
          rw [List.map_append]; rfl
    · have hk' : k = h.length := by omega
      rw [hk', List.take_length]
      (repeat (refine stq ?_))
      refine AW_loopC (fun j : Nat => j ≤ l.length) (fun j => mkSt (enE l high ++ [(12, .pv (vi j))]) (enO h (endTakes h high) (endHours (l.take j) high)) 5) (fun j => l.length - j) 0 (Nat.zero_le _) ?_ ?_
      · (refine Le.mk ?_ ?_; all_goals (repeat' (first | exact trivial | refine sle ?_ | refine ⟨?_, rfl, ?_⟩ | refine ⟨?_, by decide, rfl, ?_⟩ | fail)))
      · intro j hj
        have htl2 : (endHours (l.take j) high).length ≤ 1000 := by simp [endHours]; omega
        (repeat (refine stq ?_))
        refine AW_if rfl (fun hc2 => ?_) (fun hc2 => ?_)
        · have hj' : j < l.length := by omega
          obtain ⟨b, hbx⟩ : ∃ b, l[j]? = some b := ⟨l[j], by simp [hj']⟩
          have e2 := get_map eBath hbx
          have hsn2 : endHours (l.take (j + 1)) high = endHours (l.take j) high ++ [endI high b.hours] := map_take_succ _ hbx
          generalize endHours (l.take j) high = hs at htl2 hsn2 ⊢
          (repeat (refine stq ?_))
          refine AW_cond rfl (fun hb => ?_) (fun hb => ?_)
          · (repeat (refine stq ?_))
            (repeat (refine sdq ?_))
            refine DG_end hM (by kernel_rfl) ?_
            (repeat (refine stq ?_))
            refine ⟨j + 1, hj', by omega, ?_⟩
            rw [hsn2, hb]
            (refine Le.mkR [(0, 0), (1, 1), (2, 2), (3, 3), (4, 5)] ?_ ?_ rfl; all_goals (repeat' (first | exact trivial | refine sle ?_ | refine ⟨?_, rfl, ?_⟩ | refine ⟨?_, by decide, rfl, ?_⟩ | fail)))
            simp [List.map_append]; rfl
          · (repeat (refine stq ?_))
            (repeat (refine sdq ?_))
            refine DG_end hM (by kernel_rfl) ?_
            (repeat (refine stq ?_))
            refine ⟨j + 1, hj', by omega, ?_⟩
            rw [hsn2, hb]
            (refine Le.mkR [(0, 0), (1, 1), (2, 2), (3, 3), (4, 5)] ?_ ?_ rfl; all_goals (repeat' (first | exact trivial | refine sle ?_ | refine ⟨?_, rfl, ?_⟩ | refine ⟨?_, by decide, rfl, ?_⟩ | fail)))
            simp [List.map_append]; rfl
        · have hj' : j = l.length := by omega
          rw [hj', List.take_length]
          refine AW_arrBox (b := 2) 0 rfl rfl rfl rfl ?_
          refine AW_arrBox (b := 2) 1 rfl rfl rfl rfl ?_
          (repeat (refine stq ?_))
          exact ⟨_, _, rfl, rfl, rfl⟩
theorem end_truth {h : List Dye} {l : List Bath} {high : Bool} (hH : HouseP h) (hB : BatchP h l) : truthB h l (endTakes h high) (endHours l high) = true ∧ fitsB h l (endTakes h high) (endHours l high) = true := by
  have hin : ∀ (l : List Span), (∀ s ∈ l, s.low ≤ s.high) → inS (l.map (endI high)) l := fun l => by
    induction l with
    | nil => intro _; exact trivial
    | cons s l ih =>
      intro hs
      have := hs s (by simp)
      refine ⟨?_, ?_, ih fun u hu => hs u (by simp [hu])⟩ <;> (cases high <;> simp [endI] <;> omega)
  constructor
  · simp only [truthB, Bool.and_eq_true, decide_eq_true_eq, Bool.not_eq_true', List.any_eq_false]
    refine ⟨⟨by simp [endTakes], by simp [endHours]⟩, fun t ht => ?_⟩
    obtain ⟨d, hd, rfl⟩ := List.mem_map.1 ht
    have := (hH.2.2 d hd).1
    simp [this]
  · simp only [fitsB, Bool.and_eq_true]
    constructor
    · have key : ∀ (g : List Dye), (∀ d ∈ g, d ∈ h) → fitsT (endTakes g high) g = true := fun g => by
        induction g with
        | nil => intro _; rfl
        | cons d g ih =>
          intro hg
          simp only [endTakes, List.map_cons, fitsT, Bool.and_eq_true]
          refine ⟨within_iff.2 (hin _ fun s hs => ?_), ih fun e he => hg e (by simp [he])⟩
          have := (hH.2.2 d (hg d (by simp))).2.2.2 s hs; omega
      exact key h fun _ h => h
    · refine within_iff.2 ?_
      have e : endHours l high = (hoursI l).map (endI high) := by simp [endHours, hoursI]
      rw [e]
      refine hin _ fun s hs => ?_
      have := hoursI_ok hB s hs; omega
theorem end_run {h : List Dye} {l : List Bath} {high : Bool} {k : Nat} {d : Dye} (hd : h[k]? = some d) : (runGo l (endHours l high) h (endTakes h high) 0)[k]? = some (if high then (endsI d l k).high else (endsI d l k).low) := by
  have ht : (endTakes h high)[k]? = some (d.takes.map (endI high)) := by simp [endTakes, hd]
  have := runGo_get l (endHours l high) h (endTakes h high) 0 k d _ hd ht
  rw [this, Int.zero_add]
  have e : endHours l high = (hoursI l).map (endI high) := by simp [endHours, hoursI]
  rw [e]
  cases high <;> rfl
set_option maxHeartbeats 4000000 in
theorem f18 (h : List Dye) (l : List Bath) : ACalls Tryz.prog 18 [eHouse h, eBaths l] (fun r => r = .pv (.bool true)) := by
  have k27 := f27 h
  refine ACalls.of_body hT Tryz.func18 rfl (by kernel_rfl) rfl ?_
  cases q1 : slimB h with
  | false =>
    rw [q1] at k27
    (repeat' (first | refine stq ?_ | (refine AL_do2 rfl ?_; first | refine ⟨_, op_call1 rfl rfl rfl rfl (k27), nrmA rfl ?_⟩ | refine ⟨_, op_call1 rfl rfl rfl rfl (f28), nrmA rfl ?_⟩) | (with_reducible refine AL_id ?_); (fail_if_success (refine AL_glit rfl rfl rfl (by first | exact .inl (by with_reducible rfl) | exact .inr (by with_reducible rfl)) ?_)); first | refine AL_gdec rfl rfl rfl (fun hg => ?_) (fun hg => ?_) | refine AL_gnot rfl rfl rfl (fun hg => ?_) (fun hg => ?_) | refine AL_gcases rfl rfl rfl (fun hg => ?_) (fun hg => ?_)))
    exact ⟨_, _, rfl, rfl, rfl⟩
  | true =>
    rw [q1] at k27
    by_cases hl : l.length ≤ 5
    · have hOK := slim_houseOK q1
      have k30 := f30 h hOK
      have k31 := f31 h l hOK.1 (by omega)
      cases c1 : isHouseB h with
      | false =>
        rw [c1] at k30
        (repeat' (first | (exfalso; omega) | refine AW_if rfl (fun hc => absurd hc (by omega)) (fun _ => ?_) | refine AW_if rfl (fun _ => ?_) (fun hc => absurd (by omega) hc) | refine stq ?_ | (refine AL_do2 rfl ?_; first | refine ⟨_, op_call1 rfl rfl rfl rfl (k27), nrmA rfl ?_⟩ | refine ⟨_, op_call1 rfl rfl rfl rfl (k30), nrmA rfl ?_⟩ | refine ⟨_, op_call1 rfl rfl rfl rfl (f28), nrmA rfl ?_⟩) | (with_reducible refine AL_id ?_); (fail_if_success (refine AL_glit rfl rfl rfl (by first | exact .inl (by with_reducible rfl) | exact .inr (by with_reducible rfl)) ?_)); first | refine AL_gdec rfl rfl rfl (fun hg => ?_) (fun hg => ?_) | refine AL_gnot rfl rfl rfl (fun hg => ?_) (fun hg => ?_) | refine AL_gcases rfl rfl rfl (fun hg => ?_) (fun hg => ?_)))
        all_goals exact ⟨_, _, rfl, rfl, rfl⟩
      | true =>
        rw [c1] at k30
        cases c2 : isBatchB h l with
        | false =>
          rw [c2] at k31
          (repeat' (first | (exfalso; omega) | refine AW_if rfl (fun hc => absurd hc (by omega)) (fun _ => ?_) | refine AW_if rfl (fun _ => ?_) (fun hc => absurd (by omega) hc) | refine stq ?_ | (refine AL_do2 rfl ?_; first | refine ⟨_, op_call1 rfl rfl rfl rfl (k27), nrmA rfl ?_⟩ | refine ⟨_, op_call1 rfl rfl rfl rfl (k30), nrmA rfl ?_⟩ | refine ⟨_, op_call1 rfl rfl rfl rfl (k31), nrmA rfl ?_⟩ | refine ⟨_, op_call1 rfl rfl rfl rfl (f28), nrmA rfl ?_⟩) | (with_reducible refine AL_id ?_); (fail_if_success (refine AL_glit rfl rfl rfl (by first | exact .inl (by with_reducible rfl) | exact .inr (by with_reducible rfl)) ?_)); first | refine AL_gdec rfl rfl rfl (fun hg => ?_) (fun hg => ?_) | refine AL_gnot rfl rfl rfl (fun hg => ?_) (fun hg => ?_) | refine AL_gcases rfl rfl rfl (fun hg => ?_) (fun hg => ?_)))
          all_goals exact ⟨_, _, rfl, rfl, rfl⟩
        | true =>
          rw [c2] at k31
          have hH := houseP_of c1
          have hB := batchP_of c2
          have hh3 := hH.1
          have k29 := f29 h l hOK (by omega)
          rw [show knownI h l = (endsL l h 0, 0) by simp [knownI, c1, c2]] at k29
          have k79a := f79 h l false hOK (by omega)
          have k79b := f79 h l true hOK (by omega)
          have hTO : ∀ b, truthOK (endTakes h b) (endHours l b) := fun b => ⟨by simp [endTakes]; omega, by simp [endHours]; omega, fun t ht => by
            obtain ⟨d, hd, rfl⟩ := List.mem_map.1 ht
            have := (hH.2.2 d hd).1
            simp [this]⟩
          have k78a := f78 h l _ _ hOK (by omega) (hTO false)
          have k78b := f78 h l _ _ hOK (by omega) (hTO true)
          have ta := end_truth (high := false) hH hB
          have tb := end_truth (high := true) hH hB
          rw [show runE h l (endTakes h false) (endHours l false) = (runGo l (endHours l false) h (endTakes h false) 0, 0) by simp [runE, c1, c2, ta.1, ta.2]] at k78a
          rw [show runE h l (endTakes h true) (endHours l true) = (runGo l (endHours l true) h (endTakes h true) 0, 0) by simp [runE, c1, c2, tb.1, tb.2]] at k78b
          have ra : ∀ (k : Nat) d, h[k]? = some d → _ := fun k d hd => end_run (l := l) (high := false) hd
          have rb : ∀ (k : Nat) d, h[k]? = some d → _ := fun k d hd => end_run (l := l) (high := true) hd
          have la := runGo_len_eq l (endHours l false) h (endTakes h false) 0 (by simp [endTakes])
          have lb := runGo_len_eq l (endHours l true) h (endTakes h true) 0 (by simp [endTakes])
          have g5 := endsL_get l h 0
          have g6 := endsL_len l h 0
          generalize endTakes h false = ts0 at *
          generalize endTakes h true = ts1 at *
          generalize endHours l false = hs0 at *
          generalize endHours l true = hs1 at *
          generalize runGo l hs0 h ts0 0 = r0 at *
          generalize runGo l hs1 h ts1 0 = r1 at *
          generalize endsL l h 0 = e at *
          have k29 : ACalls Tryz.prog 29 [eHouse h, eBaths l] (fun v => v = .tup [eSpans e, vi 0]) := k29
          have k78a : ACalls Tryz.prog 78 [eHouse h, eBaths l, eTruth ts0 hs0] (fun r => r = .tup [eInts r0, vi 0]) := k78a
          have k78b : ACalls Tryz.prog 78 [eHouse h, eBaths l, eTruth ts1 hs1] (fun r => r = .tup [eInts r1, vi 0]) := k78b
          (repeat' (first | (exfalso; omega) | refine AW_if rfl (fun hc => absurd hc (by omega)) (fun _ => ?_) | refine AW_if rfl (fun _ => ?_) (fun hc => absurd (by omega) hc) | refine stq ?_ | (refine AL_do2 rfl ?_; first | refine ⟨_, op_call1 rfl rfl rfl rfl (k27), nrmA rfl ?_⟩ | refine ⟨_, op_call1 rfl rfl rfl rfl (k30), nrmA rfl ?_⟩ | refine ⟨_, op_call1 rfl rfl rfl rfl (k31), nrmA rfl ?_⟩ | refine ⟨_, op_call1 rfl rfl rfl rfl (k29), nrmA rfl ?_⟩) | (with_reducible refine AL_id ?_); (fail_if_success (refine AL_glit rfl rfl rfl (by first | exact .inl (by with_reducible rfl) | exact .inr (by with_reducible rfl)) ?_)); first | refine AL_gdec rfl rfl rfl (fun hg => ?_) (fun hg => ?_) | refine AL_gnot rfl rfl rfl (fun hg => ?_) (fun hg => ?_) | refine AL_gcases rfl rfl rfl (fun hg => ?_) (fun hg => ?_)))
          (repeat (first | refine sdq ?_ | refine DG_next (D_call rfl rfl rfl rfl rfl (k79a)) ?_ | refine DG_next (D_call_tup rfl rfl rfl rfl rfl (k78a)) ?_))
          refine DG_end hM (by kernel_rfl) ?_
          (repeat (refine stq ?_))
          (repeat (first | refine sdq ?_ | refine DG_next (D_call rfl rfl rfl rfl rfl (k79b)) ?_ | refine DG_next (D_call_tup rfl rfl rfl rfl rfl (k78b)) ?_))
          refine DG_end hM (by kernel_rfl) ?_
          (repeat' (first | (exfalso; omega) | refine AW_if rfl (fun hc => absurd hc (by omega)) (fun _ => ?_) | refine AW_if rfl (fun _ => ?_) (fun hc => absurd (by omega) hc) | refine stq ?_ | (with_reducible refine AL_id ?_); (fail_if_success (refine AL_glit rfl rfl rfl (by first | exact .inl (by with_reducible rfl) | exact .inr (by with_reducible rfl)) ?_)); first | refine AL_gdec rfl rfl rfl (fun hg => ?_) (fun hg => ?_) | refine AL_gnot rfl rfl rfl (fun hg => ?_) (fun hg => ?_) | refine AL_gcases rfl rfl rfl (fun hg => ?_) (fun hg => ?_)))
          refine AW_loopC (fun k : Nat => k ≤ h.length) (fun k => mkSt [(5, .pv (eSpans e)), (7, .pv (eInts r0)), (9, .pv (eInts r1)), (11, .pv (vi k))] [] 0) (fun k => h.length - k) 0 (Nat.zero_le _) ?_ ?_
          · (refine Le.mk ?_ ?_; all_goals (repeat' (first | exact trivial | refine sle ?_ | refine ⟨?_, rfl, ?_⟩ | refine ⟨?_, by decide, rfl, ?_⟩ | fail)))
          · intro k hk
            (repeat (refine stq ?_))
            refine AW_if rfl (fun hc => ?_) (fun hc => ?_)
            · have hk' : k < h.length := by omega
              obtain ⟨d, hd⟩ : ∃ d, h[k]? = some d := ⟨h[k], by simp [hk']⟩
              have h0 := ra k d hd
              have h1 := rb k d hd
              have h2 := g5 k d hd
              rw [Int.zero_add] at h2
              simp only [Bool.false_eq_true, if_false, if_true] at h0 h1
              generalize endsI d l k = v at h0 h1 h2
              have e1 := get_map eSpan h2
              have e2 := get_map eInt h0
              have e3 := get_map eInt h1
              (repeat (refine stq ?_))
              (repeat (first | refine DG_next (D_neqS1 [v.low, v.high] aggEq37 rfl rfl rfl rfl rfl rfl) ?_ | refine sdq ?_ | refine DG_next (D_call rfl rfl rfl rfl rfl (f61 v.low v.high)) ?_))
              refine DG_end hM (by kernel_rfl) ?_
              (repeat (refine stq ?_))
              refine ⟨k + 1, hk', by omega, ?_⟩
              (refine Le.mk ?_ ?_; all_goals (repeat' (first | exact trivial | refine sle ?_ | refine ⟨?_, rfl, ?_⟩ | refine ⟨?_, by decide, rfl, ?_⟩ | fail)))
            · (repeat' (first | refine stq ?_ | (refine AL_do2 rfl ?_; first | refine ⟨_, op_call1 rfl rfl rfl rfl (f28), nrmA rfl ?_⟩) | (with_reducible refine AL_id ?_); (fail_if_success (refine AL_glit rfl rfl rfl (by first | exact .inl (by with_reducible rfl) | exact .inr (by with_reducible rfl)) ?_)); first | refine AL_gdec rfl rfl rfl (fun hg => ?_) (fun hg => ?_) | refine AL_gnot rfl rfl rfl (fun hg => ?_) (fun hg => ?_) | refine AL_gcases rfl rfl rfl (fun hg => ?_) (fun hg => ?_)))
              exact ⟨_, _, rfl, rfl, rfl⟩
    · (repeat' (first | (exfalso; omega) | refine AW_if rfl (fun hc => absurd hc (by omega)) (fun _ => ?_) | refine AW_if rfl (fun _ => ?_) (fun hc => absurd (by omega) hc) | refine stq ?_ | (refine AL_do2 rfl ?_; first | refine ⟨_, op_call1 rfl rfl rfl rfl (k27), nrmA rfl ?_⟩ | refine ⟨_, op_call1 rfl rfl rfl rfl (f28), nrmA rfl ?_⟩) | (with_reducible refine AL_id ?_); (fail_if_success (refine AL_glit rfl rfl rfl (by first | exact .inl (by with_reducible rfl) | exact .inr (by with_reducible rfl)) ?_)); first | refine AL_gdec rfl rfl rfl (fun hg => ?_) (fun hg => ?_) | refine AL_gnot rfl rfl rfl (fun hg => ?_) (fun hg => ?_) | refine AL_gcases rfl rfl rfl (fun hg => ?_) (fun hg => ?_)))
      all_goals exact ⟨_, _, rfl, rfl, rfl⟩
end Go.Abs
