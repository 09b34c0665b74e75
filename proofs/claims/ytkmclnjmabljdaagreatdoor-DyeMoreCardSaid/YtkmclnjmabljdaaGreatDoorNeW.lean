/- DyeWords. -/
import Derived.Test.YtkmclnjmabljdaaGreatDoorNeV
import Derived.Test.YtkmclnjmabljdaaGreatDoorNeR
set_option linter.unusedVariables false
set_option linter.unusedSimpArgs false
namespace Go.Abs
open Go.Proofs
set_option linter.unusedVariables false
set_option linter.unusedSimpArgs false
set_option maxRecDepth 100000

def eyeR (s : Span) (n : Int) : List Bool := (rangeI s.low s.high).map fun e => inB n (-e) e
def cntR (l : List Bool) : Int := (l.countP id : Nat)
theorem cntR_snoc (l : List Bool) (b : Bool) : cntR (l ++ [b]) = cntR l + (if b then 1 else 0) := by
  unfold cntR; rw [List.countP_append]; cases b <;> simp
def wordL (s : Span) (L : List Int) : Int := wordR (cntR (L.flatMap (eyeR s))) ((L.flatMap (eyeR s)).length : Nat)
theorem wordL_eq {s : Span} {L M : List Int} (hs : s.low ≤ s.high) (hm : ∀ n, n ∈ L ↔ n ∈ M) : wordL s L = wordI (M.any fun n => decide (max n (-n) ≤ s.high)) (M.any fun n => decide (max n (-n) > s.low)) := by
  rw [← any_congr (l := L) (m := M) hm, ← any_congr (l := L) (m := M) hm]
  have e1 : cntR (L.flatMap (eyeR s)) = ((L.flatMap (eyeR s)).length : Nat) ↔ (L.any fun n => decide (max n (-n) > s.low)) = false := by
    unfold cntR
    rw [Int.natCast_inj, List.countP_eq_length, List.any_eq_false]
    simp only [List.mem_flatMap, eyeR, List.mem_map, rangeI_mem, id, decide_eq_true_eq]
    constructor
    · intro h n hn hgt
      have := h _ ⟨n, hn, s.low, ⟨Int.le_refl _, hs⟩, rfl⟩
      simp only [inB, Bool.and_eq_true, decide_eq_true_eq] at this
      omega
    · rintro h b ⟨n, hn, e, he, rfl⟩
      have := h n hn
      simp only [inB, Bool.and_eq_true, decide_eq_true_eq]; omega
  have e2 : cntR (L.flatMap (eyeR s)) = 0 ↔ (L.any fun n => decide (max n (-n) ≤ s.high)) = false := by
    unfold cntR
    rw [show ((0 : Int)) = ((0 : Nat) : Int) from rfl, Int.natCast_inj, List.countP_eq_zero, List.any_eq_false]
    simp only [List.mem_flatMap, eyeR, List.mem_map, rangeI_mem, id, decide_eq_true_eq]
    constructor
    · intro h n hn hle
      refine h _ ⟨n, hn, s.high, ⟨hs, Int.le_refl _⟩, rfl⟩ ?_
      simp only [inB, Bool.and_eq_true, decide_eq_true_eq]; omega
    · rintro h b ⟨n, hn, e, he, rfl⟩ hb
      have := h n hn
      simp only [inB, Bool.and_eq_true, decide_eq_true_eq] at hb; omega
  unfold wordL wordR wordI
  by_cases h1 : cntR (L.flatMap (eyeR s)) = ((L.flatMap (eyeR s)).length : Nat)
  · rw [if_pos h1, e1.1 h1]; rfl
  · have h1' : (L.any fun n => decide (max n (-n) > s.low)) = true := by
      cases hx : (L.any fun n => decide (max n (-n) > s.low)) with
      | true => rfl
      | false => exact absurd (e1.2 hx) h1
    rw [if_neg h1, h1']
    by_cases h2 : cntR (L.flatMap (eyeR s)) = 0
    · rw [if_pos h2, e2.1 h2]; rfl
    · have h2' : (L.any fun n => decide (max n (-n) ≤ s.high)) = true := by
        cases hx : (L.any fun n => decide (max n (-n) ≤ s.high)) with
        | true => rfl
        | false => exact absurd (e2.2 hx) h2
      rw [if_neg h2, h2']; rfl
abbrev wdE (lamps : List (List Int)) (a b : List Bath) (L : List Int) (so all : Int) (k j : Nat) : List (Nat × FV) := [(1, .pv (eLamps lamps)), (2, .pv (eBaths a)), (3, .pv (eBaths b)), (5, .box 0 0), (9, .box 1 0), (11, .arr 2), (12, .pv (vi k)), (13, .pv (eInts L)), (14, .pv (vi so)), (15, .pv (vi all)), (16, .pv (vi j))]
abbrev wdO (h : List Dye) (eye : Span) (out : List Int) : List (Nat × AObj) := [(0, .box [.pv (.sl (h.map eDye))]), (1, .box [.pv (vi eye.low), .pv (vi eye.high)]), (2, .arr 78 1 (out.map eInt))]
theorem cnt_bd (l : List Bool) : 0 ≤ cntR l ∧ cntR l ≤ l.length := by
  have := List.countP_le_length (p := id) (l := l)
  unfold cntR; omega
set_option maxHeartbeats 8000000 in
theorem f39 (h : List Dye) (lamps : List (List Int)) (a b : List Bath) (eye : Span) (hh : HouseP h) (hl : lamps.length ≤ 1000) (hL : ∀ x ∈ lamps, LampP h x) (ha : BatchP h a) (hb : BatchP h b) (he : 0 ≤ eye.low ∧ eye.low ≤ eye.high ∧ eye.high ≤ 200) :
    ACalls Tryz.prog 39 [eHouse h, eLamps lamps, eBaths a, eBaths b, eS eye] (fun r => r = .own 78 1 ((lamps.map fun x => wordL eye (diffsR h x a b)).map eInt)) := by
  refine ACalls.of_body hT Tryz.func39 rfl (by kernel_rfl) rfl ?_
  (repeat (refine stp ?_))
  refine AW_own_nil (e := 78) (sz := 1) (t := 11) rfl rfl ?_
  refine AW_loopC (fun k : Nat => k ≤ lamps.length) (fun k => mkSt [(1, .pv (eLamps lamps)), (2, .pv (eBaths a)), (3, .pv (eBaths b)), (5, .box 0 0), (9, .box 1 0), (11, .arr 2), (12, .pv (vi k))] (wdO h eye ((lamps.take k).map fun x => wordL eye (diffsR h x a b))) 3) (fun k => lamps.length - k) 0 (Nat.zero_le _) ?_ ?_
  · (refine Le.mk ?_ ?_; all_goals (repeat' (first | exact trivial | refine sle ?_ | refine ⟨?_, rfl, ?_⟩ | refine ⟨?_, by decide, rfl, ?_⟩ | fail)))
  · intro k hk
    have hol : ((lamps.take k).map fun x => wordL eye (diffsR h x a b)).length ≤ 1000 := by simp; omega
    generalize hOut : ((lamps.take k).map fun x => wordL eye (diffsR h x a b)) = out at hol ⊢
    (repeat (refine stp ?_))
    refine AW_if rfl (fun hc => ?_) (fun hc => ?_)
    · have hk' : k < lamps.length := by omega
      obtain ⟨x, hx⟩ : ∃ x, lamps[k]? = some x := ⟨lamps[k], by simp [hk']⟩
      have e1 := get_map eLampC hx
      have hxL := hL x (List.mem_of_getElem? hx)
      have kD := f120 h x a b hh hxL ha hb
      have hsn : (lamps.take (k + 1)).map (fun x => wordL eye (diffsR h x a b)) = out ++ [wordL eye (diffsR h x a b)] := by rw [map_take_succ _ hx, hOut]
      have hLl : (diffsR h x a b).length ≤ 2 * 3000 + 1 := nd_len (c := 3000) (diffGo_nodup a b _ _ _ _ (by simp)) fun n hn => by
        have := diffGo_bd hh ha hb h x 0 [0] 0 (fun d hd => hd) hxL.2 (by simp [bdK]) (Int.le_refl _) n hn
        have := hh.1; omega
      generalize diffsR h x a b = L at kD hsn hLl ⊢
      (repeat (refine stp ?_))
      (repeat (first | refine sdr ?_ | refine DG_next (D_call rfl rfl rfl rfl rfl (kD)) ?_))
      refine DG_end hM (by kernel_rfl) ?_
      (repeat (refine stp ?_))
      have hPl : ∀ j, ((L.take j).flatMap (eyeR eye)).length ≤ 2000000 := fun j => by
        rw [flatMap_const_len (c := (eye.high - eye.low + 1).toNat) (fun n => by simp [eyeR, rangeI])]
        have h1 : (L.take j).length ≤ 6001 := by simp; omega
        have h2 : (eye.high - eye.low + 1).toNat ≤ 201 := by omega
        exact Nat.le_trans (Nat.mul_le_mul h1 h2) (by decide)
      refine AW_loopC (fun j : Nat => j ≤ L.length) (fun j => mkSt (wdE lamps a b L (cntR ((L.take j).flatMap (eyeR eye))) ((L.take j).flatMap (eyeR eye)).length k j) (wdO h eye out) 3) (fun j => L.length - j) 0 (Nat.zero_le _) ?_ ?_
      · (refine Le.mk ?_ ?_; all_goals (repeat' (first | exact trivial | refine sle ?_ | refine ⟨?_, rfl, ?_⟩ | refine ⟨?_, by decide, rfl, ?_⟩ | fail)))
      · intro j hj
        (repeat (refine stp ?_))
        refine AW_if rfl (fun hc => ?_) (fun hc => ?_)
        · have hj' : j < L.length := by omega
          obtain ⟨n, hn⟩ : ∃ n, L[j]? = some n := ⟨L[j], by simp [hj']⟩
          have e2 := get_map eInt hn
          have hsn2 : (L.take (j + 1)).flatMap (eyeR eye) = (L.take j).flatMap (eyeR eye) ++ eyeR eye n := flatMap_take_succ hn
          have hp1 := hPl (j + 1)
          rw [hsn2] at hp1
          generalize (L.take j).flatMap (eyeR eye) = P at hsn2 hp1 ⊢
          have hrl := range_len eye.low eye.high
          (repeat (refine stp ?_))
          refine AW_loopC (fun i : Nat => i ≤ (eye.high - eye.low + 1).toNat) (fun i => mkSt (wdE lamps a b L (cntR (P ++ ((rangeI eye.low eye.high).take i).map fun e => inB n (-e) e)) (P ++ ((rangeI eye.low eye.high).take i).map fun e => inB n (-e) e).length k j ++ [(17, .pv (vi (eye.low + i)))]) (wdO h eye out) 3) (fun i => (eye.high - eye.low + 1).toNat - i) 0 (Nat.zero_le _) ?_ ?_
          · (refine Le.mk ?_ ?_; all_goals (repeat' (first | exact trivial | refine sle ?_ | refine ⟨?_, rfl, ?_⟩ | refine ⟨?_, by decide, rfl, ?_⟩ | fail)))
            · show some (FV.pv (vi (cntR P))) = some (FV.pv (vi (cntR (P ++ ((rangeI eye.low eye.high).take 0).map fun e => inB n (-e) e)))); simp
            · show some (FV.pv (vi (P.length : Nat))) = some (FV.pv (vi ((P ++ ((rangeI eye.low eye.high).take 0).map fun e => inB n (-e) e).length : Nat))); simp
            · show some (FV.pv (vi eye.low)) = some (FV.pv (vi (eye.low + ((0 : Nat) : Int)))); simp
          · intro i hi
            have hql : (P ++ ((rangeI eye.low eye.high).take i).map fun e => inB n (-e) e).length ≤ 2000000 := by
              simp only [List.length_append, List.length_map, List.length_take, eyeR] at hp1 ⊢; omega
            have hcb := cnt_bd (P ++ ((rangeI eye.low eye.high).take i).map fun e => inB n (-e) e)
            generalize hQ : (P ++ ((rangeI eye.low eye.high).take i).map fun e => inB n (-e) e) = Q at hql hcb ⊢
            (repeat (refine stp ?_))
            refine AW_if rfl (fun hc => ?_) (fun hc => ?_)
            · have hi' : i < (eye.high - eye.low + 1).toNat := by omega
              have hsn3 : P ++ ((rangeI eye.low eye.high).take (i + 1)).map (fun e => inB n (-e) e) = Q ++ [inB n (-(eye.low + i)) (eye.low + i)] := by
                rw [← hQ, List.take_add_one, range_get hi']; simp
              (repeat' (first | refine stp ?_ | (refine AL_do2 rfl ?_; first | refine ⟨_, op_call1 rfl rfl rfl rfl (f109 n (-(eye.low + i)) (eye.low + i)), ?_⟩) | refine AL_gdec rfl rfl rfl (fun hg => ?_) (fun hg => ?_) | refine AL_gnot rfl rfl rfl (fun hg => ?_) (fun hg => ?_) | refine AL_gcases rfl rfl rfl (fun hg => ?_) (fun hg => ?_)))
              refine AW_cond rfl (fun hc2 => ?_) (fun hc2 => ?_)
              · (repeat (refine stp ?_))
                refine ⟨i + 1, hi', by omega, ?_⟩
                (refine Le.mk ?_ ?_; all_goals (repeat' (first | exact trivial | refine sle ?_ | refine ⟨?_, rfl, ?_⟩ | refine ⟨?_, by decide, rfl, ?_⟩ | fail)))
                · rw [hsn3, cntR_snoc, hc2]; rfl
                · rw [hsn3, List.length_append]; rfl
                · show some (FV.pv (vi (eye.low + i + 1))) = some (FV.pv (vi (eye.low + ((i + 1 : Nat) : Int)))); rw [show eye.low + (i : Int) + 1 = eye.low + ((i + 1 : Nat) : Int) by omega]
              · (repeat (refine stp ?_))
                refine ⟨i + 1, hi', by omega, ?_⟩
                (refine Le.mk ?_ ?_; all_goals (repeat' (first | exact trivial | refine sle ?_ | refine ⟨?_, rfl, ?_⟩ | refine ⟨?_, by decide, rfl, ?_⟩ | fail)))
                · rw [hsn3, cntR_snoc, hc2]
                  show some (FV.pv (vi (cntR Q))) = some (FV.pv (vi (cntR Q + 0))); simp
                · rw [hsn3, List.length_append]; rfl
                · show some (FV.pv (vi (eye.low + i + 1))) = some (FV.pv (vi (eye.low + ((i + 1 : Nat) : Int)))); rw [show eye.low + (i : Int) + 1 = eye.low + ((i + 1 : Nat) : Int) by omega]
            · have hi' : i = (eye.high - eye.low + 1).toNat := by omega
              have ht : (rangeI eye.low eye.high).take (eye.high - eye.low + 1).toNat = rangeI eye.low eye.high := List.take_of_length_le (by omega)
              rw [hi', ht] at hQ
              change P ++ eyeR eye n = Q at hQ
              rw [← hsn2] at hQ
              subst hQ
              (repeat (refine stp ?_))
              refine ⟨j + 1, hj', by omega, ?_⟩
              (refine Le.mk ?_ ?_; all_goals (repeat' (first | exact trivial | refine sle ?_ | refine ⟨?_, rfl, ?_⟩ | refine ⟨?_, by decide, rfl, ?_⟩ | fail)))
        · have hj' : j = L.length := by omega
          subst hj'
          rw [List.take_length]
          (repeat' (first | refine stp ?_ | (refine AL_do2 rfl ?_; first | refine ⟨_, op_call1 rfl rfl rfl rfl (f121 (cntR (L.flatMap (eyeR eye))) (L.flatMap (eyeR eye)).length), ?_⟩) | refine AL_gdec rfl rfl rfl (fun hg => ?_) (fun hg => ?_) | refine AL_gnot rfl rfl rfl (fun hg => ?_) (fun hg => ?_) | refine AL_gcases rfl rfl rfl (fun hg => ?_) (fun hg => ?_)))
          refine ⟨k + 1, hk', by omega, ?_⟩
          (refine Le.mkR [(2, 4)] ?_ ?_ rfl; all_goals (repeat' (first | exact trivial | refine sle ?_ | refine ⟨?_, rfl, ?_⟩ | refine ⟨?_, by decide, rfl, ?_⟩ | fail)))
          show some (AObj.arr 78 1 (out.map eInt ++ [[vi (wordR _ _)]])) = some (AObj.arr 78 1 (((lamps.take (k + 1)).map fun x => wordL eye (diffsR h x a b)).map eInt))
          rw [hsn, List.map_append]; rfl
    · have hk' : k = lamps.length := by omega
      rw [hk', List.take_length] at hOut
      subst hOut
      (repeat (refine stp ?_))
      exact ⟨_, _, rfl, rfl, by simp⟩
def lampsB (h : List Dye) (l : List (List Int)) : Bool := inB l.length 1 3 && !l.any (fun x => !isLampB h x)
theorem lampsB_all {h : List Dye} {l : List (List Int)} (hl : lampsB h l = true) : l.length ≤ 3 ∧ ∀ x ∈ l, LampP h x := by
  simp only [lampsB, Bool.and_eq_true, inB, decide_eq_true_eq, Bool.not_eq_true', List.any_eq_false] at hl
  exact ⟨by omega, fun x hx => lampP_of (by have := hl.2 x hx; simpa using this)⟩
theorem eyeB_of {s : Span} (h : isEyeB s = true) : 0 ≤ s.low ∧ s.low ≤ s.high ∧ s.high ≤ 200 ∧ s.high - s.low ≤ 4 := by
  simp only [isEyeB, isSpanB, Bool.and_eq_true, decide_eq_true_eq] at h; omega
set_option maxHeartbeats 1000000 in
theorem f4 (h : List Dye) (lamps : List (List Int)) (a b : List Bath) (eye : Span) : ACalls Tryz.prog 4 [eHouse h, eLamps lamps, eBaths a, eBaths b, eS eye] (fun r => r = .pv (.bool true)) := by
  have k27 := f27 h
  have k34 := f34 lamps
  refine ACalls.of_body hT Tryz.func4 rfl (by kernel_rfl) rfl ?_
  by_cases hs : slimB h = true ∧ a.length ≤ 5 ∧ b.length ≤ 5 ∧ fewB lamps = true
  · obtain ⟨hs, hla, hlb, hf⟩ := hs
    rw [hs] at k27
    rw [hf] at k34
    have hOK := slim_houseOK hs
    obtain ⟨hf1, hf2⟩ := few_ok hf
    have hlm : lampsOK lamps := ⟨by omega, fun l hl => by have := hf2 l hl; omega⟩
    have k35 := f35 h lamps a b eye hOK hlm (by omega) (by omega)
    have k30 := f30 h hOK
    have k31a := f31 h a hOK.1 (by omega)
    have k31b := f31 h b hOK.1 (by omega)
    have k36 : ACalls Tryz.prog 36 [eHouse h, eLamps lamps] (fun r => r = .pv (.bool (lampsB h lamps))) := f36 h lamps hOK.1 hlm
    have k37 := f37 eye
    by_cases hw : wordsOK h lamps a b eye = true
    · have e : wordsE h lamps a b eye = (lamps.map fun x => alikeI h x a b eye, 0) := by rw [wordsE, if_pos hw]
      simp only [wordsOK, Bool.and_eq_true] at hw
      obtain ⟨⟨⟨⟨⟨w1, w2⟩, w3⟩, w4⟩, w5⟩, w6⟩ := hw
      have w7 : lampsB h lamps = true := by simp only [lampsB, Bool.and_eq_true]; exact ⟨w2, w3⟩
      have hH := houseP_of w1
      have hA := batchP_of w4
      have hB := batchP_of w5
      have hE := eyeB_of w6
      obtain ⟨hl3, hLP⟩ := lampsB_all w7
      have e2 : (lamps.map fun x => wordL eye (diffsR h x a b)) = lamps.map fun x => alikeI h x a b eye := by
        apply List.map_congr_left
        intro x hx
        exact wordL_eq hE.2.1 (diffsR_mem hH hA hB)
      have k39 := (f39 h lamps a b eye hH (by omega) hLP hA hB ⟨hE.1, hE.2.1, hE.2.2.1⟩).pure
      rw [e2] at k39
      rw [e] at k35
      rw [w1] at k30; rw [w4] at k31a; rw [w5] at k31b; rw [w7] at k36; rw [w6] at k37
      have hWl : (lamps.map fun x => alikeI h x a b eye).length ≤ 1000 := by simp; omega
      generalize (lamps.map fun x => alikeI h x a b eye) = W at k35 k39 hWl
      have k38 := same_of (f38 W W hWl) rfl
      (repeat' (first | refine stp ?_ | (refine AL_do2 rfl ?_; first | refine ⟨_, op_call1 rfl rfl rfl rfl (k27), ?_⟩ | refine ⟨_, op_call1 rfl rfl rfl rfl (k34), ?_⟩ | refine ⟨_, op_call1 rfl rfl rfl rfl (k35), ?_⟩ | refine ⟨_, op_call1 rfl rfl rfl rfl (k30), ?_⟩ | refine ⟨_, op_call1 rfl rfl rfl rfl (k31a), ?_⟩ | refine ⟨_, op_call1 rfl rfl rfl rfl (k31b), ?_⟩ | refine ⟨_, op_call1 rfl rfl rfl rfl (k36), ?_⟩ | refine ⟨_, op_call1 rfl rfl rfl rfl (k37), ?_⟩ | refine ⟨_, op_call1 rfl rfl rfl rfl (k39), ?_⟩ | refine ⟨_, op_call1 rfl rfl rfl rfl (k38), ?_⟩ | refine ⟨_, op_call1 rfl rfl rfl rfl (f28), ?_⟩) | refine AL_gdec rfl rfl rfl (fun hg => ?_) (fun hg => ?_) | refine AL_gnot rfl rfl rfl (fun hg => ?_) (fun hg => ?_) | refine AL_gcases rfl rfl rfl (fun hg => ?_) (fun hg => ?_)))
      any_goals (exfalso; omega)
      exact ⟨_, _, rfl, rfl, rfl⟩
    · have e : wordsE h lamps a b eye = ([], 2) := by rw [wordsE, if_neg hw]
      rw [e] at k35
      (repeat' (first | refine stp ?_ | (refine AL_do2 rfl ?_; first | refine ⟨_, op_call1 rfl rfl rfl rfl (k27), ?_⟩ | refine ⟨_, op_call1 rfl rfl rfl rfl (k34), ?_⟩ | refine ⟨_, op_call1 rfl rfl rfl rfl (k35), ?_⟩ | refine ⟨_, op_call1 rfl rfl rfl rfl (k30), ?_⟩ | refine ⟨_, op_call1 rfl rfl rfl rfl (k31a), ?_⟩ | refine ⟨_, op_call1 rfl rfl rfl rfl (k31b), ?_⟩ | refine ⟨_, op_call1 rfl rfl rfl rfl (k36), ?_⟩ | refine ⟨_, op_call1 rfl rfl rfl rfl (k37), ?_⟩ | refine ⟨_, op_call1 rfl rfl rfl rfl (f28), ?_⟩) | refine AL_gdec rfl rfl rfl (fun hg => ?_) (fun hg => ?_) | refine AL_gnot rfl rfl rfl (fun hg => ?_) (fun hg => ?_) | refine AL_gcases rfl rfl rfl (fun hg => ?_) (fun hg => ?_)))
      any_goals (exfalso; omega)
      all_goals (first | exact ⟨_, _, rfl, rfl, rfl⟩ | skip)
      refine AW_cond rfl (fun hc => ?_) (fun hc => ?_)
      · (repeat' (first | refine stp ?_ | (refine AL_do2 rfl ?_; first | refine ⟨_, op_call1 rfl rfl rfl rfl (f28), ?_⟩) | refine AL_gdec rfl rfl rfl (fun hg => ?_) (fun hg => ?_) | refine AL_gnot rfl rfl rfl (fun hg => ?_) (fun hg => ?_) | refine AL_gcases rfl rfl rfl (fun hg => ?_) (fun hg => ?_)))
        exact ⟨_, _, rfl, rfl, rfl⟩
      · refine absurd ?_ hw
        simp_all [wordsOK, lampsB]
  · (repeat' (first | refine stp ?_ | (refine AL_do2 rfl ?_; first | refine ⟨_, op_call1 rfl rfl rfl rfl (k27), ?_⟩ | refine ⟨_, op_call1 rfl rfl rfl rfl (k34), ?_⟩ | refine ⟨_, op_call1 rfl rfl rfl rfl (f28), ?_⟩) | refine AL_gdec rfl rfl rfl (fun hg => ?_) (fun hg => ?_) | refine AL_gnot rfl rfl rfl (fun hg => ?_) (fun hg => ?_) | refine AL_gcases rfl rfl rfl (fun hg => ?_) (fun hg => ?_)))
    all_goals (first | exact ⟨_, _, rfl, rfl, rfl⟩ | skip)
    refine AW_cond rfl (fun hc => ?_) (fun hc => ?_)
    · (repeat' (first | refine stp ?_ | (refine AL_do2 rfl ?_; first | refine ⟨_, op_call1 rfl rfl rfl rfl (f28), ?_⟩) | refine AL_gdec rfl rfl rfl (fun hg => ?_) (fun hg => ?_) | refine AL_gnot rfl rfl rfl (fun hg => ?_) (fun hg => ?_) | refine AL_gcases rfl rfl rfl (fun hg => ?_) (fun hg => ?_)))
      exact ⟨_, _, rfl, rfl, rfl⟩
    · exact absurd ⟨by simp_all, by omega, by omega, by simpa using hc⟩ hs
end Go.Abs
