/- The bounds of an acid's strengths, as the reference has them. -/
import Derived.Test.YtmplfjolcdlipaaGreatDoorJDrW
import Derived.Test.YtmplfjolcdlipaaGreatDoorJDrF
set_option linter.unusedVariables false
set_option linter.unusedSimpArgs false
namespace Go.Abs
open Go.Proofs
set_option linter.unusedVariables false
set_option linter.unusedSimpArgs false
set_option maxRecDepth 100000
theorem AW_mid {P : Program} {nt : Nat} {x rest : Code} {Q : Exit -> ASt -> Prop} {s : ASt} (canon : ASt) (h1 : AW P nt x (Then (fun s' => Le s' canon) Q) s) (h2 : AW P nt rest Q canon) : AW P nt x (Then (AW P nt rest Q) Q) s :=
 AW_mono h1 fun e s' h => by
  cases e with
  | normal => exact AW_le h h2
  | _ => exact h
def mayI (d : Drum) (n : Nat) (a : Acid) : Bool := hasI d.known n && mayB d a
def fwL (d : Drum) (a : Acid) (m : Nat) : List Span := (List.range m).map (fwdS d a)
theorem fwL_succ (d : Drum) (a : Acid) (m : Nat) : fwL d a (m + 1) = fwL d a m ++ [fwdS d a m]:= by
 unfold fwL; rw [List.range_succ,List.map_append]; rfl
theorem fwL_len (d : Drum) (a : Acid) (m : Nat) : (fwL d a m).length = m := by simp [fwL]
theorem fwL_all {d : Drum} {a : Acid} {m : Nat} (hm : 1 <= m) (hh : m = d.hours.toNat) : fwL d a m = own2 d a m (m - 1):= by
 refine List.map_congr_left fun i hi => ?_
 have := List.mem_range.1 hi
 by_cases h1 : i < m - 1
 ·rw [if_pos h1]
 ·rw [if_neg h1,show i = d.hours.toNat - 1 by omega,strong_last]
abbrev bdO (d : Drum) (a : Acid) (l : List Span) : List (Nat × AObj) := [(0,.box ((eDrumC d).map FV.pv)),(1,.box ((eAcid a).map FV.pv)),(2,.arr 67 2 (l.map eSpan))]
set_option maxHeartbeats 8000000 in
theorem f90 (d : Drum) (hd : DrumP d) (n : Nat) (a : Acid) (hac : d.acids[n]? = some a) : ACalls Tryz.prog 90 [eDrum d,vi n] (fun r => r = .tup [eSpans (if mayI d n a then strongL d a else []),.bool (mayI d n a)]):= by
 have e1 := get_map eAcid hac
 have hal := hd.al
 have hh0 := hd.h0; have hh1 := hd.h1
 have hnl : n < d.acids.length := (List.getElem?_eq_some_iff.1 hac).1
 have ha4 := hd.a1
 have hkb := known_bd hd
 have ha := hd.acid a (List.mem_of_getElem? hac)
 have k68 := f68 d.known n hkb.1 hkb.2 (by omega)
 obtain ⟨m,hm⟩ : ∃ m : Nat,d.hours = (m : Int) := ⟨d.hours.toNat,by omega⟩
 have hmm : m = d.hours.toNat := by omega
 have s0 := ha.s0; have s1 := ha.s1; have s2 := ha.s2
 have hsl := hd.sl
 refine ACalls.of_body hT Tryz.func90 rfl (by kernel_rfl) rfl ?_
 unfold mayI
 cases qh : hasI d.known n with
 | false =>
  rw [qh] at k68
  (repeat' (first | refine stq ?_ | (refine AL_do2 rfl ?_; first | refine ⟨_,op_call1 rfl rfl rfl rfl (k68),nrmA rfl ?_⟩) | (with_reducible refine AL_id ?_); (fail_if_success (refine AL_glit rfl rfl rfl (by first | exact .inl (by with_reducible rfl) | exact .inr (by with_reducible rfl)) ?_)); first | refine AL_gdec rfl rfl rfl (fun hg => ?_) (fun hg => ?_) | refine AL_gnot rfl rfl rfl (fun hg => ?_) (fun hg => ?_) | refine AL_gcases rfl rfl rfl (fun hg => ?_) (fun hg => ?_)))
  exact ⟨_,_,rfl,rfl,rfl⟩
 | true =>
  rw [qh] at k68
  rw [Bool.true_and]
  (repeat' (first | refine stq ?_ | (refine AL_do2 rfl ?_; first | refine ⟨_,op_call1 rfl rfl rfl rfl (k68),nrmA rfl ?_⟩) | (with_reducible refine AL_id ?_); (fail_if_success (refine AL_glit rfl rfl rfl (by first | exact .inl (by with_reducible rfl) | exact .inr (by with_reducible rfl)) ?_)); first | refine AL_gdec rfl rfl rfl (fun hg => ?_) (fun hg => ?_) | refine AL_gnot rfl rfl rfl (fun hg => ?_) (fun hg => ?_) | refine AL_gcases rfl rfl rfl (fun hg => ?_) (fun hg => ?_)))
  refine AW_own_nil (e := 67) (sz := 2) (t := 7) rfl rfl ?_
  (repeat (refine stq ?_))
  refine AW_loopC (fun i : Nat => i <= m /\ ∀ j,j < i -> (fwdS d a j).low <= (fwdS d a j).high) (fun i => mkSt [(2,.box 0 0),(6,.box 1 0),(7,.arr 2),(8,.pv (vi i))] (bdO d a (fwL d a i)) 3) (fun i => m - i) 0 ⟨Nat.zero_le _,fun j h => by omega⟩ ?_ ?_
  ·(refine Le.mk ?_ ?_; all_goals (repeat' (first | exact trivial | refine sle ?_ | refine ⟨?_,rfl,?_⟩ | refine ⟨?_,by decide,rfl,?_⟩ | fail)))
  ·rintro i ⟨hi,hall⟩
   (repeat (refine stq ?_))
   refine AW_if rfl (fun hc => ?_) (fun hc => ?_)
   ·have hi' : i < m := by omega
    obtain ⟨z0,hz0⟩ : ∃ z,d.adds[0]? = some z := ⟨d.adds[0]'(by omega),by simp⟩
    have ez0 : (d.adds.map eInt)[(0 : Int).toNat]? = some (eInt z0) := get_map eInt hz0
    have hz0b := hd.add z0 (List.mem_of_getElem? hz0)
    have gz0 : d.adds.getD 0 0 = z0 := by rw [List.getD_eq_getElem?_getD,hz0]; rfl
    (repeat (refine stq ?_))
    iterate 17 (refine sdq ?_)
    refine DG_next (D_allocE hT rfl rfl rfl rfl) ?_
    refine DG_next (D_storeE hT rfl rfl rfl rfl rfl rfl rfl rfl rfl rfl) ?_
    refine DG_end hM (by kernel_rfl) ?_
    (repeat (refine stq ?_))
    refine AW_mid (mkSt [(2,.box 0 0),(6,.box 1 0),(7,.arr 2),(8,.pv (vi i)),(9,.box 3 0)] (bdO d a (fwL d a i) ++ [(3,.box ((eSpan (befS d a i)).map FV.pv))]) 4) ?_ ?_
    ·refine AW_if rfl (fun hc2 => ?_) (fun hc2 => ?_)
     ·obtain ⟨j,rfl⟩ : ∃ j,i = j + 1 := ⟨i - 1,by omega⟩
      obtain ⟨z,hz⟩ : ∃ z,d.adds[j + 1]? = some z := ⟨d.adds[j + 1]'(by omega),by simp⟩
      have ez : (d.adds.map eInt)[((j + 1 : Nat) : Int).toNat]? = some (eInt z) := get_map eInt hz
      have gz : d.adds.getD (j + 1) 0 = z := by rw [List.getD_eq_getElem?_getD,hz]; rfl
      have hzb := hd.add z (List.mem_of_getElem? hz)
      have hfb := fwd_bd hd ha j
      have hfl := hall j (by omega)
      have hf90 : (fwdS d a j).high <= 1300 := by omega
      have k139 := f139 a z (fwdS d a j) ha hzb ⟨by omega,by omega,by omega,by omega⟩
      have hbf : befS d a (j + 1) = afterS a z (fwdS d a j) := by simp only [befS,gz]
      have e5 : ((fwL d a (j + 1)).map eSpan)[(((j + 1 : Nat) : Int) - 1).toNat]? = some (eSpan (fwdS d a j)):= by
       rw [show (((j + 1 : Nat) : Int) - 1).toNat = j by omega]
       exact map_get (range_get (fwdS d a) (by omega))
      have hl2 : ((fwL d a (j + 1)).map eSpan).length = j + 1 := by simp [fwL]
      rw [hbf]
      generalize fwdS d a j = u at *
      (repeat (refine stq ?_))
      iterate 9 (refine sdq ?_)
      refine DG_next (D_indexAddr_arr (n := ((j + 1 : Nat) : Int) - 1) hT rfl rfl rfl rfl rfl rfl rfl rfl rfl (by omega) (by omega) rfl) ?_
      refine DG_next (D_load_aptr (el := eSpan u) hT rfl rfl rfl rfl rfl rfl e5 rfl) ?_
      refine DG_next (D_call rfl rfl rfl rfl rfl k139) ?_
      refine DG_end hM (by kernel_rfl) ?_
      (repeat (refine stq ?_))
      (refine Le.mk ?_ ?_; all_goals (repeat' (first | exact trivial | refine sle ?_ | refine ⟨?_,rfl,?_⟩ | refine ⟨?_,by decide,rfl,?_⟩ | fail)))
     ·have hi0 : i = 0 := by omega
      subst hi0
      have hbf : befS d a 0 = initS a z0 := by simp only [befS,gz0]
      rw [hbf]
      (repeat (refine stq ?_))
      (refine Le.mk ?_ ?_; all_goals (repeat' (first | exact trivial | refine sle ?_ | refine ⟨?_,rfl,?_⟩ | refine ⟨?_,by decide,rfl,?_⟩ | fail)))
    (repeat (refine stq ?_))
    refine AW_loopC (fun k : Nat => k <= d.strips.length) (fun k => mkSt [(2,.box 0 0),(6,.box 1 0),(7,.arr 2),(8,.pv (vi i)),(9,.box 3 0),(10,.pv (vi k))] (bdO d a (fwL d a i) ++ [(3,.box ((eSpan (stripped (d.strips.take k) i (befS d a i))).map FV.pv))]) 4) (fun k => d.strips.length - k) 0 (Nat.zero_le _) ?_ ?_
    ·(refine Le.mk ?_ ?_; all_goals (repeat' (first | exact trivial | refine sle ?_ | refine ⟨?_,rfl,?_⟩ | refine ⟨?_,by decide,rfl,?_⟩ | fail)))
    ·intro k hk
     (repeat (refine stq ?_))
     refine AW_if rfl (fun hc2 => ?_) (fun hc2 => ?_)
     ·have hk' : k < d.strips.length := by have := hd.sl; omega
      obtain ⟨x,hx⟩ : ∃ x,d.strips[k]? = some x := ⟨d.strips[k],by simp [hk']⟩
      have e3 := get_map eStrip hx
      have hP := hd.strip x (List.mem_of_getElem? hx)
      have := hP.s0; have := hP.s1; have := hP.o0; have := hP.o1
      have hst := stripped_take hx i (befS d a i)
      have k132 := f132 (stripped (d.strips.take k) i (befS d a i)) (stripSpan x)
      generalize stripped (d.strips.take k) i (befS d a i) = u at *
      (repeat (refine stq ?_))
      refine AW_if rfl (fun hc3 => ?_) (fun hc3 => ?_)
      ·rw [if_pos hc3] at hst
       (repeat' (first | refine stq ?_ | (refine AL_do2 rfl ?_; first | refine ⟨_,op_call1 rfl rfl rfl rfl (k132),nrmA rfl ?_⟩) | (with_reducible refine AL_id ?_); (fail_if_success (refine AL_glit rfl rfl rfl (by first | exact .inl (by with_reducible rfl) | exact .inr (by with_reducible rfl)) ?_)); first | refine AL_gdec rfl rfl rfl (fun hg => ?_) (fun hg => ?_) | refine AL_gnot rfl rfl rfl (fun hg => ?_) (fun hg => ?_) | refine AL_gcases rfl rfl rfl (fun hg => ?_) (fun hg => ?_)))
       refine ⟨k + 1,hk',by omega,?_⟩
       rw [hst]
       (refine Le.mk ?_ ?_; all_goals (repeat' (first | exact trivial | refine sle ?_ | refine ⟨?_,rfl,?_⟩ | refine ⟨?_,by decide,rfl,?_⟩ | fail)))
      ·rw [if_neg hc3] at hst
       (repeat (refine stq ?_))
       refine ⟨k + 1,hk',by omega,?_⟩
       rw [hst]
       (refine Le.mk ?_ ?_; all_goals (repeat' (first | exact trivial | refine sle ?_ | refine ⟨?_,rfl,?_⟩ | refine ⟨?_,by decide,rfl,?_⟩ | fail)))
     ·have hk' : k = d.strips.length := by have := hd.sl; omega
      subst hk'
      rw [List.take_length,<- fwd_bef]
      have hfs := fwL_succ d a i
      have hfl := fwL_len d a i
      have hmf := may_false (d := d) (a := a) (i := i) (by omega)
      have hfw : fwdS d a i = fwdS d a i := rfl
      generalize hu : fwdS d a i = u at *
      generalize fwL d a i = F at *
      (repeat (refine stq ?_))
      refine AW_if rfl (fun hc3 => ?_) (fun hc3 => ?_)
      ·rw [hmf hc3]
       (repeat (refine stq ?_))
       exact ⟨_,_,rfl,rfl,rfl⟩
      ·(repeat (refine stq ?_))
       refine ⟨i + 1,⟨hi',fun j hj => ?_⟩,by omega,?_⟩
       ·by_cases hji : j = i
        ·rw [hji,hu]; omega
        ·exact hall j (by omega)
       ·rw [hfs]
        (refine Le.mkR [(0,0),(1,1),(2,5)] ?_ ?_ rfl; all_goals (repeat' (first | exact trivial | refine sle ?_ | refine ⟨?_,rfl,?_⟩ | refine ⟨?_,by decide,rfl,?_⟩ | fail)))
        rw [List.map_append]; rfl
   ·have hi' : i = m := by omega
    subst hi'
    have hmay : mayB d a = true := mayB_iff.2 fun j hj => hall j (by omega)
    rw [hmay,if_pos rfl,fwL_all (by omega) hmm]
    (repeat (refine stq ?_))
    refine AW_loopC (fun h : Nat => h <= i - 1) (fun h => mkSt [(2,.box 0 0),(6,.box 1 0),(7,.arr 2),(12,.pv (vi ((h : Int) - 1)))] (bdO d a (own2 d a i h)) 3) (fun h => h) (i - 1) (Nat.le_refl _) ?_ ?_
    ·(refine Le.mk ?_ ?_; all_goals (repeat' (first | exact trivial | refine sle ?_ | refine ⟨?_,rfl,?_⟩ | refine ⟨?_,by decide,rfl,?_⟩ | fail)))
     exact congrArg some (congrArg FV.pv (congrArg vi (by omega)))
    ·intro h hh
     (repeat (refine stq ?_))
     refine AW_if rfl (fun hc2 => ?_) (fun hc2 => ?_)
     ·obtain ⟨j,rfl⟩ : ∃ j,h = j + 1 := ⟨h - 1,by omega⟩
      obtain ⟨z,hz⟩ : ∃ z,d.adds[j + 1]? = some z := ⟨d.adds[j + 1]'(by omega),by simp⟩
      have gz : d.adds.getD (j + 1) 0 = z := by rw [List.getD_eq_getElem?_getD,hz]; rfl
      have hzb := hd.add z (List.mem_of_getElem? hz)
      have ez : (d.adds.map eInt)[((j : Int) + 1).toNat]? = some (eInt z) := by rw [show ((j : Int) + 1).toNat = j + 1 by omega]; exact get_map eInt hz
      have e5 : ((own2 d a i (j + 1)).map eSpan)[(j : Int).toNat]? = some (eSpan (fwdS d a j)):= by
       rw [Int.toNat_natCast]
       have := map_get (range_get (m := i) (fun x => if x < j + 1 then fwdS d a x else strongS d a x) (i := j) (by omega))
       rw [if_pos (by omega)] at this; exact this
      have e6 : ((own2 d a i (j + 1)).map eSpan)[((j : Int) + 1).toNat]? = some (eSpan (strongS d a (j + 1))):= by
       rw [show ((j : Int) + 1).toNat = j + 1 by omega]
       have := map_get (range_get (m := i) (fun x => if x < j + 1 then fwdS d a x else strongS d a x) (i := j + 1) (by omega))
       rw [if_neg (by omega)] at this; exact this
      have hl2 : ((own2 d a i (j + 1)).map eSpan).length = i := by simp [own2]
      have hset2 := own2_pred (d := d) (a := a) (m := i) (h := j)
      have hst := strong_before (d := d) (a := a) (i := j) (by omega)
      have hb1 := strong_bd hd ha hmay (i := j + 1) (by omega)
      rw [gz] at hst
      have k142 := f142 a z (strongS d a (j + 1)) ha hzb ⟨by omega,by omega,by omega,by omega⟩
      have k132 := f132 (fwdS d a j) (beforeS a z (strongS d a (j + 1)))
      rw [<- hst] at k132
      rw [show ((j + 1 : Nat) : Int) - 1 = (j : Int) by omega]
      generalize strongS d a (j + 1) = x at *
      generalize fwdS d a j = u at *
      (repeat (refine stq ?_))
      iterate 4 (refine sdq ?_)
      refine DG_next (D_indexAddr_arr (n := (j : Int)) hT rfl rfl rfl rfl rfl rfl rfl rfl rfl (by omega) (by omega) rfl) ?_
      refine DG_next (D_load_aptr (el := eSpan u) hT rfl rfl rfl rfl rfl rfl e5 rfl) ?_
      iterate 10 (refine sdq ?_)
      refine DG_next (D_indexAddr_arr (n := (j : Int) + 1) hT rfl rfl rfl rfl rfl rfl rfl rfl rfl (by omega) (by omega) rfl) ?_
      refine DG_next (D_load_aptr (el := eSpan x) hT rfl rfl rfl rfl rfl rfl e6 rfl) ?_
      refine DG_next (D_call rfl rfl rfl rfl rfl k142) ?_
      refine DG_next (D_call rfl rfl rfl rfl rfl k132) ?_
      refine DG_next (D_indexAddr_arr (n := (j : Int)) hT rfl rfl rfl rfl rfl rfl rfl rfl rfl (by omega) (by omega) rfl) ?_
      refine DG_end hM (by kernel_rfl) ?_
      (repeat (refine stq ?_))
      refine AL_do2 rfl ⟨_,op_store_aptr (el := eSpan u) hT rfl rfl rfl rfl rfl e5 rfl rfl rfl rfl,?_⟩
      (repeat (refine stq ?_))
      refine ⟨j,by omega,by omega,?_⟩
      rw [<- hset2]
      (refine Le.mk ?_ ?_; all_goals (repeat' (first | exact trivial | refine sle ?_ | refine ⟨?_,rfl,?_⟩ | refine ⟨?_,by decide,rfl,?_⟩ | fail)))
      exact congrArg some (congrArg (AObj.arr 67 2) ((congrArg (fun q => ((own2 d a i (j + 1)).map eSpan).set q _) (Int.toNat_natCast j)).trans (map_put _ _ _)))
     ·have h0 : h = 0 := by omega
      subst h0
      rw [own2_zero hmm]
      refine AW_pure (t := 7) rfl rfl ?_
      (repeat (refine stq ?_))
      exact ⟨_,_,rfl,rfl,rfl⟩
end Go.Abs
