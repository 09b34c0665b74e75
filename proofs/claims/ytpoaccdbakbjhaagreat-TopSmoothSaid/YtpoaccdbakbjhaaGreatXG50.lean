/- Short lists, as the statement asks for them. -/
import Derived.Test.YtpoaccdbakbjhaaGreatXG49
import Derived.Test.YtpoaccdbakbjhaaGreatXG29
import Derived.Test.YtpoaccdbakbjhaaGreatXG48
import Derived.Test.YtpoaccdbakbjhaaGreatXG21
import Derived.Test.YtpoaccdbakbjhaaGreatXG47
import Derived.Test.YtpoaccdbakbjhaaGreatXG23
set_option linter.unusedVariables false
set_option linter.unusedSimpArgs false
namespace Go.Abs
open Go.Proofs
set_option maxRecDepth 100000
def shortG (l:List (List Int)):Bool:=(l.take 7).all (fun x=>decide (x.length <= 8)) && decide (l.length <= 6)
def shortW (w:Work):Bool:=shortG w.map.cells && decide (w.map.gauges.length <= 8) && decide (w.map.cracks.length <= 8) && decide (w.map.probed.length <= 12) && decide (w.tubes.length <= 4)
theorem shortG_of {l:List (List Int)} (h:shortG l = true):TallS l:= by
 simp only [shortG,Bool.and_eq_true,decide_eq_true_eq,List.all_eq_true] at h
 have h6:=h.2
 refine ⟨h6,fun x hx=>h.1 x ?_⟩
 rw [List.take_of_length_le (by omega)]; exact hx
theorem shortW_of {w:Work} (h:shortW w = true):MapS w.map /\ w.tubes.length <= 4:= by
 simp only [shortW,Bool.and_eq_true,decide_eq_true_eq] at h
 have h1:=shortG_of h.1.1.1.1
 exact ⟨⟨h1.r,h1.c,h.1.1.1.2,h.1.1.2,h.1.2⟩,h.2⟩
theorem short_no {l:List (List Int)} {k:Nat} {x:List Int} (hk:k < 7) (hx:l[k]? = some x) (h:8 < x.length):shortG l = false:= by
 have:(l.take 7)[k]? = some x:=by rw [List.getElem?_take_of_lt hk]; exact hx
 rw [shortG,tall_false this (decide_eq_false (by omega))]; rfl
theorem short_yes {l:List (List Int)} {k:Nat} (h:∀ (i:Nat) (x:List Int),i < k -> l[i]? = some x -> decide (x.length <= 8) = true) (hk:¬ (k < l.length /\ k < 7)):shortG l = decide (l.length <= 6):= by
 rw [shortG,tall_upto (fun i x hi hx=>?_)]
 ·rfl
 ·have hi2:i < l.length /\ i < 7:=by rw [List.length_take] at hi; omega
  rw [List.getElem?_take_of_lt hi2.2] at hx
  exact h i x (by omega) hx
theorem t5 (l:List (List Int)):ACalls Tryz.prog 5 [eRows l] (fun r=>r = .pv (.bool (shortG l))):= by
 refine ACalls.of_body hT Tryz.func5 rfl (by kernel_rfl) rfl ?_
 (repeat (refine stq ?_))
 refine AW_loopC (fun k:Nat=>k <= 7 /\ ∀ (i:Nat) (x:List Int),i < k -> l[i]? = some x -> decide (x.length <= 8) = true) (fun k=>mkSt [(0,.pv (eRows l)),(3,.pv (vi k))] [] 0) (fun k=>7 - k) 0 ⟨by omega,fun i x h=>by omega⟩ ?_ ?_
 ·(refine Le.mk ?_ ?_; all_goals (repeat' (first|exact trivial|refine sle ?_|refine ⟨?_,rfl,?_⟩|refine ⟨?_,by decide,rfl,?_⟩|fail)))
 ·rintro k ⟨hk,hall⟩
  (repeat' (first|refine stq ?_|(with_reducible refine AL_id ?_); (fail_if_success (refine glq rfl rfl rfl ?_)); first|refine AL_gdec rfl rfl rfl (fun hg=>?_) (fun hg=>?_)|refine AL_gnot rfl rfl rfl (fun hg=>?_) (fun hg=>?_)|refine AL_gcases rfl rfl rfl (fun hg=>?_) (fun hg=>?_)))
  ·refine AW_if rfl (fun hc=>?_) (fun hc=>?_)
   ·have hk':k < l.length:=by simp_all
    obtain ⟨x,hx⟩:∃ x,l[k]? = some x:=⟨l[k],by simp [hk']⟩
    have e1:=get_map eRow hx
    (repeat (refine stq ?_))
    refine AW_if rfl (fun hc2=>?_) (fun hc2=>?_)
    ·(repeat (refine stq ?_))
     exact ⟨_,_,rfl,rfl,by rw [short_no (by omega) hx (by omega)]⟩
    ·(repeat (refine stq ?_))
     refine ⟨k + 1,⟨by omega,tstep_all hall hx (decide_eq_true (by omega))⟩,by omega,?_⟩
     (refine Le.mk ?_ ?_; all_goals (repeat' (first|exact trivial|refine sle ?_|refine ⟨?_,rfl,?_⟩|refine ⟨?_,by decide,rfl,?_⟩|fail)))
   ·(repeat (refine stq ?_))
    exact ⟨_,_,rfl,rfl,by rw [short_yes hall (by omega)]; simp only [PV.bool.injEq,RV.pv.injEq,decide_eq_decide]; omega⟩
  ·(repeat (refine stq ?_))
   exact ⟨_,_,rfl,rfl,by rw [short_yes hall (by omega)]; simp only [PV.bool.injEq,RV.pv.injEq,decide_eq_decide]; omega⟩
def work11B (w:Work):Bool:=shortW w && workB w
theorem t4 (w:Work):ACalls Tryz.prog 4 [eWork w] (fun r=>r = .pv (.bool (work11B w))):= by
 refine ACalls.of_body hT Tryz.func4 rfl (by kernel_rfl) rfl ?_
 (repeat (refine stq ?_))
 refine AW_loopC (fun k:Nat=>k <= 7 /\ ∀ (i:Nat) (x:List Int),i < k -> w.map.cells[i]? = some x -> decide (x.length <= 8) = true) (fun k=>mkSt [(1,.box 0 0),(3,.pv (vi k))] [(0,boW w)] 1) (fun k=>7 - k) 0 ⟨by omega,fun i x h=>by omega⟩ ?_ ?_
 ·(refine Le.mk ?_ ?_; all_goals (repeat' (first|exact trivial|refine sle ?_|refine ⟨?_,rfl,?_⟩|refine ⟨?_,by decide,rfl,?_⟩|fail)))
 ·rintro k ⟨hk,hall⟩
  by_cases hkl:k < w.map.cells.length /\ k < 7
  ·obtain ⟨x,hx⟩:∃ x,w.map.cells[k]? = some x:=⟨w.map.cells[k],by simp [hkl.1]⟩
   have e1:=get_map eRow hx
   (repeat' (first|refine stq ?_|(with_reducible refine AL_id ?_); (fail_if_success (refine glq rfl rfl rfl ?_)); first|refine AL_gdec rfl rfl rfl (fun hg=>?_) (fun hg=>?_)|refine AL_gnot rfl rfl rfl (fun hg=>?_) (fun hg=>?_)|refine AL_gcases rfl rfl rfl (fun hg=>?_) (fun hg=>?_)))
   ·refine AW_if rfl (fun hc=>?_) (fun hc=>absurd hkl.2 (by omega))
    (repeat (refine stq ?_))
    refine AW_if rfl (fun hc2=>?_) (fun hc2=>?_)
    ·(repeat (refine stq ?_))
     exact ⟨_,_,rfl,rfl,by rw [work11B,shortW,short_no (by omega) hx (by omega)]; rfl⟩
    ·(repeat (refine stq ?_))
     refine ⟨k + 1,⟨by omega,tstep_all hall hx (decide_eq_true (by omega))⟩,by omega,?_⟩
     (refine Le.mk ?_ ?_; all_goals (repeat' (first|exact trivial|refine sle ?_|refine ⟨?_,rfl,?_⟩|refine ⟨?_,by decide,rfl,?_⟩|fail)))
   all_goals (exfalso; omega)
  ·have hsg:=short_yes hall hkl
   cases hs:shortW w with
   | true =>
    have hs2:=shortW_of hs
    have k15:=t15 w hs2.1 hs2.2
    have:=hs2.1.r; have:=hs2.1.g; have:=hs2.1.k; have:=hs2.1.p; have:=hs2.2
    (repeat' (first|refine stq ?_|(refine AL_do2 rfl ?_; first|refine ⟨_,op_call1 rfl rfl rfl rfl (k15),nrmA rfl ?_⟩)|((first|(with_reducible refine AL_id ?_); (fail_if_success (refine glq rfl rfl rfl ?_)); first|refine AL_gdec rfl rfl rfl (fun hg=>?_) (fun hg=>?_)|refine AL_gnot rfl rfl rfl (fun hg=>?_) (fun hg=>?_)|refine AL_gcases rfl rfl rfl (fun hg=>?_) (fun hg=>?_)) <;> (try (exfalso; omega)))|refine AW_if rfl (fun hc=>absurd hc (by omega)) (fun _=>?_)|refine AW_if rfl (fun _=>?_) (fun hc=>absurd (by omega) hc)))
    all_goals (try (exfalso; omega))
    all_goals exact ⟨_,_,rfl,rfl,by rw [work11B,hs]; first|rfl|(simp; done)⟩
   | false =>
    have hs2:¬ (w.map.cells.length <= 6 /\ w.map.gauges.length <= 8 /\ w.map.cracks.length <= 8 /\ w.map.probed.length <= 12 /\ w.tubes.length <= 4):= by
     rw [shortW,hsg] at hs
     simp only [Bool.and_eq_false_iff,decide_eq_false_iff_not] at hs
     omega
    (repeat' (first|refine stq ?_|((first|(with_reducible refine AL_id ?_); (fail_if_success (refine glq rfl rfl rfl ?_)); first|refine AL_gdec rfl rfl rfl (fun hg=>?_) (fun hg=>?_)|refine AL_gnot rfl rfl rfl (fun hg=>?_) (fun hg=>?_)|refine AL_gcases rfl rfl rfl (fun hg=>?_) (fun hg=>?_)) <;> (try (exfalso; omega)))|refine AW_if rfl (fun hc=>absurd hc (by omega)) (fun _=>?_)|refine AW_if rfl (fun _=>?_) (fun hc=>absurd (by omega) hc)))
    all_goals (try (exfalso; omega))
    all_goals exact ⟨_,_,rfl,rfl,by rw [work11B,hs]; first|rfl|(simp; done)|(simp; omega)⟩
end Go.Abs
namespace Go.Abs
open Go.Proofs
set_option maxRecDepth 100000
theorem f63 (d:Drum) (acid:Int) (t:List Int) (hd:d.acids.length <= 1000) (ht:t.length <= 1000):ACalls Tryz.prog 21 [eDrum d,eTruth acid t] (fun r=>r = .pv (.bool (sizedB d acid t))):= by
 have k:=f103 acid 0 (d.acids.length - 1)
 refine ACalls.of_body hT Tryz.func21 rfl (by kernel_rfl) rfl ?_
 (repeat' (first|refine stq ?_|(refine AL_do2 rfl ?_; first|refine ⟨_,op_call1 rfl rfl rfl rfl (k),nrmA rfl ?_⟩)|(with_reducible refine AL_id ?_); (fail_if_success (refine glq rfl rfl rfl ?_)); first|refine AL_gdec rfl rfl rfl (fun hg=>?_) (fun hg=>?_)|refine AL_gnot rfl rfl rfl (fun hg=>?_) (fun hg=>?_)|refine AL_gcases rfl rfl rfl (fun hg=>?_) (fun hg=>?_)))
 all_goals exact ⟨_,_,rfl,rfl,by simp_all [sizedB]; try omega⟩
set_option maxHeartbeats 8000000 in
theorem f72 (d:Drum) (a:Acid) (acid:Int) (t:List Int) (hd:DrumP d) (h0:0 <= acid) (hac:d.acids[acid.toNat]? = some a) (ht:(t.length:Int) = d.hours):ACalls Tryz.prog 22 [eDrum d,eTruth acid t] (fun r=>r = .pv (.bool (bitI d.known acid.toNat && truesB d a t))):= by
 obtain ⟨n,rfl⟩:∃ n:Nat,acid = n:=⟨acid.toNat,by omega⟩
 simp only [Int.toNat_natCast] at hac ⊢
 have ha:=hd.acid a (List.mem_of_getElem? hac)
 have h11:=hd.h0
 have h12:=hd.h1
 have hal:=hd.al
 have hnl:n < d.acids.length:=(List.getElem?_eq_some_iff.1 hac).1
 have ha4:=hd.a1
 have hkb:=known_bd hd
 have k68:=f68 d.known n hkb.1 hkb.2 (by omega)
 rw [<- bit_has hkb.1 hkb.2 (by omega)] at k68
 have e1:=get_map eAcid hac
 have hsl:=hd.sl
 have:=ha.s0; have:=ha.s1; have:=ha.s2; have:=ha.f0; have:=ha.f1; have:=ha.f2
 refine ACalls.of_body hT Tryz.func22 rfl (by kernel_rfl) rfl ?_
 cases q:bitI d.known n with
 | false =>
  rw [q] at k68
  (repeat' (first|refine stq ?_|(refine AL_do2 rfl ?_; first|refine ⟨_,op_call1 rfl rfl rfl rfl (k68),nrmA rfl ?_⟩)|(with_reducible refine AL_id ?_); (fail_if_success (refine glq rfl rfl rfl ?_)); first|refine AL_gdec rfl rfl rfl (fun hg=>?_) (fun hg=>?_)|refine AL_gnot rfl rfl rfl (fun hg=>?_) (fun hg=>?_)|refine AL_gcases rfl rfl rfl (fun hg=>?_) (fun hg=>?_)))
  exact ⟨_,_,rfl,rfl,rfl⟩
 | true =>
  rw [q] at k68
  (repeat' (first|refine stq ?_|(refine AL_do2 rfl ?_; first|refine ⟨_,op_call1 rfl rfl rfl rfl (k68),nrmA rfl ?_⟩)|(with_reducible refine AL_id ?_); (fail_if_success (refine glq rfl rfl rfl ?_)); first|refine AL_gdec rfl rfl rfl (fun hg=>?_) (fun hg=>?_)|refine AL_gnot rfl rfl rfl (fun hg=>?_) (fun hg=>?_)|refine AL_gcases rfl rfl rfl (fun hg=>?_) (fun hg=>?_)))
  refine AW_loopC (fun k:Nat=>k <= t.length /\ ∀ i,i < k -> stepsB d a t i = true) (fun k=>mkSt [(2,.box 0 0),(3,.box 1 0),(5,.box 2 0),(6,.pv (vi k))] (fiO d n t a) 3) (fun k=>t.length - k) 0 ⟨Nat.zero_le _,by simp⟩ ?_ ?_
  ·(refine Le.mk ?_ ?_; all_goals (repeat' (first|exact trivial|refine sle ?_|refine ⟨?_,rfl,?_⟩|refine ⟨?_,by decide,rfl,?_⟩|fail)))
  ·rintro k ⟨hk,hall⟩
   (repeat (refine stq ?_))
   refine AW_if rfl (fun hc=>?_) (fun hc=>?_)
   ·have hk':k < t.length:=by omega
    obtain ⟨x,hx⟩:∃ x,t[k]? = some x:=⟨t[k],by simp [hk']⟩
    obtain ⟨y,hy⟩:∃ y,d.adds[k]? = some y:=⟨d.adds[k]'(by omega),by simp⟩
    obtain ⟨z0,hz0⟩:∃ z,d.adds[0]? = some z:=⟨d.adds[0]'(by omega),by simp⟩
    have ez0:(d.adds.map eInt)[(0:Int).toNat]? = some (eInt z0):=get_map eInt hz0
    have hz0b:=hd.add z0 (List.mem_of_getElem? hz0)
    have e2:=get_map eInt hx
    have e3:=get_map eInt hy
    have hyb:=hd.add y (List.mem_of_getElem? hy)
    have gx:t.getD k 0 = x:=by rw [List.getD_eq_getElem?_getD,hx]; rfl
    have gy:d.adds.getD k 0 = y:=by rw [List.getD_eq_getElem?_getD,hy]; rfl
    have fall:stepsB d a t k = false -> truesB d a t = false:=fun h=>by
     cases hb:truesB d a t with
     | false=>rfl
     | true=>have:=(steps_iff.1 hb).1 k (by omega); rw [h] at this; cases this
    have next:stepsB d a t k = true -> ∀ i,i < k + 1 -> stepsB d a t i = true:=fun h i hi=>by
     by_cases hik:i = k
     ·rw [hik]; exact h
     ·exact hall i (by omega)
    (repeat (refine stq ?_))
    iterate 17 (refine sdq ?_)
    refine DG_next (D_allocE hT rfl rfl rfl rfl) ?_
    refine DG_next (D_storeE hT rfl rfl rfl rfl rfl rfl rfl rfl rfl rfl) ?_
    refine DG_end hM (by kernel_rfl) ?_
    (repeat (refine stq ?_))
    by_cases hk0:k = 0
    ·subst hk0
     have hyz:y = z0:=Option.some.inj (hy.symm.trans hz0)
     subst hyz
     have es:stepsB d a t 0 = inB x (a.strength.low + y) (a.strength.high + y):= by
      simp only [stepsB,if_true,gx,gy,initS]
     have k103:=f103 x (a.strength.low + y) (a.strength.high + y)
     refine AW_if rfl (fun hc=>by omega) (fun _=>?_)
     cases hb:inB x (a.strength.low + y) (a.strength.high + y) with
     | false =>
      rw [hb] at k103 es
      (repeat (refine stq ?_))
      (repeat (first|refine sdq ?_|refine DG_next (D_call rfl rfl rfl rfl rfl (k103)) ?_))
      refine DG_end hM (by kernel_rfl) ?_
      (repeat (refine stq ?_))
      exact ⟨_,_,rfl,rfl,by rw [fall es]; rfl⟩
     | true =>
      rw [hb] at k103 es
      (repeat (refine stq ?_))
      (repeat (first|refine sdq ?_|refine DG_next (D_call rfl rfl rfl rfl rfl (k103)) ?_))
      refine DG_end hM (by kernel_rfl) ?_
      (repeat (refine stq ?_))
      refine ⟨0 + 1,⟨hk',next es⟩,by omega,?_⟩
      (refine Le.mk ?_ ?_; all_goals (repeat' (first|exact trivial|refine sle ?_|refine ⟨?_,rfl,?_⟩|refine ⟨?_,by decide,rfl,?_⟩|fail)))
    ·obtain ⟨z,hz⟩:∃ z,t[k - 1]? = some z:=⟨t[k - 1]'(by omega),by simp⟩
     have gz:t.getD (k - 1) 0 = z:=by rw [List.getD_eq_getElem?_getD,hz]; rfl
     have e4:(t.map eInt)[((k:Int) - 1).toNat]? = some (eInt z):= by
      rw [show ((k:Int) - 1).toNat = k - 1 by omega]; exact get_map eInt hz
     have hzb:=steps_bd hd ha (t:=t) (k - 1) (fun i hi=>hall i (by omega))
     rw [gz] at hzb
     have haf:afterS a y ⟨z,z⟩ = ⟨max 0 (z - a.fall.high) + y,max 0 (z - a.fall.low) + y⟩:=rfl
     have k139:=f139 a y ⟨z,z⟩ ha hyb ⟨by simp only; omega,by simp only; omega,by simp only; omega,by simp only; omega⟩
     rw [haf] at k139
     have es:stepsB d a t k = inB x (max 0 (z - a.fall.high) + y) (max 0 (z - a.fall.low) + y):= by
      simp only [stepsB,if_neg hk0,gx,gy,gz,afterS]
     have k103:=f103 x (max 0 (z - a.fall.high) + y) (max 0 (z - a.fall.low) + y)
     refine AW_if rfl (fun _=>?_) (fun hc=>by omega)
     cases hb:inB x (max 0 (z - a.fall.high) + y) (max 0 (z - a.fall.low) + y) with
     | false =>
      rw [hb] at k103 es
      (repeat (refine stq ?_))
      (repeat (first|refine sdq ?_|refine DG_next (D_call rfl rfl rfl rfl rfl (k139)) ?_))
      refine DG_end hM (by kernel_rfl) ?_
      (repeat (refine stq ?_))
      (repeat (first|refine sdq ?_|refine DG_next (D_call rfl rfl rfl rfl rfl (k103)) ?_))
      refine DG_end hM (by kernel_rfl) ?_
      (repeat (refine stq ?_))
      exact ⟨_,_,rfl,rfl,by rw [fall es]; rfl⟩
     | true =>
      rw [hb] at k103 es
      (repeat (refine stq ?_))
      (repeat (first|refine sdq ?_|refine DG_next (D_call rfl rfl rfl rfl rfl (k139)) ?_))
      refine DG_end hM (by kernel_rfl) ?_
      (repeat (refine stq ?_))
      (repeat (first|refine sdq ?_|refine DG_next (D_call rfl rfl rfl rfl rfl (k103)) ?_))
      refine DG_end hM (by kernel_rfl) ?_
      (repeat (refine stq ?_))
      refine ⟨k + 1,⟨hk',next es⟩,by omega,?_⟩
      (refine Le.mk ?_ ?_; all_goals (repeat' (first|exact trivial|refine sle ?_|refine ⟨?_,rfl,?_⟩|refine ⟨?_,by decide,rfl,?_⟩|fail)))
   ·have hk':k = t.length:=by omega
    subst hk'
    have hts:truesB d a t = d.strips.all (seenB t):= by
     unfold truesB
     rw [show ((List.range d.hours.toNat).all (stepsB d a t)) = true from List.all_eq_true.2 fun i hi=>hall i (by have:=List.mem_range.1 hi; omega)]
     rfl
    (repeat (refine stq ?_))
    refine AW_loopC (fun k:Nat=>k <= d.strips.length /\ ∀ x ∈ d.strips.take k,seenB t x = true) (fun k=>mkSt [(2,.box 0 0),(3,.box 1 0),(8,.pv (vi k))] [(0,.box ((eDrumC d).map FV.pv)),(1,.box [.pv (vi n),.pv (eInts t)])] 3) (fun k=>d.strips.length - k) 0 ⟨Nat.zero_le _,by simp⟩ ?_ ?_
    ·(refine Le.mk ?_ ?_; all_goals (repeat' (first|exact trivial|refine sle ?_|refine ⟨?_,rfl,?_⟩|refine ⟨?_,by decide,rfl,?_⟩|fail)))
    ·rintro k ⟨hk,hall2⟩
     (repeat (refine stq ?_))
     refine AW_if rfl (fun hc2=>?_) (fun hc2=>?_)
     ·have hk':k < d.strips.length:=by omega
      obtain ⟨s,hs⟩:∃ x,d.strips[k]? = some x:=⟨d.strips[k],by simp [hk']⟩
      have e5:=get_map eStrip hs
      have hP:=hd.strip s (List.mem_of_getElem? hs)
      have:=hP.h0; have:=hP.h1; have:=hP.s0; have:=hP.s1; have:=hP.o0; have:=hP.o1
      obtain ⟨x,hx⟩:∃ x,t[s.hour.toNat]? = some x:=⟨t[s.hour.toNat]'(by omega),by simp⟩
      have e6:=get_map eInt hx
      have e7:seenB t s = inB x (s.seen - s.off) (s.seen + s.off):=by unfold seenB; rw [List.getD_eq_getElem?_getD,hx]; rfl
      have k103:=f103 x (s.seen - s.off) (s.seen + s.off)
      rw [<- e7] at k103
      cases hb:seenB t s with
      | false =>
       rw [hb] at k103
       (repeat (refine stq ?_))
       (repeat (first|refine sdq ?_|refine DG_next (D_call rfl rfl rfl rfl rfl (k103)) ?_))
       refine DG_end hM (by kernel_rfl) ?_
       (repeat (refine stq ?_))
       exact ⟨_,_,rfl,rfl,by
        rw [hts]
        rw [show d.strips.all (seenB t) = false from List.all_eq_false.2 ⟨s,List.mem_of_getElem? hs,by rw [hb]; decide⟩]; rfl⟩
      | true =>
       rw [hb] at k103
       (repeat (refine stq ?_))
       (repeat (first|refine sdq ?_|refine DG_next (D_call rfl rfl rfl rfl rfl (k103)) ?_))
       refine DG_end hM (by kernel_rfl) ?_
       (repeat (refine stq ?_))
       refine ⟨k + 1,⟨hk',fun x hx=>?_⟩,by omega,?_⟩
       ·rw [List.take_add_one,List.mem_append] at hx
        rcases hx with hx|hx
        ·exact hall2 x hx
        ·rw [hs] at hx; simp at hx; rw [hx]; exact hb
       ·(refine Le.mk ?_ ?_; all_goals (repeat' (first|exact trivial|refine sle ?_|refine ⟨?_,rfl,?_⟩|refine ⟨?_,by decide,rfl,?_⟩|fail)))
     ·have hk':k = d.strips.length:=by omega
      subst hk'
      (repeat (refine stq ?_))
      exact ⟨_,_,rfl,rfl,by
       rw [hts,List.all_eq_true.2 fun x hx=>hall2 x (by rw [List.take_length]; exact hx)]; rfl⟩
end Go.Abs
namespace Go.Abs
open Go.Proofs
set_option maxRecDepth 100000
def fitsD (d:Drum) (acid:Int) (t:List Int):Bool:=match d.acids[acid.toNat]? with
 | some a=>bitI d.known acid.toNat && truesB d a t
 | none=>false
def shortD (d:Drum) (t:List Int):Bool:=decide (d.acids.length <= 4) && decide (d.adds.length <= 12) && decide (d.strips.length <= 6) && decide (d.batches.length <= 5) && decide (t.length <= 12)
def drum11B (d:Drum) (acid:Int) (t:List Int):Bool:=shortD d t && drumB d && sizedB d acid t && fitsD d acid t
theorem t9 (d:Drum) (acid:Int) (t:List Int):ACalls Tryz.prog 9 [eDrum d,eTruth acid t] (fun r=>r = .pv (.bool (drum11B d acid t))):= by
 refine ACalls.of_body hT Tryz.func9 rfl (by kernel_rfl) rfl ?_
 cases hs:shortD d t with
 | false =>
  have hs2:=hs
  simp only [shortD,Bool.and_eq_false_iff,decide_eq_false_iff_not] at hs2
  (repeat' (first|refine stq ?_|(with_reducible refine AL_id ?_); (fail_if_success (refine glq rfl rfl rfl ?_)); first|refine AL_gdec rfl rfl rfl (fun hg=>?_) (fun hg=>?_)|refine AL_gnot rfl rfl rfl (fun hg=>?_) (fun hg=>?_)|refine AL_gcases rfl rfl rfl (fun hg=>?_) (fun hg=>?_)))
  all_goals (try (exfalso; omega))
  all_goals exact ⟨_,_,rfl,rfl,by rw [drum11B,hs]; first|rfl|(simp; done)|(simp; omega)⟩
 | true =>
  have hs2:=hs
  simp only [shortD,Bool.and_eq_true,decide_eq_true_eq] at hs2
  obtain ⟨⟨⟨⟨h1,h2⟩,h3⟩,h4⟩,h5⟩:=hs2
  have hd:drumOK d:=⟨by omega,by omega,by omega,by omega⟩
  have k20:=f39 d hd
  have k21:=f63 d acid t (by omega) (by omega)
  cases q1:drumB d with
  | false =>
   rw [q1] at k20
   (repeat' (first|refine stq ?_|(refine AL_do2 rfl ?_; first|refine ⟨_,op_call1 rfl rfl rfl rfl (k20),nrmA rfl ?_⟩)|(with_reducible refine AL_id ?_); (fail_if_success (refine glq rfl rfl rfl ?_)); first|refine AL_gdec rfl rfl rfl (fun hg=>?_) (fun hg=>?_)|refine AL_gnot rfl rfl rfl (fun hg=>?_) (fun hg=>?_)|refine AL_gcases rfl rfl rfl (fun hg=>?_) (fun hg=>?_)))
   all_goals (try (exfalso; first|omega|(simp at hg; done)))
   all_goals exact ⟨_,_,rfl,rfl,by rw [drum11B,hs,q1]; rfl⟩
  | true =>
   rw [q1] at k20
   cases q2:sizedB d acid t with
   | false =>
    rw [q2] at k21
    (repeat' (first|refine stq ?_|(refine AL_do2 rfl ?_; first|refine ⟨_,op_call1 rfl rfl rfl rfl (k20),nrmA rfl ?_⟩|refine ⟨_,op_call1 rfl rfl rfl rfl (k21),nrmA rfl ?_⟩)|(with_reducible refine AL_id ?_); (fail_if_success (refine glq rfl rfl rfl ?_)); first|refine AL_gdec rfl rfl rfl (fun hg=>?_) (fun hg=>?_)|refine AL_gnot rfl rfl rfl (fun hg=>?_) (fun hg=>?_)|refine AL_gcases rfl rfl rfl (fun hg=>?_) (fun hg=>?_)))
    all_goals (try (exfalso; first|omega|(simp at hg; done)))
    all_goals exact ⟨_,_,rfl,rfl,by rw [drum11B,hs,q1,q2]; rfl⟩
   | true =>
    rw [q2] at k21
    have hsz:=q2
    simp only [sizedB,Bool.and_eq_true,decide_eq_true_eq] at hsz
    have hb:=inB_true hsz.1
    obtain ⟨a,ha⟩:∃ a,d.acids[acid.toNat]? = some a:=⟨d.acids[acid.toNat]'(by omega),by simp⟩
    have k22:=f72 d a acid t (drumP_of.1 q1) hb.1 ha hsz.2
    (repeat' (first|refine stq ?_|(refine AL_do2 rfl ?_; first|refine ⟨_,op_call1 rfl rfl rfl rfl (k20),nrmA rfl ?_⟩|refine ⟨_,op_call1 rfl rfl rfl rfl (k21),nrmA rfl ?_⟩|refine ⟨_,op_call1 rfl rfl rfl rfl (k22),nrmA rfl ?_⟩)|(with_reducible refine AL_id ?_); (fail_if_success (refine glq rfl rfl rfl ?_)); first|refine AL_gdec rfl rfl rfl (fun hg=>?_) (fun hg=>?_)|refine AL_gnot rfl rfl rfl (fun hg=>?_) (fun hg=>?_)|refine AL_gcases rfl rfl rfl (fun hg=>?_) (fun hg=>?_)))
    all_goals (try (exfalso; first|omega|(simp at hg; done)))
    all_goals exact ⟨_,_,rfl,rfl,by rw [drum11B,hs,q1,q2,fitsD,ha]; rfl⟩
end Go.Abs
namespace Go.Abs
open Go.Proofs
set_option maxRecDepth 100000
theorem fits_mem {d:Drum} {acid:Int} {t:List Int} (hP:DrumP d) (hz:sizedB d acid t = true) (hq:fitsB d acid t = true) :
  (d.acids.getD acid.toNat ⟨⟨0,0⟩,⟨0,0⟩⟩,acid.toNat) ∈ filledL d /\ truesB d (d.acids.getD acid.toNat ⟨⟨0,0⟩,⟨0,0⟩⟩) t = true /\ t.length = d.hours.toNat:= by
 obtain ⟨h0,hac,hl⟩:=sized_of hz
 simp only [fitsB,Bool.and_eq_true] at hq
 have ha:=hP.acid _ (List.mem_of_getElem? hac)
 have hkb:=known_bd hP
 have hn:=(List.getElem?_eq_some_iff.1 hac).1
 have ha4:=hP.a1
 refine ⟨filled_mem.2 ⟨hac,?_,true_may hP ha hq.2⟩,hq.2,by omega⟩
 rw [<- bit_has hkb.1 hkb.2 (by omega)]
 exact hq.1
theorem sure_state {d:Drum} {acid:Int} {t:List Int} (hP:DrumP d) (hz:sizedB d acid t = true) (hq:fitsB d acid t = true) {h:Nat} (hh:h <= d.hours.toNat) (hw:inS (allW d) h):∀ b ∈ d.batches,(stateI b t h).rough <= b.goal /\ b.least <= (stateI b t h).thick:=fun b hb=>by
 obtain ⟨hm,htr,htl⟩:=fits_mem hP hz hq
 have hne:filledL d ≠ []:=fun e=>by rw [e] at hm; cases hm
 obtain ⟨w1,w2,w3,w4⟩:=state_bounds hP (hP.batch b hb) hm htl htr (h:=h) hh
 have hs:=(all_sure hP hne hh).1 hw b hb
 simp only [sureB,Bool.and_eq_true,decide_eq_true_eq] at hs
 omega
def thickB (b:Batch) (n:Int):Batch:=⟨b.rough,b.goal,n,b.least,b.polish,b.eat⟩
def tubeD (d:Drum) (k:Nat) (b:Batch) (n:Int):Drum:=⟨d.acids,d.known,d.hours,d.adds,d.strips,d.batches.set k (thickB b n)⟩
theorem tubeD_P {d:Drum} (hP:DrumP d) {k:Nat} {b:Batch} (hb:d.batches[k]? = some b) {n:Int} (hn:1 <= n /\ n <= 60):DrumP (tubeD d k b n):= by
 refine ⟨hP.a0,hP.a1,hP.k0,hP.k1,hP.h0,hP.h1,hP.al,hP.sl,?_,?_,hP.acid,hP.add,hP.strip,fun x hx=>?_⟩
 ·show 1 <= (d.batches.set k _).length
  rw [List.length_set]; exact hP.b0
 ·show (d.batches.set k _).length <= 5
  rw [List.length_set]; exact hP.b1
 ·rcases List.mem_or_eq_of_mem_set hx with h|h
  ·exact hP.batch x h
  ·subst h
   have h1:=hP.batch b (List.mem_of_getElem? hb)
   exact ⟨h1.r0,h1.r1,h1.g0,h1.g1,by show 0 <= n; omega,by show n <= 1000; omega,h1.l0,h1.l1,h1.p0,h1.p1,h1.e0,h1.e1⟩
theorem fitsD_B {d:Drum} {acid:Int} {t:List Int} (h:fitsD d acid t = true):fitsB d acid t = true:= by
 rw [fitsD] at h
 split at h
 ·rename_i a ha
  rw [fitsB,List.getD_eq_getElem?_getD,ha]; exact h
 ·cases h
end Go.Abs
namespace Go.Abs
open Go.Proofs
set_option maxRecDepth 100000
abbrev t3A (w:Work) (th:List (List Int)) (n:Int) (d:Drum) (acid:Int) (t:List Int) (b hours:Int):List PV:=[eWork w,eRows th,vi n,eDrum d,eTruth acid t,vi b,vi hours]
def ask11 (w:Work) (th:List (List Int)) (n:Int) (d:Drum) (acid:Int) (t:List Int):Bool:=work11B w && shortG th && sizedT w.map th && fitsT w.map th && inB n 0 (w.tubes.length - 1) && drum11B d acid t
set_option maxHeartbeats 16000000 in
theorem t3no (w:Work) (th:List (List Int)) (n:Int) (d:Drum) (acid:Int) (t:List Int) (b hours:Int) (hA:ask11 w th n d acid t = false):ACalls Tryz.prog 3 (t3A w th n d acid t b hours) (fun r=>r = .pv (.bool true)):= by
 have k10:=t10
 have k4:=t4 w
 have k5:=t5 th
 have k9:=t9 d acid t
 cases q4:work11B w with
 | false =>
  rw [q4] at k4
  refine ACalls.of_body hT Tryz.func3 rfl (by kernel_rfl) rfl ?_
  (repeat' (first|refine stq ?_|(refine AL_do2 rfl ?_; first|refine ⟨_,op_call1 rfl rfl rfl rfl (k4),nrmA rfl ?_⟩|refine ⟨_,op_call1 rfl rfl rfl rfl (k10),nrmA rfl ?_⟩)|(with_reducible refine AL_id ?_); (fail_if_success (refine glq rfl rfl rfl ?_)); first|refine AL_gdec rfl rfl rfl (fun hg=>?_) (fun hg=>?_)|refine AL_gnot rfl rfl rfl (fun hg=>?_) (fun hg=>?_)|refine AL_gcases rfl rfl rfl (fun hg=>?_) (fun hg=>?_)))
  exact ⟨_,_,rfl,rfl,rfl⟩
 | true =>
  rw [q4] at k4
  cases q5:shortG th with
  | false =>
   rw [q5] at k5
   refine ACalls.of_body hT Tryz.func3 rfl (by kernel_rfl) rfl ?_
   (repeat' (first|refine stq ?_|(refine AL_do2 rfl ?_; first|refine ⟨_,op_call1 rfl rfl rfl rfl (k4),nrmA rfl ?_⟩|refine ⟨_,op_call1 rfl rfl rfl rfl (k5),nrmA rfl ?_⟩|refine ⟨_,op_call1 rfl rfl rfl rfl (k10),nrmA rfl ?_⟩)|(with_reducible refine AL_id ?_); (fail_if_success (refine glq rfl rfl rfl ?_)); first|refine AL_gdec rfl rfl rfl (fun hg=>?_) (fun hg=>?_)|refine AL_gnot rfl rfl rfl (fun hg=>?_) (fun hg=>?_)|refine AL_gcases rfl rfl rfl (fun hg=>?_) (fun hg=>?_)))
   exact ⟨_,_,rfl,rfl,rfl⟩
  | true =>
   rw [q5] at k5
   rw [work11B,Bool.and_eq_true] at q4
   have hw:=workP_of q4.2
   have k6:=t6 w.map th hw.map.short (shortG_of q5)
   cases q6:sizedT w.map th with
   | false =>
    rw [q6] at k6
    refine ACalls.of_body hT Tryz.func3 rfl (by kernel_rfl) rfl ?_
    (repeat' (first|refine stq ?_|(refine AL_do2 rfl ?_; first|refine ⟨_,op_call1 rfl rfl rfl rfl (k4),nrmA rfl ?_⟩|refine ⟨_,op_call1 rfl rfl rfl rfl (k5),nrmA rfl ?_⟩|refine ⟨_,op_call1 rfl rfl rfl rfl (k6),nrmA rfl ?_⟩|refine ⟨_,op_call1 rfl rfl rfl rfl (k10),nrmA rfl ?_⟩)|(with_reducible refine AL_id ?_); (fail_if_success (refine glq rfl rfl rfl ?_)); first|refine AL_gdec rfl rfl rfl (fun hg=>?_) (fun hg=>?_)|refine AL_gnot rfl rfl rfl (fun hg=>?_) (fun hg=>?_)|refine AL_gcases rfl rfl rfl (fun hg=>?_) (fun hg=>?_)))
    exact ⟨_,_,rfl,rfl,rfl⟩
   | true =>
    rw [q6] at k6
    have k7:=t7 w.map th hw.map q6
    cases q7:fitsT w.map th with
    | false =>
     rw [q7] at k7
     refine ACalls.of_body hT Tryz.func3 rfl (by kernel_rfl) rfl ?_
     (repeat' (first|refine stq ?_|(refine AL_do2 rfl ?_; first|refine ⟨_,op_call1 rfl rfl rfl rfl (k4),nrmA rfl ?_⟩|refine ⟨_,op_call1 rfl rfl rfl rfl (k5),nrmA rfl ?_⟩|refine ⟨_,op_call1 rfl rfl rfl rfl (k6),nrmA rfl ?_⟩|refine ⟨_,op_call1 rfl rfl rfl rfl (k7),nrmA rfl ?_⟩|refine ⟨_,op_call1 rfl rfl rfl rfl (k10),nrmA rfl ?_⟩)|(with_reducible refine AL_id ?_); (fail_if_success (refine glq rfl rfl rfl ?_)); first|refine AL_gdec rfl rfl rfl (fun hg=>?_) (fun hg=>?_)|refine AL_gnot rfl rfl rfl (fun hg=>?_) (fun hg=>?_)|refine AL_gcases rfl rfl rfl (fun hg=>?_) (fun hg=>?_)))
     exact ⟨_,_,rfl,rfl,rfl⟩
    | true =>
     rw [q7] at k7
     have k8:=t8 w n (by have:=hw.t4; omega)
     cases q8:inB n 0 (w.tubes.length - 1) with
     | false =>
      rw [q8] at k8
      refine ACalls.of_body hT Tryz.func3 rfl (by kernel_rfl) rfl ?_
      (repeat' (first|refine stq ?_|(refine AL_do2 rfl ?_; first|refine ⟨_,op_call1 rfl rfl rfl rfl (k4),nrmA rfl ?_⟩|refine ⟨_,op_call1 rfl rfl rfl rfl (k5),nrmA rfl ?_⟩|refine ⟨_,op_call1 rfl rfl rfl rfl (k6),nrmA rfl ?_⟩|refine ⟨_,op_call1 rfl rfl rfl rfl (k7),nrmA rfl ?_⟩|refine ⟨_,op_call1 rfl rfl rfl rfl (k8),nrmA rfl ?_⟩|refine ⟨_,op_call1 rfl rfl rfl rfl (k10),nrmA rfl ?_⟩)|(with_reducible refine AL_id ?_); (fail_if_success (refine glq rfl rfl rfl ?_)); first|refine AL_gdec rfl rfl rfl (fun hg=>?_) (fun hg=>?_)|refine AL_gnot rfl rfl rfl (fun hg=>?_) (fun hg=>?_)|refine AL_gcases rfl rfl rfl (fun hg=>?_) (fun hg=>?_)))
      exact ⟨_,_,rfl,rfl,rfl⟩
     | true =>
      rw [q8] at k8
      have q9:drum11B d acid t = false:= by
       rw [ask11,work11B,q4.1,q4.2,q5,q6,q7,q8] at hA
       simpa using hA
      rw [q9] at k9
      refine ACalls.of_body hT Tryz.func3 rfl (by kernel_rfl) rfl ?_
      (repeat' (first|refine stq ?_|(refine AL_do2 rfl ?_; first|refine ⟨_,op_call1 rfl rfl rfl rfl (k4),nrmA rfl ?_⟩|refine ⟨_,op_call1 rfl rfl rfl rfl (k5),nrmA rfl ?_⟩|refine ⟨_,op_call1 rfl rfl rfl rfl (k6),nrmA rfl ?_⟩|refine ⟨_,op_call1 rfl rfl rfl rfl (k7),nrmA rfl ?_⟩|refine ⟨_,op_call1 rfl rfl rfl rfl (k8),nrmA rfl ?_⟩|refine ⟨_,op_call1 rfl rfl rfl rfl (k9),nrmA rfl ?_⟩|refine ⟨_,op_call1 rfl rfl rfl rfl (k10),nrmA rfl ?_⟩)|(with_reducible refine AL_id ?_); (fail_if_success (refine glq rfl rfl rfl ?_)); first|refine AL_gdec rfl rfl rfl (fun hg=>?_) (fun hg=>?_)|refine AL_gnot rfl rfl rfl (fun hg=>?_) (fun hg=>?_)|refine AL_gcases rfl rfl rfl (fun hg=>?_) (fun hg=>?_)))
      exact ⟨_,_,rfl,rfl,rfl⟩
structure AskP (w:Work) (th:List (List Int)) (n:Int) (d:Drum) (acid:Int) (t:List Int):Prop where
 w4:work11B w = true
 g5:shortG th = true
 s6:sizedT w.map th = true
 f7:fitsT w.map th = true
 n8:inB n 0 (w.tubes.length - 1) = true
 d9:drum11B d acid t = true
theorem askP_of {w:Work} {th:List (List Int)} {n:Int} {d:Drum} {acid:Int} {t:List Int} (h:ask11 w th n d acid t = true):AskP w th n d acid t:= by
 simp only [ask11,Bool.and_eq_true] at h
 obtain ⟨⟨⟨⟨⟨h1,h2⟩,h3⟩,h4⟩,h5⟩,h6⟩:=h
 exact ⟨h1,h2,h3,h4,h5,h6⟩
theorem AskP.work {w:Work} {th:List (List Int)} {n:Int} {d:Drum} {acid:Int} {t:List Int} (h:AskP w th n d acid t):WorkP w:= by
 have:=h.w4
 rw [work11B,Bool.and_eq_true] at this
 exact workP_of this.2
set_option maxHeartbeats 16000000 in
theorem t3out (w:Work) (th:List (List Int)) (n:Int) (d:Drum) (acid:Int) (t:List Int) (b hours:Int) (hA:AskP w th n d acid t) (hn:¬ (0 <= b /\ b < d.batches.length /\ 0 <= hours /\ hours <= d.hours)):ACalls Tryz.prog 3 (t3A w th n d acid t b hours) (fun r=>r = .pv (.bool true)):= by
 have hw:=hA.work
 have k10:=t10
 have k4:=t4 w
 have k5:=t5 th
 have k6:=t6 w.map th hw.map.short (shortG_of hA.g5)
 have k7:=t7 w.map th hw.map hA.s6
 have k8:=t8 w n (by have:=hw.t4; omega)
 have k9:=t9 d acid t
 rw [hA.w4] at k4
 rw [hA.g5] at k5
 rw [hA.s6] at k6
 rw [hA.f7] at k7
 rw [hA.n8] at k8
 rw [hA.d9] at k9
 refine ACalls.of_body hT Tryz.func3 rfl (by kernel_rfl) rfl ?_
 (repeat' (first|refine stq ?_|(refine AL_do2 rfl ?_; first|refine ⟨_,op_call1 rfl rfl rfl rfl (k4),nrmA rfl ?_⟩|refine ⟨_,op_call1 rfl rfl rfl rfl (k5),nrmA rfl ?_⟩|refine ⟨_,op_call1 rfl rfl rfl rfl (k6),nrmA rfl ?_⟩|refine ⟨_,op_call1 rfl rfl rfl rfl (k7),nrmA rfl ?_⟩|refine ⟨_,op_call1 rfl rfl rfl rfl (k8),nrmA rfl ?_⟩|refine ⟨_,op_call1 rfl rfl rfl rfl (k9),nrmA rfl ?_⟩|refine ⟨_,op_call1 rfl rfl rfl rfl (k10),nrmA rfl ?_⟩)|((first|(with_reducible refine AL_id ?_); (fail_if_success (refine glq rfl rfl rfl ?_)); first|refine AL_gdec rfl rfl rfl (fun hg=>?_) (fun hg=>?_)|refine AL_gnot rfl rfl rfl (fun hg=>?_) (fun hg=>?_)|refine AL_gcases rfl rfl rfl (fun hg=>?_) (fun hg=>?_)) <;> (try (exfalso; omega)))|refine AW_if rfl (fun hc=>absurd hc (by omega)) (fun _=>?_)|refine AW_if rfl (fun _=>?_) (fun hc=>absurd (by omega) hc)))
 all_goals (try (exfalso; omega))
 all_goals exact ⟨_,_,rfl,rfl,rfl⟩
end Go.Abs
