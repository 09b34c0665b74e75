/- A drum that is filled with one of its acids. -/
import Derived.Test.YtpoaccdbakbjhaaGreatXG21
import Derived.Test.YtpoaccdbakbjhaaGreatXG15
import Derived.Test.YtpoaccdbakbjhaaGreatXG16
set_option linter.unusedVariables false
set_option linter.unusedSimpArgs false
namespace Go.Abs
open Go.Proofs
set_option maxRecDepth 100000
theorem range_get {α:Type} {m i:Nat} (f:Nat -> α) (h:i < m):((List.range m).map f)[i]? = some (f i):=by simp [h]
theorem range_set {α:Type} {m i:Nat} {f g:Nat -> α} {v:α} (hi:g i = v) (ho:∀ j,j ≠ i -> g j = f j):((List.range m).map f).set i v = (List.range m).map g:= by
 refine List.ext_getElem? fun j=>?_
 rw [List.getElem?_set]
 by_cases hj:i = j
 ·subst hj
  by_cases hm:i < m
  ·simp [hm,hi]
  ·simp [hm]
 ·by_cases hm:j < m
  ·simp [hj,hm,ho j (fun e=>hj e.symm)]
  ·simp [hj,hm]
def wide:Span:=⟨0,1300⟩
def own0 (d:Drum) (m k:Nat):List Span:=(List.range m).map fun i=>stripped (d.strips.take k) i wide
def own1 (d:Drum) (a:Acid) (m h:Nat):List Span:=(List.range m).map fun i=>if i < h then fwdS d a i else stripped d.strips i wide
def own2 (d:Drum) (a:Acid) (m h:Nat):List Span:=(List.range m).map fun i=>if i < h then fwdS d a i else strongS d a i
theorem stripped_take {l:List Strip} {k:Nat} {s:Strip} (hs:l[k]? = some s) (i:Nat) (x:Span):stripped (l.take (k + 1)) i x = if s.hour = (i:Int) then common (stripped (l.take k) i x) (stripSpan s) else stripped (l.take k) i x:= by
 rw [List.take_add_one,hs]
 simp [stripped,List.foldl_append]
theorem own0_succ {d:Drum} {m k:Nat} {s:Strip} (hs:d.strips[k]? = some s) {n:Int} (hp:StripP n s):(own0 d m k).set s.hour.toNat (common (stripped (d.strips.take k) s.hour.toNat wide) (stripSpan s)) = own0 d m (k + 1):= by
 have:=hp.h0
 refine range_set ?_ fun j hj=>?_
 ·rw [stripped_take hs,if_pos (by omega)]
 ·rw [stripped_take hs,if_neg (by omega)]
def befS (d:Drum) (a:Acid):Nat -> Span
 | 0=>initS a (d.adds.getD 0 0)
 | i + 1=>afterS a (d.adds.getD (i + 1) 0) (fwdS d a i)
theorem fwd_bef (d:Drum) (a:Acid) (i:Nat):fwdS d a i = stripped d.strips i (befS d a i):=by cases i <;> rfl
theorem bef_bd {d:Drum} {a:Acid} (hd:DrumP d) (ha:AcidP a) {i:Nat} (hi:i < d.hours.toNat):0 <= (befS d a i).low /\ (befS d a i).high <= 1300:= by
 have:=hd.h1
 have:=ha.s0; have:=ha.s2; have:=ha.f0
 cases i with
 | zero=>have:=add_bd hd 0; simp only [befS,initS]; omega
 | succ i =>
  have:=add_bd hd (i + 1)
  have h1:=fwd_bd hd ha i
  simp only [befS,afterS]; omega
theorem fwd_common {d:Drum} {a:Acid} (hd:DrumP d) (ha:AcidP a) {i:Nat} (hi:i < d.hours.toNat):common (stripped d.strips i wide) (befS d a i) = fwdS d a i:= by
 have:=bef_bd hd ha hi
 rw [fwd_bef]
 exact stripped_wide (by simp [wide]; omega) (by simp [wide]; omega)
theorem strips_wide {d:Drum} {a:Acid} (hd:DrumP d) (ha:AcidP a) {i:Nat} (hi:i < d.hours.toNat) (k:Nat):(stripped (d.strips.take k) i wide).low <= (fwdS d a i).low /\ (fwdS d a i).high <= (stripped (d.strips.take k) i wide).high:= by
 have h1:=bef_bd hd ha hi
 have e:fwdS d a i = stripped (d.strips.drop k) i (stripped (d.strips.take k) i (befS d a i)):=by rw [<- stripped_append,List.take_append_drop,fwd_bef]
 have h2:=stripped_low (d.strips.drop k) i (stripped (d.strips.take k) i (befS d a i))
 have h3:=stripped_mono (l:=d.strips.take k) (i:=i) (x:=wide) (y:=befS d a i) (by simp [wide]; omega) (by simp [wide]; omega)
 rw [e]; omega
theorem own1_succ {d:Drum} {a:Acid} {m h:Nat}:(own1 d a m h).set h (fwdS d a h) = own1 d a m (h + 1) :=
 range_set (by simp) fun j hj=>by
  by_cases h1:j < h
  ·rw [if_pos (by omega),if_pos h1]
  ·rw [if_neg (by omega),if_neg h1]
theorem own1_all {d:Drum} {a:Acid} {m:Nat} (hm:1 <= m) (hh:m = d.hours.toNat):own1 d a m m = own2 d a m (m - 1):= by
 refine List.map_congr_left fun i hi=>?_
 have:=List.mem_range.1 hi
 rw [if_pos this]
 by_cases h1:i < m - 1
 ·rw [if_pos h1]
 ·rw [if_neg h1,show i = d.hours.toNat - 1 by omega,strong_last]
theorem own2_pred {d:Drum} {a:Acid} {m h:Nat}:(own2 d a m (h + 1)).set h (strongS d a h) = own2 d a m h :=
 range_set (by simp) fun j hj=>by
  by_cases h1:j < h
  ·rw [if_pos h1,if_pos (by omega)]
  ·rw [if_neg h1,if_neg (by omega)]
theorem own2_zero {d:Drum} {a:Acid} {m:Nat} (hh:m = d.hours.toNat):own2 d a m 0 = strongL d a:= by
 unfold own2 strongL
 rw [hh]
 exact List.map_congr_left fun i _=>by rw [if_neg (by omega)]
theorem map_get {l:List Span} {i:Nat} {u:Span} (h:l[i]? = some u):(l.map eSpan)[i]? = some (eSpan u):=by rw [List.getElem?_map,h]; rfl
theorem map_put (l:List Span) (i:Nat) (u:Span):(l.map eSpan).set i (eSpan u) = (l.set i u).map eSpan:=by rw [List.map_set]
theorem may_false {d:Drum} {a:Acid} {i:Nat} (hi:i < d.hours.toNat) (h:(fwdS d a i).low > (fwdS d a i).high):mayB d a = false:= by
 cases hb:mayB d a with
 | false=>rfl
 | true=>have:=mayB_iff.1 hb i hi; omega
abbrev flO (d:Drum) (a:Acid) (l:List Span):List (Nat × AObj):=[(0,.box ((eDrumC d).map FV.pv)),(1,.box [.nils,.pv (vi 0),.pv (vi 0),.nils,.nils,.nils,.pv (vi 0),.nils]),(2,.box ((eAcid a).map FV.pv)),(3,.arr 56 2 (l.map eSpan))]
set_option maxHeartbeats 8000000 in
theorem f173 (d:Drum) (a:Acid) (n:Nat) (hd:DrumP d) (hac:d.acids[n]? = some a):ACallsB Tryz.prog 155 [eDrum d,vi n] (fun r=>mayB d a = true /\ r = .pv (.agg (eFilled d (a,n)))) (fun c=>mayB d a = false /\ ∃ h,c = (286,.agg #[.int .i64 h])):= by
 have ha:=hd.acid a (List.mem_of_getElem? hac)
 have e1:=get_map eAcid hac
 obtain ⟨m,hm⟩:∃ m:Nat,d.hours = m:=⟨d.hours.toNat,by have:=hd.h0; omega⟩
 have hmm:m = d.hours.toNat:=by omega
 have h1m:1 <= m:=by have:=hd.h0; omega
 have hm12:m <= 12:=by have:=hd.h1; omega
 have hal:d.adds.length = m:=by have:=hd.al; omega
 have hsl:=hd.sl
 have k187:ACalls Tryz.prog 194 [eSpans [wide],vi d.hours] (fun r=>r = .own 56 2 ((List.replicate m wide).map eSpan)):=by rw [hm]; exact f187 wide m ⟨h1m,hm12⟩
 have own00:List.replicate m wide = own0 d m 0:= by
  refine List.ext_getElem? fun i=>?_
  by_cases hi:i < m
  ·simp [own0,hi,stripped]
  ·simp [own0,hi]
 rw [own00] at k187
 refine ACallsB.of_body hT Tryz.func155 rfl (by kernel_rfl) rfl ?_
 (repeat (refine stq ?_))
 refine AL_pure (t:=22) rfl rfl ?_
 (repeat' (first|refine stq ?_|(refine AL_do2 rfl ?_; first|refine ⟨_,op_call1 rfl rfl rfl rfl (k187),nrmA rfl ?_⟩)|(with_reducible refine AL_id ?_); (fail_if_success (refine glq rfl rfl rfl ?_)); first|refine AL_gdec rfl rfl rfl (fun hg=>?_) (fun hg=>?_)|refine AL_gnot rfl rfl rfl (fun hg=>?_) (fun hg=>?_)|refine AL_gcases rfl rfl rfl (fun hg=>?_) (fun hg=>?_)))
 refine AW_loopC (fun k:Nat=>k <= d.strips.length) (fun k=>mkSt [(1,.pv (vi n)),(2,.box 0 0),(4,.box 1 0),(5,.box 2 0),(6,.arr 3),(27,.pv (.sl (d.strips.map eStrip))),(28,.pv (vi d.strips.length)),(29,.pv (vi k))] (flO d a (own0 d m k)) 4) (fun k=>d.strips.length - k) 0 (Nat.zero_le _) ?_ ?_
 ·(refine Le.mkR [(3,4)] ?_ ?_ rfl; all_goals (repeat' (first|exact trivial|refine sle ?_|refine ⟨?_,rfl,?_⟩|refine ⟨?_,by decide,rfl,?_⟩|fail)))
 ·intro k hk
  (repeat (refine stq ?_))
  refine AW_if rfl (fun hc=>?_) (fun hc=>?_)
  ·have hk':k < d.strips.length:=by omega
   obtain ⟨x,hx⟩:∃ x,d.strips[k]? = some x:=⟨d.strips[k],by simp [hk']⟩
   have e2:=get_map eStrip hx
   have hp:=hd.strip x (List.mem_of_getElem? hx)
   have:=hp.h0; have:=hp.h1; have:=hp.s0; have:=hp.s1; have:=hp.o0; have:=hp.o1
   have hi:x.hour.toNat < m:=by omega
   have e3:=map_get (range_get (fun i=>stripped (d.strips.take k) i wide) hi)
   have hl0:((own0 d m k).map eSpan).length = m:=by simp [own0]
   have hset:=own0_succ (m:=m) hx hp
   have hn1:=strips_wide hd ha (i:=x.hour.toNat) (by omega) (k + 1)
   rw [stripped_take hx,if_pos (by omega)] at hn1
   have e3:((own0 d m k).map eSpan)[x.hour.toNat]? = some (eSpan (stripped (d.strips.take k) x.hour.toNat wide)):=e3
   generalize stripped (d.strips.take k) x.hour.toNat wide = u at *
   generalize hO:own0 d m k = O at *
   by_cases hne:(common u (stripSpan x)).low > (common u (stripSpan x)).high
   ·have k188:=common_dies (hour:=x.hour) hne
    (repeat (refine stq ?_))
    (repeat (refine sdq ?_))
    refine DG_next (D_indexAddr_arr (n:=x.hour) hT rfl rfl rfl rfl rfl rfl rfl rfl rfl (by omega) (by omega) rfl) ?_
    refine DG_next (D_load_aptr (el:=eSpan u) hT rfl rfl rfl rfl rfl rfl e3 rfl) ?_
    (repeat (refine sdq ?_))
    refine DG_callP hM rfl rfl rfl rfl rfl k188 (fun s'=>?_) (by kernel_rfl)
    (repeat (first|refine then_panic ?_|refine inblk_panic ?_))
    exact ⟨_,⟨may_false (i:=x.hour.toNat) (by omega) (by omega),_,rfl⟩,rfl⟩
   ·have k188:=common_ok (hour:=x.hour) (a:=u) (b:=stripSpan x) (by omega)
    (repeat (refine stq ?_))
    (repeat (refine sdq ?_))
    refine DG_next (D_indexAddr_arr (n:=x.hour) hT rfl rfl rfl rfl rfl rfl rfl rfl rfl (by omega) (by omega) rfl) ?_
    refine DG_next (D_load_aptr (el:=eSpan u) hT rfl rfl rfl rfl rfl rfl e3 rfl) ?_
    (repeat (first|refine sdq ?_|refine DG_next (D_call rfl rfl rfl rfl rfl (k188)) ?_))
    refine DG_next (D_indexAddr_arr (n:=x.hour) hT rfl rfl rfl rfl rfl rfl rfl rfl rfl (by omega) (by omega) rfl) ?_
    refine DG_end hM (by kernel_rfl) ?_
    (repeat (refine stq ?_))
    refine AL_do2 rfl ⟨_,op_store_aptr (el:=eSpan u) hT rfl rfl rfl rfl rfl e3 rfl rfl rfl rfl,?_⟩
    (repeat (refine stq ?_))
    refine ⟨k + 1,hk',by omega,?_⟩
    rw [<- hset]
    (refine Le.mk ?_ ?_; all_goals (repeat' (first|exact trivial|refine sle ?_|refine ⟨?_,rfl,?_⟩|refine ⟨?_,by decide,rfl,?_⟩|fail)))
    exact congrArg some (congrArg (AObj.arr 56 2) (map_put O _ _))
  ·have hk':k = d.strips.length:=by omega
   subst hk'
   have e01:own0 d m d.strips.length = own1 d a m 0:= by
    refine List.map_congr_left fun i _=>?_
    rw [List.take_length,if_neg (by omega)]
   rw [e01]
   obtain ⟨y,hy⟩:∃ y,d.adds[0]? = some y:=⟨d.adds[0]'(by omega),by simp⟩
   have ey:=get_map eInt hy
   have gy:d.adds.getD 0 0 = y:=by rw [List.getD_eq_getElem?_getD,hy]; rfl
   have hyb:=hd.add y (List.mem_of_getElem? hy)
   have:=ha.s0; have:=ha.s1; have:=ha.s2; have:=ha.f0; have:=ha.f1; have:=ha.f2
   have e3:((own1 d a m 0).map eSpan)[0]? = some (eSpan (stripped d.strips 0 wide)):=map_get (range_get (fun i=>if i < 0 then fwdS d a i else stripped d.strips i wide) (by omega))
   have hl0:((own1 d a m 0).map eSpan).length = m:=by simp [own1]
   have hset:=own1_succ (d:=d) (a:=a) (m:=m) (h:=0)
   have hcm:=fwd_common hd ha (i:=0) (by omega)
   have hbe:befS d a 0 = ⟨a.strength.low + y,a.strength.high + y⟩:=by simp only [befS,initS,gy]
   rw [hbe] at hcm
   generalize stripped d.strips 0 wide = u at *
   by_cases hne:(fwdS d a 0).low > (fwdS d a 0).high
   ·have k188:=common_dies (hour:=0) (by rw [hcm]; exact hne)
    (repeat (refine stq ?_))
    (repeat (refine sdq ?_))
    refine DG_next (D_indexAddr_arr (n:=0) hT rfl rfl rfl rfl rfl rfl rfl rfl rfl (by omega) (by omega) rfl) ?_
    refine DG_next (D_load_aptr (el:=eSpan u) hT rfl rfl rfl rfl rfl rfl e3 rfl) ?_
    (repeat (refine sdq ?_))
    refine DG_callP hM rfl rfl rfl rfl rfl k188 (fun s'=>?_) (by kernel_rfl)
    (repeat (first|refine then_panic ?_|refine inblk_panic ?_))
    exact ⟨_,⟨may_false (i:=0) (by omega) hne,_,rfl⟩,rfl⟩
   ·have k188:=common_ok (hour:=0) (a:=u) (b:=⟨a.strength.low + y,a.strength.high + y⟩) (by rw [hcm]; omega)
    rw [hcm] at k188
    (repeat (refine stq ?_))
    (repeat (refine sdq ?_))
    refine DG_next (D_indexAddr_arr (n:=0) hT rfl rfl rfl rfl rfl rfl rfl rfl rfl (by omega) (by omega) rfl) ?_
    refine DG_next (D_load_aptr (el:=eSpan u) hT rfl rfl rfl rfl rfl rfl e3 rfl) ?_
    (repeat (first|refine sdq ?_|refine DG_next (D_call rfl rfl rfl rfl rfl (k188)) ?_))
    refine DG_next (D_indexAddr_arr (n:=0) hT rfl rfl rfl rfl rfl rfl rfl rfl rfl (by omega) (by omega) rfl) ?_
    refine DG_end hM (by kernel_rfl) ?_
    (repeat (refine stq ?_))
    refine AL_do2 rfl ⟨_,op_store_aptr (el:=eSpan u) hT rfl rfl rfl rfl rfl e3 rfl rfl rfl rfl,?_⟩
    (repeat (refine stq ?_))
    refine AW_loopC (fun h:Nat=>1 <= h /\ h <= m /\ ∀ i,i < h -> (fwdS d a i).low <= (fwdS d a i).high) (fun h=>mkSt [(1,.pv (vi n)),(2,.box 0 0),(4,.box 1 0),(5,.box 2 0),(6,.arr 3),(9,.pv (vi h))] (flO d a (own1 d a m h)) 4) (fun h=>m - h) 1 ⟨Nat.le_refl _,h1m,fun i hi=>by rw [show i = 0 by omega]; omega⟩ ?_ ?_
    ·rw [show own1 d a m 1 = (own1 d a m 0).set 0 (fwdS d a 0) from hset.symm]
     (refine Le.mk ?_ ?_; all_goals (repeat' (first|exact trivial|refine sle ?_|refine ⟨?_,rfl,?_⟩|refine ⟨?_,by decide,rfl,?_⟩|fail)))
     exact congrArg some (congrArg (AObj.arr 56 2) (map_put _ _ _))
    ·rintro h ⟨h1,h2,hall⟩
     (repeat (refine stq ?_))
     refine AW_if rfl (fun hc=>?_) (fun hc=>?_)
     ·have hlt:h < m:=by omega
      obtain ⟨z,hz⟩:∃ z,d.adds[h]? = some z:=⟨d.adds[h]'(by omega),by simp⟩
      have ez:=get_map eInt hz
      have gz:d.adds.getD h 0 = z:=by rw [List.getD_eq_getElem?_getD,hz]; rfl
      have hzb:=hd.add z (List.mem_of_getElem? hz)
      have e5:((own1 d a m h).map eSpan)[((h:Int) - 1).toNat]? = some (eSpan (fwdS d a (h - 1))):= by
       rw [show ((h:Int) - 1).toNat = h - 1 by omega]
       have:=map_get (range_get (m:=m) (fun i=>if i < h then fwdS d a i else stripped d.strips i wide) (i:=h - 1) (by omega))
       rw [if_pos (by omega)] at this; exact this
      have e6:((own1 d a m h).map eSpan)[h]? = some (eSpan (stripped d.strips h wide)):= by
       have:=map_get (range_get (m:=m) (fun i=>if i < h then fwdS d a i else stripped d.strips i wide) (i:=h) (by omega))
       rw [if_neg (by omega)] at this; exact this
      have hl1:((own1 d a m h).map eSpan).length = m:=by simp [own1]
      have hset1:=own1_succ (d:=d) (a:=a) (m:=m) (h:=h)
      have hcm1:=fwd_common hd ha (i:=h) (by omega)
      have hbe1:befS d a h = afterS a z (fwdS d a (h - 1)):= by
       obtain ⟨j,rfl⟩:∃ j,h = j + 1:=⟨h - 1,by omega⟩
       simp only [befS,gz,Nat.add_sub_cancel]
      rw [hbe1] at hcm1
      have hfb:=fwd_bd hd ha (h - 1)
      have hfn:=hall (h - 1) (by omega)
      generalize stripped d.strips h wide = u at *
      generalize fwdS d a (h - 1) = x at *
      simp only [afterS] at hcm1
      have b1:0 <= x.low /\ x.low <= 1300 /\ 0 <= x.high /\ x.high <= 1300:=by omega
      by_cases hne:(fwdS d a h).low > (fwdS d a h).high
      ·have k188:=common_dies (hour:=h) (by rw [hcm1]; exact hne)
       (repeat (refine stq ?_))
       (repeat (refine sdq ?_))
       refine DG_next (D_indexAddr_arr (n:=(h:Int) - 1) hT rfl rfl rfl rfl rfl rfl rfl rfl rfl (by omega) (by omega) rfl) ?_
       refine DG_next (D_load_aptr (el:=eSpan x) hT rfl rfl rfl rfl rfl rfl e5 rfl) ?_
       (repeat (first|refine DG_next (D_allocE hT rfl rfl rfl rfl) ?_|refine DG_next (D_storeE hT rfl rfl rfl rfl rfl rfl rfl rfl rfl rfl) ?_|refine sdq ?_))
       refine DG_end hM (by kernel_rfl) ?_
       (repeat (refine stq ?_))
       (repeat (refine sdq ?_))
       refine DG_next (D_indexAddr_arr (n:=(h:Int)) hT rfl rfl rfl rfl rfl rfl rfl rfl rfl (by omega) (by omega) rfl) ?_
       refine DG_next (D_load_aptr (el:=eSpan u) hT rfl rfl rfl rfl rfl rfl e6 rfl) ?_
       (repeat (refine sdq ?_))
       refine DG_callP hM rfl rfl rfl rfl rfl k188 (fun s'=>?_) (by kernel_rfl)
       (repeat (first|refine then_panic ?_|refine inblk_panic ?_))
       exact ⟨_,⟨may_false (i:=h) (by omega) hne,_,rfl⟩,rfl⟩
      ·have k188:=common_ok (hour:=h) (a:=u) (b:=⟨max 0 (x.low - a.fall.high) + z,max 0 (x.high - a.fall.low) + z⟩) (by rw [hcm1]; omega)
       rw [hcm1] at k188
       (repeat (refine stq ?_))
       (repeat (refine sdq ?_))
       refine DG_next (D_indexAddr_arr (n:=(h:Int) - 1) hT rfl rfl rfl rfl rfl rfl rfl rfl rfl (by omega) (by omega) rfl) ?_
       refine DG_next (D_load_aptr (el:=eSpan x) hT rfl rfl rfl rfl rfl rfl e5 rfl) ?_
       (repeat (first|refine DG_next (D_allocE hT rfl rfl rfl rfl) ?_|refine DG_next (D_storeE hT rfl rfl rfl rfl rfl rfl rfl rfl rfl rfl) ?_|refine sdq ?_))
       refine DG_end hM (by kernel_rfl) ?_
       (repeat (refine stq ?_))
       (repeat (refine sdq ?_))
       refine DG_next (D_indexAddr_arr (n:=(h:Int)) hT rfl rfl rfl rfl rfl rfl rfl rfl rfl (by omega) (by omega) rfl) ?_
       refine DG_next (D_load_aptr (el:=eSpan u) hT rfl rfl rfl rfl rfl rfl e6 rfl) ?_
       (repeat (first|refine sdq ?_|refine DG_next (D_call rfl rfl rfl rfl rfl (k188)) ?_))
       refine DG_next (D_indexAddr_arr (n:=(h:Int)) hT rfl rfl rfl rfl rfl rfl rfl rfl rfl (by omega) (by omega) rfl) ?_
       refine DG_end hM (by kernel_rfl) ?_
       (repeat (refine stq ?_))
       refine AL_do2 rfl ⟨_,op_store_aptr (el:=eSpan u) hT rfl rfl rfl rfl rfl e6 rfl rfl rfl rfl,?_⟩
       (repeat (refine stq ?_))
       refine ⟨h + 1,⟨by omega,hlt,fun i hi=>?_⟩,by omega,?_⟩
       ·by_cases hih:i = h
        ·rw [hih]; omega
        ·exact hall i (by omega)
       ·rw [<- hset1]
        (refine Le.mk ?_ ?_; all_goals (repeat' (first|exact trivial|refine sle ?_|refine ⟨?_,rfl,?_⟩|refine ⟨?_,by decide,rfl,?_⟩|fail)))
        exact congrArg some (congrArg (AObj.arr 56 2) (map_put _ _ _))
     ·have hh:m = h:=by omega
      subst hh
      have hmay:mayB d a = true:=mayB_iff.2 fun i hi=>hall i (by omega)
      rw [own1_all h1m hmm]
      (repeat (refine stq ?_))
      refine AW_loopC (fun h:Nat=>h <= m - 1) (fun h=>mkSt [(1,.pv (vi n)),(2,.box 0 0),(4,.box 1 0),(5,.box 2 0),(6,.arr 3),(12,.pv (vi h))] (flO d a (own2 d a m h)) 4) (fun h=>h) (m - 1) (Nat.le_refl _) ?_ ?_
      ·(refine Le.mk ?_ ?_; all_goals (repeat' (first|exact trivial|refine sle ?_|refine ⟨?_,rfl,?_⟩|refine ⟨?_,by decide,rfl,?_⟩|fail)))
       exact congrArg some (congrArg FV.pv (congrArg vi (by omega)))
      ·intro h hh
       (repeat (refine stq ?_))
       refine AW_if rfl (fun hc2=>?_) (fun hc2=>?_)
       ·obtain ⟨j,rfl⟩:∃ j,h = j + 1:=⟨h - 1,by omega⟩
        obtain ⟨z,hz⟩:∃ z,d.adds[j + 1]? = some z:=⟨d.adds[j + 1]'(by omega),by simp⟩
        have ez:=get_map eInt hz
        have gz:d.adds.getD (j + 1) 0 = z:=by rw [List.getD_eq_getElem?_getD,hz]; rfl
        have hzb:=hd.add z (List.mem_of_getElem? hz)
        have hj1:(((j + 1:Nat):Int) - 1).toNat = j:=by omega
        have e5:((own2 d a m (j + 1)).map eSpan)[(((j + 1:Nat):Int) - 1).toNat]? = some (eSpan (fwdS d a j)):= by
         rw [hj1]
         have:=map_get (range_get (m:=m) (fun i=>if i < j + 1 then fwdS d a i else strongS d a i) (i:=j) (by omega))
         rw [if_pos (by omega)] at this; exact this
        have e6:((own2 d a m (j + 1)).map eSpan)[j + 1]? = some (eSpan (strongS d a (j + 1))):= by
         have:=map_get (range_get (m:=m) (fun i=>if i < j + 1 then fwdS d a i else strongS d a i) (i:=j + 1) (by omega))
         rw [if_neg (by omega)] at this; exact this
        have hl2:((own2 d a m (j + 1)).map eSpan).length = m:=by simp [own2]
        have hset2:=own2_pred (d:=d) (a:=a) (m:=m) (h:=j)
        have hst:=strong_before (d:=d) (a:=a) (i:=j) (by omega)
        have hok:=strong_ok' hd ha hmay (i:=j) (by omega)
        have hb1:=strong_bd hd ha hmay (i:=j + 1) (by omega)
        have hb2:=strong_bd hd ha hmay (i:=j) (by omega)
        rw [gz] at hst
        generalize strongS d a (j + 1) = x at *
        generalize fwdS d a j = u at *
        simp only [beforeS] at hst
        (repeat (refine stq ?_))
        (repeat (refine sdq ?_))
        refine DG_next (D_indexAddr_arr (n:=((j + 1:Nat):Int)) hT rfl rfl rfl rfl rfl rfl rfl rfl rfl (by omega) (by omega) rfl) ?_
        refine DG_next (D_load_aptr (el:=eSpan x) hT rfl rfl rfl rfl rfl rfl e6 rfl) ?_
        (repeat (first|refine DG_next (D_allocE hT rfl rfl rfl rfl) ?_|refine DG_next (D_storeE hT rfl rfl rfl rfl rfl rfl rfl rfl rfl rfl) ?_|refine sdq ?_))
        refine DG_end hM (by kernel_rfl) ?_
        (repeat (refine stq ?_))
        refine AW_if rfl (fun hc3=>?_) (fun hc3=>?_)
        ·rw [if_pos hc3] at hst
         have k188:=common_ok (hour:=((j + 1:Nat):Int) - 1) (a:=u) (b:=⟨x.low - z + a.fall.low,x.high - z + a.fall.high⟩) (by rw [<- hst]; omega)
         rw [<- hst] at k188
         (repeat (refine stq ?_))
         (repeat (refine sdq ?_))
         refine DG_next (D_indexAddr_arr (n:=((j + 1:Nat):Int) - 1) hT rfl rfl rfl rfl rfl rfl rfl rfl rfl (by omega) (by omega) rfl) ?_
         refine DG_next (D_load_aptr (el:=eSpan u) hT rfl rfl rfl rfl rfl rfl e5 rfl) ?_
         (repeat (first|refine sdq ?_|refine DG_next (D_call rfl rfl rfl rfl rfl (k188)) ?_))
         refine DG_next (D_indexAddr_arr (n:=((j + 1:Nat):Int) - 1) hT rfl rfl rfl rfl rfl rfl rfl rfl rfl (by omega) (by omega) rfl) ?_
         refine DG_end hM (by kernel_rfl) ?_
         (repeat (refine stq ?_))
         refine AL_do2 rfl ⟨_,op_store_aptr (el:=eSpan u) hT rfl rfl rfl rfl rfl e5 rfl rfl rfl rfl,?_⟩
         (repeat (refine stq ?_))
         refine ⟨j,by omega,by omega,?_⟩
         rw [<- hset2]
         (refine Le.mk ?_ ?_; all_goals (repeat' (first|exact trivial|refine sle ?_|refine ⟨?_,rfl,?_⟩|refine ⟨?_,by decide,rfl,?_⟩|fail)))
         ·exact congrArg some (congrArg FV.pv (congrArg vi (by omega)))
         ·exact congrArg some (congrArg (AObj.arr 56 2) ((congrArg (fun i=>((own2 d a m (j + 1)).map eSpan).set i _) hj1).trans (map_put _ _ _)))
        ·rw [if_neg hc3] at hst
         have k188:=common_ok (hour:=((j + 1:Nat):Int) - 1) (a:=u) (b:=⟨0,x.high - z + a.fall.high⟩) (by rw [<- hst]; omega)
         rw [<- hst] at k188
         (repeat (refine stq ?_))
         (repeat (refine sdq ?_))
         refine DG_next (D_indexAddr_arr (n:=((j + 1:Nat):Int) - 1) hT rfl rfl rfl rfl rfl rfl rfl rfl rfl (by omega) (by omega) rfl) ?_
         refine DG_next (D_load_aptr (el:=eSpan u) hT rfl rfl rfl rfl rfl rfl e5 rfl) ?_
         (repeat (first|refine sdq ?_|refine DG_next (D_call rfl rfl rfl rfl rfl (k188)) ?_))
         refine DG_next (D_indexAddr_arr (n:=((j + 1:Nat):Int) - 1) hT rfl rfl rfl rfl rfl rfl rfl rfl rfl (by omega) (by omega) rfl) ?_
         refine DG_end hM (by kernel_rfl) ?_
         (repeat (refine stq ?_))
         refine AL_do2 rfl ⟨_,op_store_aptr (el:=eSpan u) hT rfl rfl rfl rfl rfl e5 rfl rfl rfl rfl,?_⟩
         (repeat (refine stq ?_))
         refine ⟨j,by omega,by omega,?_⟩
         rw [<- hset2]
         (refine Le.mk ?_ ?_; all_goals (repeat' (first|exact trivial|refine sle ?_|refine ⟨?_,rfl,?_⟩|refine ⟨?_,by decide,rfl,?_⟩|fail)))
         ·exact congrArg some (congrArg FV.pv (congrArg vi (by omega)))
         ·exact congrArg some (congrArg (AObj.arr 56 2) ((congrArg (fun i=>((own2 d a m (j + 1)).map eSpan).set i _) hj1).trans (map_put _ _ _)))
       ·have h0:h = 0:=by omega
        subst h0
        rw [own2_zero hmm]
        refine AW_pure (t:=6) rfl rfl ?_
        (repeat (refine stq ?_))
        exact ⟨_,_,rfl,rfl,hmay,rfl⟩
end Go.Abs
namespace Go.Abs
open Go.RowKit
section
variable {P:Program} {T:Nat -> Option TyI} {nt:Nat} {s:ASt} {o:Oper} {ops:Array Oper} {rest:List Oper}
def RfX (P:Program) (fn:Func) (Q:ASt -> Prop) (QP:TypeId × Value -> ASt -> Prop) (W0:World) (d x:Nat -> Prop) (e:Exit) (a:Act) (w:World):Prop:=bodyPostM Fence.wide 0 P fn (PostX W0 x d Q QP) e a w
theorem ACallsX.of_deferring {f : FuncId} {fn : Func} {c : Code} {xs : List FV} {objs : List (Nat × AObj)} {n : Nat} {Q : ASt → Prop} {QP : TypeId × Value → ASt → Prop} (hf : P.funcs[f]? = some fn) (hb : fn.body = some c) (hname : (fn.name == "runtime.NumGoroutine") = false) (hn : Nat.ble xs.length fn.ntmps = true)
  (h:AWR P fn.ntmps c (fun W0 D0=>RfX P fn Q QP W0 D0.d D0.x) none (entryX xs objs n)):ACallsX P f xs objs n Q QP:= by
 refine ⟨enters_of hf hb hname,fun W D φ vs hH hs hr=>?_⟩
 have hn':=Nat.le_of_ble_eq_true hn
 generalize hX:ownS (entryX xs objs n) φ = X
 have hE:=entryX_inv (nt:=fn.ntmps) hH hs hr (by rw [hs]; exact hn')
 rw [hX] at hE
 refine (callsIn_wide (n:=0)).1 (callsIn_of_wp_marks hf hb trivial ?_)
 exact Go.wpIn_mono (h W ⟨D,X,none,false⟩ D φ _ W ⟨rfl,fun l hl=>by cases hl⟩ rfl hE) fun e a w h=>h
theorem retX_post {W:World} {D0:Bas} {D:Nat -> Prop} {φ:Nat -> Value} {tmps:Array Value} {w:World} {fn:Func} {Q:ASt -> Prop} {QP:TypeId × Value -> ASt -> Prop} (hT:TabOK P T) (hI:Inv W D0 fn.ntmps s D φ { tmps:=tmps,defers:=[] } w)
  {ys:List FV} {sf:ASt} (h1:mapO (resFV T s) fn.results.toList = some ys) (h2:Le ⟨[(0,some (tupF ys))],s.objs,s.nxt⟩ sf) (h3:Q sf):∃ r,(results fn tmps).run P w = .ok r w /\ PostX W D0.x D0.d Q QP (.returned r) w:= by
 obtain ⟨us,r1,r2,r3⟩:=run_results hT hI h1
 obtain ⟨φ2,g1,g2,g3,g4,g5,g6⟩:=postX_of hI h2
 refine ⟨_,r1,⟨sf,D,φ2,g1,g2,g3,g4,g5,.inl ⟨_,rfl,fun x hx=>?_,h3⟩⟩⟩
 obtain ⟨k1,y,k2,k3⟩:=g6 0 x hx
 cases k2
 exact ⟨k1,k3 _ (tup_rep r2 r3)⟩
end
end Go.Abs
namespace Go.Abs
open Go.Proofs
set_option maxRecDepth 100000
theorem ifc20:ifcB Tryz.prog 20 = true:=by kernel_rfl
abbrev zeroF:List FV:=[.nils,.pv (vi 0),.pv (vi 0),.nils,.nils,.nils,.pv (vi 0),.nils]
abbrev fbO (n:Nat) (f:List FV):List (Nat × AObj):=[(0,.box [.pv (vi n)]),(1,.box f)]
theorem f172 (d:Drum) (a:Acid) (n:Nat) (hd:DrumP d) (hac:d.acids[n]? = some a) (av:Nat -> Value):ACallsX Tryz.prog 154 [.pv (.ptr (eDrumC d)),.box 0 0,.box 1 0] (fbO n zeroF ++ ancL av [(2,0),(3,1)]) 4
  (fun sf=>mayB d a = true /\ sf = mkSt [(0,.tup [])] (fbO n ((eFilled d (a,n)).map FV.pv) ++ ancL av [(2,0),(3,1)]) 4)
  (fun c sf=>(mayB d a = false /\ ∃ h,c = (286,.agg #[.int .i64 h])) /\ sf = mkSt [] (fbO n zeroF ++ ancL av [(2,0),(3,1)]) 4):= by
 refine ACallsX.of_body hT Tryz.func154 rfl (by kernel_rfl) rfl ?_
 (repeat (refine stq ?_))
 refine AL_doP rfl (op_callBP rfl rfl rfl rfl (f173 d a n hd hac)) ?_ ?_
 ·rintro s' ⟨r,⟨hm,rfl⟩,rfl⟩
  (repeat (refine stq ?_))
  refine ⟨_,mkSt [(0,.tup [])] (fbO n ((eFilled d (a,n)).map FV.pv) ++ ancL av [(2,0),(3,1)]) 4,rfl,?_,hm,rfl⟩
  (refine Le.mk ?_ ?_; all_goals (repeat' (first|exact trivial|refine sle ?_|refine ⟨?_,rfl,?_⟩|refine ⟨?_,by decide,rfl,?_⟩|fail)))
 ·rintro t s' v ⟨hq,rfl⟩
  (repeat (first|refine then_panic ?_|refine inblk_panic ?_))
  refine ⟨v,t,mkSt [] (fbO n zeroF ++ ancL av [(2,0),(3,1)]) 4,rfl,?_,hq,rfl⟩
  (refine Le.mk ?_ ?_; all_goals (repeat' (first|exact trivial|refine sle ?_|refine ⟨?_,rfl,?_⟩|refine ⟨?_,by decide,rfl,?_⟩|fail)))
abbrev eO (e:Int) (av:Nat -> Value):List (Nat × AObj):=[(0,.box [.pv (vi e)])] ++ ancL av [(1,0)]
theorem d158r (e:Int) (av:Nat -> Value):DCallsX Tryz.prog 193 [.box 0 0] (eO e av) 2 (fun sf=>sf = mkSt [(0,.tup [])] (eO e av) 2) .returning .returning:= by
 refine DCallsX.of_recover hT (fn:=Tryz.f193) rfl rfl rfl ⟨_,rfl⟩ rfl rfl rfl .nilIface (.pv .nilIface) (fun c₀ cs hu=>.inr ⟨by simp [recoverD,hu],rfl,rfl⟩) (fun D φ W _=>⟨rfl,.pv _ _ .nilIface⟩) ?_
 (repeat (refine stq ?_))
 refine AL_do2 rfl ⟨_,op_eql_nilI ifc20 rfl rfl rfl,?_⟩
 (repeat (refine stq ?_))
 refine ⟨_,_,rfl,?_,rfl⟩
 (refine Le.mk ?_ ?_; all_goals (repeat' (first|exact trivial|refine sle ?_|refine ⟨?_,rfl,?_⟩|refine ⟨?_,by decide,rfl,?_⟩|fail)))
theorem d158a (e h:Int) (av:Nat -> Value):DCallsX Tryz.prog 193 [.box 0 0] (eO e av) 2 (fun sf=>sf = mkSt [(0,.tup [])] (eO 7 av) 2) (.panicking (panV (286,.agg #[.int .i64 h]))) (.panicking [{ v:=.iface 286 (.agg #[.int .i64 h]),recovered:=true }]):= by
 refine DCallsX.of_recover hT (fn:=Tryz.f193) rfl rfl rfl ⟨_,rfl⟩ rfl rfl rfl (.iface 286 (.agg #[.int .i64 h])) (.pv (.iface 286 (.agg [vi h]))) (fun c₀ cs hu=>.inl (by simp [recoverD,hu,panV])) (fun D φ W hH=>⟨rfl,.pv _ _ (.iface 286 _ _ (.agg _ _ rfl fun j v p hv hp=>?_))⟩) ?_
 ·match j with
  | 0=>simp at hv hp; subst hv; subst hp; exact .int _ _
  | j + 1=>simp at hp
 (repeat (refine stq ?_))
 refine AL_do2 rfl ⟨_,op_eql_iface ifc20 rfl rfl rfl,?_⟩
 (repeat (refine stq ?_))
 refine AL_do2 rfl ⟨_,op_assert hT rfl rfl rfl rfl rfl,?_⟩
 (repeat (refine stq ?_))
 refine ⟨_,_,rfl,?_,rfl⟩
 (refine Le.mk ?_ ?_; all_goals (repeat' (first|exact trivial|refine sle ?_|refine ⟨?_,rfl,?_⟩|refine ⟨?_,by decide,rfl,?_⟩|fail)))
end Go.Abs
namespace Go.Abs
open Go.Proofs
set_option maxRecDepth 100000
abbrev tryF (d:Drum) (a:Acid) (n:Nat):List FV:=if mayB d a = true then (eFilled d (a,n)).map FV.pv else zeroF
abbrev trO (n:Nat) (f:List FV) (e:Int) (av:Nat -> Value) (v:Value):List (Nat × AObj):=fbO n f ++ ancL av [(2,0),(3,1)] ++ [(4,.box [.pv (vi e)]),(5,.anc v (.fn 193 [.box 4 0]))]
def Q108 (d:Drum) (a:Acid) (n:Nat) (av:Nat -> Value) (v:Value):Exit -> ASt -> Prop
 | .ret,s'=>mayB d a = true /\ Le s' (mkSt [(2,.box 4 0)] (trO n ((eFilled d (a,n)).map FV.pv) 0 av v) 6)
 | .panic ch,s'=>mayB d a = false /\ (∃ h,ch = panV (286,.agg #[.int .i64 h])) /\ Le s' (mkSt [(2,.box 4 0)] (trO n zeroF 0 av v) 6)
 | _,_=>False
set_option maxHeartbeats 4000000 in
theorem f108a (d:Drum) (a:Acid) (n:Nat) (hd:DrumP d) (hac:d.acids[n]? = some a) (av:Nat -> Value):ACallsX Tryz.prog 153 [.fn 154 [.pv (.ptr (eDrumC d)),.box 0 0,.box 1 0]] (fbO n zeroF ++ ancL av [(2,0),(3,1)]) 4
  (fun sf=>sf = mkSt [(0,.pv (vi (if mayB d a = true then 0 else 7)))] (fbO n (tryF d a n) ++ ancL av [(2,0),(3,1)]) 4) (fun _ _=>False):= by
 refine ACallsX.of_deferring (fn:=Tryz.f153) rfl rfl (by kernel_rfl) rfl ?_
 refine AWR_seq (Qx:=fun _ _=>False) ?_ (fun _ _ _ _ _ _ _ _ h=>by obtain ⟨_,_,_,_,h⟩:=h; exact h.elim)
 (repeat (refine stq ?_))
 refine AWR_defer (f:=.tmp 3) rfl (op_mkfunc rfl rfl rfl) rfl rfl rfl rfl fun v=>?_
 refine AWR_end (Qx:=Q108 d a n av v) ?_ ?_
 ·(repeat (refine stq ?_))
  refine AL_doP rfl (op_callX (objs:=fbO n zeroF) (n:=4) [(0,0),(1,1)] [0,1] [(2,0),(3,1)] (fun av=>f172 d a n hd hac av) rfl rfl rfl rfl (by (repeat' (first|exact trivial|refine And.intro ?_ ?_)); all_goals (first|rfl|decide)) rfl (by (repeat' (first|exact trivial|refine And.intro ?_ ?_)); all_goals (first|rfl|decide)) rfl ⟨⟨rfl,rfl,⟨_,.head _⟩,rfl⟩,⟨rfl,rfl,⟨_,.tail _ (.head _)⟩,rfl⟩,trivial⟩ (by simp) ?_ ?_) ?_ ?_
  ·rintro av' sf ⟨_,rfl⟩
   exact ⟨.inl ⟨2,by simp,rfl⟩,.inl ⟨3,by simp,rfl⟩,trivial⟩
  ·rintro av' t sf ⟨_,rfl⟩
   exact ⟨.inl ⟨2,by simp,rfl⟩,.inl ⟨3,by simp,rfl⟩,trivial⟩
  ·rintro s' ⟨av',sf,⟨hm,rfl⟩,rfl⟩
   (repeat (refine stq ?_))
   refine ⟨hm,?_⟩
   (refine Le.mk ?_ ?_; all_goals (repeat' (first|exact trivial|refine sle ?_|refine ⟨?_,rfl,?_⟩|refine ⟨?_,by decide,rfl,?_⟩|fail)))
  ·rintro t s' x ⟨av',sf,⟨⟨hm,h,hc⟩,rfl⟩,rfl⟩
   cases hc
   (repeat (first|refine then_panic ?_|refine inblk_panic ?_))
   refine ⟨hm,⟨h,rfl⟩,?_⟩
   (refine Le.mk ?_ ?_; all_goals (repeat' (first|exact trivial|refine sle ?_|refine ⟨?_,rfl,?_⟩|refine ⟨?_,by decide,rfl,?_⟩|fail)))
 ·rintro W0 D0 e a' w hr hp ⟨s',D',φ',hI,hq⟩
  have hen:Enters Tryz.prog 193:=enters_of (fn:=Tryz.f193) rfl rfl (by kernel_rfl)
  cases e with
  | ret =>
   obtain ⟨hm,hle⟩:=hq
   obtain ⟨φ2,hI2⟩:=hle.inv hI
   refine leaves_deferred (A:=5) (u':=.returning) [(0,4)] [0] [(1,0)] (objs:=[(0,.box [.pv (vi 0)])]) (fun av=>d158r 0 av) hen rfl (by (repeat' (first|exact trivial|refine And.intro ?_ ?_)); all_goals (first|rfl|decide)) rfl (by (repeat' (first|exact trivial|refine And.intro ?_ ?_)); all_goals (first|rfl|decide)) rfl ⟨⟨rfl,rfl,⟨_,.head _⟩,rfl⟩,trivial⟩ (by simp) ?_ (by simp) rfl hp hI2 ?_
   ·rintro av' sf rfl
    exact ⟨.inl ⟨1,by simp,rfl⟩,trivial⟩
   ·rintro av' sf D2 φ3 w' rfl hI3
    refine retX_post (fn:=Tryz.f153) (D0:={ D0 with pd:=none }) hT hI3 (sf:=mkSt [(0,.pv (vi 0))] (fbO n ((eFilled d (a,n)).map FV.pv) ++ ancL av [(2,0),(3,1)]) 4) rfl ?_ (by rw [if_pos hm,tryF,if_pos hm])
    (refine Le.mk ?_ ?_; all_goals (repeat' (first|exact trivial|refine sle ?_|refine ⟨?_,rfl,?_⟩|refine ⟨?_,by decide,rfl,?_⟩|fail)))
  | panic ch =>
   obtain ⟨hm,⟨h,rfl⟩,hle⟩:=hq
   obtain ⟨φ2,hI2⟩:=hle.inv hI
   refine leaves_deferred (A:=5) (u':=.panicking [{ v:=.iface 286 (.agg #[.int .i64 h]),recovered:=true }]) [(0,4)] [0] [(1,0)] (objs:=[(0,.box [.pv (vi 0)])]) (fun av=>d158a 0 h av) hen rfl (by (repeat' (first|exact trivial|refine And.intro ?_ ?_)); all_goals (first|rfl|decide)) rfl (by (repeat' (first|exact trivial|refine And.intro ?_ ?_)); all_goals (first|rfl|decide)) rfl ⟨⟨rfl,rfl,⟨_,.head _⟩,rfl⟩,trivial⟩ (by simp) ?_ (by simp) rfl hp hI2 ?_
   ·rintro av' sf rfl
    exact ⟨.inl ⟨1,by simp,rfl⟩,trivial⟩
   ·rintro av' sf D2 φ3 w' rfl hI3
    refine retX_post (fn:=Tryz.f153) (D0:={ D0 with pd:=none }) hT hI3 (sf:=mkSt [(0,.pv (vi 7))] (fbO n zeroF ++ ancL av [(2,0),(3,1)]) 4) rfl ?_ (by rw [if_neg (by simp [hm]),tryF,if_neg (by simp [hm])])
    (refine Le.mk ?_ ?_; all_goals (repeat' (first|exact trivial|refine sle ?_|refine ⟨?_,rfl,?_⟩|refine ⟨?_,by decide,rfl,?_⟩|fail)))
  | _=>exact hq.elim
end Go.Abs
