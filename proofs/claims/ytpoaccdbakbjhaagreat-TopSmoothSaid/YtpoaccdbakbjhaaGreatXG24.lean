/- Between which bounds a batch is. -/
import Derived.Test.YtpoaccdbakbjhaaGreatXG23
import Derived.Test.YtpoaccdbakbjhaaGreatXG14
import Derived.Test.YtpoaccdbakbjhaaGreatXG21
set_option linter.unusedVariables false
set_option linter.unusedSimpArgs false
namespace Go.Abs
open Go.Proofs
set_option maxRecDepth 100000
theorem hull_snoc (l:List Span) (x:Span):hullL (l ++ [x]) = if l = [] then x else hull2 (hullL l) x:= by
 cases l with
 | nil=>rfl
 | cons y l=>simp [hullL,List.foldl_append]
def roughS (d:Drum) (b:Batch) (h:Nat) (p:Acid × Nat):Span:=⟨(hardS d b h p).rough,(weakS d b h p).rough⟩
def thickS (d:Drum) (b:Batch) (h:Nat) (p:Acid × Nat):Span:=⟨(hardS d b h p).thick,(weakS d b h p).thick⟩
def rL (d:Drum) (b:Batch) (h k:Nat):List Span:=((filledL d).take k).map (roughS d b h)
def tL (d:Drum) (b:Batch) (h k:Nat):List Span:=((filledL d).take k).map (thickS d b h)
theorem ends_bdU {d:Drum} (hP:DrumP d) {p:Acid × Nat} (hp:p ∈ filledL d) (high:Bool):bdU 1400 (endsL (strongL d p.1) high):=fun x hx=>by
 obtain ⟨s,hs,rfl⟩:=List.mem_map.1 hx
 obtain ⟨i,hi,rfl⟩:=List.mem_map.1 hs
 have:=strong_bd hP (filled_acid hP hp) (filled_mem.1 hp).2.2 (List.mem_range.1 hi)
 cases high <;> simp only [if_true,Bool.false_eq_true,if_false] <;> omega
theorem ends_at {d:Drum} {a:Acid} {high:Bool} {i:Nat} {x:Int} (h:(endsL (strongL d a) high)[i]? = some x):i < d.hours.toNat /\ x = if high then (strongS d a i).high else (strongS d a i).low:= by
 have hi:i < d.hours.toNat:=by have:=(List.getElem?_eq_some_iff.1 h).1; rwa [ends_len] at this
 refine ⟨hi,?_⟩
 unfold endsL at h
 rw [List.getElem?_map,strongL_get hi] at h
 simpa using h.symm
theorem w85 (d:Drum) (p:Acid × Nat) (i:Nat) (x:Int) (h:(endsL (strongL d p.1) false)[i]? = some x):ACalls Tryz.prog 196 ([.agg (eFilled d p)] ++ [vi i]) (fun r=>r = .pv (vi x)):= by
 obtain ⟨h1,rfl⟩:=ends_at h
 exact f85 d p i h1
theorem w86 (d:Drum) (p:Acid × Nat) (i:Nat) (x:Int) (h:(endsL (strongL d p.1) true)[i]? = some x):ACalls Tryz.prog 197 ([.agg (eFilled d p)] ++ [vi i]) (fun r=>r = .pv (vi x)):= by
 obtain ⟨h1,rfl⟩:=ends_at h
 exact f86 d p i h1
abbrev boC (R T:Span):List FV:=[.pv (vi R.low),.pv (vi R.high),.pv (vi T.low),.pv (vi T.high)]
abbrev enJ (w g:State):Nat -> List FV
 | 0=>[.pv (vi 0),.pv (vi 0),.pv (vi 0),.pv (vi 0)]
 | 1=>[.pv (vi w.rough),.pv (vi w.thick),.pv (vi 0),.pv (vi 0)]
 | _=>[.pv (vi w.rough),.pv (vi w.thick),.pv (vi g.rough),.pv (vi g.thick)]
set_option maxHeartbeats 8000000 in
theorem f138 (d:Drum) (hP:DrumP d) (b:Batch) (hb:BatchP3 b) (h:Nat) (hh:h <= d.hours.toNat):ACalls Tryz.prog 156 [eFilledL d (filledL d),.agg (eBatch b),vi h] (fun r=>r = .pv (.agg (eBounds (boundsI d b h)))):= by
 have hfl:=filled_len hP
 have h12:=hP.h1
 refine ACalls.of_body hT Tryz.func156 rfl (by kernel_rfl) rfl ?_
 (repeat (refine stq ?_))
 refine AW_loopC (fun k:Nat=>k <= (filledL d).length) (fun k=>mkSt [(2,.pv (vi h)),(4,.box 0 0),(6,.box 1 0),(7,.box 2 0),(14,.pv (.sl ((filledL d).map (eFilled d)))),(15,.pv (vi (filledL d).length)),(16,.pv (vi k))]
  [(0,.box ((eBatch b).map FV.pv)),(1,.box (boC ⟨0,0⟩ ⟨0,0⟩)),(2,.box (boC (hullL (rL d b h k)) (hullL (tL d b h k))))] 3) (fun k=>(filledL d).length - k) 0 (Nat.zero_le _) ?_ ?_
 ·(refine Le.mk ?_ ?_; all_goals (repeat' (first|exact trivial|refine sle ?_|refine ⟨?_,rfl,?_⟩|refine ⟨?_,by decide,rfl,?_⟩|fail)))
 ·intro k hk
  (repeat (refine stq ?_))
  refine AW_if rfl (fun hc=>?_) (fun hc=>?_)
  ·have hk':k < (filledL d).length:=by omega
   obtain ⟨p,hp⟩:∃ p,(filledL d)[k]? = some p:=⟨(filledL d)[k],by simp [hk']⟩
   have e1:=get_map (eFilled d) hp
   have hpm:=List.mem_of_getElem? hp
   have kw:=f136m b hb h (by omega) 196 [.agg (eFilled d p)] (endsL (strongL d p.1) false) (by rw [ends_len]; exact hh) (ends_bdU hP hpm false) (w85 d p)
   have kh:=f136m b hb h (by omega) 197 [.agg (eFilled d p)] (endsL (strongL d p.1) true) (by rw [ends_len]; exact hh) (ends_bdU hP hpm true) (w86 d p)
   have sr:rL d b h (k + 1) = rL d b h k ++ [roughS d b h p]:=map_take_succ _ hp
   have st:tL d b h (k + 1) = tL d b h k ++ [thickS d b h p]:=map_take_succ _ hp
   have lr:(rL d b h k).length = k:=by simp [rL]; omega
   have lt:(tL d b h k).length = k:=by simp [tL]; omega
   have hR:hullL (rL d b h (k + 1)) = if k = 0 then roughS d b h p else hull2 (hullL (rL d b h k)) (roughS d b h p):= by
    rw [sr,hull_snoc]
    by_cases h0:k = 0
    ·rw [if_pos h0,if_pos (List.length_eq_zero_iff.1 (by omega))]
    ·rw [if_neg h0,if_neg (fun e=>h0 (by rw [<- lr,e]; rfl))]
   have hT2:hullL (tL d b h (k + 1)) = if k = 0 then thickS d b h p else hull2 (hullL (tL d b h k)) (thickS d b h p):= by
    rw [st,hull_snoc]
    by_cases h0:k = 0
    ·rw [if_pos h0,if_pos (List.length_eq_zero_iff.1 (by omega))]
    ·rw [if_neg h0,if_neg (fun e=>h0 (by rw [<- lt,e]; rfl))]
   have eR:roughS d b h p = ⟨(hardS d b h p).rough,(weakS d b h p).rough⟩:=rfl
   have eT:thickS d b h p = ⟨(hardS d b h p).thick,(weakS d b h p).thick⟩:=rfl
   have kw:ACalls Tryz.prog 41 [.agg (eBatch b),vi h,.meth 196 [.agg (eFilled d p)]] (fun r=>r = .pv (.agg (eState (weakS d b h p)))):=kw
   have kh:ACalls Tryz.prog 41 [.agg (eBatch b),vi h,.meth 197 [.agg (eFilled d p)]] (fun r=>r = .pv (.agg (eState (hardS d b h p)))):=kh
   rw [eR] at hR
   rw [eT] at hT2
   generalize hullL (rL d b h k) = R at *
   generalize hullL (tL d b h k) = T at *
   generalize weakS d b h p = w at *
   generalize hardS d b h p = g at *
   (repeat (refine stq ?_))
   refine AW_loopC (fun j:Nat=>j <= 2) (fun j=>mkSt [(2,.pv (vi h)),(4,.box 0 0),(6,.box 1 0),(7,.box 2 0),(8,.pv (vi k)),(10,.box 4 0),(14,.pv (.sl ((filledL d).map (eFilled d)))),(15,.pv (vi (filledL d).length)),(16,.pv (vi k)),(25,.agg [.pv (.meth 196 [.agg (eFilled d p)]),.pv (.meth 197 [.agg (eFilled d p)])]),(26,.pv (vi j))]
    [(0,.box ((eBatch b).map FV.pv)),(1,.box (boC ⟨0,0⟩ ⟨0,0⟩)),(2,.box (boC R T)),(4,.box (enJ w g j))] 5) (fun j=>2 - j) 0 (Nat.zero_le _) ?_ ?_
   ·(refine Le.mk ?_ ?_; all_goals (repeat' (first|exact trivial|refine sle ?_|refine ⟨?_,rfl,?_⟩|refine ⟨?_,by decide,rfl,?_⟩|fail)))
   ·intro j hj
    (repeat (refine stq ?_))
    refine AW_if rfl (fun hc2=>?_) (fun hc2=>?_)
    ·rcases j with _|_|j
     ·(repeat' (first|refine stq ?_|(refine AL_do2 rfl ?_; first|refine ⟨_,op_call1 rfl rfl rfl rfl (kw),nrmA rfl ?_⟩)|(with_reducible refine AL_id ?_); (fail_if_success (refine glq rfl rfl rfl ?_)); first|refine AL_gdec rfl rfl rfl (fun hg=>?_) (fun hg=>?_)|refine AL_gnot rfl rfl rfl (fun hg=>?_) (fun hg=>?_)|refine AL_gcases rfl rfl rfl (fun hg=>?_) (fun hg=>?_)))
      refine ⟨1,by omega,by omega,?_⟩
      (refine Le.mk ?_ ?_; all_goals (repeat' (first|exact trivial|refine sle ?_|refine ⟨?_,rfl,?_⟩|refine ⟨?_,by decide,rfl,?_⟩|fail)))
     ·(repeat' (first|refine stq ?_|(refine AL_do2 rfl ?_; first|refine ⟨_,op_call1 rfl rfl rfl rfl (kh),nrmA rfl ?_⟩)|(with_reducible refine AL_id ?_); (fail_if_success (refine glq rfl rfl rfl ?_)); first|refine AL_gdec rfl rfl rfl (fun hg=>?_) (fun hg=>?_)|refine AL_gnot rfl rfl rfl (fun hg=>?_) (fun hg=>?_)|refine AL_gcases rfl rfl rfl (fun hg=>?_) (fun hg=>?_)))
      refine ⟨2,by omega,by omega,?_⟩
      (refine Le.mk ?_ ?_; all_goals (repeat' (first|exact trivial|refine sle ?_|refine ⟨?_,rfl,?_⟩|refine ⟨?_,by decide,rfl,?_⟩|fail)))
     ·omega
    ·have hj2:j = 2:=by omega
     subst hj2
     (repeat (refine stq ?_))
     refine AW_if rfl (fun h0=>?_) (fun h0=>?_)
     ·have h0':k = 0:=by omega
      rw [if_pos h0'] at hR hT2
      (repeat (refine stq ?_))
      refine ⟨k + 1,hk',by omega,?_⟩
      rw [hR,hT2]
      (refine Le.mk ?_ ?_; all_goals (repeat' (first|exact trivial|refine sle ?_|refine ⟨?_,rfl,?_⟩|refine ⟨?_,by decide,rfl,?_⟩|fail)))
     ·have h0':¬ k = 0:=by omega
      rw [if_neg h0'] at hR hT2
      (repeat (refine stq ?_))
      refine ⟨k + 1,hk',by omega,?_⟩
      rw [hR,hT2]
      (refine Le.mk ?_ ?_; all_goals (repeat' (first|exact trivial|refine sle ?_|refine ⟨?_,rfl,?_⟩|refine ⟨?_,by decide,rfl,?_⟩|fail)))
  ·have hk':k = (filledL d).length:=by omega
   subst hk'
   have er:rL d b h (filledL d).length = (filledL d).map (roughS d b h):=by rw [rL,List.take_length]
   have et:tL d b h (filledL d).length = (filledL d).map (thickS d b h):=by rw [tL,List.take_length]
   rw [er,et]
   (repeat (refine stq ?_))
   exact ⟨_,_,rfl,rfl,rfl⟩
end Go.Abs
namespace Go.Abs
open Go.Proofs
set_option maxRecDepth 100000
theorem last_at {p:Nat -> Bool} {n h:Nat} (h1:∀ j,h < j -> j < n -> p j = false) (h2:p h = true) (h3:h < n):lastI p n = h:= by
 rcases lastI_spec p n with ⟨_,g⟩|⟨m,g1,g3,g4,g5⟩
 ·have:=g h (by omega); rw [h2] at this; cases this
 ·have:m = h:= by
   rcases Nat.lt_trichotomy m h with q|q|q
   ·have:=g5 h q (by omega); rw [h2] at this; cases this
   ·exact q
   ·have:=h1 m q g3; rw [g4] at this; cases this
  rw [g1,this]
theorem last_none {p:Nat -> Bool} {n:Nat} (h1:∀ j,j < n -> p j = false):lastI p n = -1:= by
 rcases lastI_spec p n with ⟨g,_⟩|⟨m,g1,g3,g4,g5⟩
 ·exact g
 ·have:=h1 m (by omega); rw [g4] at this; cases this
theorem first_elem {d:Drum} (hne:filledL d ≠ []):∃ p,(filledL d)[0]? = some p:= by
 match hf:filledL d with
 | []=>exact absurd hf hne
 | p :: _=>exact ⟨p,by simp⟩
set_option maxHeartbeats 4000000 in
theorem f92 (d:Drum) (hP:DrumP d) (hne:filledL d ≠ []) (b:Batch) (hb:BatchP3 b):ACalls Tryz.prog 86 [eFilledL d (filledL d),.agg (eBatch b)] (fun r=>r = .pv (vi (smoothI d b))):= by
 have hfl:=filled_len hP
 obtain ⟨m,hm⟩:∃ m:Nat,d.hours = m:=⟨d.hours.toNat,by have:=hP.h0; omega⟩
 have hmm:d.hours.toNat = m:=by omega
 have h12:=hP.h1
 obtain ⟨p0,hp0⟩:=first_elem hne
 have e0:=get_map (eFilled d) hp0
 have hpos:0 < (filledL d).length:=(List.getElem?_eq_some_iff.1 hp0).1
 refine ACalls.of_body hT Tryz.func86 rfl (by kernel_rfl) rfl ?_
 (repeat (refine stq ?_))
 refine AW_loopC (fun h:Nat=>h <= m + 1 /\ ∀ j,j < h -> decide ((boundsI d b j).rough.high <= b.goal) = false) (fun h=>mkSt [(0,.pv (.sl ((filledL d).map (eFilled d)))),(3,.box 0 0),(11,.pv (vi (d.hours + 1))),(12,.pv (vi h))] [(0,.box ((eBatch b).map FV.pv))] 1) (fun h=>m + 1 - h) 0 ⟨Nat.zero_le _,fun j h=>by omega⟩ ?_ ?_
 ·(refine Le.mk ?_ ?_; all_goals (repeat' (first|exact trivial|refine sle ?_|refine ⟨?_,rfl,?_⟩|refine ⟨?_,by decide,rfl,?_⟩|fail)))
 ·rintro h ⟨hh,hall⟩
  (repeat (refine stq ?_))
  refine AW_if rfl (fun hc=>?_) (fun hc=>?_)
  ·have hlt:h < m + 1:=by omega
   have k138:=f138 d hP b hb h (by omega)
   have hall':(boundsI d b h).rough.high <= b.goal -> smoothI d b = h:=fun hq=>by
    unfold smoothI
    rw [hmm]
    exact first_at hall (by simpa using hq) hlt
   have next:¬ (boundsI d b h).rough.high <= b.goal -> ∀ j,j < h + 1 -> decide ((boundsI d b j).rough.high <= b.goal) = false:=fun hq j hj=>by
    by_cases hjh:j = h
    ·rw [hjh]; simpa using hq
    ·exact hall j (by omega)
   generalize boundsI d b h = B at *
   (repeat (refine stq ?_))
   (repeat (first|refine sdq ?_|refine DG_next (D_call rfl rfl rfl rfl rfl (k138)) ?_))
   refine DG_end hM (by kernel_rfl) ?_
   (repeat (refine stq ?_))
   refine AW_if rfl (fun hc2=>?_) (fun hc2=>?_)
   ·(repeat (refine stq ?_))
    exact ⟨_,_,rfl,rfl,by rw [hall' hc2]⟩
   ·(repeat (refine stq ?_))
    refine ⟨h + 1,⟨hlt,next hc2⟩,by omega,?_⟩
    (refine Le.mk ?_ ?_; all_goals (repeat' (first|exact trivial|refine sle ?_|refine ⟨?_,rfl,?_⟩|refine ⟨?_,by decide,rfl,?_⟩|fail)))
  ·have hhm:h = m + 1:=by omega
   (repeat (refine stq ?_))
   exact ⟨_,_,rfl,rfl,by
    have:smoothI d b = -1:=by unfold smoothI; rw [hmm]; exact first_none (by rw [<- hhm]; exact hall)
    rw [this]⟩
set_option maxHeartbeats 4000000 in
theorem f93 (d:Drum) (hP:DrumP d) (hne:filledL d ≠ []) (b:Batch) (hb:BatchP3 b):ACalls Tryz.prog 87 [eFilledL d (filledL d),.agg (eBatch b)] (fun r=>r = .pv (vi (thinI d b))):= by
 have hfl:=filled_len hP
 obtain ⟨m,hm⟩:∃ m:Nat,d.hours = m:=⟨d.hours.toNat,by have:=hP.h0; omega⟩
 have hmm:d.hours.toNat = m:=by omega
 have h12:=hP.h1
 obtain ⟨p0,hp0⟩:=first_elem hne
 have e0:=get_map (eFilled d) hp0
 have hpos:0 < (filledL d).length:=(List.getElem?_eq_some_iff.1 hp0).1
 refine ACalls.of_body hT Tryz.func87 rfl (by kernel_rfl) rfl ?_
 (repeat (refine stq ?_))
 refine AW_loopC (fun h:Nat=>h <= m + 1 /\ ∀ j,h <= j -> j < m + 1 -> decide ((boundsI d b j).thick.low >= b.least) = false) (fun h=>mkSt [(0,.pv (.sl ((filledL d).map (eFilled d)))),(3,.box 0 0),(5,.pv (vi ((h:Int) - 1)))] [(0,.box ((eBatch b).map FV.pv))] 1) (fun h=>h) (m + 1) ⟨Nat.le_refl _,fun j h1 h2=>by omega⟩ ?_ ?_
 ·(refine Le.mk ?_ ?_; all_goals (repeat' (first|exact trivial|refine sle ?_|refine ⟨?_,rfl,?_⟩|refine ⟨?_,by decide,rfl,?_⟩|fail)))
  exact congrArg some (congrArg FV.pv (congrArg vi (by omega)))
 ·rintro h ⟨hh,hall⟩
  (repeat (refine stq ?_))
  refine AW_if rfl (fun hc=>?_) (fun hc=>?_)
  ·obtain ⟨j,rfl⟩:∃ j,h = j + 1:=⟨h - 1,by omega⟩
   have k138:ACalls Tryz.prog 156 [eFilledL d (filledL d),.agg (eBatch b),vi (((j + 1:Nat):Int) - 1)] (fun r=>r = .pv (.agg (eBounds (boundsI d b j)))):= by
    rw [show ((j + 1:Nat):Int) - 1 = (j:Int) by omega]
    exact f138 d hP b hb j (by omega)
   have hall':(boundsI d b j).thick.low >= b.least -> thinI d b = j:=fun hq=>by
    unfold thinI
    rw [hmm]
    exact last_at (fun i h1 h2=>hall i (by omega) h2) (by simpa using hq) (by omega)
   have next:¬ (boundsI d b j).thick.low >= b.least -> ∀ i,j <= i -> i < m + 1 -> decide ((boundsI d b i).thick.low >= b.least) = false:=fun hq i h1 h2=>by
    by_cases hij:i = j
    ·rw [hij]; simpa using hq
    ·exact hall i (by omega) h2
   generalize boundsI d b j = B at *
   (repeat (refine stq ?_))
   (repeat (first|refine sdq ?_|refine DG_next (D_call rfl rfl rfl rfl rfl (k138)) ?_))
   refine DG_end hM (by kernel_rfl) ?_
   (repeat (refine stq ?_))
   refine AW_if rfl (fun hc2=>?_) (fun hc2=>?_)
   ·(repeat (refine stq ?_))
    exact ⟨_,_,rfl,rfl,by rw [hall' hc2]; exact congrArg RV.pv (congrArg vi (by omega))⟩
   ·(repeat (refine stq ?_))
    refine ⟨j,⟨by omega,next hc2⟩,by omega,?_⟩
    (refine Le.mk ?_ ?_; all_goals (repeat' (first|exact trivial|refine sle ?_|refine ⟨?_,rfl,?_⟩|refine ⟨?_,by decide,rfl,?_⟩|fail)))
    exact congrArg some (congrArg FV.pv (congrArg vi (by omega)))
  ·have h0:h = 0:=by omega
   subst h0
   (repeat (refine stq ?_))
   exact ⟨_,_,rfl,rfl,by
    have:thinI d b = -1:=by unfold thinI; rw [hmm]; exact last_none (fun j hj=>hall j (Nat.zero_le _) hj)
    rw [this]⟩
end Go.Abs
namespace Go.Abs
open Go.Proofs
set_option maxRecDepth 100000
def eStates (l:List State):PV:=.sl (l.map eState)
theorem true_bdU {d:Drum} {a:Acid} (hd:DrumP d) (ha:AcidP a) {t:List Int} (hl:(t.length:Int) = d.hours) (ht:truesB d a t = true):bdU 1400 t:=fun x hx=>by
 obtain ⟨i,hi⟩:=List.mem_iff_getElem?.1 hx
 have hlt:=(List.getElem?_eq_some_iff.1 hi).1
 have h1:=true_fwd hd ha ht i (by omega)
 have h2:=fwd_bd hd ha i
 have h12:=hd.h1
 rw [List.getD_eq_getElem?_getD,hi] at h1
 simp only [Option.getD_some] at h1
 omega
def runOK (d:Drum) (acid:Int) (t:List Int) (hours:Int):Bool:=drumB d && sizedB d acid t && fitsB d acid t && inB hours 0 d.hours
def runE (d:Drum) (acid:Int) (t:List Int) (hours:Int):List State × Int:=if runOK d acid t hours then (d.batches.map fun b=>stateI b t hours.toNat,0) else ([],2)
set_option maxHeartbeats 4000000 in
theorem f70 (d:Drum) (acid:Int) (t:List Int) (hours:Int) (hd:drumOK d) (htl0:t.length <= 1000):ACalls Tryz.prog 14 [eDrum d,eTruth acid t,vi hours] (fun r=>r = .tup [eStates (runE d acid t hours).1,vi (runE d acid t hours).2]):= by
 have k104:=f104 d hd
 have k134:=f134 d acid t hd.1 htl0
 have k87:=f87 hours 0 d.hours
 refine ACalls.of_body hT Tryz.func14 rfl (by kernel_rfl) rfl ?_
 cases q1:drumB d with
 | false =>
  rw [q1] at k104
  (repeat' (first|refine stq ?_|(refine AL_do2 rfl ?_; first|refine ⟨_,op_call1 rfl rfl rfl rfl (k104),nrmA rfl ?_⟩|refine ⟨_,op_call1 rfl rfl rfl rfl (k134),nrmA rfl ?_⟩|refine ⟨_,op_call1 rfl rfl rfl rfl (k87),nrmA rfl ?_⟩)|(with_reducible refine AL_id ?_); (fail_if_success (refine glq rfl rfl rfl ?_)); first|refine AL_gdec rfl rfl rfl (fun hg=>?_) (fun hg=>?_)|refine AL_gnot rfl rfl rfl (fun hg=>?_) (fun hg=>?_)|refine AL_gcases rfl rfl rfl (fun hg=>?_) (fun hg=>?_)))
  all_goals (try (exfalso; simp at hg; done))
  exact ⟨_,_,rfl,rfl,by simp [runE,runOK,q1,eStates]⟩
 | true =>
  rw [q1] at k104
  cases q2:sizedB d acid t with
  | false =>
   rw [q2] at k134
   (repeat' (first|refine stq ?_|(refine AL_do2 rfl ?_; first|refine ⟨_,op_call1 rfl rfl rfl rfl (k104),nrmA rfl ?_⟩|refine ⟨_,op_call1 rfl rfl rfl rfl (k134),nrmA rfl ?_⟩|refine ⟨_,op_call1 rfl rfl rfl rfl (k87),nrmA rfl ?_⟩)|(with_reducible refine AL_id ?_); (fail_if_success (refine glq rfl rfl rfl ?_)); first|refine AL_gdec rfl rfl rfl (fun hg=>?_) (fun hg=>?_)|refine AL_gnot rfl rfl rfl (fun hg=>?_) (fun hg=>?_)|refine AL_gcases rfl rfl rfl (fun hg=>?_) (fun hg=>?_)))
   all_goals (try (exfalso; simp at hg; done))
   exact ⟨_,_,rfl,rfl,by simp [runE,runOK,q1,q2,eStates]⟩
  | true =>
   rw [q2] at k134
   have hP:=drumP_of.1 q1
   obtain ⟨h0,hac,hl⟩:=sized_of q2
   have k135:ACalls Tryz.prog 39 [eDrum d,eTruth acid t] (fun r=>r = .pv (.bool (fitsB d acid t))):=f135 d _ acid t hP h0 hac hl
   cases q3:fitsB d acid t with
   | false =>
    rw [q3] at k135
    (repeat' (first|refine stq ?_|(refine AL_do2 rfl ?_; first|refine ⟨_,op_call1 rfl rfl rfl rfl (k104),nrmA rfl ?_⟩|refine ⟨_,op_call1 rfl rfl rfl rfl (k134),nrmA rfl ?_⟩|refine ⟨_,op_call1 rfl rfl rfl rfl (k135),nrmA rfl ?_⟩|refine ⟨_,op_call1 rfl rfl rfl rfl (k87),nrmA rfl ?_⟩)|(with_reducible refine AL_id ?_); (fail_if_success (refine glq rfl rfl rfl ?_)); first|refine AL_gdec rfl rfl rfl (fun hg=>?_) (fun hg=>?_)|refine AL_gnot rfl rfl rfl (fun hg=>?_) (fun hg=>?_)|refine AL_gcases rfl rfl rfl (fun hg=>?_) (fun hg=>?_)))
    all_goals (try (exfalso; simp at hg; done))
    exact ⟨_,_,rfl,rfl,by simp [runE,runOK,q1,q2,q3,eStates]⟩
   | true =>
    rw [q3] at k135
    cases q4:inB hours 0 d.hours with
    | false =>
     rw [q4] at k87
     (repeat' (first|refine stq ?_|(refine AL_do2 rfl ?_; first|refine ⟨_,op_call1 rfl rfl rfl rfl (k104),nrmA rfl ?_⟩|refine ⟨_,op_call1 rfl rfl rfl rfl (k134),nrmA rfl ?_⟩|refine ⟨_,op_call1 rfl rfl rfl rfl (k135),nrmA rfl ?_⟩|refine ⟨_,op_call1 rfl rfl rfl rfl (k87),nrmA rfl ?_⟩)|(with_reducible refine AL_id ?_); (fail_if_success (refine glq rfl rfl rfl ?_)); first|refine AL_gdec rfl rfl rfl (fun hg=>?_) (fun hg=>?_)|refine AL_gnot rfl rfl rfl (fun hg=>?_) (fun hg=>?_)|refine AL_gcases rfl rfl rfl (fun hg=>?_) (fun hg=>?_)))
     all_goals (try (exfalso; simp at hg; done))
     exact ⟨_,_,rfl,rfl,by simp [runE,runOK,q1,q2,q3,q4,eStates]⟩
    | true =>
     rw [q4] at k87
     rw [runE,if_pos (by simp [runOK,q1,q2,q3,q4])]
     simp only [inB,Bool.and_eq_true,decide_eq_true_eq] at q4
     obtain ⟨h,rfl⟩:∃ h:Nat,hours = h:=⟨hours.toNat,by omega⟩
     simp only [Int.toNat_natCast]
     have h12:=hP.h1
     have hbl:=hP.b1
     have htb:=true_bdU hP (hP.acid _ (List.mem_of_getElem? hac)) hl (by simp only [fitsB,Bool.and_eq_true] at q3; exact q3.2)
     (repeat' (first|refine stq ?_|(refine AL_do2 rfl ?_; first|refine ⟨_,op_call1 rfl rfl rfl rfl (k104),nrmA rfl ?_⟩|refine ⟨_,op_call1 rfl rfl rfl rfl (k134),nrmA rfl ?_⟩|refine ⟨_,op_call1 rfl rfl rfl rfl (k135),nrmA rfl ?_⟩|refine ⟨_,op_call1 rfl rfl rfl rfl (k87),nrmA rfl ?_⟩)|(with_reducible refine AL_id ?_); (fail_if_success (refine glq rfl rfl rfl ?_)); first|refine AL_gdec rfl rfl rfl (fun hg=>?_) (fun hg=>?_)|refine AL_gnot rfl rfl rfl (fun hg=>?_) (fun hg=>?_)|refine AL_gcases rfl rfl rfl (fun hg=>?_) (fun hg=>?_)))
     all_goals (try (exfalso; simp at hg; done))
     refine AW_own_nil (e:=64) (sz:=2) (t:=8) rfl rfl ?_
     (repeat (refine stq ?_))
     refine AW_loopC (fun k:Nat=>k <= d.batches.length) (fun k=>mkSt [(2,.pv (vi h)),(4,.box 1 0),(8,.arr 2),(35,.pv (.sl (d.batches.map eBatch))),(36,.pv (vi d.batches.length)),(37,.pv (vi k))] [(1,.box [.pv (vi acid),.pv (eInts t)]),(2,.arr 64 2 (((d.batches.take k).map fun b=>stateI b t h).map eState))] 3) (fun k=>d.batches.length - k) 0 (Nat.zero_le _) ?_ ?_
     ·(refine Le.mk ?_ ?_; all_goals (repeat' (first|exact trivial|refine sle ?_|refine ⟨?_,rfl,?_⟩|refine ⟨?_,by decide,rfl,?_⟩|fail)))
     ·intro k hk
      (repeat (refine stq ?_))
      refine AW_if rfl (fun hc=>?_) (fun hc=>?_)
      ·have hk':k < d.batches.length:=by omega
       obtain ⟨b,hb⟩:∃ b,d.batches[k]? = some b:=⟨d.batches[k],by simp [hk']⟩
       have e1:=get_map eBatch hb
       have k136:=f136c b (hP.batch b (List.mem_of_getElem? hb)) h (by omega) 42 [.ptr [vi acid,eInts t]] t (by omega) htb (fun i x hx=>f137 acid t i x hx)
       have hsn:(d.batches.take (k + 1)).map (fun b=>stateI b t h) = (d.batches.take k).map (fun b=>stateI b t h) ++ [stateI b t h]:=map_take_succ _ hb
       have htl:((d.batches.take k).map fun b=>stateI b t h).length <= 1000:=by simp; omega
       generalize ((d.batches.take k).map fun b=>stateI b t h) = ts at *
       generalize stateI b t h = B at *
       (repeat' (first|refine stq ?_|(refine AL_do2 rfl ?_; first|refine ⟨_,op_callB rfl rfl rfl rfl (k136) rfl,nrmA rfl ?_⟩|refine ⟨_,op_call1 rfl rfl rfl rfl (k136),nrmA rfl ?_⟩)|(with_reducible refine AL_id ?_); (fail_if_success (refine glq rfl rfl rfl ?_)); first|refine AL_gdec rfl rfl rfl (fun hg=>?_) (fun hg=>?_)|refine AL_gnot rfl rfl rfl (fun hg=>?_) (fun hg=>?_)|refine AL_gcases rfl rfl rfl (fun hg=>?_) (fun hg=>?_)))
       refine ⟨k + 1,hk',by omega,?_⟩
       rw [hsn]
       (refine Le.mkR [(1,1),(2,6)] ?_ ?_ rfl; all_goals (repeat' (first|exact trivial|refine sle ?_|refine ⟨?_,rfl,?_⟩|refine ⟨?_,by decide,rfl,?_⟩|fail)))
       rw [List.map_append]; rfl
      ·have hk':k = d.batches.length:=by omega
       subst hk'
       rw [List.take_length]
       refine AW_pure (t:=8) rfl rfl ?_
       (repeat (refine stq ?_))
       exact ⟨_,_,rfl,rfl,rfl⟩
end Go.Abs
namespace Go.Abs
open Go.RowKit
open Go.ChangeMaps (setBlock)
def MemoR (es:Array MapEntry) (f:Int -> Value):Prop:=∀ e ∈ es.toList,∃ n,e.key = .int .i64 n /\ e.val = f n
def memoE (f:Int -> Value) (l:Nat):Ext:=⟨[],l,fun _ B _ w=>(∀ b,B b ↔ b = l) /\ ∃ es clock,w.heap[l]? = some (.map es clock) /\ MemoR es f⟩
abbrev memoO (f:Int -> Value) (l:Nat):AObj:=.ext (memoE f l) 0 (fun b=>b = l)
theorem memoE_mono (f:Int -> Value) (l:Nat):(memoE f l).Mono:=fun k B D D' w w' h hD hw hB=>by
 obtain ⟨h1,es,clock,h2,h3⟩:=h
 exact ⟨h1,es,clock,by rw [hB l ((h1 l).2 rfl)]; exact h2,h3⟩
theorem findNow_memo {f:Int -> Value} {n:Int}:∀ (l:List MapEntry) (i:Nat),(∀ e ∈ l,∃ n,e.key = .int .i64 n /\ e.val = f n) →
  Instr.findNow (.int .i64) (.int .i64 n) l i = some none \/ ∃ j e,Instr.findNow (.int .i64) (.int .i64 n) l i = some (some (i + j,f n)) /\ l[j]? = some e /\ e.key = .int .i64 n /\ e.val = f n
 | [],i,h=>.inl rfl
 | e :: l,i,h=>by
  obtain ⟨k,h1,h2⟩:=h e (by simp)
  by_cases hk:n = k
  ·subst hk
   right
   refine ⟨0,e,?_,rfl,h1,h2⟩
   simp [Instr.findNow,Instr.sameNow,h1,h2]
  ·have hb:Instr.findNow (.int .i64) (.int .i64 n) (e :: l) i = Instr.findNow (.int .i64) (.int .i64 n) l (i + 1):= by
    have hnk:(n == k) = false:=by simpa using hk
    simp [Instr.findNow,Instr.sameNow,h1,hnk]
   rcases findNow_memo (n:=n) l (i + 1) (fun e he=>h e (by simp [he])) with q|⟨j,e',q2,q3,q4,q5⟩
   ·exact .inl (by rw [hb]; exact q)
   ·exact .inr ⟨j + 1,e',by rw [hb,q2]; congr 3; omega,by simpa using q3,q4,q5⟩
theorem run_update_memo {P:Program} {t kt et:TypeId} (ht:P.underlying t = some (.map kt et)) (hk:P.underlying kt = some (.int .i64)) {w:World} {r:Nat} {es:Array MapEntry} {clock:Nat} {f:Int -> Value} {n:Int} (hr:w.heap[r]? = some (.map es clock)) (hM:MemoR es f) :
  ∃ es' clock',(Instr.mapUpdate t (.map (some r)) (.int .i64 n) (f n)).run P w = .ok () (setBlock w r (.map es' clock')) /\ MemoR es' f:= by
 have hset:∀ o',(setObj r o').run P w = .ok () (setBlock w r o'):=fun o'=>by simp [setObj,Sem.run,hr,setBlock]
 have hck:(Instr.checkKey false 10000 kt (.int .i64 n)).run P w = .ok () w:=MapKept.run_checkKey hk (by simp [MapKept.IsKey]) false 9999
 rcases findNow_memo (f:=f) (n:=n) es.toList 0 hM with q2|⟨j,e,q2,q3,q4,q5⟩
 ·have hf:=MapKept.run_findKey (P:=P) (w:=w) hk q2
  refine ⟨es.push { key:=.int .i64 n,val:=f n,born:=clock },clock + 1,?_,?_⟩
  ·simp [Instr.mapUpdate,underlying,ht,getObj,Sem.run,hr,hck,hf,hset]
   try simp [Sem.run_bind,hck,hf,hset]
  ·intro e he
   rw [Array.toList_push] at he
   rcases List.mem_append.1 he with he|he
   ·exact hM e he
   ·simp only [List.mem_singleton] at he; subst he; exact ⟨n,rfl,rfl⟩
 ·have hf:=MapKept.run_findKey (P:=P) (w:=w) hk q2
  rw [Nat.zero_add] at hf
  have hj:es[j]? = some e:=by simpa using q3
  have hkey:(Instr.keyThatStays (.int .i64 n) (.int .i64 n)).run P w = .ok (.int .i64 n) w:=by simp [Instr.keyThatStays,Instr.sameBits]
  have hmod:es.modify j (fun e=>{ e with key:=.int .i64 n,val:=f n }) = es:= by
   apply Array.ext
   ·simp
   ·intro i h1 h2
    rw [Array.getElem_modify]
    split
    ·rename_i hij; subst hij
     have:es[j] = e:=by rw [Array.getElem?_eq_getElem h2] at hj; cases hj; rfl
     rw [this]; cases e; simp_all
    ·rfl
  refine ⟨es,clock,?_,hM⟩
  have h2:=hset (.map es clock)
  simp [Instr.mapUpdate,underlying,ht,getObj,Sem.run,hr,hck,hf,hj,q4,hkey,hmod,h2]
  try simp [Sem.run_bind,hck,hf,hj,q4,hkey,hmod,h2]
section
variable {P:Program} {T:Nat -> Option TyI} {nt:Nat} {s:ASt} {o:Oper} {ops:Array Oper} {rest:List Oper} {Q:Exit -> ASt -> Prop}
theorem op_makeMemo (f:Int -> Value) {t:Nat} (ho:o.op = .makeMap t none) (hd:dstB nt o.dst = true):OpToS P nt o s (fun s'=>∃ l,s' = (s.newObj (memoO f l)).putO o.dst (some (.mp s.nxt))):= by
 intro ro W0 D0 D φ a w hI K Q hK
 have hrun:(execOp a.eval o).run P w = .ok (.value (.map (some w.heap.size))) (w.alloc (.map #[] 0)):= by
  simp [execOp,ho,Instr.makeMap]
 refine wpIn_of (by rw [ho]; intro c hc; cases hc) ?_
 unfold Oper.wp
 rw [hrun]
 have hbel:Below w.heap.size w (w.alloc (.map #[] 0)):=(Below.refl _ w).alloc (Nat.le_refl _) _
 have hN:Inv W0 D0 nt (s.newObj (memoO f w.heap.size)) D (addH φ s.nxt (.map (some w.heap.size))) a (w.alloc (.map #[] 0)):= by
  refine hI.chg s.nxt (fun _=>False) (hbel.mono (Nat.zero_le _)) (fun b hlt _=>hbel.block b hlt) (fun _ h=>h) (fun b h=>.inl h) (fun id hid=>addH_old φ _ hid) (Nat.le_succ _) (fun t x hx=>hx) ?_ ?_
  ·intro id ob2 hne ho
   rw [ASt.obj_newObj,if_neg (fun e=>hne e.symm)] at ho
   exact ⟨fun hf=>hf,ho⟩
  ·intro ob2 ho
   rw [ASt.obj_newObj,if_pos rfl] at ho
   cases ho
   refine ⟨Nat.lt_succ_self _,rfl,⟨memoE_mono f _,addH_new _ _ _,rfl,fun b=>Iff.rfl,#[],0,heap_alloc_new w _,fun e he=>by simp at he⟩,fun b hb=>?_⟩
   have hb:b = w.heap.size:=hb
   subst hb
   exact ⟨fun h=>Nat.lt_irrefl _ (hI.dlt _ h),by simp,.inl (Nat.le_refl _)⟩
 refine hK _ D _ _ _ ⟨w.heap.size,rfl⟩ (hN.put o.dst (dstB_lt hd) _ _ fun x' hx'=>?_)
 cases hx'
 exact ⟨by simp [FV.lt,ASt.newObj],.mp _ _ (addH_new _ _ _)⟩
theorem memo_block {W0:World} {D0:Bas} {D:Nat -> Prop} {φ:Nat -> Value} {a:Act} {w:World} (hI:Inv W0 D0 nt s D φ a w) {x:Operand} {id l:Nat} {f:Int -> Value} (hx:s.ev x = some (.mp id)) (hob:s.obj id = some (memoO f l)) :
  a.eval x = .map (some l) /\ φ id = .map (some l) /\ ∃ es clock,w.heap[l]? = some (.map es clock) /\ MemoR es f:= by
 obtain ⟨hid,_,_,h1,_,_,es,clock,h2,h3⟩:=hI.objs id _ hob
 have hv:a.eval x = .map (some l):= by
  have:=(hI.ev hx).2
  generalize a.eval x = v at this
  cases this with
  | mp id r' h=>rw [h1] at h; exact h.symm
 exact ⟨hv,h1,es,clock,h2,h3⟩
theorem op_updateMemo {t kt et:TypeId} {x y z:Operand} {id l:Nat} {f:Int -> Value} {n:Int} {p:PV} (hu:P.underlying t = some (.map kt et)) (hkt:P.underlying kt = some (.int .i64)) (ho:o.op = .mapUpdate t x y z) (hd:dstB nt o.dst = true)
  (hx:s.ev x = some (.mp id)) (hob:s.obj id = some (memoO f l)) (hy:s.ev y = some (.pv (.int .i64 n))) (hz:s.evD z = some p) (hp:valP p = some (f n)):OpTo P nt o s (s.putO o.dst none):= by
 intro ro W0 D0 D φ a w hI K Q hK
 obtain ⟨hv,hφ,es,clock,h2,h3⟩:=memo_block hI hx hob
 have hzv:a.eval z = f n:=valP_rep (hI.evD hz) hp
 obtain ⟨es',clock',hrun,hM⟩:=run_update_memo (n:=n) hu hkt h2 h3
 have hr:(execOp a.eval o).run P w = .ok .skip (setBlock w l (.map es' clock')) \/ ∃ v,(execOp a.eval o).run P w = .ok (.value v) (setBlock w l (.map es' clock')):= by
  simp only [execOp,ho,hv,hI.ev_int hy,hzv,Sem.run_bind,hrun,Result.andThen_ok,Sem.run_pure]
  first|exact .inl trivial|exact .inl rfl|exact .inr ⟨_,rfl⟩
 have hrw:l < w.heap.size:=(Array.getElem?_eq_some_iff.1 h2).1
 have hsame:∀ b,b ≠ l -> (setBlock w l (.map es' clock')).heap[b]? = w.heap[b]?:=fun b hb=>by
  simp only [setBlock]; rw [Array.getElem?_setIfInBounds,if_neg (fun e=>hb e.symm)]
 have hnewb:(setBlock w l (.map es' clock')).heap[l]? = some (.map es' clock'):=by simp [setBlock,hrw]
 have hid:=(hI.objs id _ hob).1
 have hN:Inv W0 D0 nt s D φ a (setBlock w l (.map es' clock')):= by
  refine hI.chg id (fun j=>j = id) ⟨rfl,rfl,rfl,by simp [setBlock],fun k hk=>absurd hk (Nat.not_lt_zero _)⟩ ?_ (fun _ h=>h) (fun b' hb'=>.inl hb') (fun _ _=>rfl) (Nat.le_refl _) (fun t x hx=>hx) ?_ ?_
  ·intro b' _ hne
   exact hsame b' (fun e=>hne id _ rfl hob (by show b' = l; exact e))
  ·intro id' ob' hne ho'
   exact ⟨hne,ho'⟩
  ·intro ob' ho'
   rw [hob] at ho'
   cases ho'
   refine ⟨hid,rfl,⟨memoE_mono f _,hφ,rfl,fun b=>Iff.rfl,es',clock',hnewb,hM⟩,fun b' hb'=>?_⟩
   obtain ⟨g1,g2,g3⟩:=hI.own id _ b' hob hb'
   exact ⟨g1,by simpa [setBlock] using g3,.inr ⟨id,_,rfl,hob,hb'⟩⟩
 refine wpIn_of (by rw [ho]; intro c hc; cases hc) ?_
 unfold Oper.wp
 rcases hr with hr|⟨v,hr⟩
 ·rw [hr]; exact hK D φ _ _ (hN.put o.dst (dstB_lt hd) undef none (fun _ h=>by cases h))
 ·rw [hr]; exact hK D φ _ _ (hN.put o.dst (dstB_lt hd) v none (fun _ h=>by cases h))
theorem op_lookMemo {t kt et:TypeId} {x y:Operand} {id l:Nat} {f:Int -> Value} {n:Int} {p z:PV} {zv:Value} (hu:P.underlying t = some (.map kt et)) (hkt:P.underlying kt = some (.int .i64)) (hzr:∀ w,(zeroValue et).run P w = .ok zv w) (hzv:valP z = some zv) (ho:o.op = .lookup t x y true) (hd:dstB nt o.dst = true)
  (hx:s.ev x = some (.mp id)) (hob:s.obj id = some (memoO f l)) (hy:s.ev y = some (.pv (.int .i64 n))) (hp:valP p = some (f n)) (hrp:∀ w D,Rep w D (f n) p) (hrz:∀ w D,Rep w D zv z) :
  OpToS P nt o s (fun s'=>s' = s.putO o.dst (some (.tup [.pv p,.pv (.bool true)])) \/ s' = s.putO o.dst (some (.tup [.pv z,.pv (.bool false)]))):= by
 intro ro W0 D0 D φ a w hI K Q hK
 obtain ⟨hv,hφ,es,clock,h2,h3⟩:=memo_block hI hx hob
 have hck:(Instr.checkKey es.isEmpty 10000 kt (.int .i64 n)).run P w = .ok () w:=MapKept.run_checkKey hkt (by simp [MapKept.IsKey]) es.isEmpty 9999
 refine wpIn_of (by rw [ho]; intro c hc; cases hc) ?_
 unfold Oper.wp
 rcases findNow_memo (f:=f) (n:=n) es.toList 0 h3 with q2|⟨j,e,q2,_,_,_⟩
 ·have hf:=MapKept.run_findKey (P:=P) (w:=w) hkt q2
  have hr:(execOp a.eval o).run P w = .ok (.value (.tuple #[zv,.bool false])) w:= by
   simp [execOp,ho,hv,hI.ev_int hy,Instr.lookup,underlying,hu,getObj,Sem.run,h2,hck,hf,hzr w]
   try simp [Sem.run_bind,hck,hf,hzr w]
  rw [hr]
  refine hK _ D φ _ w (.inr rfl) (hI.put o.dst (dstB_lt hd) _ _ fun x' hx'=>?_)
  cases hx'
  refine ⟨rfl,.tup _ _ rfl fun j v p hv hp=>?_⟩
  match j with
  | 0=>simp at hv hp; subst hv; subst hp; exact .pv _ _ (hrz w D)
  | 1=>simp at hv hp; subst hv; subst hp; exact .pv _ _ (.bool _)
  | j + 2=>simp at hp
 ·have hf:=MapKept.run_findKey (P:=P) (w:=w) hkt q2
  have hr:(execOp a.eval o).run P w = .ok (.value (.tuple #[f n,.bool true])) w:= by
   simp [execOp,ho,hv,hI.ev_int hy,Instr.lookup,underlying,hu,getObj,Sem.run,h2,hck,hf]
   try simp [Sem.run_bind,hck,hf]
  rw [hr]
  refine hK _ D φ _ w (.inl rfl) (hI.put o.dst (dstB_lt hd) _ _ fun x' hx'=>?_)
  cases hx'
  refine ⟨rfl,.tup _ _ rfl fun j v p hv hp=>?_⟩
  match j with
  | 0=>simp at hv hp; subst hv; subst hp; exact .pv _ _ (hrp w D)
  | 1=>simp at hv hp; subst hv; subst hp; exact .pv _ _ (.bool _)
  | j + 2=>simp at hp
theorem evL_agree {s1:ASt}:∀ {l:List Operand},(∀ x ∈ l,s1.ev x = s.ev x) -> evL s1 l = evL s l
 | [],_=>rfl
 | x :: l,h=>by
  simp only [evL,h x (by simp),evL_agree (l:=l) fun y hy=>h y (by simp [hy])]
theorem op_callMemo {g id l:Nat} {F:Int -> Value} {args:Array Operand} {ts:Array TypeId} {ys xs:List FV} {p:PV} (ho:o.op = .call { callee:=.value (.func g),args,argTypes:=ts }) (hd:dstB nt o.dst = true) (ha:evL s args.toList = some ys) (hx:argsX s [(0,id)] ys xs)
  (hxl:FV.ltL 1 xs = true) (hob:s.obj id = some (memoO F l)) (hc:ACallsX P g xs [(0,memoO F l)] 1 (fun sf=>sf = mkSt [(0,.pv p)] [(0,memoO F l)] 1) (fun _ _=>False)):OpTo P nt o s (s.putO o.dst (some (.pv p))):= by
 intro ro W0 D0 D φ a w hI K Q hK
 refine op_callXs (objs:=[(0,memoO F l)]) (n:=1) [(0,id)] [0] [] (fun av=>hc) ho hd (caps:=[]) (g:=g) (ys:=ys) rfl ha (by rw [List.append_nil]; exact hx) hxl ⟨hob,Nat.zero_lt_one,rfl,trivial⟩ rfl trivial (by simp)
  (fun av sf h=>by subst h; exact ⟨.inr ⟨_,_,_,_,_,rfl,hob⟩,trivial⟩) ro W0 D0 D φ a w hI K Q ?_
 rintro s' D' φ' a' w' ⟨av,sf,rfl,rfl⟩ hI'
 have hnl:∀ t x,(s.putO o.dst (some (.pv p))).get t = some x -> x.lt s.nxt = true:=fun t x ht=>by
  cases hdd:o.dst with
  | none=>rw [hdd] at ht; exact (hI.env t x ht).1
  | some d =>
   rw [hdd] at ht
   simp only [ASt.putO,ASt.get_put] at ht
   split at ht
   ·cases ht; rfl
   ·exact (hI.env t x ht).1
 have hn:∀ (d:Option Nat),(s.putO d (some (.pv p))).nxt = s.nxt:=fun d=>by cases d <;> rfl
 have hob2:∀ (d:Option Nat) i,(s.putO d (some (.pv p))).obj i = s.obj i:=fun d i=>by cases d <;> rfl
 refine hK D' φ' a' w' (hI'.weaken (s':=s.putO o.dst (some (.pv p))) ?_ ?_ ?_ ?_)
 ·intro t x ht
  cases hdd:o.dst with
  | none=>rw [hdd] at ht; exact ht
  | some d=>rw [hdd] at ht; exact ht
 ·intro i ob hi
  rw [hob2] at hi
  have:∀ (d:Option Nat) (y:Option FV),((afterX s [(0,id)] [0] [0] (mkSt [(0,.pv p)] [(0,memoO F l)] 1)).putO d y).obj i = if id = i then some (memoO F l) else if id = i then none else s.obj i:=fun d y=>by
   have e:((afterX s [(0,id)] [0] [0] (mkSt [(0,.pv p)] [(0,memoO F l)] 1)).putO d y).obj i = look ((id,some (memoO F l)) :: (id,none) :: s.objs) i:=by cases d <;> rfl
   rw [e]
   by_cases h:id = i
   ·subst h; simp [look_cons_eq]
   ·rw [look_cons_ne _ _ h,look_cons_ne _ _ h,if_neg h,if_neg h]; rfl
  show ((afterX s [(0,id)] [0] [0] (mkSt [(0,.pv p)] [(0,memoO F l)] 1)).putO o.dst _).obj i = some ob
  rw [this]
  by_cases h:id = i
  ·subst h; rw [if_pos rfl]; rw [hob] at hi; exact hi
  ·rw [if_neg h,if_neg h]; exact hi
 ·intro t x ht; rw [hn]; exact hnl t x ht
 ·intro i ob hi
  rw [hob2] at hi
  rw [hn]
  exact ⟨(hI.objs i ob hi).1,(hI.objs i ob hi).2.1⟩
theorem D_callMemo {g id l:Nat} {F:Int -> Value} {args:Array Operand} {ts:Array TypeId} {ys xs:List FV} {p:PV} (hg:guardT ops s o = true) (ho:o.op = .call { callee:=.value (.func g),args,argTypes:=ts }) (hd:dstB nt o.dst = true) (ha:evL s args.toList = some ys) (hx:∀ s1:ASt,argsX s1 [(0,id)] ys xs)
  (hxl:FV.ltL 1 xs = true) (hob:s.obj id = some (memoO F l)) (hc:ACallsX P g xs [(0,memoO F l)] 1 (fun sf=>sf = mkSt [(0,.pv p)] [(0,memoO F l)] 1) (fun _ _=>False)):StepOK P nt ops o s ⟨some (.pv p),false,[id],[]⟩ (s.putO o.dst (some (.pv p))) :=
 StepOK.mkP hg fun s1 h1 h2=>op_callMemo ho hd (by rw [evL_agree fun x hx=>ev_agree h1 (by simp [ho,Op.operands,Call.operands]; right; simpa using hx)]; exact ha) (hx s1) hxl (by rw [h2 id (by simp)]; exact hob) hc
end
end Go.Abs
