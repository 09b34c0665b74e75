/- The search for a roster: the walk. -/
import Derived.Test.YtpoaccdbakbjhaaGreatXG41
import Derived.Test.YtpoaccdbakbjhaaGreatXG45
set_option linter.unusedVariables false
set_option linter.unusedSimpArgs false
namespace Go.Abs
open Go.Proofs
set_option maxRecDepth 100000
def eOwn (own:List (List (List Int))):PV:=.sl (own.map fun l=>[eLists l])
theorem t61 (h:SHouse) (hh:HouseP h) (now:List (List Int)) (hn:now.length <= 1000) (x:Int) (hx:setOK x):ACalls Tryz.prog 61 [vi x,.ptr (eHouseC h),.ptr [eLists now]] (fun r=>r = .pv (.bool (decide (popN x > (h.hands.length:Int) - now.length)))):= by
 have n4:=hh.n4
 have k62:=t62 x hx
 generalize hp:popN x = n at *
 rcases hx with rfl|rfl|rfl|rfl
 all_goals
  refine ACalls.of_body hT Tryz.func61 rfl (by kernel_rfl) rfl ?_
  (repeat (refine stq ?_))
  (repeat (first|refine sdq ?_|refine DG_next (D_call rfl rfl rfl rfl rfl (k62)) ?_))
  refine DG_end hM (by kernel_rfl) ?_
  (repeat (refine stq ?_))
  exact ⟨_,_,rfl,rfl,rfl⟩
def outF:Option (List (List Int)) -> FV
 | none=>.nils
 | some l=>.pv (eLists l)
abbrev ssO (h:SHouse) (own:List (List (List Int))) (fw:Int) (o:Option (List (List Int))):List (Nat × AObj):=[(0,.box [.pv (vi fw)]),(1,.box [outF o]),(2,.box [.fn 59 [.box 0 0,.pv (.ptr (eHouseC h)),.box 1 0,.pv (.ptr [eOwn own]),.box 2 0]])]
abbrev ssA (h:SHouse) (own:List (List (List Int))) (now:List (List Int)) (left:List Int) (hands:Int):List FV:=[.pv (eLists now),.pv (eInts left),.pv (vi hands),.box 0 0,.pv (.ptr (eHouseC h)),.box 1 0,.pv (.ptr [eOwn own]),.box 2 0]
abbrev ssN (av:Nat -> Value):List (Nat × AObj):=ancL av [(3,0),(4,1),(5,2)]
def SsQ (h:SHouse) (own:List (List (List Int))) (d:Nat) (now:List (List Int)) (left:List Int) (hands:Int):Prop:=∀ (fw:Int) (o:Option (List (List Int))) (av:Nat -> Value),
 ACallsX Tryz.prog 59 (ssA h own now left hands) (ssO h own fw o ++ ssN av) 6 (fun sf=>sf = mkSt [(0,.tup [])] (ssO h own (searchF h.hands.length own d now left hands ⟨fw,o⟩).fewest (searchF h.hands.length own d now left hands ⟨fw,o⟩).out ++ ssN av) 6) (fun _ _=>False)
set_option maxHeartbeats 8000000 in
theorem t59z (h:SHouse) (hh:HouseP h) (own:List (List (List Int))) (now:List (List Int)) (left:List Int) (hands:Int) (hn:now.length = h.hands.length) (hll:left.length = h.sets.length) (hls:∀ x ∈ left,setOK x) (hb:0 <= hands /\ hands <= now.length):SsQ h own 0 now left hands:= by
 intro fw o av
 have n4:=hh.n4; have sl:=hh.sl; have h4:=hh.h4
 have k60:=t60 left (by omega) 61 [.ptr (eHouseC h),.ptr [eLists now]] (fun x=>decide (popN x > (h.hands.length:Int) - now.length)) (fun x hx=>t61 h hh now (by omega) x (hls x hx))
 have k60b:=t60 left (by omega) 63 [] (fun x=>decide (x ≠ 0)) (fun x hx=>t63 x)
 rw [searchF,pruneB,leafS]
 dsimp only
 generalize (left.any fun x=>decide (popN x > (h.hands.length:Int) - now.length)) = b1 at *
 generalize (left.any fun x=>decide (x ≠ 0)) = b2 at *
 rcases o with _|ol
 all_goals (
  by_cases hf:hands >= fw
  ·rw [decide_eq_true hf,Bool.true_or,if_pos rfl]
   refine ACallsX.of_body hT Tryz.func59 rfl (by kernel_rfl) rfl ?_
   (repeat (refine stq ?_))
   refine AL_boxPtr 8 (ps:=[eLists now]) rfl rfl ?_
   (repeat' (first|refine stq ?_|((first|(with_reducible refine AL_id ?_); (fail_if_success (refine glq rfl rfl rfl ?_)); first|refine AL_gdec rfl rfl rfl (fun hg=>?_) (fun hg=>?_)|refine AL_gnot rfl rfl rfl (fun hg=>?_) (fun hg=>?_)|refine AL_gcases rfl rfl rfl (fun hg=>?_) (fun hg=>?_)) <;> (try (exfalso; omega)))|refine AW_if rfl (fun hc=>absurd hc (by omega)) (fun _=>?_)|refine AW_if rfl (fun _=>?_) (fun hc=>absurd (by omega) hc)))
   all_goals (try (exfalso; omega))
   refine ⟨_,mkSt [(0,.tup [])] (ssO h own fw _ ++ ssN av) 6,rfl,?_,rfl⟩
   (refine Le.mk ?_ ?_; all_goals (repeat' (first|exact trivial|refine sle ?_|refine ⟨?_,rfl,?_⟩|refine ⟨?_,by decide,rfl,?_⟩|fail)))
  ·rw [decide_eq_false hf,Bool.false_or]
   cases b1 with
   | true =>
    rw [if_pos rfl]
    refine ACallsX.of_body hT Tryz.func59 rfl (by kernel_rfl) rfl ?_
    (repeat (refine stq ?_))
    refine AL_boxPtr 8 (ps:=[eLists now]) rfl rfl ?_
    (repeat' (first|refine stq ?_|(refine AL_do2 rfl ?_; first|refine ⟨_,op_call1 rfl rfl rfl rfl (k60),nrmA rfl ?_⟩)|((first|(with_reducible refine AL_id ?_); (fail_if_success (refine glq rfl rfl rfl ?_)); first|refine AL_gdec rfl rfl rfl (fun hg=>?_) (fun hg=>?_)|refine AL_gnot rfl rfl rfl (fun hg=>?_) (fun hg=>?_)|refine AL_gcases rfl rfl rfl (fun hg=>?_) (fun hg=>?_)) <;> (try (exfalso; omega)))|refine AW_if rfl (fun hc=>absurd hc (by omega)) (fun _=>?_)|refine AW_if rfl (fun _=>?_) (fun hc=>absurd (by omega) hc)))
    all_goals (try (exfalso; omega))
    refine ⟨_,mkSt [(0,.tup [])] (ssO h own fw _ ++ ssN av) 6,rfl,?_,rfl⟩
    (refine Le.mk ?_ ?_; all_goals (repeat' (first|exact trivial|refine sle ?_|refine ⟨?_,rfl,?_⟩|refine ⟨?_,by decide,rfl,?_⟩|fail)))
   | false =>
    rw [if_neg (by simp)]
    cases b2 with
    | true =>
     rw [if_pos rfl]
     refine ACallsX.of_body hT Tryz.func59 rfl (by kernel_rfl) rfl ?_
     (repeat (refine stq ?_))
     refine AL_boxPtr 8 (ps:=[eLists now]) rfl rfl ?_
     (repeat' (first|refine stq ?_|(refine AL_do2 rfl ?_; first|refine ⟨_,op_call1 rfl rfl rfl rfl (k60),nrmA rfl ?_⟩|refine ⟨_,op_call1 rfl rfl rfl rfl (k60b),nrmA rfl ?_⟩)|((first|(with_reducible refine AL_id ?_); (fail_if_success (refine glq rfl rfl rfl ?_)); first|refine AL_gdec rfl rfl rfl (fun hg=>?_) (fun hg=>?_)|refine AL_gnot rfl rfl rfl (fun hg=>?_) (fun hg=>?_)|refine AL_gcases rfl rfl rfl (fun hg=>?_) (fun hg=>?_)) <;> (try (exfalso; omega)))|refine AW_if rfl (fun hc=>absurd hc (by omega)) (fun _=>?_)|refine AW_if rfl (fun _=>?_) (fun hc=>absurd (by omega) hc)))
     all_goals (try (exfalso; omega))
     refine ⟨_,mkSt [(0,.tup [])] (ssO h own fw _ ++ ssN av) 6,rfl,?_,rfl⟩
     (refine Le.mk ?_ ?_; all_goals (repeat' (first|exact trivial|refine sle ?_|refine ⟨?_,rfl,?_⟩|refine ⟨?_,by decide,rfl,?_⟩|fail)))
    | false =>
     rw [if_neg (by simp)]
     refine ACallsX.of_body hT Tryz.func59 rfl (by kernel_rfl) rfl ?_
     (repeat (refine stq ?_))
     refine AL_boxPtr 8 (ps:=[eLists now]) rfl rfl ?_
     (repeat' (first|refine stq ?_|(refine AL_do2 rfl ?_; first|refine ⟨_,op_call1 rfl rfl rfl rfl (k60),nrmA rfl ?_⟩|refine ⟨_,op_call1 rfl rfl rfl rfl (k60b),nrmA rfl ?_⟩)|((first|(with_reducible refine AL_id ?_); (fail_if_success (refine glq rfl rfl rfl ?_)); first|refine AL_gdec rfl rfl rfl (fun hg=>?_) (fun hg=>?_)|refine AL_gnot rfl rfl rfl (fun hg=>?_) (fun hg=>?_)|refine AL_gcases rfl rfl rfl (fun hg=>?_) (fun hg=>?_)) <;> (try (exfalso; omega)))|refine AW_if rfl (fun hc=>absurd hc (by omega)) (fun _=>?_)|refine AW_if rfl (fun _=>?_) (fun hc=>absurd (by omega) hc)))
     all_goals (try (exfalso; omega))
     refine ⟨_,mkSt [(0,.tup [])] (ssO h own hands (some now) ++ ssN av) 6,rfl,?_,rfl⟩
     (refine Le.mk ?_ ?_; all_goals (repeat' (first|exact trivial|refine sle ?_|refine ⟨?_,rfl,?_⟩|refine ⟨?_,by decide,rfl,?_⟩|fail))))
theorem D_andNot {P:Program} {nt:Nat} {s:ASt} {o:Oper} {ops:Array Oper} {t t':TypeId} {x y:Operand} {k:IntKind} {m n:Int} (hg:guardT ops s o = true) (ho:o.op = .binOp .andNot t x y t') (hd:dstB nt o.dst = true)
  (hx:s.ev x = some (.pv (.int k m))) (hy:s.ev y = some (.pv (.int k n))):StepOK P nt ops o s ⟨some (.pv (.int k (andNotR k m n))),false,[],[]⟩ (s.putO o.dst (some (.pv (.int k (andNotR k m n))))) :=
 StepOK.mkP hg fun s1 h1 _=>op_andNot ho hd (by rw [ev_agree h1 (by simp [ho,Op.operands])]; exact hx) (by rw [ev_agree h1 (by simp [ho,Op.operands])]; exact hy)
theorem andNot_clear {x r:Int} (hx:setOK x) (hr:roomOK r):andNotR .i64 x (shlR .i64 1 r) = clearR x r:= by
 rcases hx with rfl|rfl|rfl|rfl <;> rcases hr with rfl|rfl <;> decide +kernel
set_option maxHeartbeats 8000000 in
theorem t59s (h:SHouse) (hh:HouseP h) (own:List (List (List Int))) (hol:own.length = h.hands.length) (hop:∀ l ∈ own,l.length <= 1000 /\ ∀ p ∈ l,pathOK h p) (d:Nat) (now:List (List Int)) (left:List Int) (hands:Int) (hn:now.length + d + 1 = h.hands.length) (hll:left.length = h.sets.length) (hls:∀ x ∈ left,setOK x) (hb:0 <= hands /\ hands <= now.length)
  (ih:∀ (p:List Int) (th:List Int) (hands':Int),pathOK h p -> th.length = h.sets.length -> (∀ x ∈ th,setOK x) -> 0 <= hands' /\ hands' <= now.length + 1 -> SsQ h own d (now ++ [p]) th hands'):SsQ h own (d + 1) now left hands:= by
 intro fw o av
 have n4:=hh.n4; have sl:=hh.sl; have h4:=hh.h4
 have k60:=t60 left (by omega) 61 [.ptr (eHouseC h),.ptr [eLists now]] (fun x=>decide (popN x > (h.hands.length:Int) - now.length)) (fun x hx=>t61 h hh now (by omega) x (hls x hx))
 obtain ⟨l,hl⟩:∃ l,own[now.length]? = some l:=⟨own[now.length]'(by omega),by simp⟩
 have e1:=get_map (fun l=>[eLists l]) hl
 obtain ⟨hl1,hlp⟩:=hop l (List.mem_of_getElem? hl)
 cases hpr:pruneB h.hands.length now left hands ⟨fw,o⟩ with
 | true =>
  rw [searchF,hpr,if_pos rfl]
  rw [pruneB,Bool.or_eq_true] at hpr
  dsimp only at hpr
  by_cases hf:hands >= fw
  ·refine ACallsX.of_body hT Tryz.func59 rfl (by kernel_rfl) rfl ?_
   (repeat (refine stq ?_))
   refine AL_boxPtr 8 (ps:=[eLists now]) rfl rfl ?_
   (repeat' (first|refine stq ?_|((first|(with_reducible refine AL_id ?_); (fail_if_success (refine glq rfl rfl rfl ?_)); first|refine AL_gdec rfl rfl rfl (fun hg=>?_) (fun hg=>?_)|refine AL_gnot rfl rfl rfl (fun hg=>?_) (fun hg=>?_)|refine AL_gcases rfl rfl rfl (fun hg=>?_) (fun hg=>?_)) <;> (try (exfalso; omega)))|refine AW_if rfl (fun hc=>absurd hc (by omega)) (fun _=>?_)|refine AW_if rfl (fun _=>?_) (fun hc=>absurd (by omega) hc)))
   all_goals (try (exfalso; omega))
   refine ⟨_,mkSt [(0,.tup [])] (ssO h own fw o ++ ssN av) 6,rfl,?_,rfl⟩
   cases o <;> (refine Le.mk ?_ ?_; all_goals (repeat' (first|exact trivial|refine sle ?_|refine ⟨?_,rfl,?_⟩|refine ⟨?_,by decide,rfl,?_⟩|fail)))
  ·rw [hpr.resolve_left (by simpa using hf)] at k60
   refine ACallsX.of_body hT Tryz.func59 rfl (by kernel_rfl) rfl ?_
   (repeat (refine stq ?_))
   refine AL_boxPtr 8 (ps:=[eLists now]) rfl rfl ?_
   (repeat' (first|refine stq ?_|(refine AL_do2 rfl ?_; first|refine ⟨_,op_call1 rfl rfl rfl rfl (k60),nrmA rfl ?_⟩)|((first|(with_reducible refine AL_id ?_); (fail_if_success (refine glq rfl rfl rfl ?_)); first|refine AL_gdec rfl rfl rfl (fun hg=>?_) (fun hg=>?_)|refine AL_gnot rfl rfl rfl (fun hg=>?_) (fun hg=>?_)|refine AL_gcases rfl rfl rfl (fun hg=>?_) (fun hg=>?_)) <;> (try (exfalso; omega)))|refine AW_if rfl (fun hc=>absurd hc (by omega)) (fun _=>?_)|refine AW_if rfl (fun _=>?_) (fun hc=>absurd (by omega) hc)))
   all_goals (try (exfalso; omega))
   refine ⟨_,mkSt [(0,.tup [])] (ssO h own fw o ++ ssN av) 6,rfl,?_,rfl⟩
   cases o <;> (refine Le.mk ?_ ?_; all_goals (repeat' (first|exact trivial|refine sle ?_|refine ⟨?_,rfl,?_⟩|refine ⟨?_,by decide,rfl,?_⟩|fail)))
 | false =>
  rw [searchF_step hpr hl]
  rw [pruneB,Bool.or_eq_false_iff] at hpr
  obtain ⟨hp1,hp2⟩:=hpr
  have hf:¬ hands >= fw:=of_decide_eq_false hp1
  rw [hp2] at k60
  clear hp1 hp2
  have k64:=t64 left (by omega)
  have k66:=t66 now (by omega)
  generalize hstp:stepS h.hands.length own d now left hands = stp
  have hst:∀ (k:Nat) p s,l[k]? = some p -> (l.take k).foldl stp ⟨fw,o⟩ = s -> (l.take (k + 1)).foldl stp ⟨fw,o⟩ = stp s p:=fun k p s hx hs=>by
   rw [List.take_add_one,hx,List.foldl_append,hs]; rfl
  refine ACallsX.of_body hT Tryz.func59 rfl (by kernel_rfl) rfl ?_
  (repeat (refine stq ?_))
  refine AL_boxPtr 8 (ps:=[eLists now]) rfl rfl ?_
  (repeat' (first|refine stq ?_|(refine AL_do2 rfl ?_; first|refine ⟨_,op_call1 rfl rfl rfl rfl (k60),nrmA rfl ?_⟩)|((first|(with_reducible refine AL_id ?_); (fail_if_success (refine glq rfl rfl rfl ?_)); first|refine AL_gdec rfl rfl rfl (fun hg=>?_) (fun hg=>?_)|refine AL_gnot rfl rfl rfl (fun hg=>?_) (fun hg=>?_)|refine AL_gcases rfl rfl rfl (fun hg=>?_) (fun hg=>?_)) <;> (try (exfalso; omega)))|refine AW_if rfl (fun hc=>absurd hc (by omega)) (fun _=>?_)|refine AW_if rfl (fun _=>?_) (fun hc=>absurd (by omega) hc)))
  all_goals (try (exfalso; omega))
  refine AW_loopC (fun i:Nat × Int × Option (List (List Int))=>i.1 <= l.length /\ (l.take i.1).foldl stp ⟨fw,o⟩ = ⟨i.2.1,i.2.2⟩) (fun i=>mkSt [(1,.pv (eInts left)),(2,.pv (vi hands)),(3,.box 0 0),(4,.pv (.ptr (eHouseC h))),(5,.box 1 0),(6,.pv (.ptr [eOwn own])),(7,.box 2 0),(8,.pv (.ptr [eLists now])),(40,.pv (eLists l)),(41,.pv (vi l.length)),(42,.pv (vi i.1))] (ssO h own i.2.1 i.2.2 ++ ssN av) 6) (fun i=>l.length - i.1) (0,fw,o) ⟨Nat.zero_le _,rfl⟩ ?_ ?_
  ·cases o <;> (refine Le.mk ?_ ?_; all_goals (repeat' (first|exact trivial|refine sle ?_|refine ⟨?_,rfl,?_⟩|refine ⟨?_,by decide,rfl,?_⟩|fail)))
  ·rintro ⟨k,fw1,o1⟩ ⟨hk,hS⟩
   simp only at hk hS
   dsimp only
   (repeat (refine stq ?_))
   refine AW_if rfl (fun hc=>?_) (fun hc=>?_)
   ·have hk':k < l.length:=by omega
    obtain ⟨p,hx⟩:∃ x,l[k]? = some x:=⟨l[k],by simp [hk']⟩
    have e2:=get_map (fun x=>[eInts x]) hx
    obtain ⟨hpl,hpr⟩:=hlp p (List.mem_of_getElem? hx)
    have hs1:=hst k p _ hx hS
    have k65:=t65 p (by omega)
    have hwk:-1000 <= workedI p /\ workedI p <= 1000:= by
     have hb:cntI p (-1) <= p.length:=List.length_filter_le _ _
     rw [workedI]; omega
    have htk:∀ (i:Nat) th,i < p.length -> takeN p left i = some th -> ∃ r x,p[i]? = some r /\ left[i]? = some x /\ (r = -1 \/ roomOK r) /\ setOK x /\ takeN p left (i + 1) = if r = -1 then some th else if hasR x r then some (th.set i (clearR x r)) else none:=fun i th hi ht=>by
     obtain ⟨r,hr⟩:∃ x,p[i]? = some x:=⟨p[i],by simp [hi]⟩
     obtain ⟨x,hxl⟩:∃ x,left[i]? = some x:=⟨left[i]'(by omega),by simp⟩
     exact ⟨r,x,hr,hxl,hpr r (List.mem_of_getElem? hr),hls x (List.mem_of_getElem? hxl),by rw [takeN,ht,hr,hxl]⟩
    have hmo:moreI p hands = if workedI p > 0 then hands + 1 else hands:=rfl
    have hm2:0 <= moreI p hands /\ moreI p hands <= now.length + 1:=by rw [hmo]; split <;> omega
    have hstn:takeP p left = none -> stp ⟨fw1,o1⟩ p = ⟨fw1,o1⟩:=fun h=>by rw [<- hstp,stepS,h]
    have hsts:∀ th,takeP p left = some th -> stp ⟨fw1,o1⟩ p = searchF h.hands.length own d (now ++ [p]) th (moreI p hands) ⟨fw1,o1⟩:=fun th h=>by rw [<- hstp,stepS,h]
    have ihp:=fun th h1 h2=>ih p th (moreI p hands) ⟨hpl,hpr⟩ h1 h2 hm2
    generalize moreI p hands = mo at *
    generalize workedI p = wk at *
    (repeat' (first|refine stq ?_|(refine AL_do2 rfl ?_; first|refine ⟨_,op_call1 rfl rfl rfl rfl (k64),nrmA rfl ?_⟩|refine ⟨_,op_call1 rfl rfl rfl rfl (k65),nrmA rfl ?_⟩)|(with_reducible refine AL_id ?_); (fail_if_success (refine glq rfl rfl rfl ?_)); first|refine AL_gdec rfl rfl rfl (fun hg=>?_) (fun hg=>?_)|refine AL_gnot rfl rfl rfl (fun hg=>?_) (fun hg=>?_)|refine AL_gcases rfl rfl rfl (fun hg=>?_) (fun hg=>?_)))
    refine AW_if rfl (fun hw=>?_) (fun hw=>?_)
    ·rw [if_pos hw] at hmo
     (repeat (refine stq ?_))
     refine AW_loopC (fun i:Nat × List Int=>i.1 <= p.length /\ takeN p left i.1 = some i.2 /\ TakeP left i.2 i.1) (fun i=>mkSt [(1,.pv (eInts left)),(2,.pv (vi hands)),(3,.box 0 0),(4,.pv (.ptr (eHouseC h))),(5,.box 1 0),(6,.pv (.ptr [eOwn own])),(7,.box 2 0),(8,.pv (.ptr [eLists now])),(40,.pv (eLists l)),(41,.pv (vi l.length)),(42,.pv (vi k)),(12,.pv (eInts p)),(13,.arr 6),(14,.pv (vi mo)),(54,.pv (eInts p)),(55,.pv (vi p.length)),(56,.pv (vi i.1))] (ssO h own fw1 o1 ++ ssN av ++ [(6,.arr 3 1 (i.2.map eInt))]) 7) (fun i=>p.length - i.1) (0,left) ⟨Nat.zero_le _,rfl,take_zero hls⟩ ?_ ?_
     ·subst hmo
      cases o1 <;> (refine Le.mk ?_ ?_; all_goals (repeat' (first|exact trivial|refine sle ?_|refine ⟨?_,rfl,?_⟩|refine ⟨?_,by decide,rfl,?_⟩|fail)))
     ·rintro ⟨i,th⟩ ⟨hi,ht,hTk⟩
      simp only at hi ht hTk
      dsimp only
      (repeat (refine stq ?_))
      refine AW_if rfl (fun hc2=>?_) (fun hc2=>?_)
      ·have hi':i < p.length:=by omega
       obtain ⟨r,x,hr,hxl,hrr,hxx,htn⟩:=htk i th hi' ht
       have e3:=get_map eInt hr
       have e4:=get_map eInt hxl
       (repeat (refine stq ?_))
       refine AW_if rfl (fun hr1=>?_) (fun hr1=>?_)
       ·rw [if_pos hr1] at htn
        (repeat (refine stq ?_))
        refine ⟨(i + 1,th),⟨hi',htn,take_same hTk⟩,by simp only; omega,?_⟩
        cases o1 <;> (refine Le.mk ?_ ?_; all_goals (repeat' (first|exact trivial|refine sle ?_|refine ⟨?_,rfl,?_⟩|refine ⟨?_,by decide,rfl,?_⟩|fail)))
       ·rw [if_neg hr1] at htn
        have hr2:roomOK r:= by
                     rcases hrr with h|h; · exact absurd h hr1
                     ·exact h
        have k57:=t57 x r hxx hr2
        cases q:hasR x r with
        | false =>
         rw [q] at k57 htn
         rw [if_neg (by simp)] at htn
         have hno:takeP p left = none:=take_none htn _ hi'
         have hS1:=hs1
         rw [hstn hno] at hS1
         (repeat' (first|refine stq ?_|(refine AL_do2 rfl ?_; first|refine ⟨_,op_call1 rfl rfl rfl rfl (k57),nrmA rfl ?_⟩)|(with_reducible refine AL_id ?_); (fail_if_success (refine glq rfl rfl rfl ?_)); first|refine AL_gdec rfl rfl rfl (fun hg=>?_) (fun hg=>?_)|refine AL_gnot rfl rfl rfl (fun hg=>?_) (fun hg=>?_)|refine AL_gcases rfl rfl rfl (fun hg=>?_) (fun hg=>?_)))
         refine ⟨(k + 1,fw1,o1),⟨hk',hS1⟩,by simp only; omega,?_⟩
         cases o1 <;> (refine Le.mk ?_ ?_; all_goals (repeat' (first|exact trivial|refine sle ?_|refine ⟨?_,rfl,?_⟩|refine ⟨?_,by decide,rfl,?_⟩|fail)))
        | true =>
         rw [q] at k57 htn
         rw [if_pos rfl] at htn
         have hx2:th[i]? = some x:=by rw [hTk.old i (Nat.le_refl _)]; exact hxl
         have e5:=get_map eInt hx2
         have hthl:(th.map eInt).length = p.length:=by rw [List.length_map,hTk.len]; omega
         have hr0:0 <= r:=by rcases hr2 with h|h <;> omega
         have hcl:=andNot_clear hxx hr2
         (repeat' (first|refine stq ?_|(refine AL_do2 rfl ?_; first|refine ⟨_,op_call1 rfl rfl rfl rfl (k57),nrmA rfl ?_⟩)|(with_reducible refine AL_id ?_); (fail_if_success (refine glq rfl rfl rfl ?_)); first|refine AL_gdec rfl rfl rfl (fun hg=>?_) (fun hg=>?_)|refine AL_gnot rfl rfl rfl (fun hg=>?_) (fun hg=>?_)|refine AL_gcases rfl rfl rfl (fun hg=>?_) (fun hg=>?_)))
         (repeat (refine sdq ?_))
         refine DG_next (D_indexAddr_arr hT rfl rfl rfl rfl rfl rfl rfl rfl rfl (by omega) (by omega) rfl) ?_
         refine DG_next (D_load_aptr (el:=eInt x) hT rfl rfl rfl rfl rfl rfl e5 rfl) ?_
         (repeat (refine sdq ?_))
         refine DG_next (D_shl rfl rfl rfl rfl rfl hr0) ?_
         refine DG_next (D_andNot rfl rfl rfl rfl rfl) ?_
         rw [hcl]
         refine DG_end hM (by kernel_rfl) ?_
         refine AL_do2 rfl ⟨_,op_indexAddr_arr hT rfl rfl rfl rfl rfl rfl rfl rfl (by omega) (by omega) rfl,?_⟩
         refine AL_do2 rfl ⟨_,op_store_aptr (el:=eInt x) hT rfl rfl rfl rfl rfl e5 rfl rfl rfl rfl,?_⟩
         (repeat (refine stq ?_))
         refine ⟨(i + 1,th.set i (clearR x r)),⟨hi',htn,take_set hTk (clear_ok hxx hr2)⟩,by simp only; omega,?_⟩
         dsimp only
         rw [List.map_set]
         cases o1 <;> (refine Le.mk ?_ ?_; all_goals (repeat' (first|exact trivial|refine sle ?_|refine ⟨?_,rfl,?_⟩|refine ⟨?_,by decide,rfl,?_⟩|fail)))
      ·have hil:i = p.length:=by omega
       subst hil
       have hok:takeP p left = some th:=ht
       rw [hsts th hok] at hs1
       have ihx:=ihp th (by rw [hTk.len]; exact hll) hTk.set
       (repeat (refine stq ?_))
       (repeat (first|refine DG_next (D_append_p hT rfl rfl rfl rfl rfl rfl rfl rfl rfl rfl rfl rfl rfl (by intro y hy; (first|(simp only [List.mem_cons,List.not_mem_nil,or_false] at hy; subst hy; rfl)|(simp only [List.mem_cons,List.not_mem_nil,or_false] at hy; rcases hy with hy|hy <;> subst hy <;> rfl)|(obtain ⟨_,_,rfl⟩:=List.mem_map.1 hy; rfl)|(cases hy))) (by simp only [List.length_map,List.length_take,List.length_cons,List.length_nil,List.length_append]; omega) rfl) ?_|refine sdq ?_|refine DG_next (D_call_own rfl rfl rfl rfl rfl (k66)) ?_))
       refine DG_end hM (by kernel_rfl) ?_
       (repeat (refine stq ?_))
       refine AL_pure (t:=85) rfl rfl ?_
       have hap:eLists (now ++ [p]) = .sl (now.map (fun x=>[eInts x]) ++ [[eInts p]]):=by simp [eLists]
       have ihy:=fun av=>ihx fw1 o1 av
       rw [ssA,hap] at ihy
       generalize searchF h.hands.length own d (now ++ [p]) th mo ⟨fw1,o1⟩ = s2 at *
       obtain ⟨fw2,o2⟩:=s2
       cases o1
       all_goals (
        refine AL_doS rfl (op_callXs (objs:=ssO h own fw1 _) (n:=6) [(0,0),(1,1),(2,2)] [0,1,2] [(3,0),(4,1),(5,2)] ihy rfl rfl rfl rfl (by (repeat' (first|exact trivial|refine And.intro ?_ ?_)); all_goals (first|rfl|decide)) rfl (by (repeat' (first|exact trivial|refine And.intro ?_ ?_)); all_goals (first|rfl|decide)) rfl ⟨⟨rfl,rfl,⟨_,.head _⟩,rfl⟩,⟨rfl,rfl,⟨_,.tail _ (.head _)⟩,rfl⟩,⟨rfl,rfl,⟨_,.tail _ (.tail _ (.head _))⟩,rfl⟩,trivial⟩ (by simp) (fun av' sf hsf=>by subst hsf; exact ⟨.inl ⟨3,by simp,rfl⟩,.inl ⟨4,by simp,rfl⟩,.inl ⟨5,by simp,rfl⟩,trivial⟩)) ?_
        rintro s' ⟨av',sf,rfl,rfl⟩
        (repeat (refine stq ?_))
        refine ⟨(k + 1,fw2,o2),⟨hk',hs1⟩,by simp only; omega,?_⟩
        dsimp only
        cases o2 <;> (refine Le.mk ?_ ?_; all_goals (repeat' (first|exact trivial|refine sle ?_|refine ⟨?_,rfl,?_⟩|refine ⟨?_,by decide,rfl,?_⟩|fail))))
    ·rw [if_neg hw] at hmo
     (repeat (refine stq ?_))
     refine AW_loopC (fun i:Nat × List Int=>i.1 <= p.length /\ takeN p left i.1 = some i.2 /\ TakeP left i.2 i.1) (fun i=>mkSt [(1,.pv (eInts left)),(2,.pv (vi hands)),(3,.box 0 0),(4,.pv (.ptr (eHouseC h))),(5,.box 1 0),(6,.pv (.ptr [eOwn own])),(7,.box 2 0),(8,.pv (.ptr [eLists now])),(40,.pv (eLists l)),(41,.pv (vi l.length)),(42,.pv (vi k)),(12,.pv (eInts p)),(13,.arr 6),(14,.pv (vi mo)),(54,.pv (eInts p)),(55,.pv (vi p.length)),(56,.pv (vi i.1))] (ssO h own fw1 o1 ++ ssN av ++ [(6,.arr 3 1 (i.2.map eInt))]) 7) (fun i=>p.length - i.1) (0,left) ⟨Nat.zero_le _,rfl,take_zero hls⟩ ?_ ?_
     ·subst hmo
      cases o1 <;> (refine Le.mk ?_ ?_; all_goals (repeat' (first|exact trivial|refine sle ?_|refine ⟨?_,rfl,?_⟩|refine ⟨?_,by decide,rfl,?_⟩|fail)))
     ·rintro ⟨i,th⟩ ⟨hi,ht,hTk⟩
      simp only at hi ht hTk
      dsimp only
      (repeat (refine stq ?_))
      refine AW_if rfl (fun hc2=>?_) (fun hc2=>?_)
      ·have hi':i < p.length:=by omega
       obtain ⟨r,x,hr,hxl,hrr,hxx,htn⟩:=htk i th hi' ht
       have e3:=get_map eInt hr
       have e4:=get_map eInt hxl
       (repeat (refine stq ?_))
       refine AW_if rfl (fun hr1=>?_) (fun hr1=>?_)
       ·rw [if_pos hr1] at htn
        (repeat (refine stq ?_))
        refine ⟨(i + 1,th),⟨hi',htn,take_same hTk⟩,by simp only; omega,?_⟩
        cases o1 <;> (refine Le.mk ?_ ?_; all_goals (repeat' (first|exact trivial|refine sle ?_|refine ⟨?_,rfl,?_⟩|refine ⟨?_,by decide,rfl,?_⟩|fail)))
       ·rw [if_neg hr1] at htn
        have hr2:roomOK r:= by
                     rcases hrr with h|h; · exact absurd h hr1
                     ·exact h
        have k57:=t57 x r hxx hr2
        cases q:hasR x r with
        | false =>
         rw [q] at k57 htn
         rw [if_neg (by simp)] at htn
         have hno:takeP p left = none:=take_none htn _ hi'
         have hS1:=hs1
         rw [hstn hno] at hS1
         (repeat' (first|refine stq ?_|(refine AL_do2 rfl ?_; first|refine ⟨_,op_call1 rfl rfl rfl rfl (k57),nrmA rfl ?_⟩)|(with_reducible refine AL_id ?_); (fail_if_success (refine glq rfl rfl rfl ?_)); first|refine AL_gdec rfl rfl rfl (fun hg=>?_) (fun hg=>?_)|refine AL_gnot rfl rfl rfl (fun hg=>?_) (fun hg=>?_)|refine AL_gcases rfl rfl rfl (fun hg=>?_) (fun hg=>?_)))
         refine ⟨(k + 1,fw1,o1),⟨hk',hS1⟩,by simp only; omega,?_⟩
         cases o1 <;> (refine Le.mk ?_ ?_; all_goals (repeat' (first|exact trivial|refine sle ?_|refine ⟨?_,rfl,?_⟩|refine ⟨?_,by decide,rfl,?_⟩|fail)))
        | true =>
         rw [q] at k57 htn
         rw [if_pos rfl] at htn
         have hx2:th[i]? = some x:=by rw [hTk.old i (Nat.le_refl _)]; exact hxl
         have e5:=get_map eInt hx2
         have hthl:(th.map eInt).length = p.length:=by rw [List.length_map,hTk.len]; omega
         have hr0:0 <= r:=by rcases hr2 with h|h <;> omega
         have hcl:=andNot_clear hxx hr2
         (repeat' (first|refine stq ?_|(refine AL_do2 rfl ?_; first|refine ⟨_,op_call1 rfl rfl rfl rfl (k57),nrmA rfl ?_⟩)|(with_reducible refine AL_id ?_); (fail_if_success (refine glq rfl rfl rfl ?_)); first|refine AL_gdec rfl rfl rfl (fun hg=>?_) (fun hg=>?_)|refine AL_gnot rfl rfl rfl (fun hg=>?_) (fun hg=>?_)|refine AL_gcases rfl rfl rfl (fun hg=>?_) (fun hg=>?_)))
         (repeat (refine sdq ?_))
         refine DG_next (D_indexAddr_arr hT rfl rfl rfl rfl rfl rfl rfl rfl rfl (by omega) (by omega) rfl) ?_
         refine DG_next (D_load_aptr (el:=eInt x) hT rfl rfl rfl rfl rfl rfl e5 rfl) ?_
         (repeat (refine sdq ?_))
         refine DG_next (D_shl rfl rfl rfl rfl rfl hr0) ?_
         refine DG_next (D_andNot rfl rfl rfl rfl rfl) ?_
         rw [hcl]
         refine DG_end hM (by kernel_rfl) ?_
         refine AL_do2 rfl ⟨_,op_indexAddr_arr hT rfl rfl rfl rfl rfl rfl rfl rfl (by omega) (by omega) rfl,?_⟩
         refine AL_do2 rfl ⟨_,op_store_aptr (el:=eInt x) hT rfl rfl rfl rfl rfl e5 rfl rfl rfl rfl,?_⟩
         (repeat (refine stq ?_))
         refine ⟨(i + 1,th.set i (clearR x r)),⟨hi',htn,take_set hTk (clear_ok hxx hr2)⟩,by simp only; omega,?_⟩
         dsimp only
         rw [List.map_set]
         cases o1 <;> (refine Le.mk ?_ ?_; all_goals (repeat' (first|exact trivial|refine sle ?_|refine ⟨?_,rfl,?_⟩|refine ⟨?_,by decide,rfl,?_⟩|fail)))
      ·have hil:i = p.length:=by omega
       subst hil
       have hok:takeP p left = some th:=ht
       rw [hsts th hok] at hs1
       have ihx:=ihp th (by rw [hTk.len]; exact hll) hTk.set
       (repeat (refine stq ?_))
       (repeat (first|refine DG_next (D_append_p hT rfl rfl rfl rfl rfl rfl rfl rfl rfl rfl rfl rfl rfl (by intro y hy; (first|(simp only [List.mem_cons,List.not_mem_nil,or_false] at hy; subst hy; rfl)|(simp only [List.mem_cons,List.not_mem_nil,or_false] at hy; rcases hy with hy|hy <;> subst hy <;> rfl)|(obtain ⟨_,_,rfl⟩:=List.mem_map.1 hy; rfl)|(cases hy))) (by simp only [List.length_map,List.length_take,List.length_cons,List.length_nil,List.length_append]; omega) rfl) ?_|refine sdq ?_|refine DG_next (D_call_own rfl rfl rfl rfl rfl (k66)) ?_))
       refine DG_end hM (by kernel_rfl) ?_
       (repeat (refine stq ?_))
       refine AL_pure (t:=85) rfl rfl ?_
       have hap:eLists (now ++ [p]) = .sl (now.map (fun x=>[eInts x]) ++ [[eInts p]]):=by simp [eLists]
       have ihy:=fun av=>ihx fw1 o1 av
       rw [ssA,hap] at ihy
       generalize searchF h.hands.length own d (now ++ [p]) th mo ⟨fw1,o1⟩ = s2 at *
       obtain ⟨fw2,o2⟩:=s2
       cases o1
       all_goals (
        refine AL_doS rfl (op_callXs (objs:=ssO h own fw1 _) (n:=6) [(0,0),(1,1),(2,2)] [0,1,2] [(3,0),(4,1),(5,2)] ihy rfl rfl rfl rfl (by (repeat' (first|exact trivial|refine And.intro ?_ ?_)); all_goals (first|rfl|decide)) rfl (by (repeat' (first|exact trivial|refine And.intro ?_ ?_)); all_goals (first|rfl|decide)) rfl ⟨⟨rfl,rfl,⟨_,.head _⟩,rfl⟩,⟨rfl,rfl,⟨_,.tail _ (.head _)⟩,rfl⟩,⟨rfl,rfl,⟨_,.tail _ (.tail _ (.head _))⟩,rfl⟩,trivial⟩ (by simp) (fun av' sf hsf=>by subst hsf; exact ⟨.inl ⟨3,by simp,rfl⟩,.inl ⟨4,by simp,rfl⟩,.inl ⟨5,by simp,rfl⟩,trivial⟩)) ?_
        rintro s' ⟨av',sf,rfl,rfl⟩
        (repeat (refine stq ?_))
        refine ⟨(k + 1,fw2,o2),⟨hk',hs1⟩,by simp only; omega,?_⟩
        dsimp only
        cases o2 <;> (refine Le.mk ?_ ?_; all_goals (repeat' (first|exact trivial|refine sle ?_|refine ⟨?_,rfl,?_⟩|refine ⟨?_,by decide,rfl,?_⟩|fail))))
   ·have hkl:k = l.length:=by omega
    subst hkl
    rw [List.take_length] at hS
    rw [hS]
    (repeat (refine stq ?_))
    refine ⟨_,mkSt [(0,.tup [])] (ssO h own fw1 o1 ++ ssN av) 6,rfl,?_,rfl⟩
    cases o1 <;> (refine Le.mk ?_ ?_; all_goals (repeat' (first|exact trivial|refine sle ?_|refine ⟨?_,rfl,?_⟩|refine ⟨?_,by decide,rfl,?_⟩|fail)))
theorem t59 (h:SHouse) (hh:HouseP h) (own:List (List (List Int))) (hol:own.length = h.hands.length) (hop:∀ l ∈ own,l.length <= 1000 /\ ∀ p ∈ l,pathOK h p):∀ (d:Nat) (now:List (List Int)) (left:List Int) (hands:Int),now.length + d = h.hands.length -> left.length = h.sets.length -> (∀ x ∈ left,setOK x) -> 0 <= hands /\ hands <= now.length -> SsQ h own d now left hands
 | 0,now,left,hands,hn,hll,hls,hb=>t59z h hh own now left hands (by omega) hll hls hb
 | d + 1,now,left,hands,hn,hll,hls,hb=>t59s h hh own hol hop d now left hands (by omega) hll hls hb fun p th hands' hp h1 h2 h3=>t59 h hh own hol hop d (now ++ [p]) th hands' (by rw [List.length_append,List.length_singleton]; omega) h1 h2 (by rw [List.length_append,List.length_singleton]; omega)
end Go.Abs
