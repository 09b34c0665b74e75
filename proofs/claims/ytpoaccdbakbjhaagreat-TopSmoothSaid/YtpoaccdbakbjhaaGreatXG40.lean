/- The best way to pack: what it is. -/
import Derived.Test.YtpoaccdbakbjhaaGreatXG39
import Derived.Test.YtpoaccdbakbjhaaGreatXG37
set_option linter.unusedVariables false
set_option linter.unusedSimpArgs false
namespace Go.Abs
open Go.Proofs
def incN (l:List Int) (i:Nat):List Int:=l.set i ((l[i]?).getD 0 + 1)
def zeroP (l:List OPack):Pkd:=⟨List.replicate l.length 0,0⟩
def candP (r:Pkd) (i:Nat) (k:OPack):Pkd:=⟨incN r.counts i,r.cost + k.cost⟩
def pickP:List Pkd -> Pkd
 | []=>⟨[],0⟩
 | x :: l=>bestP x l
def candsP (l:List OPack) (f:Int -> Pkd) (n:Int):List Pkd:=l.mapIdx fun i k=>candP (f (n - k.holds)) i k
def bestF (l:List OPack):Nat -> Int -> Pkd
 | 0,_=>zeroP l
 | d + 1,n=>if n <= 0 then zeroP l else pickP (candsP l (bestF l d) n)
def bpk (l:List OPack) (n:Int):Pkd:=bestF l n.toNat n
theorem cands_congr {l:List OPack} {f g:Int -> Pkd} {n:Int} (h:∀ k ∈ l,f (n - k.holds) = g (n - k.holds)):candsP l f n = candsP l g n:= by
 apply List.ext_getElem?
 intro i
 simp only [candsP,List.getElem?_mapIdx]
 cases hq:l[i]? with
 | none=>rfl
 | some k=>simp only [Option.map_some]; rw [h k (List.mem_of_getElem? hq)]
theorem bestF_eq {l:List OPack} (hl:∀ k ∈ l,1 <= k.holds):∀ (d e:Nat) (n:Int),n.toNat <= d -> n.toNat <= e -> bestF l d n = bestF l e n
 | 0,0,_,_,_=>rfl
 | 0,e + 1,n,h,_=>by rw [bestF,bestF,if_pos (by omega)]
 | d + 1,0,n,_,h=>by rw [bestF,bestF,if_pos (by omega)]
 | d + 1,e + 1,n,h1,h2=>by
  rw [bestF,bestF]
  split
  ·rfl
  ·exact congrArg pickP (cands_congr fun k hk=>bestF_eq hl d e _ (by have:=hl k hk; omega) (by have:=hl k hk; omega))
theorem bpk_zero {l:List OPack} {n:Int} (h:n <= 0):bpk l n = zeroP l:= by
 rw [bpk,show n.toNat = 0 by omega]; rfl
theorem bpk_step {l:List OPack} (hl:∀ k ∈ l,1 <= k.holds) {n:Int} (h:0 < n):bpk l n = pickP (candsP l (bpk l) n):= by
 obtain ⟨d,hd⟩:∃ d,n.toNat = d + 1:=⟨n.toNat - 1,by omega⟩
 rw [bpk,hd,bestF,if_neg (by omega)]
 exact congrArg pickP (cands_congr fun k hk=>bestF_eq hl _ _ _ (by have:=hl k hk; omega) (Nat.le_refl _))
theorem pickP_mem {l:List Pkd} (h:l ≠ []):pickP l ∈ l:= by
 cases l with
 | nil=>exact absurd rfl h
 | cons x l =>
  rcases bestP_mem (l:=l) (out:=x) with h|h
  ·rw [pickP,h]; exact .head _
  ·exact .tail _ h
structure BP (l:List OPack) (N:Int) (p:Pkd):Prop where
 len:p.counts.length = l.length
 bd:∀ x ∈ p.counts,0 <= x /\ x <= N
 c0:0 <= p.cost
 c1:p.cost <= 1000 * N
theorem zero_bp {l:List OPack} {N:Int} (h:0 <= N):BP l N (zeroP l):= by
 refine ⟨by simp [zeroP],fun x hx=>?_,by simp [zeroP],by simp [zeroP]; omega⟩
 have:x = 0:=List.eq_of_mem_replicate hx
 omega
theorem inc_bd {l:List Int} {i:Nat} {N:Int} (h:∀ x ∈ l,0 <= x /\ x <= N) (hN:0 <= N):∀ x ∈ incN l i,0 <= x /\ x <= N + 1:=fun x hx=>by
 rcases List.mem_or_eq_of_mem_set hx with h1|h1
 ·have:=h x h1; omega
 ·subst h1
  cases hq:l[i]? with
  | none=>simp; omega
  | some y=>have:=h y (List.mem_of_getElem? hq); simp; omega
theorem bpk_bp {l:List OPack} (h0:l ≠ []) (hl:∀ k ∈ l,1 <= k.holds /\ 0 <= k.cost /\ k.cost <= 1000):∀ (d:Nat) (n:Int),n.toNat <= d -> BP l d (bpk l n)
 | 0,n,h=>by rw [bpk_zero (by omega)]; exact zero_bp (by omega)
 | d + 1,n,h=>by
  by_cases hn:n <= 0
  ·rw [bpk_zero hn]; exact zero_bp (by omega)
  ·rw [bpk_step (fun k hk=>(hl k hk).1) (by omega)]
   have hne:candsP l (bpk l) n ≠ []:= by
    intro he
    have:=congrArg List.length he
    rw [candsP,List.length_mapIdx] at this
    exact h0 (List.eq_nil_of_length_eq_zero this)
   obtain ⟨i,hi⟩:=List.mem_iff_getElem?.1 (pickP_mem hne)
   rw [candsP,List.getElem?_mapIdx] at hi
   obtain ⟨k,hk,he⟩:=Option.map_eq_some_iff.1 hi
   have hk':=hl k (List.mem_of_getElem? hk)
   have ih:=bpk_bp h0 hl d (n - k.holds) (by omega)
   show BP l _ (pickP (List.mapIdx (fun i k=>candP (bpk l (n - k.holds)) i k) l))
   rw [<- he]
   refine ⟨?_,?_,?_,?_⟩
   ·rw [candP,incN,List.length_set]; exact ih.len
   ·intro x hx
    have:=inc_bd ih.bd (by omega) x hx
    omega
   ·have:=ih.c0; simp only [candP]; omega
   ·have:=ih.c1; simp only [candP]; omega
theorem cands_pk {l:List OPack} (h0:l ≠ []) (hl:∀ k ∈ l,1 <= k.holds /\ 0 <= k.cost /\ k.cost <= 1000) (hl3:l.length <= 4) {d:Nat} (hd:d <= 600) {n:Int} (h:n.toNat <= d + 1):∀ c ∈ candsP l (bpk l) n,PkP c:=fun c hc=>by
 obtain ⟨i,hi⟩:=List.mem_iff_getElem?.1 hc
 rw [candsP,List.getElem?_mapIdx] at hi
 obtain ⟨k,hk,he⟩:=Option.map_eq_some_iff.1 hi
 have hk':=hl k (List.mem_of_getElem? hk)
 have ih:=bpk_bp h0 hl d (n - k.holds) (by omega)
 rw [<- he]
 refine ⟨?_,fun x hx=>?_⟩
 ·rw [candP,incN,List.length_set,ih.len]; omega
 ·have:=inc_bd ih.bd (by omega) x hx
  omega
def tabP (l:List OPack):Nat -> List Pkd
 | 0=>[zeroP l]
 | n + 1=>pickP (l.mapIdx fun i k=>candP (((tabP l n)[k.holds.toNat - 1]?).getD (zeroP l)) i k) :: tabP l n
theorem tab_get {l:List OPack} (hl:∀ k ∈ l,1 <= k.holds):∀ (n j:Nat),(((tabP l n)[j]?).getD (zeroP l)) = bpk l ((n:Int) - j)
 | 0,0=>by rw [bpk_zero (by omega)]; rfl
 | 0,j + 1=>by rw [bpk_zero (by omega)]; rfl
 | n + 1,0=>by
  rw [bpk_step hl (by omega)]
  show pickP (l.mapIdx _) = pickP (l.mapIdx _)
  refine congrArg pickP ?_
  apply List.ext_getElem?
  intro i
  simp only [List.getElem?_mapIdx]
  cases hq:l[i]? with
  | none=>rfl
  | some k =>
   have h1:=hl k (List.mem_of_getElem? hq)
   simp only [Option.map_some]
   rw [tab_get hl n (k.holds.toNat - 1),show ((n + 1:Nat):Int) - ((0:Nat):Int) - k.holds = (n:Int) - ((k.holds.toNat - 1:Nat):Int) by omega]
 | n + 1,j + 1=>by
  rw [show ((n + 1:Nat):Int) - ((j + 1:Nat):Int) = (n:Int) - j by omega,<- tab_get hl n j]
  rfl
def pEx:List OPack:=[⟨144,100⟩,⟨12,10⟩,⟨1,1⟩]
theorem pEx_ok:∀ k ∈ pEx,1 <= k.holds /\ 0 <= k.cost /\ k.cost <= 1000:= by
 intro k hk
 simp only [pEx,List.mem_cons,List.not_mem_nil,or_false] at hk
 rcases hk with rfl|rfl|rfl <;> decide
theorem pEx_best:bpk pEx 155 = ⟨[1,1,0],110⟩:= by
 have h:=tab_get (fun k hk=>(pEx_ok k hk).1) 155 0
 rw [show ((155:Nat):Int) - ((0:Nat):Int) = 155 by omega] at h
 rw [<- h]
 decide +kernel
end Go.Abs
namespace Go.Abs
open Go.Proofs
set_option maxRecDepth 100000
section
variable {P:Program} {T:Nat -> Option TyI} {nt:Nat} {s:ASt} {o:Oper} {ops:Array Oper} {Q:Exit -> ASt -> Prop}
theorem op_callOwn_res {F e sz:Nat} {es:List (List PV)} (h:OpTo P nt o s ((s.newObj (.arr e sz es)).putO o.dst (some (.arr s.nxt)))) (hF:s.obj F = some .res):OpTo P nt o s ((s.setObj F (some (.arr e sz es))).putO o.dst (some (.arr F))):= by
 intro ro W0 D0 D φ a w hI K Q hK
 refine h ro W0 D0 D φ a w hI K Q fun D' φ' a' w' hI'=>?_
 have hFφ:φ F = .bool false:=(hI.objs F .res hF).2.2
 have hFn:F < s.nxt:=(hI.objs F .res hF).1
 let ρ:Nat -> Nat:=fun n=>if n = F then s.nxt else n
 have hρ:∀ n,n ≠ F -> ρ n = n:=fun n hn=>if_neg hn
 have hρF:ρ F = s.nxt:=if_pos rfl
 have hle:LeR ρ ((s.newObj (.arr e sz es)).putO o.dst (some (.arr s.nxt))) ((s.setObj F (some (.arr e sz es))).putO o.dst (some (.arr F))):= by
  have hn1:((s.setObj F (some (.arr e sz es))).putO o.dst (some (.arr F))).nxt = s.nxt:=by cases o.dst <;> rfl
  have ho1:∀ id,((s.setObj F (some (.arr e sz es))).putO o.dst (some (.arr F))).obj id = (s.setObj F (some (.arr e sz es))).obj id:=by intro id; cases o.dst <;> rfl
  have ho2:∀ id,((s.newObj (.arr e sz es)).putO o.dst (some (.arr s.nxt))).obj id = (s.newObj (.arr e sz es)).obj id:=by intro id; cases o.dst <;> rfl
  refine ⟨fun tt x hx=>?_,fun id ob hob=>?_,fun id1 ob1 id2 ob2 h1 h2 he=>?_⟩
  ·rw [hn1]
   have old:s.get tt = some x -> s.get tt = some (x.ren ρ) /\ x.lt s.nxt = true:=fun h=>by
    obtain ⟨g1,v,_,g3⟩:=hI.env tt x h
    exact ⟨by rw [g3.noRes hFφ hρ]; exact h,g1⟩
   cases hdd:o.dst with
   | none=>rw [hdd] at hx; exact old hx
   | some d =>
    rw [hdd] at hx
    simp only [ASt.putO,ASt.get_put] at hx ⊢
    by_cases hdt:d = tt
    ·rw [if_pos hdt] at hx ⊢
     cases hx
     exact ⟨by simp [FV.ren,hρF],by simp [FV.lt]; exact hFn⟩
    ·rw [if_neg hdt] at hx ⊢; exact old hx
  ·rw [hn1,ho2]
   rw [ho1,ASt.obj_setObj] at hob
   rw [ASt.obj_newObj]
   by_cases hid:F = id
   ·subst hid
    rw [if_pos rfl] at hob
    cases hob
    rw [hρF,if_pos rfl]
    exact ⟨rfl,hFn,rfl⟩
   ·rw [if_neg hid] at hob
    obtain ⟨g1,g2,g3⟩:=hI.objs id ob hob
    rw [hρ id (fun e=>hid e.symm),if_neg (by omega)]
    refine ⟨?_,g1,g2⟩
    rw [hob]
    congr 1
    cases ob with
    | box cs =>
     obtain ⟨b,vs,e,h1,h2,h3,h4⟩:=g3
     simp only [AObj.ren,FV.renL_eq]
     congr 1
     refine List.ext_getElem? fun j=>?_
     rw [List.getElem?_map]
     cases hj:cs[j]? with
     | none=>rfl
     | some y =>
      have hlt:j < vs.size:=by rw [h3]; exact (List.getElem?_eq_some_iff.1 hj).1
      exact (congrArg some ((h4 j vs[j] y (by simp [hlt]) hj).2.noRes hFφ hρ)).symm
    | anc v x=>exact congrArg (AObj.anc v) (FRep.noRes hFφ hρ g3).symm
    | lst e sz es x ps =>
     obtain ⟨_,xs,u,_,_,_,h4⟩:=g3
     exact congrArg (fun y=>AObj.lst e sz es y ps) (FRep.noRes hFφ hρ h4).symm
    | _=>rfl
  ·rw [ho1,ASt.obj_setObj] at h1 h2
   have lt1:id1 < s.nxt:= by
    by_cases h:F = id1
    ·omega
    ·rw [if_neg h] at h1; exact (hI.objs id1 ob1 h1).1
   have lt2:id2 < s.nxt:= by
    by_cases h:F = id2
    ·omega
    ·rw [if_neg h] at h2; exact (hI.objs id2 ob2 h2).1
   simp only [ρ] at he
   split at he <;> split at he <;> omega
 obtain ⟨φ2,hI2⟩:=Le.inv ⟨ρ,hle⟩ hI'
 exact hK D' φ2 a' w' hI2
theorem D_callOwnF {F:Nat} {f:Operand} {args:Array Operand} {ts:Array TypeId} {g:FuncId} {caps ps:List PV} {e sz:Nat} {es:List (List PV)} (hg:guardT ops s o = true) (ho:o.op = .call { callee:=.value f,args,argTypes:=ts }) (hd:dstB nt o.dst = true)
  (hf:s.calleeS f = some (g,caps)) (ha:mapO s.evS args.toList = some ps) (hF:s.obj F = some .res) (hc:ACalls P g (ps ++ caps) (fun r'=>r' = .own e sz es)) :
  StepOK P nt ops o s ⟨some (.arr F),false,[],[F]⟩ ((s.setObj F (some (.arr e sz es))).putO o.dst (some (.arr F))):= by
 have hb:((s.setObj F (some (.arr e sz es))).putO o.dst (some (.arr F))).obj F = some (.arr e sz es):= by
  have:((s.setObj F (some (.arr e sz es))).putO o.dst (some (.arr F))).obj F = (s.setObj F (some (.arr e sz es))).obj F:=by cases o.dst <;> rfl
  rw [this,ASt.obj_setObj,if_pos rfl]
 refine StepOK.mkL hg (by cases hd:o.dst <;> rfl) (by cases hd:o.dst <;> rfl) (by simp only [List.map_cons,List.map_nil,hb]; cases hd:o.dst <;> rfl) fun s1 h1 h2=>?_
 have h8:=op_callOwn_res (op_call1 (r:=.own e sz es) ho hd (by rw [(call_local ho h1).1]; exact hf) (by rw [(call_local ho h1).2]; exact ha) hc) (show s1.obj F = some .res by rw [h2 F (by simp)]; exact hF)
 refine h8.ext (fun t=>?_) (fun id=>?_) ?_
 ·cases hd:o.dst <;> rfl
 ·simp only [List.map_cons,List.map_nil,hb]; cases hd:o.dst <;> rfl
 ·cases hd:o.dst <;> rfl
end
theorem zero155 (w:World):(zeroValue 155).run Tryz.prog w = .ok cutV0 w:=rfl
theorem pk0_rep (w:World) (D:Nat -> Prop):Rep w D cutV0 (ePK ⟨[],0⟩):=cut0_rep w D
def memPk (l:List OPack) (n:Int):PV:=ePK (bpk l n)
abbrev pkF (x:Pkd):FV:=.agg [.pv (eInts x.counts),.pv (vi x.cost)]
abbrev pkO (l:List OPack) (m:Nat):AObj:=memoQO (memPk l) m
def eOPs (l:List OPack):PV:=.sl (l.map eOP)
theorem zero_pkF (l:List OPack):pkF (zeroP l) = .agg [.pv (.sl (List.replicate l.length [vi 0])),.pv (vi 0)]:= by
 show FV.agg [.pv (.sl ((List.replicate l.length (0:Int)).map eInt)),.pv (vi 0)] = _
 rw [List.map_replicate]; rfl
set_option maxHeartbeats 8000000 in
theorem t71z (l:List OPack) (hl3:l.length <= 4) (m:Nat) (n:Int) (hn:n <= 0) :
  ACallsX Tryz.prog 71 [.agg [.pv (eOPs l),.pv (rawM m)],.pv (vi n)] [(0,pkO l m)] 1 (fun sf=>sf = mkSt [(0,pkF (bpk l n))] [(0,pkO l m)] 1) (fun _ _=>False):= by
 rw [bpk_zero hn,zero_pkF]
 refine ACallsX.of_body hT Tryz.func71 rfl (by kernel_rfl) rfl ?_
 (repeat (refine stq ?_))
 refine AW_if rfl (fun hc=>?_) (fun hc=>absurd hn hc)
 (repeat (refine stq ?_))
 refine AL_do2 rfl ⟨_,op_makeSlice (n:=l.length) (zp:=[vi 0]) hT rfl rfl rfl rfl rfl rfl rfl rfl rfl rfl (by omega) rfl,?_⟩
 refine AL_pure (t:=19) rfl rfl ?_
 (repeat (refine stq ?_))
 refine ⟨_,mkSt [(0,.agg [.pv (.sl (List.replicate l.length [vi 0])),.pv (vi 0)])] [(0,pkO l m)] 1,rfl,?_,rfl⟩
 (refine Le.mk ?_ ?_; all_goals (repeat' (first|exact trivial|refine sle ?_|refine ⟨?_,rfl,?_⟩|refine ⟨?_,by decide,rfl,?_⟩|fail)))
set_option maxHeartbeats 8000000 in
theorem t71s (l:List OPack) (h0:l ≠ []) (hl3:l.length <= 4) (hl:∀ k ∈ l,1 <= k.holds /\ 0 <= k.cost /\ k.cost <= 1000) (hh:∀ k ∈ l,k.holds <= 144) (m:Nat) (d:Nat) (n:Int) (h:n.toNat <= d + 1) (hd:d <= 600) (hn:¬ n <= 0)
  (ih:∀ k ∈ l,ACallsX Tryz.prog 71 [.agg [.pv (eOPs l),.pv (rawM m)],.pv (vi (n - k.holds))] [(0,pkO l m)] 1 (fun sf=>sf = mkSt [(0,pkF (bpk l (n - k.holds)))] [(0,pkO l m)] 1) (fun _ _=>False)) :
  ACallsX Tryz.prog 71 [.agg [.pv (eOPs l),.pv (rawM m)],.pv (vi n)] [(0,pkO l m)] 1 (fun sf=>sf = mkSt [(0,pkF (bpk l n))] [(0,pkO l m)] 1) (fun _ _=>False):= by
  refine ACallsX.of_body hT Tryz.func71 rfl (by kernel_rfl) rfl ?_
  (repeat (refine stq ?_))
  refine AW_if rfl (fun hc=>absurd hc hn) (fun hc=>?_)
  (repeat (refine stq ?_))
  refine AL_doS rfl (op_lookMemoR (id:=0) (memoQ_has (memPk l) m) und156 und3 zero155 pk0_rep rfl rfl rfl rfl rfl) ?_
  rintro s' (rfl|rfl)
  ·(repeat (refine stq ?_))
   refine ⟨_,mkSt [(0,pkF (bpk l n))] [(0,pkO l m)] 1,rfl,?_,rfl⟩
   (refine Le.mk ?_ ?_; all_goals (repeat' (first|exact trivial|refine sle ?_|refine ⟨?_,rfl,?_⟩|refine ⟨?_,by decide,rfl,?_⟩|fail)))
  ·(repeat (refine stq ?_))
   refine AW_own_nil (e:=155) (sz:=2) (t:=7) rfl rfl ?_
   (repeat (refine stq ?_))
   have hstep:=bpk_step (fun k hk=>(hl k hk).1) (show 0 < n by omega)
   have hCl:(candsP l (bpk l) n).length = l.length:=by rw [candsP,List.length_mapIdx]
   have hst:∀ (k:Nat) x,l[k]? = some x -> (candsP l (bpk l) n).take (k + 1) = (candsP l (bpk l) n).take k ++ [candP (bpk l (n - x.holds)) k x]:=fun k x hx=>by
    rw [List.take_add_one]
    refine congrArg _ ?_
    rw [candsP,List.getElem?_mapIdx,hx]; rfl
   have hCP:∀ c ∈ candsP l (bpk l) n,PkP c:=cands_pk h0 hl hl3 hd h
   generalize candsP l (bpk l) n = C at *
   refine AW_loopC (fun k:Nat=>k <= l.length) (fun k=>mkSt [(1,.pv (vi n)),(2,.box 1 0),(4,.box 2 0),(7,.arr 4),(31,.pv (eOPs l)),(32,.pv (vi l.length)),(33,.pv (vi k))] [(0,pkO l m),(1,.box [.pv (eOPs l),.pv (rawM m)]),(2,.box [.nils,.pv (vi 0)]),(4,.arr 155 2 ((C.take k).map ePk))] 5) (fun k=>l.length - k) 0 (Nat.zero_le _) ?_ ?_
   ·(refine Le.mk ?_ ?_; all_goals (repeat' (first|exact trivial|refine sle ?_|refine ⟨?_,rfl,?_⟩|refine ⟨?_,by decide,rfl,?_⟩|fail)))
   ·intro k hk
    have hkl:(C.take k).length = k:=by rw [List.length_take]; omega
    (repeat (refine stq ?_))
    refine AW_if rfl (fun hc=>?_) (fun hc=>?_)
    ·have hk':k < l.length:=by omega
     obtain ⟨x,hx⟩:∃ x,l[k]? = some x:=⟨l[k],by simp [hk']⟩
     have e1:=get_map eOP hx
     have hs:=hst k x hx
     have hxb:=hl x (List.mem_of_getElem? hx)
     have hxh:=hh x (List.mem_of_getElem? hx)
     have ihx:=ih x (List.mem_of_getElem? hx)
     have hbp:=bpk_bp h0 hl d (n - x.holds) (by omega)
     generalize hr:bpk l (n - x.holds) = r at *
     have r1:=hbp.len; have r2:=hbp.bd; have r3:=hbp.c0; have r4:=hbp.c1
     have k64:=t64 r.counts (by omega)
     refine AW_res ?_
     (repeat (refine stq ?_))
     refine AL_do2 rfl ⟨_,op_callExt (id:=0) (fun _=>rfl) (fun _=>rfl) rfl rfl rfl rfl (by (repeat' (first|exact trivial|refine And.intro ?_ ?_)); all_goals (first|rfl|decide)) rfl rfl ihx,?_⟩
     (repeat (refine stq ?_))
     (repeat (first|refine DG_next (D_callOwnF (F:=5) rfl rfl rfl rfl rfl rfl k64) ?_|refine DG_next (D_allocE hT rfl rfl rfl rfl) ?_|refine DG_next (D_storeE hT rfl rfl rfl rfl rfl rfl rfl rfl rfl rfl) ?_|refine sdq ?_))
     refine DG_end hM (by kernel_rfl) ?_
     obtain ⟨y,hy⟩:∃ y,r.counts[k]? = some y:=⟨r.counts[k]'(by omega),by simp⟩
     have hyb:=r2 y (List.mem_of_getElem? hy)
     have e3:=get_map eInt hy
     have hml:(r.counts.map eInt).length = l.length:=by simp; omega
     (repeat (refine stq ?_))
     refine AL_do2 rfl ⟨_,op_indexAddr_arr hT rfl rfl rfl rfl rfl rfl rfl rfl (by omega) (by omega) rfl,?_⟩
     refine AL_do2 rfl ⟨_,op_load_aptr (el:=eInt y) hT rfl rfl rfl rfl rfl e3 rfl,?_⟩
     (repeat (refine stq ?_))
     refine AL_do2 rfl ⟨_,op_indexAddr_arr hT rfl rfl rfl rfl rfl rfl rfl rfl (by omega) (by omega) rfl,?_⟩
     refine AL_do2 rfl ⟨_,op_store_aptr (el:=eInt y) hT rfl rfl rfl rfl rfl e3 rfl rfl rfl rfl,?_⟩
     refine AL_arrBox (b:=8) 0 rfl rfl rfl rfl ?_
     (repeat (refine stq ?_))
     have hinc:(r.counts.map eInt).set k [vi (y + 1)] = (incN r.counts k).map eInt:= by
      rw [incN,hy,List.map_set]; rfl
     refine ⟨k + 1,hk',by omega,?_⟩
     rw [hs,List.map_append,show [candP r k x].map ePk = [[.sl ((r.counts.map eInt).set k [vi (y + 1)]),vi (r.cost + x.cost)]] by rw [hinc]; rfl]
     (refine Le.mkR [(4,10)] ?_ ?_ rfl; all_goals (repeat' (first|exact trivial|refine sle ?_|refine ⟨?_,rfl,?_⟩|refine ⟨?_,by decide,rfl,?_⟩|fail)))
    ·have hkl:k = l.length:=by omega
     subst hkl
     rw [List.take_of_length_le (by omega)]
     obtain ⟨x0,l0,hC⟩:∃ x0 l0,C = x0 :: l0:= by
      cases C with
      | nil=>exact absurd (List.eq_nil_of_length_eq_zero hCl.symm) h0
      | cons x0 l0=>exact ⟨x0,l0,rfl⟩
     subst hC
     have k137:=t137 x0 l0 (by simp at hCl; omega) hCP
     rw [show bestP x0 l0 = bpk l n from hstep.symm] at k137
     generalize x0 :: l0 = C at *
     refine AW_pure (t:=7) rfl rfl ?_
     (repeat' (first|refine stq ?_|(refine AL_do2 rfl ?_; first|refine ⟨_,op_call1 rfl rfl rfl rfl (k137),nrmA rfl ?_⟩)|(with_reducible refine AL_id ?_); (fail_if_success (refine glq rfl rfl rfl ?_)); first|refine AL_gdec rfl rfl rfl (fun hg=>?_) (fun hg=>?_)|refine AL_gnot rfl rfl rfl (fun hg=>?_) (fun hg=>?_)|refine AL_gcases rfl rfl rfl (fun hg=>?_) (fun hg=>?_)))
     refine AL_do2 rfl ⟨_,op_updateMemoR (id:=0) (n:=n) (p:=ePK (bpk l n)) (memoQ_has (memPk l) m) und156 und3 rfl rfl rfl rfl rfl rfl rfl,?_⟩
     (repeat (refine stq ?_))
     refine ⟨_,mkSt [(0,pkF (bpk l n))] [(0,pkO l m)] 1,rfl,?_,rfl⟩
     (refine Le.mk ?_ ?_; all_goals (repeat' (first|exact trivial|refine sle ?_|refine ⟨?_,rfl,?_⟩|refine ⟨?_,by decide,rfl,?_⟩|fail)))
theorem t71 (l:List OPack) (h0:l ≠ []) (hl3:l.length <= 4) (hl:∀ k ∈ l,1 <= k.holds /\ 0 <= k.cost /\ k.cost <= 1000) (hh:∀ k ∈ l,k.holds <= 144) (m:Nat):∀ (d:Nat) (n:Int),n.toNat <= d -> d <= 600 →
  ACallsX Tryz.prog 71 [.agg [.pv (eOPs l),.pv (rawM m)],.pv (vi n)] [(0,pkO l m)] 1 (fun sf=>sf = mkSt [(0,pkF (bpk l n))] [(0,pkO l m)] 1) (fun _ _=>False)
 | 0,n,h,hd=>t71z l hl3 m n (by omega)
 | d + 1,n,h,hd=>by
  by_cases hn:n <= 0
  ·exact t71z l hl3 m n hn
  ·exact t71s l h0 hl3 hl hh m d n h (by omega) hn fun k hk=>t71 l h0 hl3 hl hh m d (n - k.holds) (by have:=hl k hk; omega) (by omega)
set_option maxHeartbeats 4000000 in
theorem t27 (l:List OPack) (h0:l ≠ []) (hl3:l.length <= 4) (hl:∀ k ∈ l,1 <= k.holds /\ 0 <= k.cost /\ k.cost <= 1000) (hh:∀ k ∈ l,k.holds <= 144) (n:Int) (h1:0 <= n) (h2:n <= 600):ACalls Tryz.prog 27 [eOPs l,vi n] (fun x=>x = .tup [eInts (bpk l n).counts,vi (bpk l n).cost,vi 0]):= by
 have hlp:1 <= l.length:= by
  cases l with
  | nil=>exact absurd rfl h0
  | cons x l=>simp
 have k68a:=t68 l.length 1 4
 have k68b:=t68 n 0 600
 rw [inB_iff.2 (by omega)] at k68a
 rw [inB_iff.2 (by omega)] at k68b
 have k69:=t69 l (by omega) (fun p hp=>inB_iff.2 (by have:=hl p hp; have:=hh p hp; omega)) (fun p hp=>inB_iff.2 (by have:=hl p hp; omega))
 have k71:=fun m=>t71 l h0 hl3 hl hh m n.toNat n (Nat.le_refl _) (by omega)
 have hbp:=bpk_bp h0 hl n.toNat n (Nat.le_refl _)
 have k64:=t64 (bpk l n).counts (by rw [hbp.len]; omega)
 generalize bpk l n = r at *
 refine ACalls.of_body hT Tryz.func27 rfl (by kernel_rfl) rfl ?_
 (repeat' (first|refine stq ?_|(refine AL_do2 rfl ?_; first|refine ⟨_,op_call1 rfl rfl rfl rfl (k68a),nrmA rfl ?_⟩|refine ⟨_,op_call1 rfl rfl rfl rfl (k68b),nrmA rfl ?_⟩|refine ⟨_,op_call1 rfl rfl rfl rfl (k69),nrmA rfl ?_⟩)|(with_reducible refine AL_id ?_); (fail_if_success (refine glq rfl rfl rfl ?_)); first|refine AL_gdec rfl rfl rfl (fun hg=>?_) (fun hg=>?_)|refine AL_gnot rfl rfl rfl (fun hg=>?_) (fun hg=>?_)|refine AL_gcases rfl rfl rfl (fun hg=>?_) (fun hg=>?_)))
 refine AL_doS rfl (op_makeMemoQ (memPk l) rfl rfl) ?_
 rintro s' ⟨m,rfl⟩
 (repeat (refine stq ?_))
 refine AL_do2 rfl ⟨_,op_callExt (id:=0) (fun _=>rfl) (fun _=>rfl) rfl rfl rfl rfl (by (repeat' (first|exact trivial|refine And.intro ?_ ?_)); all_goals (first|rfl|decide)) rfl rfl (k71 m),?_⟩
 (repeat (refine stq ?_))
 (repeat (first|refine DG_next (D_call_own_p rfl rfl rfl rfl rfl rfl k64) ?_|refine sdq ?_))
 refine DG_end hM (by kernel_rfl) ?_
 (repeat (refine stq ?_))
 exact ⟨_,_,rfl,rfl,rfl⟩
theorem t28:ACalls Tryz.prog 28 [] (fun x=>x = .pv (eOPs pEx)):= by
 refine ACalls.of_body hT Tryz.func28 rfl (by kernel_rfl) rfl ?_
 (repeat' (first|(refine AL_do2 rfl ⟨_,op_buildSlice_p hT rfl rfl rfl rfl rfl rfl rfl rfl rfl,?_⟩)|refine stq ?_|(with_reducible refine AL_id ?_); (fail_if_success (refine glq rfl rfl rfl ?_)); first|refine AL_gdec rfl rfl rfl (fun hg=>?_) (fun hg=>?_)|refine AL_gnot rfl rfl rfl (fun hg=>?_) (fun hg=>?_)|refine AL_gcases rfl rfl rfl (fun hg=>?_) (fun hg=>?_)))
 exact ⟨_,_,rfl,rfl,rfl⟩
theorem t27Ex:ACalls Tryz.prog 27 [eOPs pEx,vi 155] (fun x=>x = .tup [eInts [1,1,0],vi 110,vi 0]):= by
 have h:=t27 pEx (by decide) (by decide) pEx_ok (by decide) 155 (by decide) (by decide)
 rw [pEx_best] at h
 exact h
end Go.Abs
namespace Go.Abs
open Go.Proofs
set_option maxRecDepth 100000
structure SRoom where
 low:Int
 high:Int
 load:Int
 out:Int
 start:Int
structure SFan where
 room:Int
 draw:Int
structure SHand where
 dust:Int
 hours:Int
structure SHouse where
 hours:Int
 rooms:List SRoom
 fans:List SFan
 sets:List Int
 hands:List SHand
def eRoom (r:SRoom):List PV:=[vi r.low,vi r.high,vi r.load,vi r.out,vi r.start]
def eFan (f:SFan):List PV:=[vi f.room,vi f.draw]
def eHand (h:SHand):List PV:=[vi h.dust,vi h.hours]
def eHouseC (h:SHouse):List PV:=[vi h.hours,.sl (h.rooms.map eRoom),.sl (h.fans.map eFan),eInts h.sets,.sl (h.hands.map eHand)]
def eHouse (h:SHouse):PV:=.agg (eHouseC h)
def hEx:SHouse:=⟨3,[⟨4,6,10,2,0⟩,⟨1,2,5,1,3⟩],[⟨0,4⟩,⟨1,1⟩],[3,3,1],[⟨20,2⟩,⟨20,3⟩,⟨20,2⟩]⟩
theorem t118 (x a b:Int):ACalls Tryz.prog 118 [vi x,vi a,vi b] (fun r=>r = .pv (.bool (inB x a b))):= by
 refine ACalls.of_body hT Tryz.func118 rfl (by kernel_rfl) rfl ?_
 (repeat' (first|refine stq ?_|((first|(with_reducible refine AL_id ?_); (fail_if_success (refine glq rfl rfl rfl ?_)); first|refine AL_gdec rfl rfl rfl (fun hg=>?_) (fun hg=>?_)|refine AL_gnot rfl rfl rfl (fun hg=>?_) (fun hg=>?_)|refine AL_gcases rfl rfl rfl (fun hg=>?_) (fun hg=>?_)) <;> (try (exfalso; omega)))|refine AW_if rfl (fun hc=>absurd hc (by omega)) (fun _=>?_)|refine AW_if rfl (fun _=>?_) (fun hc=>absurd (by omega) hc)))
 all_goals exact ⟨_,_,rfl,rfl,by rw [inB]; simp; omega⟩
theorem t67 (a b:Int):ACalls Tryz.prog 67 [vi a,vi b] (fun x=>x = .pv (.agg [vi a,vi b])):= by
 refine ACalls.of_body hT Tryz.func67 rfl (by kernel_rfl) rfl ?_
 (repeat (refine stq ?_))
 exact ⟨_,_,rfl,rfl,rfl⟩
theorem t26:ACalls Tryz.prog 26 [] (fun x=>x = .pv (eHouse hEx)):= by
 have k1:=t67 4 6
 have k2:=t67 1 2
 refine ACalls.of_body hT Tryz.func26 rfl (by kernel_rfl) rfl ?_
 (repeat' (first|refine stq ?_|(refine AL_do2 rfl ?_; first|refine ⟨_,op_call1 rfl rfl rfl rfl (k1),nrmA rfl ?_⟩|refine ⟨_,op_call1 rfl rfl rfl rfl (k2),nrmA rfl ?_⟩|refine ⟨_,op_buildSlice_p hT rfl rfl rfl rfl rfl rfl rfl rfl rfl,?_⟩)|(with_reducible refine AL_id ?_); (fail_if_success (refine glq rfl rfl rfl ?_)); first|refine AL_gdec rfl rfl rfl (fun hg=>?_) (fun hg=>?_)|refine AL_gnot rfl rfl rfl (fun hg=>?_) (fun hg=>?_)|refine AL_gcases rfl rfl rfl (fun hg=>?_) (fun hg=>?_)))
 exact ⟨_,_,rfl,rfl,rfl⟩
def hasR (s r:Int):Bool:=decide ((s / 2 ^ r.toNat) % 2 = 1)
def setOK (s:Int):Prop:=s = 0 \/ s = 1 \/ s = 2 \/ s = 3
def roomOK (r:Int):Prop:=r = 0 \/ r = 1
theorem t57 (s r:Int) (hs:setOK s) (hr:roomOK r):ACalls Tryz.prog 57 [vi s,vi r] (fun x=>x = .pv (.bool (hasR s r))):= by
 rcases hs with rfl|rfl|rfl|rfl <;> rcases hr with rfl|rfl
 all_goals
  refine ACalls.of_body hT Tryz.func57 rfl (by kernel_rfl) rfl ?_
  (repeat (refine stq ?_))
  exact ⟨_,_,rfl,rfl,rfl⟩
def popN (s:Int):Int:=s % 2 + s / 2 % 2
theorem t134 (s:Int) (hs:setOK s):ACalls Tryz.prog 134 [.int .u64 s] (fun x=>x = .pv (vi (popN s))):= by
 rcases hs with rfl|rfl|rfl|rfl
 all_goals
  refine ACalls.of_body hT Tryz.func134 rfl (by kernel_rfl) rfl ?_
  (repeat (refine stq ?_))
  exact ⟨_,_,rfl,rfl,rfl⟩
theorem t62 (s:Int) (hs:setOK s):ACalls Tryz.prog 62 [.int .u64 s] (fun x=>x = .pv (vi (popN s))):= by
 have k:=t134 s hs
 refine ACalls.of_body hT Tryz.func62 rfl (by kernel_rfl) rfl ?_
 (repeat (refine stq ?_))
 refine AW_cond_cf ?_
 (repeat' (first|refine stq ?_|(refine AL_do2 rfl ?_; first|refine ⟨_,op_call1 rfl rfl rfl rfl (k),nrmA rfl ?_⟩)|(with_reducible refine AL_id ?_); (fail_if_success (refine glq rfl rfl rfl ?_)); first|refine AL_gdec rfl rfl rfl (fun hg=>?_) (fun hg=>?_)|refine AL_gnot rfl rfl rfl (fun hg=>?_) (fun hg=>?_)|refine AL_gcases rfl rfl rfl (fun hg=>?_) (fun hg=>?_)))
 exact ⟨_,_,rfl,rfl,rfl⟩
theorem t63 (s:Int):ACalls Tryz.prog 63 [vi s] (fun x=>x = .pv (.bool (decide (s ≠ 0)))):= by
 refine ACalls.of_body hT Tryz.func63 rfl (by kernel_rfl) rfl ?_
 (repeat (refine stq ?_))
 exact ⟨_,_,rfl,rfl,rfl⟩
def eLists (l:List (List Int)):PV:=.sl (l.map fun x=>[eInts x])
def idxI (l:List Int) (f:Int -> Bool):Int:=if l.any f then (l.findIdx f:Int) else -1
theorem idx_hit {l:List Int} {f:Int -> Bool} {k:Nat} {x:Int} (hx:l[k]? = some x) (h:f x = true) (hall:∀ (i:Nat) (x:Int),i < k -> l[i]? = some x -> f x = false):idxI l f = k:= by
 obtain ⟨hk,rfl⟩:=List.getElem?_eq_some_iff.1 hx
 rw [idxI,if_pos (List.any_eq_true.2 ⟨_,List.mem_of_getElem? hx,h⟩),(List.findIdx_eq hk).2 ⟨h,fun j hj=>hall j _ hj (by simp)⟩]
theorem idx_none {l:List Int} {f:Int -> Bool} (hall:∀ (i:Nat) (x:Int),i < l.length -> l[i]? = some x -> f x = false):idxI l f = -1:= by
 rw [idxI,if_neg]
 intro h
 obtain ⟨x,hx,h2⟩:=List.any_eq_true.1 h
 obtain ⟨i,hi⟩:=List.mem_iff_getElem?.1 hx
 rw [hall i x (List.getElem?_eq_some_iff.1 hi).1 hi] at h2
 cases h2
theorem idx_ge (l:List Int) (f:Int -> Bool):decide (idxI l f >= 0) = l.any f:= by
 rw [idxI]
 split
 ·rename_i h; rw [h]; simp
 ·rename_i h; rw [Bool.not_eq_true] at h; rw [h]; simp
set_option maxHeartbeats 4000000 in
theorem t132 (l:List Int) (hl:l.length <= 1000) (g:Nat) (caps:List PV) (f:Int -> Bool) (hg:∀ x ∈ l,ACalls Tryz.prog g ([vi x] ++ caps) (fun r=>r = .pv (.bool (f x)))) :
  ACalls Tryz.prog 132 [eInts l,.fn g caps] (fun r=>r = .pv (vi (idxI l f))):= by
 refine ACalls.of_body hT Tryz.func132 rfl (by kernel_rfl) rfl ?_
 (repeat (refine stq ?_))
 refine AW_loopC (fun k:Nat=>k <= l.length /\ ∀ (i:Nat) (x:Int),i < k -> l[i]? = some x -> f x = false) (fun k=>mkSt [(0,.pv (eInts l)),(1,.pv (.fn g caps)),(7,.pv (vi l.length)),(8,.pv (vi k))] [] 0) (fun k=>l.length - k) 0 ⟨Nat.zero_le _,fun i x h=>by omega⟩ ?_ ?_
 ·(refine Le.mk ?_ ?_; all_goals (repeat' (first|exact trivial|refine sle ?_|refine ⟨?_,rfl,?_⟩|refine ⟨?_,by decide,rfl,?_⟩|fail)))
 ·rintro k ⟨hk,hall⟩
  (repeat (refine stq ?_))
  refine AW_if rfl (fun hc=>?_) (fun hc=>?_)
  ·have hk':k < l.length:=by omega
   obtain ⟨x,hx⟩:∃ x,l[k]? = some x:=⟨l[k],by simp [hk']⟩
   have e1:=get_map eInt hx
   have hgx:=hg x (List.mem_of_getElem? hx)
   cases q:f x with
   | true =>
    rw [q] at hgx
    (repeat' (first|refine stq ?_|(refine AL_do2 rfl ?_; first|refine ⟨_,op_call1 rfl rfl rfl rfl (hgx),nrmA rfl ?_⟩)|(with_reducible refine AL_id ?_); (fail_if_success (refine glq rfl rfl rfl ?_)); first|refine AL_gdec rfl rfl rfl (fun hg=>?_) (fun hg=>?_)|refine AL_gnot rfl rfl rfl (fun hg=>?_) (fun hg=>?_)|refine AL_gcases rfl rfl rfl (fun hg=>?_) (fun hg=>?_)))
    exact ⟨_,_,rfl,rfl,by rw [idx_hit hx q hall]⟩
   | false =>
    rw [q] at hgx
    (repeat' (first|refine stq ?_|(refine AL_do2 rfl ?_; first|refine ⟨_,op_call1 rfl rfl rfl rfl (hgx),nrmA rfl ?_⟩)|(with_reducible refine AL_id ?_); (fail_if_success (refine glq rfl rfl rfl ?_)); first|refine AL_gdec rfl rfl rfl (fun hg=>?_) (fun hg=>?_)|refine AL_gnot rfl rfl rfl (fun hg=>?_) (fun hg=>?_)|refine AL_gcases rfl rfl rfl (fun hg=>?_) (fun hg=>?_)))
    refine ⟨k + 1,⟨hk',fun i y hi hy=>?_⟩,by omega,?_⟩
    ·by_cases hik:i = k
     ·subst hik; rw [hx] at hy; cases hy; exact q
     ·exact hall i y (by omega) hy
    ·(refine Le.mk ?_ ?_; all_goals (repeat' (first|exact trivial|refine sle ?_|refine ⟨?_,rfl,?_⟩|refine ⟨?_,by decide,rfl,?_⟩|fail)))
  ·have hkl:k = l.length:=by omega
   (repeat (refine stq ?_))
   exact ⟨_,_,rfl,rfl,by rw [idx_none fun i x hi hx=>hall i x (by omega) hx]⟩
theorem t60 (l:List Int) (hl:l.length <= 1000) (g:Nat) (caps:List PV) (f:Int -> Bool) (hg:∀ x ∈ l,ACalls Tryz.prog g ([vi x] ++ caps) (fun r=>r = .pv (.bool (f x)))) :
  ACalls Tryz.prog 60 [eInts l,.fn g caps] (fun r=>r = .pv (.bool (l.any f))):= by
 have k132:=t132 l hl g caps f hg
 rw [<- idx_ge]
 refine ACalls.of_body hT Tryz.func60 rfl (by kernel_rfl) rfl ?_
 (repeat' (first|refine stq ?_|(refine AL_do2 rfl ?_; first|refine ⟨_,op_call1 rfl rfl rfl rfl (k132),nrmA rfl ?_⟩)|(with_reducible refine AL_id ?_); (fail_if_success (refine glq rfl rfl rfl ?_)); first|refine AL_gdec rfl rfl rfl (fun hg=>?_) (fun hg=>?_)|refine AL_gnot rfl rfl rfl (fun hg=>?_) (fun hg=>?_)|refine AL_gcases rfl rfl rfl (fun hg=>?_) (fun hg=>?_)))
 exact ⟨_,_,rfl,rfl,rfl⟩
def cntI (l:List Int) (r:Int):Nat:=(l.filter fun x=>decide (x = r)).length
theorem cnt_snoc {l:List Int} {r x:Int} {k:Nat} (h:l[k]? = some x):cntI (l.take (k + 1)) r = cntI (l.take k) r + if x = r then 1 else 0:= by
 rw [List.take_add_one,h,cntI,cntI,List.filter_append]
 by_cases q:x = r <;> simp [q]
set_option maxHeartbeats 4000000 in
theorem t135 (l:List Int) (hl:l.length <= 1000) (r:Int):ACalls Tryz.prog 135 [eInts l,vi r] (fun x=>x = .pv (vi (cntI l r))):= by
 refine ACalls.of_body hT Tryz.func135 rfl (by kernel_rfl) rfl ?_
 (repeat (refine stq ?_))
 refine AW_loopC (fun k:Nat=>k <= l.length) (fun k=>mkSt [(1,.pv (vi r)),(5,.pv (vi (cntI (l.take k) r))),(8,.pv (eInts l)),(9,.pv (vi l.length)),(10,.pv (vi k))] [] 0) (fun k=>l.length - k) 0 (Nat.zero_le _) ?_ ?_
 ·(refine Le.mk ?_ ?_; all_goals (repeat' (first|exact trivial|refine sle ?_|refine ⟨?_,rfl,?_⟩|refine ⟨?_,by decide,rfl,?_⟩|fail)))
 ·intro k hk
  have hb:cntI (l.take k) r <= k:= by
   have h:=List.length_filter_le (fun x=>decide (x = r)) (l.take k)
   rw [List.length_take] at h
   rw [cntI]; omega
  have hst:∀ x,l[k]? = some x -> cntI (l.take (k + 1)) r = cntI (l.take k) r + if x = r then 1 else 0:=fun x hx=>cnt_snoc hx
  generalize hC:cntI (l.take k) r = C at *
  (repeat (refine stq ?_))
  refine AW_if rfl (fun hc=>?_) (fun hc=>?_)
  ·have hk':k < l.length:=by omega
   obtain ⟨x,hx⟩:∃ x,l[k]? = some x:=⟨l[k],by simp [hk']⟩
   have e1:=get_map eInt hx
   have hs:=hst x hx
   (repeat (refine stq ?_))
   refine AW_if rfl (fun h=>?_) (fun h=>?_)
   ·rw [if_pos h] at hs
    (repeat (refine stq ?_))
    refine ⟨k + 1,hk',by omega,?_⟩
    rw [hs]
    (refine Le.mk ?_ ?_; all_goals (repeat' (first|exact trivial|refine sle ?_|refine ⟨?_,rfl,?_⟩|refine ⟨?_,by decide,rfl,?_⟩|fail)))
   ·rw [if_neg h,Nat.add_zero] at hs
    (repeat (refine stq ?_))
    refine ⟨k + 1,hk',by omega,?_⟩
    rw [hs]
    (refine Le.mk ?_ ?_; all_goals (repeat' (first|exact trivial|refine sle ?_|refine ⟨?_,rfl,?_⟩|refine ⟨?_,by decide,rfl,?_⟩|fail)))
  ·have hkl:k = l.length:=by omega
   subst hkl
   rw [List.take_length] at hC
   rw [hC]
   (repeat (refine stq ?_))
   exact ⟨_,_,rfl,rfl,rfl⟩
def workedI (l:List Int):Int:=l.length - cntI l (-1)
theorem t65 (l:List Int) (hl:l.length <= 1000):ACalls Tryz.prog 65 [eInts l] (fun x=>x = .pv (vi (workedI l))):= by
 have k135:=t135 l hl (-1)
 have hb:cntI l (-1) <= l.length:=List.length_filter_le _ _
 rw [workedI]
 generalize cntI l (-1) = C at *
 refine ACalls.of_body hT Tryz.func65 rfl (by kernel_rfl) rfl ?_
 (repeat' (first|refine stq ?_|(refine AL_do2 rfl ?_; first|refine ⟨_,op_call1 rfl rfl rfl rfl (k135),nrmA rfl ?_⟩)|(with_reducible refine AL_id ?_); (fail_if_success (refine glq rfl rfl rfl ?_)); first|refine AL_gdec rfl rfl rfl (fun hg=>?_) (fun hg=>?_)|refine AL_gnot rfl rfl rfl (fun hg=>?_) (fun hg=>?_)|refine AL_gcases rfl rfl rfl (fun hg=>?_) (fun hg=>?_)))
 exact ⟨_,_,rfl,rfl,rfl⟩
theorem t66 (l:List (List Int)) (hl:l.length <= 1000):ACalls Tryz.prog 66 [eLists l] (fun r=>r = .own 33 1 (l.map fun x=>[eInts x])):= by
 refine ACalls.of_body hT Tryz.func66 rfl (by kernel_rfl) rfl ?_
 (repeat (refine stq ?_))
 refine AL_doS rfl (op_eql_slnil hT rfl rfl rfl rfl rfl (fun el h=>by obtain ⟨b,_,rfl⟩:=List.mem_map.1 h; exact Nat.succ_pos _)) ?_
 rintro s' ⟨b,hb,rfl⟩
 refine AL_nil_then ?_
 refine AW_cond rfl (fun hc=>?_) (fun hc=>?_)
 ·have hl0:l = []:=by have:=hb hc; simpa using this
  subst hl0
  refine AW_seq ?_
  refine AW_region ?_
  refine AL_step hT rfl ?_
  refine AL_own_nil (e:=33) (sz:=1) (t:=2) rfl rfl ?_
  (repeat (refine stq ?_))
  exact ⟨_,_,rfl,rfl,rfl⟩
 ·(repeat (refine stq ?_))
  exact ⟨_,_,rfl,rfl,rfl⟩
set_option maxHeartbeats 4000000 in
theorem t206 (l:List Int) (hl:l.length <= 1000) (hb:∀ x ∈ l,0 <= x /\ x <= 1000):ACalls Tryz.prog 206 [eInts l] (fun r=>r = .pv (vi (sumI l))):= by
 have hsk:∀ k,0 <= sumI (l.take k) /\ sumI (l.take k) <= 1000 * 1000:=fun k=>by
  have h:=sum_bdI (l.take k) fun x hx=>hb x (List.mem_of_mem_take hx)
  have:(l.take k).length <= 1000:=by simp; omega
  omega
 refine ACalls.of_body hT Tryz.func206 rfl (by kernel_rfl) rfl ?_
 (repeat (refine stq ?_))
 refine AW_loopC (fun k:Nat=>k <= l.length) (fun k=>mkSt [(3,.pv (vi (sumI (l.take k)))),(6,.pv (eInts l)),(7,.pv (vi l.length)),(8,.pv (vi k))] [] 0) (fun k=>l.length - k) 0 (Nat.zero_le _) ?_ ?_
 ·(refine Le.mk ?_ ?_; all_goals (repeat' (first|exact trivial|refine sle ?_|refine ⟨?_,rfl,?_⟩|refine ⟨?_,by decide,rfl,?_⟩|fail)))
 ·intro k hk
  have hs0:=hsk k
  have hst:∀ x,l[k]? = some x -> sumI (l.take (k + 1)) = sumI (l.take k) + x:=fun x hx=>by
   rw [List.take_add_one,hx,sumI_append]; simp [sumI]
  generalize hS:sumI (l.take k) = S at *
  (repeat (refine stq ?_))
  refine AW_if rfl (fun hc=>?_) (fun hc=>?_)
  ·have hk':k < l.length:=by omega
   obtain ⟨x,hx⟩:∃ x,l[k]? = some x:=⟨l[k],by simp [hk']⟩
   have e1:=get_map eInt hx
   have hxb:=hb x (List.mem_of_getElem? hx)
   have hs:=hst x hx
   (repeat (refine stq ?_))
   refine ⟨k + 1,hk',by omega,?_⟩
   rw [hs]
   (refine Le.mk ?_ ?_; all_goals (repeat' (first|exact trivial|refine sle ?_|refine ⟨?_,rfl,?_⟩|refine ⟨?_,by decide,rfl,?_⟩|fail)))
  ·have hkl:k = l.length:=by omega
   subst hkl
   rw [List.take_length] at hS
   rw [hS]
   (repeat (refine stq ?_))
   exact ⟨_,_,rfl,rfl,rfl⟩
end Go.Abs
