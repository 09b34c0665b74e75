/- Slices of slices. -/
import Derived.Test.YtpoaccdbakbjhaaGreatXG13
import Derived.Laws.MakeOwn
import Derived.Maps.RangeRun
import Derived.MapKept
set_option linter.unusedVariables false
set_option linter.unusedSimpArgs false
namespace Go.Abs
open Go.RowKit
section
variable {P:Program} {T:Nat -> Option TyI} {nt:Nat} {s:ASt} {o:Oper} {ops:Array Oper} {rest:List Oper} {Q:Exit -> ASt -> Prop}
theorem addr_add_add (b:Addr) (q j:Nat):(b.add q).add j = b.add (q + j):= by
 unfold Addr.add
 by_cases h0:q = 0
 ·subst h0; simp
 ·by_cases hj:j = 0
  ·subst hj; simp [h0]
  ·simp [h0,hj,Nat.add_assoc]
theorem addr_add_block (b:Addr) (q:Nat):(b.add q).block = b.block:=by unfold Addr.add; split <;> rfl
theorem run_sliceAt {t e:Nat} {ti ei:TyI} (hT:TabOK P T) (ht:T t = some ti) (hk:ti.kind = .slice e) (he:T e = some ei) (w:World) (ad:Option Addr) (n c lo hi:Nat) (h1:lo <= hi) (h2:hi <= c) (vlo vhi:Option Value)
  (hlo:(vlo = none /\ lo = 0) \/ ∃ k,vlo = some (.int k (lo:Int))) (hhi:(vhi = none /\ hi = n) \/ ∃ k,vhi = some (.int k (hi:Int))) :
  (Instr.sliceAt t (.slice ad n c) vlo vhi none).run P w = .ok (.slice (if c = lo then ad else ad.map (·.add (lo * ei.size))) (hi - lo) (c - lo)) w:= by
 have hund:=(hT.ty ht).slice hk
 have hsz:=(hT.ty he).run_size w
 have b1:(Instr.sliceBounds true n c vlo vhi none).run P w = .ok (lo,hi,c) w:= by
  rcases hhi with ⟨rfl,rfl⟩|⟨k,rfl⟩ <;> rcases hlo with ⟨rfl,rfl⟩|⟨k',rfl⟩ <;> simp [Instr.sliceBounds,Instr.sliceBound,asIntOf] <;> (try omega) <;> simp [h1,h2]
 simp only [Instr.sliceAt,underlying,Sem.run_bind,hund,Result.andThen_ok,Instr.slice,b1,hsz,Sem.run_pure]
 simp [underlying,hund,b1,hsz]
theorem op_slice_sl {t e lo hi:Nat} {x:Operand} {olo ohi:Option Operand} {ti ei:TyI} {es:List (List PV)} (hT:TabOK P T) (ho:o.op = .slice t x olo ohi none) (hd:dstB nt o.dst = true) (ht:T t = some ti) (hk:ti.kind = .slice e) (he:T e = some ei)
  (hx:s.evD x = some (.sl es)) (hel:∀ el ∈ es,el.length = ei.size) (hlo:(olo = none /\ lo = 0) \/ ∃ y k,olo = some y /\ s.ev y = some (.pv (.int k (lo:Int)))) (hhi:(ohi = none /\ hi = es.length) \/ ∃ y k,ohi = some y /\ s.ev y = some (.pv (.int k (hi:Int))))
  (h1:lo <= hi) (h2:hi <= es.length):OpTo P nt o s (s.putO o.dst (some (.pv (.sl ((es.take hi).drop lo))))) :=
 OpTo.value hd fun W0 D0 D φ a w hI=>by
  have hr:=hI.evD hx
  generalize hv:a.eval x = v at hr
  cases hr with
  | sl ad m c sz es us hm hcap hmax hsz' ha hlf hr =>
   subst hm
   have hrun:=run_sliceAt hT ht hk he w ad es.length c lo hi h1 (by omega) (olo.map a.eval) (ohi.map a.eval)
    (by
      rcases hlo with ⟨rfl,h⟩|⟨y,k,rfl,h⟩
      ·exact .inl ⟨rfl,h⟩
      ·exact .inr ⟨k,by simp [hI.ev_int h]⟩)
    (by
      rcases hhi with ⟨rfl,h⟩|⟨y,k,rfl,h⟩
      ·exact .inl ⟨rfl,h⟩
      ·exact .inr ⟨k,by simp [hI.ev_int h]⟩)
   refine ⟨_,by simp only [execOp,ho,hv,Option.map_none,Sem.run_bind,hrun,Result.andThen_ok,Sem.run_pure]; rfl,fun x' hx'=>?_⟩
   cases hx'
   refine ⟨rfl,.pv _ _ ?_⟩
   have hlen:((es.take hi).drop lo).length = hi - lo:=by simp; omega
   have hget:∀ i,i < hi - lo -> ((es.take hi).drop lo)[i]? = es[lo + i]?:=fun i hi'=>by rw [List.getElem?_drop,List.getElem?_take,if_pos (by omega)]
   have hlt:∀ i el,((es.take hi).drop lo)[i]? = some el -> i < hi - lo /\ es[lo + i]? = some el:=fun i el h=>by
    have:=(List.getElem?_eq_some_iff.1 h).1
    rw [hlen] at this
    exact ⟨this,by rw [<- hget i this]; exact h⟩
   refine .sl _ _ _ sz _ (fun i j=>us (lo + i) j) hlen.symm (by omega) (by omega) (fun i el h=>hsz' _ el (hlt i el h).2) (fun i j hi' hj=>?_) (fun i j el p h hp=>hlf _ j el p (hlt i el h).2 hp) (fun i j el p h hp=>hr _ j el p (hlt i el h).2 hp)
   obtain ⟨b,rfl,hD,hc⟩:=ha (lo + i) j (by omega) hj
   have hss:sz = ei.size:= by
    have hi2:lo + i < es.length:=by omega
    rw [<- hsz' (lo + i) es[lo + i] (by simp [hi2])]; exact hel _ (List.getElem_mem hi2)
   rw [if_neg (by omega)]
   refine ⟨b.add (lo * ei.size),rfl,by rw [addr_add_block]; exact hD,?_⟩
   rw [addr_add_add,<- hss,show lo * sz + (i * sz + j) = (lo + i) * sz + j by rw [Nat.add_mul]; omega]
   exact hc
theorem op_slice_own {t e id sz hi:Nat} {x y:Operand} {k:IntKind} {ti ei:TyI} {es:List (List PV)} (hT:TabOK P T) (ho:o.op = .slice t x none (some y) none) (hd:dstB nt o.dst = true) (ht:T t = some ti) (hk:ti.kind = .slice e) (he:T e = some ei)
  (hx:s.ev x = some (.arr id)) (hob:s.obj id = some (.arr e sz es)) (hy:s.ev y = some (.pv (.int k (hi:Int)))) (h2:hi <= es.length) :
  OpTo P nt o s (((s.setObj id none).newObj (.arr e sz (es.take hi))).putO o.dst (some (.arr s.nxt))):= by
 intro ro W0 D0 D φ a w hI K Q hK
 obtain ⟨hid,_,xs,hown,hxr⟩:=hI.objs id _ hob
 have hv0:a.eval x = φ id:= by
  have:=(hI.ev hx).2
  generalize a.eval x = v at this
  cases this with
  | arr id n c ad h=>exact h.symm
 obtain ⟨ad,c,hv,hnc⟩:=ownsRow_slice hown
 have hrun0:=run_sliceAt hT ht hk he w ad es.length c 0 hi (Nat.zero_le _) (by omega) none (some (a.eval y)) (.inl ⟨rfl,rfl⟩) (.inr ⟨k,by rw [hI.ev_int hy]⟩)
 have hval:(Value.slice (if c = 0 then ad else ad.map (·.add (0 * ei.size))) (hi - 0) (c - 0)) = .slice ad hi c:= by
  have:ad.map (·.add (0 * ei.size)) = ad:=by cases ad <;> simp [Addr.add]
  rw [this]; simp
 rw [hval] at hrun0
 have hrun:(execOp a.eval o).run P w = .ok (.value (.slice ad hi c)) w:= by
  simp only [execOp,ho,hv0,hv,Option.map_none,Option.map_some,Sem.run_bind,hrun0,Result.andThen_ok,Sem.run_pure]
 refine wpIn_of (by rw [ho]; intro c hc; cases hc) ?_
 unfold Oper.wp
 rw [hrun]
 have hl:(es.take hi).length = hi:=by simp; omega
 have hN:Inv W0 D0 nt ((s.setObj id none).newObj (.arr e sz (es.take hi))) D (addH φ s.nxt (.slice ad hi c)) a w:= by
  refine hI.chg s.nxt (fun j=>j = id) (Below.refl _ _) (fun _ _ _=>rfl) (fun _ h=>h) (fun b hb=>.inl hb) (fun j hj=>addH_old _ _ hj) (Nat.le_succ _) (fun t x hx=>hx) ?_ ?_
  ·intro id' ob' hne ho'
   rw [ASt.obj_newObj] at ho'
   have hn2:(s.setObj id none).nxt = s.nxt:=rfl
   rw [hn2,if_neg (fun e=>hne e.symm),ASt.obj_setObj] at ho'
   by_cases h2:id = id'
   ·rw [if_pos h2] at ho'; cases ho'
   ·rw [if_neg h2] at ho'; exact ⟨fun e=>h2 e.symm,ho'⟩
  ·intro ob' ho'
   rw [ASt.obj_newObj] at ho'
   have hn2:(s.setObj id none).nxt = s.nxt:=rfl
   rw [hn2,if_pos rfl] at ho'
   cases ho'
   refine ⟨Nat.lt_succ_self _,rfl,⟨xs.take (hi * sz),?_,?_,?_⟩,?_⟩
   ·rw [addH_new,hl]
    refine ⟨?_,?_⟩
    ·rw [List.length_take,hown.1]; exact Nat.min_eq_left (Nat.mul_le_mul_right _ h2)
    ·rcases hown.2 with ⟨q1,q2⟩|⟨g,cap,cur,q1,q2,q3,q4,q5,q6,q7⟩
     ·rw [hv] at q1
      simp only [Value.slice.injEq] at q1
      obtain ⟨rfl,_,rfl⟩:=q1
      exact .inl ⟨by rw [show hi = 0 by omega],by omega⟩
     ·rw [hv] at q1
      simp only [Value.slice.injEq] at q1
      obtain ⟨rfl,_,rfl⟩:=q1
      refine .inr ⟨g,c,cur,rfl,q2,q3,by omega,q5,q6,?_⟩
      rw [<- q7,List.take_take,Nat.min_eq_left (Nat.mul_le_mul_right _ h2)]
   ·intro i el hi'
    exact hxr.1 i el (List.mem_of_getElem? hi' |> fun _=>by rw [List.getElem?_take] at hi'; split at hi'; exact hi'; cases hi')
   ·intro i j el p hi' hp
    rw [List.getElem?_take] at hi'
    split at hi'
    ·rename_i hlt
     obtain ⟨r1,u,r2,r3⟩:=hxr.2 i j el p hi' hp
     refine ⟨r1,u,?_,r3⟩
     have hj:j < sz:=by rw [<- hxr.1 i el hi']; exact (List.getElem?_eq_some_iff.1 hp).1
     have:i * sz + sz <= hi * sz:=by have:=Nat.mul_le_mul_right sz (Nat.succ_le_of_lt hlt); rwa [Nat.succ_mul] at this
     rw [List.getElem?_take,if_pos (by omega)]; exact r2
    ·cases hi'
   ·intro b hb
    have hb2:blk (.slice ad hi c) = some b:=by simpa [oblk,addH_new] using hb
    have hob2:oblk φ id (.arr e sz es) b:= by
     show blk (φ id) = some b
     rw [hv]; cases ad <;> exact hb2
    obtain ⟨g1,g2,g3⟩:=hI.own id _ b hob hob2
    exact ⟨g1,g3,.inr ⟨id,_,rfl,hob,hob2⟩⟩
 refine hK D _ _ _ (hN.put o.dst (dstB_lt hd) _ _ fun x' hx'=>?_)
 cases hx'
 exact ⟨by simp [FV.lt,ASt.newObj,ASt.setObj],.arr _ _ _ _ (addH_new _ _ _)⟩
theorem AL_slice_clear {o2:Oper} {t e id sz lo d:Nat} {x y:Operand} {k:IntKind} {ti ei:TyI} {es:List (List PV)} {zp:List PV} (hT:TabOK P T) (hg:o.guard = none) (hg2:o2.guard = none) (ho:o.op = .slice t x (some y) none none) (hdst:o.dst = some d) (hd:Nat.blt d nt = true)
  (ho2:o2.op = .call { callee:=.builtin .clear,args:=#[.tmp d],argTypes:=#[t] }) (hd2:o2.dst = none) (ht:T t = some ti) (hk:ti.kind = .slice e) (he:T e = some ei) (hzl:Nat.beq zp.length ei.size = true) (hz:ei.zero = zp.map .pv)
  (hx:s.ev x = some (.arr id)) (hob:s.obj id = some (.arr e sz es)) (hsz:Nat.beq sz ei.size = true) (hy:s.ev y = some (.pv (.int k (lo:Int)))) (h1:lo <= es.length)
  (h:AL P nt ops rest Q ((s.put d none).setObj id (some (.arr e sz (es.take lo ++ List.replicate (es.length - lo) zp))))):AL P nt ops (o :: o2 :: rest) Q s:= by
 intro ro W0 D0 D φ a w hr hI
 have hdl:d < nt:=by simpa using hd
 have hzl':=Nat.eq_of_beq_eq_true hzl
 have hss:=Nat.eq_of_beq_eq_true hsz
 obtain ⟨hid,_,xs,hown,hxr⟩:=hI.objs id _ hob
 have hv0:a.eval x = φ id:= by
  have:=(hI.ev hx).2
  generalize a.eval x = v at this
  cases this with
  | arr id n c ad h=>exact h.symm
 obtain ⟨ad,c,hv,hnc⟩:=ownsRow_slice hown
 have hrun0:=run_sliceAt hT ht hk he w ad es.length c lo es.length h1 hnc (some (a.eval y)) none (.inr ⟨k,by rw [hI.ev_int hy]⟩) (.inl ⟨rfl,rfl⟩)
 generalize hval:(Value.slice (if c = lo then ad else ad.map (·.add (lo * ei.size))) (es.length - lo) (c - lo)) = val at hrun0
 have hrun:(execOp a.eval o).run P w = .ok (.value val) w:= by
  simp only [execOp,ho,hv0,hv,Option.map_none,Option.map_some,Sem.run_bind,hrun0,Result.andThen_ok,Sem.run_pure]
 have hI1:=hI.put (some d) (fun d' hd'=>by cases hd'; exact hdl) val none (fun _ h=>by cases h)
 have hval1:(a.put (some d) val).eval (.tmp d) = val:= by
  simp [Act.eval,Act.put,Array.getD_eq_getD_getElem?,hI.size,hdl]
 have hund:=(hT.ty ht).slice hk
 obtain ⟨info,z,i1,i2,i3,i4,i5⟩:=(hT.ty he).info
 obtain ⟨z1,z2,z3⟩:=zrepL_ok i5
 have hzc:z.cells.size = ei.size:=by simp [hz] at z1; omega
 have hrepl:(es.take lo ++ List.replicate (es.length - lo) zp).length = es.length:=by simp; omega
 have hlenE:∀ (i:Nat) (el:List PV),(es.take lo ++ List.replicate (es.length - lo) zp)[i]? = some el -> el.length = sz:= by
  intro i el hi
  by_cases hil:i < lo
  ·rw [List.getElem?_append_left (by simp; omega),List.getElem?_take,if_pos hil] at hi
   exact hxr.1 i el hi
  ·rw [List.getElem?_append_right (by simp; omega),List.getElem?_replicate] at hi
   split at hi <;> cases hi
   omega
 have key:∃ w2,(execOp (a.put (some d) val).eval o2).run P w = .ok (.value (.tuple #[])) w2 /\ Inv W0 D0 nt ((s.put d none).setObj id (some (.arr e sz (es.take lo ++ List.replicate (es.length - lo) zp)))) D φ (a.put (some d) val) w2:= by
  by_cases hlast:es.length - lo = 0
  ·refine ⟨w,?_,?_⟩
   ·obtain ⟨q,hq⟩:∃ q,val = .slice q 0 (c - lo):=⟨_,by rw [<- hval,hlast]⟩
    have hval2:=hval1
    generalize (a.put (some d) val).eval = ρ at hval2
    rw [hq] at hval2
    cases q <;> simp [execOp,ho2,resolve,invoke,builtin,hval2,Builtin.clear_,underlying,hund]
   ·have:es.take lo ++ List.replicate (es.length - lo) zp = es:=by rw [hlast]; simp; rw [List.take_of_length_le (by omega)]
    rw [this]
    refine hI1.weaken (fun t x hx=>hx) (fun id' ob' ho'=>?_) (fun t x hx=>(hI1.env t x hx).1) (fun id' ob' ho'=>?_)
    all_goals
     rw [ASt.obj_setObj] at ho'
     split at ho'
     ·rename_i he; subst he; cases ho'; first|exact hob|exact ⟨hid,rfl⟩
     ·first|exact ho'|exact ⟨(hI1.objs id' ob' ho').1,(hI1.objs id' ob' ho').2.1⟩
  ·rcases hown.2 with ⟨q1,q2⟩|⟨g,cap,cur,q1,q2,q3,q4,q5,q6,q7⟩
   ·omega
   ·rw [hv] at q1
    simp only [Value.slice.injEq] at q1
    obtain ⟨rfl,_,rfl⟩:=q1
    have hvv:val = .slice (some ⟨g,lo * ei.size,none⟩) (es.length - lo) (c - lo):= by
     rw [<- hval,if_neg (by omega)]
     simp only [Option.map_some,addr_add,Nat.zero_add]
    have hzcl:(Builtin.zeroCells z.cells (es.length - lo)).size = (es.length - lo) * ei.size:=by simp [Builtin.zeroCells,hzc]
    have hzget:∀ j,j < (es.length - lo) * ei.size -> (Builtin.zeroCells z.cells (es.length - lo)).toList[j]? = z.cells[j % ei.size]?:=fun j hj=>by
     have hp:0 < ei.size:= by
                   rcases Nat.eq_zero_or_pos ei.size with h|h; · rw [h] at hj; omega
                   ·exact h
     have hm:j % ei.size < z.cells.size:=by rw [hzc]; exact Nat.mod_lt _ hp
     rw [Array.getElem?_toList]
     simp only [Builtin.zeroCells,Array.getElem?_map,hzc]
     rw [Array.getElem?_range,if_pos hj]
     simp only [Option.map_some]
     rw [getElem!_pos z.cells (j % ei.size) hm,Array.getElem?_eq_getElem hm]
    have hone:∀ u ∈ (Builtin.zeroCells z.cells (es.length - lo)).toList,u.oneCell' = true:= by
     intro u hu
     obtain ⟨j,hj⟩:=List.mem_iff_getElem?.1 hu
     have hjl:j < (es.length - lo) * ei.size:=by rw [<- hzcl]; simpa using (List.getElem?_eq_some_iff.1 hj).1
     rw [hzget j hjl] at hj
     have hjz:j % ei.size < ei.zero.length:=by rw [<- z1]; simpa using (Array.getElem?_eq_some_iff.1 hj).1
     obtain ⟨l1,l2⟩:=z3 (j % ei.size) u ei.zero[j % ei.size] (by simpa using hj) (by simp [hjz])
     exact (l2 w D φ).oneCell l1
    have hfit:lo * ei.size + (es.length - lo) * ei.size <= cur.size:= by
     rw [q6,<- Nat.add_mul,<- hss]; exact Nat.mul_le_mul_right _ (by omega)
    have hst:=run_storeCells_at P g (lo * ei.size) e (Builtin.zeroCells z.cells (es.length - lo)).toList 0 cur w q3 (by simp only [Array.length_toList,hzcl]; omega) hone
    simp only [Nat.add_zero] at hst
    have hst':(storeCells ⟨g,lo * ei.size,none⟩ (Builtin.zeroCells z.cells (es.length - lo)).toList).run P w = .ok () (w.setRow g (splice cur.toList (lo * ei.size) (Builtin.zeroCells z.cells (es.length - lo)).toList).toArray):=hst
    refine ⟨w.setRow g (splice cur.toList (lo * ei.size) (Builtin.zeroCells z.cells (es.length - lo)).toList).toArray,?_,?_⟩
    ·obtain ⟨m,hm⟩:∃ m,es.length - lo = m + 1:=⟨es.length - lo - 1,by omega⟩
     have hval2:=hval1
     generalize (a.put (some d) val).eval = ρ at hval2 ⊢
     rw [hvv,hm] at hval2
     rw [hm] at hst' ⊢
     simp [execOp,ho2,resolve,invoke,builtin,hval2,Builtin.clear_,underlying,hund,zeroValue,typeInfo,i1,i4,hst']
    ·have hok:∀ es',oblk φ id (.arr e sz es') g:=by intro es'; show blk (φ id) = some g; rw [hv]; rfl
     have hDk:∀ b',D b' -> (w.setRow g (splice cur.toList (lo * ei.size) (Builtin.zeroCells z.cells (es.length - lo)).toList).toArray).heap[b']? = w.heap[b']?:= by
      intro b' hb'
      exact setRow_other _ _ _ _ (fun e=>(hI.own id _ g hob (hok _)).1 (e ▸ hb'))
     have hlen:lo * ei.size + (Builtin.zeroCells z.cells (es.length - lo)).toList.length <= cur.toList.length:=by simp only [Array.length_toList,hzcl]; omega
     have hcl:(Builtin.zeroCells z.cells (es.length - lo)).toList.length = (es.length - lo) * ei.size:=by simp only [Array.length_toList,hzcl]
     have hsl:(splice cur.toList (lo * ei.size) (Builtin.zeroCells z.cells (es.length - lo)).toList).length = cur.size:= by
      rw [splice_length _ _ _ hlen]; simp
     refine hI1.chg id (fun j=>j = id) ⟨rfl,rfl,rfl,by simp,fun k hk=>absurd hk (Nat.not_lt_zero _)⟩ ?_ (fun _ h=>h) (fun b' hb'=>.inl hb') (fun _ _=>rfl) (Nat.le_refl _) (fun t x hx=>hx) ?_ ?_
     ·intro b' _ hne
      exact setRow_other _ _ _ _ (fun e=>hne id _ rfl hob (by rw [e]; exact hok _))
     ·intro id' ob' hne ho'
      rw [ASt.obj_setObj,if_neg (fun e=>hne e.symm)] at ho'
      exact ⟨hne,ho'⟩
     ·intro ob' ho'
      rw [ASt.obj_setObj,if_pos rfl] at ho'
      cases ho'
      refine ⟨hid,rfl,⟨(splice cur.toList (lo * ei.size) (Builtin.zeroCells z.cells (es.length - lo)).toList).take (es.length * sz),⟨?_,.inr ⟨g,c,_,by rw [hrepl]; exact hv,q2,setRow_heap w g cur _ e _ q3,by rw [hrepl]; exact q4,q5,by simp [hsl,q6],by simp [hrepl]⟩⟩,hlenE,?_⟩,?_⟩
      ·rw [hrepl,List.length_take,hsl,q6]; exact Nat.min_eq_left (Nat.mul_le_mul_right _ q4)
      ·intro i j el p hi' hp
       have hil:i < es.length:=by rw [<- hrepl]; exact (List.getElem?_eq_some_iff.1 hi').1
       have hj:j < sz:=by rw [<- hlenE i el hi']; exact (List.getElem?_eq_some_iff.1 hp).1
       have his:i * sz + sz <= es.length * sz:=by have:=Nat.mul_le_mul_right sz (Nat.succ_le_of_lt hil); rwa [Nat.succ_mul] at this
       rw [List.getElem?_take,if_pos (by omega),splice_get _ _ _ hlen,hcl]
       by_cases hilo:i < lo
       ·rw [List.getElem?_append_left (by simp; omega),List.getElem?_take,if_pos hilo] at hi'
        have:i * sz + sz <= lo * sz:=by have:=Nat.mul_le_mul_right sz (Nat.succ_le_of_lt hilo); rwa [Nat.succ_mul] at this
        rw [if_neg (by rw [<- hss]; omega)]
        obtain ⟨r1,u,r2,r3⟩:=hxr.2 i j el p hi' hp
        refine ⟨r1,u,?_,r3.mono hDk (fun _ h=>h)⟩
        rw [<- q7,List.getElem?_take,if_pos (by omega)] at r2; exact r2
       ·rw [List.getElem?_append_right (by simp; omega),List.getElem?_replicate] at hi'
        split at hi' <;> cases hi'
        have hlo2:lo * sz <= i * sz:=Nat.mul_le_mul_right _ (by omega)
        have hsum:lo * sz + (es.length - lo) * sz = es.length * sz:=by rw [<- Nat.add_mul]; congr 1; omega
        rw [if_pos (by rw [<- hss]; omega),hzget _ (by rw [<- hss]; omega),<- hss]
        have hmod:(i * sz + j - lo * sz) % sz = j:= by
         rw [show i * sz + j - lo * sz = (i - lo) * sz + j by rw [Nat.sub_mul]; omega,Nat.mul_comm,Nat.mul_add_mod]
         exact Nat.mod_eq_of_lt hj
        rw [hmod]
        have hjz:j < z.cells.size:=by omega
        obtain ⟨l1,l2⟩:=z3 j z.cells[j] (.pv p) (by simp [hjz]) (by rw [hz]; simp [hp])
        exact ⟨l1,z.cells[j],by simp [hjz],(l2 _ D φ).inv_pv⟩
      ·intro b' hb'
       have hb2:oblk φ id (.arr e sz es) b':=hb'
       obtain ⟨g1,g2,g3⟩:=hI.own id _ b' hob hb2
       exact ⟨g1,by simpa using g3,.inr ⟨id,_,rfl,hob,hb2⟩⟩
 obtain ⟨w2,hrun2,hI2⟩:=key
 unfold wpListIn
 rw [if_pos (by simp [Region.wanted,hg])]
 refine wpIn_of (by rw [ho]; intro c hc; cases hc) ?_
 unfold Oper.wp
 rw [hrun]
 show wpListIn _ _ _ _ _ (o2 :: rest) (a.put o.dst val) w
 rw [hdst]
 unfold wpListIn
 rw [if_pos (by simp [Region.wanted,hg2])]
 refine wpIn_of (by rw [ho2]; intro c hc; cases hc) ?_
 unfold Oper.wp
 rw [hrun2]
 show wpListIn _ _ _ _ _ rest ((a.put (some d) val).put o2.dst _) w2
 rw [hd2]
 exact h ro W0 D0 D φ _ w2 hr hI2
end
end Go.Abs
namespace Go.Abs
open Go.RowKit
section
variable {P:Program} {T:Nat -> Option TyI} {nt:Nat} {s:ASt} {o:Oper} {ops:Array Oper} {rest:List Oper} {Q:Exit -> ASt -> Prop}
def RoundQL {ι:Type} (O:Nat -> ι -> List (Nat × AObj)) (J:Nat -> ι -> Prop) (n k:Nat):Exit -> ASt -> Prop
 | .normal,s=>∃ j,J k j /\ Le s.bare (mkSt [] (O k j) n)
 | _,_=>False
theorem roundQ_intro {ι:Type} {O:Nat -> ι -> List (Nat × AObj)} {J:Nat -> ι -> Prop} {n k:Nat} (j:ι) (hJ:J k j) (h:Le s.bare (mkSt [] (O k j) n)):RoundQL O J n k .normal s:=⟨j,hJ,h⟩
def ancEnv (nt:Nat) (av:Nat -> Value) (s:ASt):List (Nat × FV) -> List Nat -> Prop
 | (t,x) :: r,a :: as=>Nat.blt t nt = true /\ s.obj a = some (.anc (av t) x) /\ ancEnv nt av s r as
 | [],_=>True
 | _,_=>False
theorem ancEnv_mem {av:Nat -> Value}:∀ {env:List (Nat × FV)} {as:List Nat},ancEnv nt av s env as -> ∀ t x,(t,x) ∈ env -> t < nt /\ ∃ a,s.obj a = some (.anc (av t) x)
 | [],_,_,_,_,h=>by cases h
 | (t',x') :: r,[],h,_,_,_=>h.elim
 | (t',x') :: r,a :: as,h,t,x,hm=>by
  cases hm with
  | head=>exact ⟨by simpa using h.1,a,h.2.1⟩
  | tail _ hm=>exact ancEnv_mem h.2.2 t x hm
theorem AW_range {g:Operand} {ps:Array Nat} {assign body:Code} {ι:Type} {gf:FuncId} {caps:List PV} {L:List (List PV)} (ts:List Nat) (env:List (Nat × FV)) (O:(Nat -> Value) -> Nat -> ι -> List (Nat × AObj)) (J:Nat -> ι -> Prop) (n:Nat) (as:List Nat) (i0:ι) (hJ0:J 0 i0)
  (hg:s.evD g = some (.fn gf caps)) (hit:IterOK P gf caps L) (hps:∀ p ∈ ps.toList,Nat.blt p nt = true) (hxl:∀ x ∈ L,x.length = ps.size) (hanc:∀ av k i,ancEnv nt av (mkSt env (O av k i) n) env as)
  (h0:∀ av,Le (anchS av s ts).bare (mkSt [] (O av 0 i0) n))
  (hround:∀ av k i x,J k i -> L[k]? = some x -> AW P nt assign (Then (fun s2=>AW P nt body (RoundQL (O av) J n (k + 1)) s2) (fun _ _=>False)) (putPs (mkSt env (O av k i) n) ps.toList x))
  (hdone:∀ av i,J L.length i -> Q .normal (mkSt env (O av L.length i) n)):AW P nt (.rangeFunc g ps assign body) Q s:= by
 refine AW_rangeFunc ts (fun av k i=>mkSt env (O av k i) n) J i0 hJ0 hg hit hps hxl (fun av k i t x hx=>ancEnv_mem (hanc av k i) t x (look_map env t x hx)) h0 (fun av k i x hJ hx=>AW_mono (hround av k i x hJ hx) fun e s2 h=>?_) hdone
 cases e with
 | normal=>exact AW_mono h fun e s3 h3=>by cases e <;> exact h3
 | _=>exact h.elim
end
end Go.Abs
namespace Go.Abs
open Go.RowKit
def andR (k:IntKind) (m n:Int):Int:=k.wrap ((BitVec.ofInt k.bits m &&& BitVec.ofInt k.bits n).toNat:Int)
def shlR (k:IntKind) (m n:Int):Int:=k.wrap (m * 2 ^ (min n.toNat k.bits))
def shrR (k:IntKind) (m n:Int):Int:=m.fdiv (2 ^ (min n.toNat k.bits))
section
variable {P:Program} {T:Nat -> Option TyI} {nt:Nat} {s:ASt} {o:Oper} {ops:Array Oper}
theorem op_and {t t':TypeId} {x y:Operand} {k:IntKind} {m n:Int} (ho:o.op = .binOp .and t x y t') (hd:dstB nt o.dst = true)
  (hx:s.ev x = some (.pv (.int k m))) (hy:s.ev y = some (.pv (.int k n))):OpTo P nt o s (s.putO o.dst (some (.pv (.int k (andR k m n))))) :=
 OpTo.value hd fun W0 D0 D φ a w hI=>⟨.int k (andR k m n),by
  simp only [execOp,ho,hI.ev_int hx,hI.ev_int hy,eqGuard,binOp,Op.intBits,ne_eq,not_true_eq_false,if_false,Sem.run_bind,Sem.run_pure,Result.andThen_ok,Bool.not_true,Bool.not_false,Bool.false_eq_true,if_true]; rfl,fun x' h=>by cases h; exact ⟨rfl,.pv _ _ (.int _ _)⟩⟩
theorem op_shl {t t':TypeId} {x y:Operand} {k k':IntKind} {m n:Int} (ho:o.op = .binOp .shl t x y t') (hd:dstB nt o.dst = true)
  (hx:s.ev x = some (.pv (.int k m))) (hy:s.ev y = some (.pv (.int k' n))) (hn:0 <= n):OpTo P nt o s (s.putO o.dst (some (.pv (.int k (shlR k m n))))) :=
 OpTo.value hd fun W0 D0 D φ a w hI=>⟨.int k (shlR k m n),by
  have h0:¬ n < 0:=by omega
  simp only [execOp,ho,hI.ev_int hx,hI.ev_int hy,eqGuard,binOp,Op.shift,h0,if_false,Sem.run_bind,Sem.run_pure,Result.andThen_ok,Bool.not_true,Bool.not_false,Bool.false_eq_true,if_true]; rfl,fun x' h=>by cases h; exact ⟨rfl,.pv _ _ (.int _ _)⟩⟩
theorem op_shr {t t':TypeId} {x y:Operand} {k k':IntKind} {m n:Int} (ho:o.op = .binOp .shr t x y t') (hd:dstB nt o.dst = true)
  (hx:s.ev x = some (.pv (.int k m))) (hy:s.ev y = some (.pv (.int k' n))) (hn:0 <= n):OpTo P nt o s (s.putO o.dst (some (.pv (.int k (shrR k m n))))) :=
 OpTo.value hd fun W0 D0 D φ a w hI=>⟨.int k (shrR k m n),by
  have h0:¬ n < 0:=by omega
  simp only [execOp,ho,hI.ev_int hx,hI.ev_int hy,eqGuard,binOp,Op.shift,h0,if_false,Sem.run_bind,Sem.run_pure,Result.andThen_ok,Bool.not_true,Bool.not_false,Bool.false_eq_true,if_true]; rfl,fun x' h=>by cases h; exact ⟨rfl,.pv _ _ (.int _ _)⟩⟩
theorem op_conv {src dst:TypeId} {x:Operand} {si di:TyI} {k k':IntKind} {n:Int} (hT:TabOK P T) (ho:o.op = .convert src dst x) (hd:dstB nt o.dst = true)
  (hs:T src = some si) (hsk:si.kind = .int k') (ht:T dst = some di) (hdk:di.kind = .int k) (hx:s.ev x = some (.pv (.int k' n))):OpTo P nt o s (s.putO o.dst (some (.pv (.int k (k.wrap n))))) :=
 OpTo.value hd fun W0 D0 D φ a w hI=>⟨.int k (k.wrap n),by
  simp only [execOp,ho,hI.ev_int hx,convert,Sem.run_bind,(hT.ty hs).run_und w ((hT.ty hs).int hsk),(hT.ty ht).run_und w ((hT.ty ht).int hdk),Result.andThen_ok,Conv.intToInt,Sem.run_pure],fun x' h=>by cases h; exact ⟨rfl,.pv _ _ (.int _ _)⟩⟩
theorem D_conv {src dst:TypeId} {x:Operand} {si di:TyI} {k k':IntKind} {n:Int} (hT:TabOK P T) (hg:guardT ops s o = true) (ho:o.op = .convert src dst x) (hd:dstB nt o.dst = true)
  (hs:T src = some si) (hsk:si.kind = .int k') (ht:T dst = some di) (hdk:di.kind = .int k) (hx:s.ev x = some (.pv (.int k' n))) :
  StepOK P nt ops o s ⟨some (.pv (.int k (k.wrap n))),false,[],[]⟩ (s.putO o.dst (some (.pv (.int k (k.wrap n))))) :=
 StepOK.mkP hg fun s1 h1 _=>op_conv hT ho hd hs hsk ht hdk (by rw [ev_agree h1 (by simp [ho,Op.operands])]; exact hx)
theorem AW_cond_cf {x y:Code} {Q:Exit -> ASt -> Prop} (h1:AW P nt y Q s):AW P nt (.cond (.const (.bool false)) x y) Q s:= by
 intro ro W0 D0 D φ a w hr hI
 have hv:a.eval (.const (.bool false)) = .bool false:=rfl
 exact wpIn_cond_split hv (fun hb=>by cases hb) (fun _=>h1 ro W0 D0 D φ a w hr hI)
end
end Go.Abs
