/- Arrays, method values, elements that are written. -/
import Derived.Test.YtpoaccdbakbjhaaGreatXG10
import Derived.Lib.SliceRun
import Derived.Laws.Cover3
import Derived.Laws.StructEq
import Derived.Laws.Small
import Derived.Scope
set_option linter.unusedVariables false
set_option linter.unusedSimpArgs false
namespace Go.Abs
open Go.RowKit
section
variable {P:Program} {T:Nat -> Option TyI} {nt:Nat} {s:ASt} {o:Oper} {ops:Array Oper} {rest:List Oper} {Q:Exit -> ASt -> Prop}
theorem TyOK.array {t:Nat} {i:TyI} (h:TyOK P t i) {e n:Nat} (hk:i.kind = .array e n):P.underlying t = some (.array n e):= by
 obtain ⟨d,h1,h2,_⟩:=h.und
 rw [hk] at h2
 cases d <;> simp [kindB] at h2
 rw [h1,h2.1,h2.2]
theorem AL_do2 (hg:guardT ops s o = true) (h:∃ s',OpTo P nt o s s' /\ AL P nt ops rest Q s'):AL P nt ops (o :: rest) Q s:= by
 obtain ⟨s',h1,h2⟩:=h
 exact AL_do hg h1 h2
theorem op_mkmeth {f:FuncId} {first:Array Operand} {ps:List PV} (ho:o.op = .makeFunc (.func f) first #[]) (hd:dstB nt o.dst = true) (hc:mapO s.evD first.toList = some ps):OpTo P nt o s (s.putO o.dst (some (.pv (.meth f ps)))) :=
 OpTo.value hd fun W0 D0 D φ a w hI=>by
  have h1:=evD_args hI hc
  refine ⟨.func (.func f) (first.map a.eval) #[],by simp [execOp,ho,Instr.makeFunc],fun x' hx'=>?_⟩
  cases hx'
  exact ⟨rfl,.pv _ _ (.meth f _ _ h1.1 h1.2)⟩
theorem op_callM {f:Operand} {args:Array Operand} {ts:Array TypeId} {g:FuncId} {first ps:List PV} {r:RV} (ho:o.op = .call { callee:=.value f,args,argTypes:=ts }) (hd:dstB nt o.dst = true)
  (hf:s.evD f = some (.meth g first)) (ha:mapO s.evD args.toList = some ps) (hc:ACalls P g (first ++ ps) (fun r'=>r' = r)):OpTo P nt o s (s.bind o.dst r):= by
 refine OpToS.one ?_
 intro ro W0 D0 D φ a w hI K Q hK
 have hfr:∃ vs,a.eval f = .func (.func g) vs #[] /\ RepL w D vs first:= by
  have:=hI.evD hf
  generalize a.eval f = v at this
  cases this with
  | meth f vs cs hl hr=>exact ⟨vs,rfl,hl,hr⟩
 obtain ⟨vs,hv,hvr⟩:=hfr
 have hrun:(execOp a.eval o).run P w = .ok (.enter g (vs ++ args.map a.eval)) w:= by
  simp only [execOp,ho,resolve,hv,Deferred.ofValue,Sem.run_bind,Sem.run_pure,Result.andThen_ok,invoke,Array.append_empty]
  exact hc.1 _ _
 refine wpIn_of (by rw [ho]; intro c hc; cases hc) ?_
 unfold Oper.wp
 rw [hrun]
 refine (hc.2 w D _ hI.dlt (hvr.append (evD_args hI ha))).mono ?_
 rintro e w' ⟨v,r',D',rfl,h2,h3,h4,h5,h6,rfl⟩
 obtain ⟨φ',hI'⟩:=hI.bind h2 h3 (fun b hb=>by
  rcases h4 b hb with h|h
  ·exact .inl h
  ·exact .inr ⟨h5 b hb,h⟩) h6 o.dst hd
 exact hK _ _ _ _ _ rfl hI'
theorem op_build_arr {t e n:Nat} {ps:Array (Nat × Operand)} {i ei:TyI} {fps:List (Nat × FV)} {cs:List FV} (hT:TabOK P T) (ho:o.op = .build t ps) (hd:dstB nt o.dst = true) (ht:T t = some i)
  (hk:i.kind = .array e n) (he:T e = some ei) (hp:partsF s ps.toList = some fps) (hf:fillF (fun j=>some (j * ei.size,ei.size)) i.zero fps = some cs):OpTo P nt o s (s.putO o.dst (some (.agg cs))) :=
 OpTo.value hd fun W0 D0 D φ a w hI=>by
  have u1:=(hT.ty ht).array hk
  obtain ⟨info,z,i1,i2,i3,i4,i5⟩:=(hT.ty ht).info
  obtain ⟨einfo,ez,j1,j2,j3,j4,j5⟩:=(hT.ty he).info
  obtain ⟨z1,z2,z3⟩:=zrepL_ok i5
  obtain ⟨p1,p2⟩:=partsF_ok hp
  obtain ⟨ca,g1,g2,g3,g4⟩:=fill_rep (w:=w) (D:=D) (φ:=φ) (n:=s.nxt) (fun j=>some (j * ei.size,ei.size)) (ps.toList.map fun (i,x)=>(i,a.eval x)) fps z.cells i.zero cs (by simpa using p1)
   (fun j i v i' x hv hx=>by
    rw [List.getElem?_map,Option.map_eq_some_iff] at hv
    obtain ⟨⟨i2,x2⟩,h1,h2⟩:=hv
    simp only [Prod.mk.injEq] at h2
    obtain ⟨rfl,rfl⟩:=h2
    obtain ⟨h3,h4⟩:=p2 j _ _ _ _ h1 hx
    exact ⟨h3,(hI.ev h4).1,(hI.ev h4).2⟩)
   (by simpa using z1) (z2 _) (fun j u y hu hy=>(z3 j u y (by simpa using hu) hy).2 w D φ) hf
  have hrun:(Instr.build t (ps.map fun (i,x)=>(i,a.eval x))).run P w = .ok (.agg ca) w:= by
   refine run_build (P:=P) w t _ ca ?_
   unfold Program.built
   simp only [i1,u1,i4,j1,j2,Array.toList_map]
   exact g1
  exact ⟨.agg ca,by simp only [execOp,ho,Sem.run_bind,hrun,Result.andThen_ok,Sem.run_pure],fun x' hx'=>by cases hx'; exact ⟨by simpa [FV.lt] using g3,.agg ca cs g2 g4⟩⟩
theorem op_index_arr {t e n:Nat} {x ix:Operand} {i ei:TyI} {cs:List FV} {y:FV} {k:IntKind} {m:Int} (hT:TabOK P T) (ho:o.op = .index t x ix) (hd:dstB nt o.dst = true) (ht:T t = some i)
  (hk:i.kind = .array e n) (he:T e = some ei) (hag:ei.agg = false) (hone:Nat.beq ei.size 1 = true) (hx:s.ev x = some (.agg cs)) (hi:s.ev ix = some (.pv (.int k m))) (h0:0 <= m) (hn:m < n) (hy:cs[m.toNat]? = some y):OpTo P nt o s (s.putO o.dst (some y)) :=
 OpTo.value hd fun W0 D0 D φ a w hI=>by
  obtain ⟨hlt,hr⟩:=hI.ev hx
  generalize hv:a.eval x = v at hr
  cases hr with
  | agg vs cs hl hr =>
   have u1:=(hT.ty ht).array hk
   have hm:m.toNat < vs.size:=by rw [hl]; exact (List.getElem?_eq_some_iff.1 hy).1
   have h1:=Nat.eq_of_beq_eq_true hone
   refine ⟨vs[m.toNat],?_,fun x' hx'=>?_⟩
   ·simp [execOp,ho,hv,hI.ev_int hi,Instr.index,asIntOf,underlying,u1,h0,hn,(hT.ty he).run_size w,part,(hT.ty he).run_agg w,hag,h1,hm]
   ·cases hx'
    exact ⟨FV.lt_mem (by simpa [FV.lt] using hlt) (List.mem_of_getElem? hy),hr m.toNat _ _ (by simp [hm]) hy⟩
theorem op_indexAddr_box {t e n id off:Nat} {x ix:Operand} {i ei:TyI} {k:IntKind} {m:Int} (hT:TabOK P T) (ho:o.op = .indexAddr t x ix) (hd:dstB nt o.dst = true) (ht:T t = some i)
  (hk:i.kind = .array e n) (he:T e = some ei) (hx:s.ev x = some (.box id off)) (hi:s.ev ix = some (.pv (.int k m))) (h0:0 <= m) (hn:m < n):OpTo P nt o s (s.putO o.dst (some (.box id (off + m.toNat * ei.size)))) :=
 OpTo.value hd fun W0 D0 D φ a w hI=>by
  obtain ⟨hlt,hr⟩:=hI.ev hx
  generalize hv:a.eval x = v at hr
  cases hr with
  | box id off b hφ =>
   have u1:=(hT.ty ht).array hk
   refine ⟨.pointer (some ((⟨b,off,none⟩:Addr).add (m.toNat * ei.size))),?_,fun x' hx'=>?_⟩
   ·simp [execOp,ho,hv,hI.ev_int hi,Instr.indexAt,Instr.sureAddr,asIntOf,underlying,u1,h0,hn,(hT.ty he).run_size w]
   ·cases hx'
    refine ⟨by simpa [FV.lt] using hlt,?_⟩
    rw [addr_add]
    exact .box _ _ _ hφ
theorem leafP_mem:∀ {cs:List PV} {x:PV},leafP cs = true -> x ∈ cs -> x.leaf = true
 | [],_,_,hp=>by cases hp
 | _ :: _,_,h,hp=>by
  simp only [leafP,Bool.and_eq_true] at h
  cases hp with
  | head=>exact h.1
  | tail _ hp=>exact leafP_mem h.2 hp
theorem op_store_aptr {t id e sz k off:Nat} {x y:Operand} {i:TyI} {es:List (List PV)} {el:List PV} {p:PV} (hT:TabOK P T) (ho:o.op = .store t x y) (hd:o.dst = none) (ht:T t = some i) (hx:s.ev x = some (.aptr id sz k off)) (hob:s.obj id = some (.arr e sz es))
  (hel:es[k]? = some el) (hy:s.evD y = some p) (hlf:leafP (cellsP p) = true) (hsz:Nat.beq (cellsP p).length i.size = true) (hfit:Nat.ble (off + (cellsP p).length) sz = true):OpTo P nt o s (s.setObj id (some (.arr e sz (es.set k (splice el off (cellsP p)))))):= by
 intro ro W0 D0 D φ a w hI K Q hK
 obtain ⟨_,hrx⟩:=hI.ev hx
 have hry:=hI.evD hy
 obtain ⟨c1,c2⟩:=cellsP_rep hry
 generalize hv:a.eval x = v at hrx
 cases hrx with
 | aptr id sz k off g n c hφ =>
  obtain ⟨hid,holt,xs,h1,h2⟩:=hI.objs id _ hob
  have hk:k < es.length:=(List.getElem?_eq_some_iff.1 hel).1
  have hell:el.length = sz:=h2.1 k el hel
  have hsz':=Nat.eq_of_beq_eq_true hsz
  have hfit':=Nat.le_of_ble_eq_true hfit
  rw [hφ] at h1
  obtain ⟨hxl,h1⟩:=h1
  rcases h1 with ⟨h,h0⟩|⟨g',cap,cur,h,hg,hh,hc,hm,hsc,htk⟩
  ·omega
  ·cases h
   have hle:es.length * sz <= c * sz:=Nat.mul_le_mul_right _ hc
   have hks:k * sz + sz <= es.length * sz:= by
    have:=Nat.mul_le_mul_right sz (Nat.succ_le_of_lt hk)
    rw [Nat.succ_mul] at this; exact this
   have hone:∀ u ∈ (a.eval y).cells.toList,u.oneCell' = true:= by
    intro u hu
    obtain ⟨j,hj⟩:=List.mem_iff_getElem?.1 hu
    have hj':(a.eval y).cells[j]? = some u:=by simpa using hj
    have hjl:j < (cellsP p).length:=by rw [<- c1]; exact (Array.getElem?_eq_some_iff.1 hj').1
    exact (c2 j u _ hj' (by simp [hjl])).oneCell (leafP_mem hlf (List.getElem_mem hjl))
   have hst:=run_storeCells_at P g (k * sz + off) e (a.eval y).cells.toList 0 cur w hh (by simp; omega) hone
   simp only [Nat.add_zero] at hst
   have hrun:(execOp a.eval o).run P w = .ok .skip (w.setRow g (splice cur.toList (k * sz + off) (a.eval y).cells.toList).toArray):= by
    have hsize:¬ (a.eval y).cells.size ≠ i.size:=by omega
    simp only [execOp,ho,hv,Instr.storeAt,Instr.sureAddr,Sem.run_bind,Sem.run_pure,Result.andThen_ok,storeVar,(hT.ty ht).run_size w,if_neg hsize,hst]
    rfl
   refine wpIn_of (by rw [ho]; intro c hc; cases hc) ?_
   unfold Oper.wp
   rw [hrun]
   have hput:a.put o.dst undef = a:=by rw [hd]; rfl
   show K (a.put o.dst undef) _
   rw [hput]
   have hok:∀ e' sz' es',oblk φ id (.arr e' sz' es') g:=by intros; simp [oblk,hφ,blk]
   have hDk:∀ b',D b' -> (w.setRow g (splice cur.toList (k * sz + off) (a.eval y).cells.toList).toArray).heap[b']? = w.heap[b']?:= by
    intro b' hb'
    exact setRow_other _ _ _ _ (fun e=>(hI.own id _ g hob (hok _ _ _)).1 (e ▸ hb'))
   refine hK D φ a _ (hI.chg id (fun j=>j = id) ⟨rfl,rfl,rfl,by simp,fun k hk=>absurd hk (Nat.not_lt_zero _)⟩ ?_ (fun _ h=>h) (fun b' hb'=>.inl hb') (fun _ _=>rfl) (Nat.le_refl _) (fun t x hx=>hx) ?_ ?_)
   ·intro b' _ hne
    exact setRow_other _ _ _ _ (fun e=>hne id _ rfl hob (by rw [e]; exact hok _ _ _))
   ·intro id' ob' hne ho'
    rw [ASt.obj_setObj,if_neg (fun e=>hne e.symm)] at ho'
    exact ⟨hne,ho'⟩
   ·intro ob' ho'
    rw [ASt.obj_setObj,if_pos rfl] at ho'
    cases ho'
    have hsl:(splice cur.toList (k * sz + off) (a.eval y).cells.toList).length = cur.size:= by
     rw [splice_length _ _ _ (by simp; omega)]; simp
    have hset:∀ i2,(es.set k (splice el off (cellsP p)))[i2]? = if k = i2 then some (splice el off (cellsP p)) else es[i2]?:=fun i2=>by
     rw [List.getElem?_set]; split
     ·rename_i h; subst h; first|rfl|(rw [if_pos hk])
     ·rfl
    have hlen2:∀ (i2:Nat) (e2:List PV),(es.set k (splice el off (cellsP p)))[i2]? = some e2 -> e2.length = sz:=fun i2 e2 he2=>by
     rw [hset] at he2
     split at he2
     ·cases he2; rw [splice_length _ _ _ (by omega)]; exact hell
     ·exact h2.1 i2 e2 he2
    have hcl:(a.eval y).cells.toList.length = (cellsP p).length:=by simp [c1]
    refine ⟨hid,rfl,⟨(splice cur.toList (k * sz + off) (a.eval y).cells.toList).take (es.length * sz),⟨?_,.inr ⟨g,c,_,?_,hg,setRow_heap w g cur _ e _ hh,?_,hm,?_,?_⟩⟩,?_,?_⟩,?_⟩
    ·rw [List.length_take,hsl,hsc,List.length_set]; exact Nat.min_eq_left hle
    ·rw [hφ]; simp
    ·simpa using hc
    ·simp [hsl,hsc]
    ·simp
    ·intro i2 e2 he2
     exact hlen2 i2 e2 he2
    ·intro i2 j e2 q he2 hq
     have hil:i2 < es.length:= by
      have:=(List.getElem?_eq_some_iff.1 he2).1; simpa using this
     have hjl:j < sz:= by
      rw [<- hlen2 i2 e2 he2]; exact (List.getElem?_eq_some_iff.1 hq).1
     have his:i2 * sz + sz <= es.length * sz:= by
      have:=Nat.mul_le_mul_right sz (Nat.succ_le_of_lt hil)
      rw [Nat.succ_mul] at this; exact this
     have hget:∀ (l:List Value),(l.take (es.length * sz))[i2 * sz + j]? = l[i2 * sz + j]?:=fun l=>by rw [List.getElem?_take,if_pos (by omega)]
     rw [hget,splice_get _ _ _ (by simp; omega),hcl]
     rw [hset] at he2
     split at he2
     ·rename_i hki
      subst hki
      ·cases he2
       rw [splice_get _ _ _ (by omega)] at hq
       by_cases hin:off <= j /\ j < off + (cellsP p).length
       ·rw [if_pos hin] at hq
        rw [if_pos (by omega)]
        have hj2:j - off < (a.eval y).cells.size:=by omega
        refine ⟨leafP_mem hlf (List.mem_of_getElem? hq),(a.eval y).cells[j - off],?_,?_⟩
        ·rw [show k * sz + j - (k * sz + off) = j - off by omega]; simp [hj2]
        ·exact (c2 (j - off) _ q (by simp [hj2]) hq).mono hDk (fun _ h=>h)
       ·rw [if_neg hin] at hq
        rw [if_neg (by omega)]
        obtain ⟨r1,u,r2,r3⟩:=h2.2 k j el q hel hq
        refine ⟨r1,u,?_,r3.mono hDk (fun _ h=>h)⟩
        rw [<- htk,hget] at r2; exact r2
     ·rename_i hki
      have hne:¬ (k * sz + off <= i2 * sz + j /\ i2 * sz + j < k * sz + off + (cellsP p).length):= by
       rintro ⟨q1,q2⟩
       rcases Nat.lt_or_gt_of_ne hki with h|h
       ·have:=Nat.mul_le_mul_right sz (Nat.succ_le_of_lt h)
        rw [Nat.succ_mul] at this; omega
       ·have:=Nat.mul_le_mul_right sz (Nat.succ_le_of_lt h)
        rw [Nat.succ_mul] at this; omega
      rw [if_neg hne]
      obtain ⟨r1,u,r2,r3⟩:=h2.2 i2 j e2 q he2 hq
      refine ⟨r1,u,?_,r3.mono hDk (fun _ h=>h)⟩
      rw [<- htk,hget] at r2; exact r2
    ·intro b' hb'
     have hb2:oblk φ id (.arr e sz es) b':=hb'
     obtain ⟨g1,g2,g3⟩:=hI.own id _ b' hob hb2
     exact ⟨g1,by simpa using g3,.inr ⟨id,_,rfl,hob,hb2⟩⟩
theorem Inv.toPure {W0:World} {D0:Bas} {D:Nat -> Prop} {φ:Nat -> Value} {a:Act} {w:World} (hI:Inv W0 D0 nt s D φ a w) {t id e sz:Nat} {es:List (List PV)} (hx:s.get t = some (.arr id)) (hob:s.obj id = some (.arr e sz es)) :
  ∃ D',Inv W0 D0 nt ((s.setObj id none).put t (some (.pv (.sl es)))) D' φ a w:= by
 obtain ⟨D',hF⟩:=hI.freeze hob
 have back:∀ id' ob',((s.setObj id none).put t (some (.pv (.sl es)))).obj id' = some ob' -> (s.setObj id (some (.fro es))).obj id' = some ob':= by
  intro id' ob' h
  have h2:(s.setObj id none).obj id' = some ob':=h
  rw [ASt.obj_setObj] at h2 ⊢
  split at h2
  ·cases h2
  ·rename_i hne; rw [if_neg hne]; exact h2
 refine ⟨D',⟨hF.below,hF.size,hF.defers_of back,hF.dlt,hF.dof,hF.d0,?_,fun id' ob' h=>hF.objs id' ob' (back _ _ h),fun id' ob' b h=>hF.own id' ob' b (back _ _ h),
  fun id1 ob1 id2 ob2 b h1 h2=>hF.sep id1 ob1 id2 ob2 b (back _ _ h1) (back _ _ h2)⟩⟩
 ·intro t' x' hg
  rw [ASt.get_put] at hg
  by_cases ht:t = t'
  ·subst ht
   rw [if_pos rfl] at hg
   cases hg
   refine ⟨rfl,?_⟩
   obtain ⟨_,v,hv,hr⟩:=hF.env t (.arr id) hx
   refine ⟨v,hv,?_⟩
   cases hr with
   | arr id m c ad hφ =>
    have:Rep w D' (φ id) (.sl es):=(hF.objs id (.fro es) (by rw [ASt.obj_setObj,if_pos rfl])).2.2
    rw [hφ] at this
    exact .pv _ _ this
  ·rw [if_neg ht] at hg
   exact hF.env t' x' hg
theorem AL_pure {t id e sz:Nat} {es:List (List PV)} (hx:s.get t = some (.arr id)) (hob:s.obj id = some (.arr e sz es)) (h:AL P nt ops rest Q ((s.setObj id none).put t (some (.pv (.sl es))))):AL P nt ops rest Q s:= by
 intro ro W0 D0 D φ a w hr hI
 obtain ⟨D',hI'⟩:=hI.toPure hx hob
 exact h ro W0 D0 D' φ a w hr hI'
theorem AW_pure {c:Code} {t id e sz:Nat} {es:List (List PV)} (hx:s.get t = some (.arr id)) (hob:s.obj id = some (.arr e sz es)) (h:AW P nt c Q ((s.setObj id none).put t (some (.pv (.sl es))))):AW P nt c Q s:= by
 intro ro W0 D0 D φ a w hr hI
 obtain ⟨D',hI'⟩:=hI.toPure hx hob
 exact h ro W0 D0 D' φ a w hr hI'
theorem AW_res {c:Code} (h:AW P nt c Q (s.newObj .res)):AW P nt c Q s:= by
 intro ro W0 D0 D φ a w hr hI
 refine h ro W0 D0 D (addH φ s.nxt (.bool false)) a w hr ?_
 exact hI.new (Below.refl _ _) (fun _ h=>h) (fun _ h=>.inl h) .res (.bool false) rfl (addH_new _ _ _) (by intro b hb; simp [blk] at hb)
theorem FRep.noRes {w:World} {D:Nat -> Prop} {φ:Nat -> Value} {F:Nat} (hF:φ F = .bool false) {ρ:Nat -> Nat} (hρ:∀ n,n ≠ F -> ρ n = n) {v:Value} {x:FV} (h:FRep w D φ v x):x.ren ρ = x:= by
 induction h with
 | pv v p h=>rfl
 | box id off b h=>simp only [FV.ren]; rw [hρ id (by rintro rfl; rw [hF] at h; cases h)]
 | nils=>rfl
 | arr id n c a h=>simp only [FV.ren]; rw [hρ id (by rintro rfl; rw [hF] at h; cases h)]
 | aptr id sz i off g n c h=>simp only [FV.ren]; rw [hρ id (by rintro rfl; rw [hF] at h; cases h)]
 | mp id r h=>simp only [FV.ren]; rw [hρ id (by rintro rfl; rw [hF] at h; cases h)]
 | yld id l h=>simp only [FV.ren]; rw [hρ id (by rintro rfl; rw [hF] at h; cases h)]
 | sub id sz lo n g m c h hc=>simp only [FV.ren]; rw [hρ id (by rintro rfl; rw [hF] at h; cases h)]
 | fn f vs cs hl hr ih =>
  simp only [FV.ren,FV.renL_eq]
  congr 1
  refine List.ext_getElem? fun j=>?_
  rw [List.getElem?_map]
  cases hj:cs[j]? with
  | none=>rfl
  | some y =>
        have hv:j < vs.size:=by rw [hl]; exact (List.getElem?_eq_some_iff.1 hj).1
        exact congrArg some (ih j vs[j] y (by simp [hv]) hj)
 | agg vs cs hl hr ih =>
  simp only [FV.ren,FV.renL_eq]
  congr 1
  refine List.ext_getElem? fun j=>?_
  rw [List.getElem?_map]
  cases hj:cs[j]? with
  | none=>rfl
  | some y =>
        have hv:j < vs.size:=by rw [hl]; exact (List.getElem?_eq_some_iff.1 hj).1
        exact congrArg some (ih j vs[j] y (by simp [hv]) hj)
 | tup vs cs hl hr ih =>
  simp only [FV.ren,FV.renL_eq]
  congr 1
  refine List.ext_getElem? fun j=>?_
  rw [List.getElem?_map]
  cases hj:cs[j]? with
  | none=>rfl
  | some y =>
        have hv:j < vs.size:=by rw [hl]; exact (List.getElem?_eq_some_iff.1 hj).1
        exact congrArg some (ih j vs[j] y (by simp [hv]) hj)
end
end Go.Abs
namespace Go
variable {P:Program}
theorem stepR_scope {b:Frame} {a:Act} {k:List Item} {cs:List Frame} {w:World} {c:Code}:step P (lone (b.atR a (.code (.scope c) :: k)) cs w) = .next (lone (b.atR a (.code c :: .inScope c :: k)) cs w) :=
 step_lone_go (by simp [stepG,stepG.exec,Frame.atR])
theorem stepR_inScope {b:Frame} {a:Act} {k:List Item} {cs:List Frame} {w:World} {c:Code}:step P (lone (b.atR a (.inScope c :: k)) cs w) = .next (lone (b.atR a k) cs w) :=
 step_lone_go (by simp [stepG,stepG.exec,Frame.atR])
theorem wpIn_scope_straight {F:Fence} {n:Nat} {Q:Exit -> Act -> World -> Prop} {a:Act} {w:World} {c:Code} (h:c.wpIn F n P (Exit.noGoto Q) a w):(Code.scope c).wpIn F n P Q a w:= by
 intro b k cs hro hb hr
 have h0:(lone (b.atR a (.code (.scope c) :: k)) cs w).fenced P F:=fenced_calm hb hr rfl
 obtain ⟨e,a₁,w₁,hq,harr⟩:=h b (.inScope c :: k) cs hro hb hr
 cases e with
 | normal=>exact ⟨.normal,a₁,w₁,hq,.head h0 stepR_scope (StepsIn.trans harr (.one (fenced_calm hb hr rfl) stepR_inScope))⟩
 | exit id =>
  have hx:exitTo id (.inScope c :: k) = exitTo id k:=by simp [exitTo]
  exact ⟨.exit id,a₁,w₁,hq,fun k' hk=>.head h0 stepR_scope (harr.1 k' (by rw [hx]; exact hk)),
   fun hr' hk=>let ⟨k₁,h1,h2⟩:=harr.2 hr' (by rw [hx]; exact hk); ⟨k₁,h1,.head h0 stepR_scope h2⟩⟩
 | goto l=>exact hq.elim
 | ret=>exact ⟨_,a₁,w₁,hq,.of_steps (.one h0 stepR_scope) harr⟩
 | panic ch=>exact ⟨_,a₁,w₁,hq,.of_steps (.one h0 stepR_scope) harr⟩
 | outgrown=>exact ⟨_,a₁,w₁,hq,.of_steps (.one h0 stepR_scope) harr⟩
end Go
namespace Go.Abs
open Go.RowKit
section
variable {P:Program} {T:Nat -> Option TyI} {nt:Nat} {s:ASt} {o:Oper} {ops:Array Oper} {rest:List Oper} {Q:Exit -> ASt -> Prop}
theorem op_eql_slnil {t e t':Nat} {x:Operand} {ti:TyI} {es:List (List PV)} (hT:TabOK P T) (ho:o.op = .binOp .eql t x (.const (.slice none 0 0)) t') (hd:dstB nt o.dst = true) (ht:T t = some ti) (hk:ti.kind = .slice e)
  (hx:s.evB x = some (.sl es)) (hpos:∀ el ∈ es,0 < el.length):OpToS P nt o s (fun s'=>∃ b:Bool,(b = true -> es = []) /\ s' = s.putO o.dst (some (.pv (.bool b)))):= by
 intro ro W0 D0 D φ a w hI K Q hK
 have hr:=hI.evB hx
 generalize hv:a.eval x = v at hr
 cases hr with
 | sl ad m c sz es us hm hcap hmax hsz' ha hlf hr =>
  have hund:=(hT.ty ht).slice hk
  have hrun:(execOp a.eval o).run P w = .ok (.value (.bool ad.isNone)) w:= by
   have e1:a.eval (.const (.slice none 0 0)) = .slice none 0 0:=rfl
   simp only [execOp,ho,hv,e1,eqGuard]
   simp [binOp,run_equal_slice_nil w t e ad m c hund]
  refine wpIn_of (by rw [ho]; intro c hc; cases hc) ?_
  unfold Oper.wp
  rw [hrun]
  refine hK (s.putO o.dst (some (.pv (.bool ad.isNone)))) D φ _ w ⟨ad.isNone,fun hn=>?_,rfl⟩ (hI.put o.dst (dstB_lt hd) _ _ fun x' hx'=>by cases hx'; exact ⟨rfl,.pv _ _ (.bool _)⟩)
  cases ad with
  | some ad=>cases hn
  | none =>
   cases es with
   | nil=>rfl
   | cons y ys =>
    have hs0:=hsz' 0 y rfl
    have hsz:0 < sz:=by rw [<- hs0]; exact hpos y (by simp)
    obtain ⟨b,hb,_⟩:=ha 0 0 (by simp [hm]) hsz
    cases hb
def NoGo (Q:Exit -> ASt -> Prop):Exit -> ASt -> Prop
 | .goto _,_=>False
 | e,s=>Q e s
theorem nogo_normal (h:Q .normal s):NoGo Q .normal s:=h
theorem nogo_ret (h:Q .ret s):NoGo Q .ret s:=h
theorem nogo_exit {id:Nat} (h:Q (.exit id) s):NoGo Q (.exit id) s:=h
theorem AW_scope {c:Code} (h:AW P nt c (NoGo Q) s):AW P nt (.scope c) Q s:= by
 intro ro W0 D0 D φ a w hr hI
 refine wpIn_scope_straight (Go.wpIn_mono (h ro W0 D0 D φ a w hr hI) ?_)
 rintro e a' w' ⟨s',D',φ',hI',hq⟩
 cases e with
 | goto l=>exact hq.elim
 | _=>exact ⟨s',D',φ',hI',hq⟩
theorem D_append_p {t e id sz d:Nat} {x0 x:Operand} {ti ei:TyI} {es ys:List (List PV)} (hT:TabOK P T) (hg:guardT ops s o = true) (ho:o.op = .call { callee:=.builtin .append,args:=#[x0,x],argTypes:=#[t,t] }) (hdst:o.dst = some d) (hd:dstB nt o.dst = true)
  (ht:T t = some ti) (hk:ti.kind = .slice e) (he:T e = some ei) (hpos:Nat.blt 0 ei.size = true) (hzl:Nat.beq ei.zero.length ei.size = true) (hx0:s.ev x0 = some (.arr id)) (hob:s.obj id = some (.arr e sz es)) (hsz:Nat.beq sz ei.size = true)
  (hy:s.srcS x = some ys) (hyl:∀ y ∈ ys,y.length = sz) (hmax:es.length + ys.length <= 1099511627776) (hby:Nat.ble ei.bytes 128 = true) :
  StepOK P nt ops o s ⟨some (.pv (.sl (es ++ ys))),true,[],[id]⟩ ((s.setObj id none).putO o.dst (some (.pv (.sl (es ++ ys))))):= by
 refine StepOK.mkE hg (by cases hd:o.dst <;> rfl) (by cases hd:o.dst <;> exact Nat.le_refl _) (fun id' hid hm=>?_) fun fr s1 s2 h1 h2 h3 h4 h5 h6 h7=>?_
 ·have:((s.setObj id none).putO o.dst (some (.pv (.sl (es ++ ys))))).obj id' = (s.setObj id none).obj id':=by cases hd:o.dst <;> rfl
  rw [this,ASt.obj_setObj,if_neg (fun e=>hm (by simp [e]))]
 ·have hidf:id ∉ fr:=fun hf=>(h3 id hf).2 (by simp)
  have hob1:s1.obj id = some (.arr e sz es):=by rw [h4 id hidf]; exact hob
  have hys:s1.srcS x = some ys:=by unfold ASt.srcS; rw [ev_agree h1 (by simp [ho,Op.operands,Call.operands])]; exact hy
  have h8:=op_append (s:=s1) hT ho hd ht hk he hpos hzl (by rw [ev_agree h1 (by simp [ho,Op.operands,Call.operands])]; exact hx0) hob1 hsz (srcS_src hys) hyl hmax hby
  intro ro W0 D0 D φ a w hI K Q hK
  have hlt:∀ id',s1.obj id' ≠ none -> id' < s1.nxt:=fun id' hne=>by
   cases hc:s1.obj id' with
   | none=>exact absurd hc hne
   | some ob=>exact (hI.objs id' ob hc).1
  refine h8 ro W0 D0 D φ a w hI K Q fun D' φ' a' w' hI'=>?_
  rw [hdst] at hI' h5
  have hp:((s1.setObj id none).newObj (.arr e sz (es ++ ys))).obj s1.nxt = some (.arr e sz (es ++ ys)):=by rw [ASt.obj_newObj]; exact if_pos rfl
  obtain ⟨D2,hI2⟩:=hI'.toPure (t:=d) (id:=s1.nxt) (e:=e) (sz:=sz) (es:=es ++ ys) (by simp [ASt.putO,ASt.get_put]) hp
  refine hK D2 φ' a' w' ?_
  have hget:∀ tt,s2.get tt = if d = tt then some (.pv (.sl (es ++ ys))) else s1.get tt:= by
   intro tt
   show look s2.env tt = _
   rw [h5]
   show look ((d,_) :: s1.env) tt = _
   by_cases hdt:d = tt
   ·subst hdt; rw [look_cons_eq,if_pos rfl]
   ·rw [look_cons_ne _ _ hdt,if_neg hdt]; rfl
  have hobj:∀ id' ob,s2.obj id' = some ob -> id' ≠ id /\ s1.obj id' = some ob:= by
   intro id' ob h
   rw [h7] at h
   have q1:((s.setObj id none).putO o.dst (some (.pv (.sl (es ++ ys))))).obj id' = (s.setObj id none).obj id':=by cases hd:o.dst <;> rfl
   rw [q1,ASt.obj_setObj] at h
   by_cases hid:id' ∈ fr
   ·rw [if_pos hid] at h
    exact ⟨fun e=>hidf (e ▸ hid),h⟩
   ·rw [if_neg hid] at h
    split at h
    ·cases h
    ·rename_i hne; exact ⟨fun e=>hne e.symm,by rw [h4 id' hid]; exact h⟩
  have hn2:s2.nxt = s1.nxt:= by
   rw [h6,h2]; cases hd:o.dst <;> rfl
  refine hI2.weaken (fun tt x hx=>?_) (fun id' ob hob2=>?_) (fun tt x hx=>?_) (fun id' ob hob2=>?_)
  ·rw [hget] at hx
   rw [ASt.get_put]
   by_cases hdt:d = tt
   ·rw [if_pos hdt] at hx ⊢; exact hx
   ·rw [if_neg hdt] at hx ⊢
    show look ((d,_) :: s1.env) tt = _
    rw [look_cons_ne _ _ hdt]; exact hx
  ·obtain ⟨g1,g2⟩:=hobj id' ob hob2
   have g3:=(hI.objs id' ob g2).1
   show ((((s1.setObj id none).newObj (.arr e sz (es ++ ys))).put d _).setObj s1.nxt none).obj id' = some ob
   rw [ASt.obj_setObj,if_neg (by omega)]
   show ((s1.setObj id none).newObj (.arr e sz (es ++ ys))).obj id' = some ob
   rw [ASt.obj_newObj,if_neg (by show ¬ s1.nxt = id'; omega),ASt.obj_setObj,if_neg (fun e=>g1 e.symm)]; exact g2
  ·rw [hget] at hx
   rw [hn2]
   by_cases hdt:d = tt
   ·rw [if_pos hdt] at hx; cases hx; rfl
   ·rw [if_neg hdt] at hx; exact (hI.env tt x hx).1
  ·obtain ⟨g1,g2⟩:=hobj id' ob hob2
   rw [hn2]
   exact ⟨(hI.objs id' ob g2).1,(hI.objs id' ob g2).2.1⟩
end
end Go.Abs
