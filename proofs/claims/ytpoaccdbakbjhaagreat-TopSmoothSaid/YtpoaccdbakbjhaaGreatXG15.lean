/- Parts of a slice of the function's own; copies into it. -/
import Derived.Test.YtpoaccdbakbjhaaGreatXG14
import Derived.RecoverIn
import Derived.RangeFuncLeaves
set_option linter.unusedVariables false
set_option linter.unusedSimpArgs false
namespace Go.Abs
open Go.RowKit
section
variable {P:Program} {T:Nat -> Option TyI} {nt:Nat} {s:ASt} {o:Oper} {ops:Array Oper}
theorem XRep.window {w:World} {D:Nat -> Prop} {sz:Nat} {xs:List Value} {es:List (List PV)} (hx:XRep w D sz xs es) (hl:xs.length = es.length * sz) {lo m:Nat} (h:lo + m <= es.length) :
  XRep w D sz ((xs.drop (lo * sz)).take (m * sz)) ((es.drop lo).take m):= by
 refine ⟨fun i e he=>?_,fun i j e p he hp=>?_⟩
 ·rw [List.getElem?_take] at he
  split at he
  ·rw [List.getElem?_drop] at he; exact hx.1 _ e he
  ·cases he
 ·rw [List.getElem?_take] at he
  split at he
  ·rename_i him
   rw [List.getElem?_drop] at he
   obtain ⟨h1,u,h2,h3⟩:=hx.2 _ j e p he hp
   refine ⟨h1,u,?_,h3⟩
   have hj:j < sz:=by rw [<- hx.1 _ e he]; exact (List.getElem?_eq_some_iff.1 hp).1
   have hi2:i * sz + sz <= m * sz:= by
    have:=Nat.mul_le_mul_right sz (Nat.succ_le_of_lt him)
    rw [Nat.succ_mul] at this; exact this
   rw [List.getElem?_take,if_pos (by omega),List.getElem?_drop,show lo * sz + (i * sz + j) = (lo + i) * sz + j by rw [Nat.add_mul]; omega]
   exact h2
  ·cases he
theorem XRep.splice {w:World} {D:Nat -> Prop} {sz:Nat} {xs news:List Value} {es ys:List (List PV)} (hx:XRep w D sz xs es) (hl:xs.length = es.length * sz) (hy:XRep w D sz news ys) (hn:news.length = ys.length * sz) {lo:Nat} (h:lo + ys.length <= es.length) :
  XRep w D sz (Go.Abs.splice xs (lo * sz) news) (Go.Abs.splice es lo ys):= by
 have hfit:lo * sz + news.length <= xs.length:= by
  rw [hn,hl,<- Nat.add_mul]; exact Nat.mul_le_mul_right _ h
 refine ⟨fun i e he=>?_,fun i j e p he hp=>?_⟩
 ·rw [splice_get _ _ _ h] at he
  split at he
  ·exact hy.1 _ e he
  ·exact hx.1 _ e he
 ·rw [splice_get _ _ _ h] at he
  rw [splice_get _ _ _ hfit]
  split at he
  ·rename_i hin
   obtain ⟨h1,u,h2,h3⟩:=hy.2 _ j e p he hp
   have hj:j < sz:=by rw [<- hy.1 _ e he]; exact (List.getElem?_eq_some_iff.1 hp).1
   have a1:=Nat.mul_le_mul_right sz hin.1
   have a2:=Nat.mul_le_mul_right sz (Nat.succ_le_of_lt hin.2)
   rw [Nat.succ_mul,Nat.add_mul] at a2
   refine ⟨h1,u,?_,h3⟩
   rw [if_pos (by omega),<- h2]
   congr 1
   rw [Nat.sub_mul]; omega
  ·rename_i hin
   obtain ⟨h1,u,h2,h3⟩:=hx.2 _ j e p he hp
   have hj:j < sz:=by rw [<- hx.1 _ e he]; exact (List.getElem?_eq_some_iff.1 hp).1
   refine ⟨h1,u,?_,h3⟩
   rw [if_neg,h2]
   rintro ⟨q1,q2⟩
   apply hin
   by_cases h5:lo <= i
   ·refine ⟨h5,?_⟩
    apply Decidable.byContradiction; intro h6
    have:=Nat.mul_le_mul_right sz (show lo + ys.length <= i by omega)
    rw [Nat.add_mul] at this; omega
   ·have:=Nat.mul_le_mul_right sz (show i + 1 <= lo by omega)
    rw [Nat.succ_mul] at this; omega
theorem copy_core {t e id sz lo n m:Nat} {x y:Operand} {ts:Array TypeId} {ti ei:TyI} {es ys:List (List PV)} (hT:TabOK P T) (ho:o.op = .call { callee:=.builtin .copy,args:=#[x,y],argTypes:=ts }) (h0:ts[0]? = some t) (hd:dstB nt o.dst = true)
  (ht:T t = some ti) (hk:ti.kind = .slice e) (he:T e = some ei) (hsz:sz = ei.size) (hpos:0 < sz) (hob:s.obj id = some (.arr e sz es)) (hm:m = min ys.length n) (hm0:0 < m) (hfit:lo + n <= es.length)
  (hdst:∀ (W0:World) (D0:Bas) (D:Nat -> Prop) (φ:Nat -> Value) (a:Act) (w:World),Inv W0 D0 nt s D φ a w -> ∃ g c c',φ id = .slice (some ⟨g,0,none⟩) es.length c /\ a.eval x = .slice (some ⟨g,lo * sz,none⟩) n c')
  (hsrc:∀ (W0:World) (D0:Bas) (D:Nat -> Prop) (φ:Nat -> Value) (a:Act) (w:World),Inv W0 D0 nt s D φ a w -> ∃ b c news,a.eval y = .slice (some b) ys.length c /\ news.length = ys.length * sz /\ (∀ (j:Nat) (u:Value),news[j]? = some u -> w.cell? (b.add j) = some u) /\ XRep w D sz news ys) :
  OpTo P nt o s ((s.setObj id (some (.arr e sz (splice es lo (ys.take m))))).putO o.dst (some (.pv (.int .i64 m)))):= by
 intro ro W0 D0 D φ a w hI K Q hK
 obtain ⟨g,c,c',hφ,hvx⟩:=hdst _ _ _ _ _ _ hI
 obtain ⟨b,cy,news0,hvy,hnl0,hnc0,hnr0⟩:=hsrc _ _ _ _ _ _ hI
 obtain ⟨hid,holt,xs,hown,hxr⟩:=hI.objs id _ hob
 have hmy:m <= ys.length:=by omega
 have hyl:(ys.take m).length = m:=by simp; omega
 obtain ⟨news,hnews⟩:∃ news,news = (news0.drop (0 * sz)).take (m * sz):=⟨_,rfl⟩
 have hmul:m * sz <= ys.length * sz:=Nat.mul_le_mul_right _ hmy
 have hnl:news.length = m * sz:=by rw [hnews]; simp; omega
 have hnc:∀ (j:Nat) (u:Value),news[j]? = some u -> w.cell? (b.add j) = some u:= by
  intro j u hj
  rw [hnews,List.getElem?_take] at hj
  split at hj
  ·rw [List.getElem?_drop] at hj; simp only [Nat.zero_mul,Nat.zero_add] at hj; exact hnc0 j u hj
  ·cases hj
 have hnr:XRep w D sz news (ys.take m):= by
  have:=hnr0.window (lo:=0) (m:=m) hnl0 (by omega)
  rw [<- hnews,List.drop_zero] at this; exact this
 have hone:∀ u ∈ news,u.oneCell' = true:=hnr.oneCell (by rw [hnl,hyl]) hpos
 have hund:=(hT.ty ht).slice hk
 have hxl:=hown.1
 obtain ⟨hx1,hx2⟩:=hown
 rw [hφ] at hx2
 rcases hx2 with ⟨h,_⟩|⟨g',cap,cur,h,hg,hh,hc,hcm,hcs,htk⟩
 ·cases h
 ·cases h
  have hle:es.length * sz <= c * sz:=Nat.mul_le_mul_right _ hc
  have hlm:lo * sz + m * sz <= es.length * sz:=by rw [<- Nat.add_mul]; exact Nat.mul_le_mul_right _ (by omega)
  have hst:=run_storeCells_at (P:=P) g (lo * sz) e news 0 cur w hh (by rw [hnl]; omega) hone
  simp only [Nat.add_zero] at hst
  have hfc:=run_firstCells_some (P:=P) w ei.size m b ys.length cy news (by rw [hnl,hsz]) hnc
  have hmin:Nat.min ys.length n = m:=hm.symm
  have hrun:(execOp a.eval o).run P w = .ok (.value (.int .i64 m)) (w.setRow g (splice cur.toList (lo * sz) news).toArray):= by
   simp only [execOp,ho,resolve,invoke,builtin,Builtin.copy_,List.map_toArray,List.map_cons,List.map_nil,hvx,hvy,h0,Sem.run_bind,Sem.run_pure,Result.andThen_ok,List.getElem?_toArray,List.getElem?_cons_zero,List.getElem?_cons_succ,
    (hT.ty ht).run_und w hund,Builtin.lenOf,(hT.ty he).run_size w,hmin,hfc,hst]
   rfl
  refine wpIn_of (by rw [ho]; intro c hc; cases hc) ?_
  unfold Oper.wp
  rw [hrun]
  have hok:∀ e' sz' es',oblk φ id (.arr e' sz' es') g:=by intros; simp [oblk,hφ,blk]
  have hDk:∀ b',D b' -> (w.setRow g (splice cur.toList (lo * sz) news).toArray).heap[b']? = w.heap[b']?:= by
   intro b' hb'
   exact setRow_other _ _ _ _ (fun e=>(hI.own id _ g hob (hok _ _ _)).1 (e ▸ hb'))
  have hN:Inv W0 D0 nt (s.setObj id (some (.arr e sz (splice es lo (ys.take m))))) D φ a (w.setRow g (splice cur.toList (lo * sz) news).toArray):= by
   refine hI.chg id (fun j=>j = id) ⟨rfl,rfl,rfl,by simp,fun k hk=>absurd hk (Nat.not_lt_zero _)⟩ ?_ (fun _ h=>h) (fun b' hb'=>.inl hb') (fun _ _=>rfl) (Nat.le_refl _) (fun t x hx=>hx) ?_ ?_
   ·intro b' _ hne
    exact setRow_other _ _ _ _ (fun e=>hne id _ rfl hob (by rw [e]; exact hok _ _ _))
   ·intro id' ob' hne ho'
    rw [ASt.obj_setObj,if_neg (fun e=>hne e.symm)] at ho'
    exact ⟨hne,ho'⟩
   ·intro ob' ho'
    rw [ASt.obj_setObj,if_pos rfl] at ho'
    cases ho'
    have hsl:(splice cur.toList (lo * sz) news).length = cur.size:= by
     rw [splice_length _ _ _ (by rw [hnl]; simp; omega)]; simp
    have hels:(splice es lo (ys.take m)).length = es.length:=splice_length _ _ _ (by rw [hyl]; omega)
    have hxr2:XRep w D sz (splice xs (lo * sz) news) (splice es lo (ys.take m)):=hxr.splice hxl hnr (by rw [hyl]; exact hnl) (by rw [hyl]; omega)
    have hcut:(splice cur.toList (lo * sz) news).take (es.length * sz) = splice xs (lo * sz) news:= by
     apply List.ext_getElem?
     intro j
     rw [List.getElem?_take,splice_get _ _ _ (by rw [hnl]; simp; omega),splice_get _ _ _ (by rw [hnl,hxl]; omega),<- htk,List.getElem?_take]
     by_cases hj:j < es.length * sz
     ·rw [if_pos hj,if_pos hj]
     ·rw [if_neg hj,if_neg hj,if_neg (by rw [hnl]; omega)]
    refine ⟨hid,rfl,⟨splice xs (lo * sz) news,⟨?_,.inr ⟨g,c,_,?_,hg,setRow_heap w g cur _ e _ hh,?_,hcm,?_,?_⟩⟩,hxr2.mono hDk (fun _ h=>h)⟩,?_⟩
    ·rw [splice_length _ _ _ (by rw [hnl,hxl]; omega),hels,hxl]
    ·rw [hφ,hels]
    ·rw [hels]; exact hc
    ·simp [hsl,hcs]
    ·rw [hels]; simpa using hcut
    ·intro b' hb'
     have hb2:oblk φ id (.arr e sz es) b':=hb'
     obtain ⟨g1,g2,g3⟩:=hI.own id _ b' hob hb2
     exact ⟨g1,by simpa using g3,.inr ⟨id,_,rfl,hob,hb2⟩⟩
  refine hK D _ _ _ (hN.put o.dst (dstB_lt hd) _ _ fun x' hx'=>?_)
  cases hx'
  exact ⟨rfl,.pv _ _ (.int _ _)⟩
theorem cell_add (w:World) (g lo j:Nat):w.cell? ((⟨g,lo,none⟩:Addr).add j) = w.cell? ((⟨g,0,none⟩:Addr).add (lo + j)):= by
 congr 1
 unfold Addr.add; split <;> split <;> simp_all <;> omega
theorem op_copy_pure {t e id sz m:Nat} {x y:Operand} {ts:Array TypeId} {ti ei:TyI} {es ys:List (List PV)} (hT:TabOK P T) (ho:o.op = .call { callee:=.builtin .copy,args:=#[x,y],argTypes:=ts }) (h0:ts[0]? = some t) (hd:dstB nt o.dst = true)
  (ht:T t = some ti) (hk:ti.kind = .slice e) (he:T e = some ei) (hsz:sz = ei.size) (hpos:0 < sz) (hx:s.ev x = some (.arr id)) (hob:s.obj id = some (.arr e sz es)) (hy:s.srcOf y = some ys) (hyl:∀ z ∈ ys,z.length = sz) (hm:m = min ys.length es.length) (hm0:0 < m) :
  OpTo P nt o s ((s.setObj id (some (.arr e sz (splice es 0 (ys.take m))))).putO o.dst (some (.pv (.int .i64 m)))):= by
 refine copy_core (n:=es.length) hT ho h0 hd ht hk he hsz hpos hob hm hm0 (by omega) (fun W0 D0 D φ a w hI=>?_) (fun W0 D0 D φ a w hI=>?_)
 ·obtain ⟨_,hrx⟩:=hI.ev hx
  obtain ⟨_,_,xs,hown,_⟩:=hI.objs id _ hob
  generalize a.eval x = v at hrx
  cases hrx with
  | arr id n c ad hφ =>
   rw [hφ] at hown
   obtain ⟨_,h⟩:=hown
   rcases h with ⟨_,h⟩|⟨g,cap,cur,h,_⟩
   ·omega
   ·cases h; exact ⟨g,c,c,hφ,by simp⟩
 ·obtain ⟨ad,m',c,h1,h2,h3⟩:=hI.src hy hyl hpos
  rcases h3 with rfl|⟨b,news,rfl,q1,q2,q3⟩
  ·simp at hm; omega
  ·exact ⟨b,c,news,by rw [h1,h2],q1,q2,q3⟩
theorem op_copy_sub {t e id sz lo n lo2 n2 m:Nat} {x y:Operand} {ts:Array TypeId} {ti ei:TyI} {es:List (List PV)} (hT:TabOK P T) (ho:o.op = .call { callee:=.builtin .copy,args:=#[x,y],argTypes:=ts }) (h0:ts[0]? = some t) (hd:dstB nt o.dst = true)
  (ht:T t = some ti) (hk:ti.kind = .slice e) (he:T e = some ei) (hsz:sz = ei.size) (hpos:0 < sz) (hx:s.ev x = some (.sub id sz lo n)) (hy:s.ev y = some (.sub id sz lo2 n2)) (hob:s.obj id = some (.arr e sz es)) (hm:m = min n2 n) (hm0:0 < m) (hf1:lo + n <= es.length) (hf2:lo2 + n2 <= es.length) :
  OpTo P nt o s ((s.setObj id (some (.arr e sz (splice es lo (((es.drop lo2).take n2).take m))))).putO o.dst (some (.pv (.int .i64 m)))):= by
 have hyl:((es.drop lo2).take n2).length = n2:=by simp; omega
 refine copy_core (n:=n) hT ho h0 hd ht hk he hsz hpos hob (by rw [hyl]; exact hm) hm0 hf1 (fun W0 D0 D φ a w hI=>?_) (fun W0 D0 D φ a w hI=>?_)
 ·obtain ⟨_,hrx⟩:=hI.ev hx
  obtain ⟨_,_,xs,hown,_⟩:=hI.objs id _ hob
  generalize a.eval x = v at hrx
  cases hrx with
  | sub id sz lo n g m' c hφ hc2 =>
   rw [hφ] at hown
   obtain ⟨_,h⟩:=hown
   rcases h with ⟨h,_⟩|⟨g',cap,cur,h,_⟩
   ·cases h
   ·cases h; exact ⟨g,c,c - lo,hφ,rfl⟩
 ·obtain ⟨_,hry⟩:=hI.ev hy
  obtain ⟨_,_,xs,hown,hxr⟩:=hI.objs id _ hob
  generalize a.eval y = v at hry
  cases hry with
  | sub id sz lo n g m' c hφ hc2 =>
   rw [hφ] at hown
   have hcells:=hown.cells (g:=g) rfl
   have hmul:lo2 * sz + n2 * sz <= es.length * sz:=by rw [<- Nat.add_mul]; exact Nat.mul_le_mul_right _ hf2
   refine ⟨_,c - lo2,(xs.drop (lo2 * sz)).take (n2 * sz),by rw [hyl],?_,?_,hxr.window hown.1 hf2⟩
   ·rw [hyl,List.length_take,List.length_drop,hown.1]; omega
   ·intro j u hj
    rw [List.getElem?_take] at hj
    split at hj
    ·rw [List.getElem?_drop] at hj
     rw [cell_add]; exact hcells _ u hj
    ·cases hj
theorem Inv.reread {W0:World} {D0:Bas} {D:Nat -> Prop} {φ:Nat -> Value} {a:Act} {w:World} {t:Nat} {x y:FV} (hI:Inv W0 D0 nt s D φ a w) (hx:s.get t = some x) (h:∀ v,x.lt s.nxt = true -> FRep w D φ v x -> y.lt s.nxt = true /\ FRep w D φ v y):Inv W0 D0 nt (s.put t (some y)) D φ a w:= by
 obtain ⟨hlt,v,hv,hr⟩:=hI.env t _ hx
 refine ⟨hI.below,hI.size,hI.defers,hI.dlt,hI.dof,hI.d0,?_,hI.objs,hI.own,hI.sep⟩
 intro t' x' hg
 rw [ASt.get_put] at hg
 by_cases ht:t = t'
 ·subst ht
  rw [if_pos rfl] at hg
  cases hg
  obtain ⟨h1,h2⟩:=h v hlt hr
  exact ⟨h1,v,hv,h2⟩
 ·rw [if_neg ht] at hg
  exact hI.env t' x' hg
theorem AW_arr_sub {c:Code} {Q:Exit -> ASt -> Prop} {t id e sz n:Nat} {es:List (List PV)} (hx:s.get t = some (.arr id)) (hob:s.obj id = some (.arr e sz es)) (hn:es.length = n) (h0:0 < n) (h:AW P nt c Q (s.put t (some (.sub id sz 0 n)))):AW P nt c Q s:= by
 intro ro W0 D0 D φ a w hr hI
 refine h ro W0 D0 D φ a w hr (hI.reread hx fun v hlt hv=>⟨hlt,?_⟩)
 obtain ⟨_,_,xs,hown,_⟩:=hI.objs id _ hob
 cases hv with
 | arr id m c ad hφ =>
  rw [hφ] at hown
  rcases hown.2 with ⟨_,h⟩|⟨g,cap,cur,h,_,_,hc,_⟩
  ·omega
  ·cases h
   have:=FRep.sub (w:=w) (D:=D) id sz 0 es.length g es.length c hφ (by omega)
   rw [Nat.zero_mul,Nat.sub_zero] at this
   rw [<- hn]; exact this
theorem AW_sub_arr {c:Code} {Q:Exit -> ASt -> Prop} {t id e sz n:Nat} {es:List (List PV)} (hx:s.get t = some (.sub id sz 0 n)) (hob:s.obj id = some (.arr e sz es)) (hn:es.length = n) (h:AW P nt c Q (s.put t (some (.arr id)))):AW P nt c Q s:= by
 intro ro W0 D0 D φ a w hr hI
 refine h ro W0 D0 D φ a w hr (hI.reread hx fun v hlt hv=>⟨hlt,?_⟩)
 obtain ⟨_,_,xs,hown,_⟩:=hI.objs id _ hob
 cases hv with
 | sub id sz lo n g m c hφ hc =>
  rw [hφ] at hown
  rcases hown.2 with ⟨h,_⟩|⟨g',cap,cur,h,_⟩
  ·cases h
  ·cases h
   have:=FRep.arr (w:=w) (D:=D) id es.length c (some ⟨g,0,none⟩) hφ
   rw [Nat.zero_mul,Nat.sub_zero,<- hn]; exact this
theorem op_len_sub {t e id sz lo n:Nat} {x:Operand} {ti:TyI} (hT:TabOK P T) (ho:o.op = .call { callee:=.builtin .len,args:=#[x],argTypes:=#[t] }) (hd:dstB nt o.dst = true) (ht:T t = some ti) (hk:ti.kind = .slice e) (hx:s.ev x = some (.sub id sz lo n)) :
  OpTo P nt o s (s.putO o.dst (some (.pv (.int .i64 n)))) :=
 OpTo.value hd fun W0 D0 D φ a w hI=>by
  obtain ⟨_,hrx⟩:=hI.ev hx
  generalize hv:a.eval x = v at hrx
  cases hrx with
  | sub id sz lo n g m c hφ hc =>
   exact ⟨.int .i64 n,by simp [execOp,ho,resolve,invoke,builtin,Builtin.len_,hv,(hT.ty ht).run_und w ((hT.ty ht).slice hk),goInt],fun x' h=>by cases h; exact ⟨rfl,.pv _ _ (.int _ _)⟩⟩
theorem op_slice_sub {t e id sz lo hi n:Nat} {x:Operand} {olo ohi:Option Operand} {ti ei:TyI} (hT:TabOK P T) (ho:o.op = .slice t x olo ohi none) (hd:dstB nt o.dst = true) (ht:T t = some ti) (hk:ti.kind = .slice e) (he:T e = some ei) (hsz:sz = ei.size)
  (hx:s.ev x = some (.sub id sz 0 n)) (hlo:(olo = none /\ lo = 0) \/ ∃ y k,olo = some y /\ s.ev y = some (.pv (.int k (lo:Int)))) (hhi:(ohi = none /\ hi = n) \/ ∃ y k,ohi = some y /\ s.ev y = some (.pv (.int k (hi:Int))))
  (h1:lo <= hi) (h2:hi <= n) (h3:lo < n):OpTo P nt o s (s.putO o.dst (some (.sub id sz lo (hi - lo)))) :=
 OpTo.value hd fun W0 D0 D φ a w hI=>by
  obtain ⟨hlt,hrx⟩:=hI.ev hx
  generalize hv:a.eval x = v at hrx
  cases hrx with
  | sub id sz lo0 n g m c hφ hc =>
   have hrun:=run_sliceAt hT ht hk he w (some ⟨g,0,none⟩) n c lo hi h1 (by omega) (olo.map a.eval) (ohi.map a.eval)
    (by
      rcases hlo with ⟨rfl,h⟩|⟨y,k,rfl,h⟩
      ·exact .inl ⟨rfl,h⟩
      ·exact .inr ⟨k,by simp [hI.ev_int h]⟩)
    (by
      rcases hhi with ⟨rfl,h⟩|⟨y,k,rfl,h⟩
      ·exact .inl ⟨rfl,h⟩
      ·exact .inr ⟨k,by simp [hI.ev_int h]⟩)
   rw [Nat.zero_mul,Nat.sub_zero] at hv
   refine ⟨_,by simp only [execOp,ho,hv,Option.map_none,Sem.run_bind,hrun,Result.andThen_ok,Sem.run_pure]; rfl,fun x' hx'=>?_⟩
   cases hx'
   refine ⟨by simpa [FV.lt] using hlt,?_⟩
   rw [if_neg (by omega)]
   have hadd:(some (⟨g,0,none⟩:Addr)).map (·.add (lo * ei.size)) = some ⟨g,lo * sz,none⟩:= by
    rw [Option.map_some,addr_add,Nat.zero_add,hsz]
   rw [hadd]
   exact .sub id sz lo (hi - lo) g m c hφ (by omega)
theorem D_slice_sub {t e id sz lo hi n:Nat} {x:Operand} {olo ohi:Option Operand} {ti ei:TyI} (hT:TabOK P T) (hg:guardT ops s o = true) (ho:o.op = .slice t x olo ohi none) (hd:dstB nt o.dst = true) (ht:T t = some ti) (hk:ti.kind = .slice e) (he:T e = some ei) (hsz:sz = ei.size)
  (hx:s.ev x = some (.sub id sz 0 n)) (hlo:(olo = none /\ lo = 0) \/ ∃ y k,olo = some y /\ s.ev y = some (.pv (.int k (lo:Int)))) (hhi:(ohi = none /\ hi = n) \/ ∃ y k,ohi = some y /\ s.ev y = some (.pv (.int k (hi:Int))))
  (h1:lo <= hi) (h2:hi <= n) (h3:lo < n):StepOK P nt ops o s ⟨some (.sub id sz lo (hi - lo)),false,[],[]⟩ (s.putO o.dst (some (.sub id sz lo (hi - lo)))) :=
 StepOK.mkP hg fun s1 h4 h5=>op_slice_sub hT ho hd ht hk he hsz (by rw [ev_agree h4 (by simp [ho,Op.operands])]; exact hx)
  (by
    rcases hlo with h|⟨y,k,rfl,h⟩
    ·exact .inl h
    ·exact .inr ⟨y,k,rfl,by rw [ev_agree h4 (by simp [ho,Op.operands])]; exact h⟩)
  (by
    rcases hhi with h|⟨y,k,rfl,h⟩
    ·exact .inl h
    ·exact .inr ⟨y,k,rfl,by rw [ev_agree h4 (by simp [ho,Op.operands])]; exact h⟩) h1 h2 h3
theorem D_copy_sub {t e id sz lo n lo2 n2 m:Nat} {x y:Operand} {ts:Array TypeId} {ti ei:TyI} {es:List (List PV)} (hT:TabOK P T) (hg:guardT ops s o = true) (ho:o.op = .call { callee:=.builtin .copy,args:=#[x,y],argTypes:=ts }) (h0:ts[0]? = some t) (hd:dstB nt o.dst = true)
  (ht:T t = some ti) (hk:ti.kind = .slice e) (he:T e = some ei) (hsz:sz = ei.size) (hpos:0 < sz) (hx:s.ev x = some (.sub id sz lo n)) (hy:s.ev y = some (.sub id sz lo2 n2)) (hob:s.obj id = some (.arr e sz es)) (hm:m = min n2 n) (hm0:0 < m) (hf1:lo + n <= es.length) (hf2:lo2 + n2 <= es.length) :
  StepOK P nt ops o s ⟨some (.pv (.int .i64 m)),false,[],[id]⟩ ((s.setObj id (some (.arr e sz (splice es lo (((es.drop lo2).take n2).take m))))).putO o.dst (some (.pv (.int .i64 m)))):= by
 have hget:((s.setObj id (some (.arr e sz (splice es lo (((es.drop lo2).take n2).take m))))).putO o.dst (some (.pv (.int .i64 m)))).obj id = some (.arr e sz (splice es lo (((es.drop lo2).take n2).take m))):= by
  have:((s.setObj id (some (.arr e sz (splice es lo (((es.drop lo2).take n2).take m))))).putO o.dst (some (.pv (.int .i64 m)))).obj id = (s.setObj id (some (.arr e sz (splice es lo (((es.drop lo2).take n2).take m))))).obj id:=by cases hd:o.dst <;> rfl
  rw [this,ASt.obj_setObj,if_pos rfl]
 refine StepOK.mkL hg (by cases hd:o.dst <;> rfl) (by cases hd:o.dst <;> rfl) ?_ fun s1 h4 h5=>?_
 ·rw [List.map_cons,hget]; cases hd:o.dst <;> rfl
 ·rw [List.map_cons,hget]
  have:=op_copy_sub (s:=s1) hT ho h0 hd ht hk he hsz hpos (by rw [ev_agree h4 (by simp [ho,Op.operands,Call.operands])]; exact hx) (by rw [ev_agree h4 (by simp [ho,Op.operands,Call.operands])]; exact hy) (by rw [h5 id (by simp)]; exact hob) hm hm0 hf1 hf2
  have he2:(s1.setObj id (some (.arr e sz (splice es lo (((es.drop lo2).take n2).take m))))).putO o.dst (some (.pv (.int .i64 m))) = ⟨putE s1.env o.dst (some (.pv (.int .i64 m))),[(id,some (.arr e sz (splice es lo (((es.drop lo2).take n2).take m))))] ++ s1.objs,s1.nxt⟩:=by cases hd:o.dst <;> rfl
  rw [he2] at this; exact this
end
end Go.Abs
namespace Go.Abs
open Go.RowKit
section
variable {P:Program} {T:Nat -> Option TyI} {nt:Nat} {s:ASt} {o:Oper} {ops:Array Oper} {rest:List Oper} {Q:Exit -> ASt -> Prop}
def TK.conc:TK -> Bool
 | .other=>false
 | _=>true
theorem run_mkiface {t:Nat} {ti:TyI} (hT:TabOK P T) (ht:T t = some ti) (hk:ti.kind.conc = true) (w:World) (v:Value):(Instr.makeInterface t v).run P w = .ok (.iface t v) w:= by
 obtain ⟨d,h1,h2,_⟩:=(hT.ty ht).und
 simp only [Instr.makeInterface,Sem.run_bind,(hT.ty ht).run_und w h1,Result.andThen_ok]
 cases d with
 | interface ms =>
  exfalso
  generalize ti.kind = k at h2 hk
  cases k <;> simp_all [kindB,TK.conc]
 | _=>rfl
theorem op_mkiface {t:Nat} {x:Operand} {ti:TyI} {p:PV} (hT:TabOK P T) (ho:o.op = .makeInterface t x) (hd:dstB nt o.dst = true) (ht:T t = some ti) (hk:ti.kind.conc = true) (hx:s.evD x = some p) :
  OpTo P nt o s (s.putO o.dst (some (.pv (.iface t p)))) :=
 OpTo.value hd fun W0 D0 D φ a w hI=>⟨.iface t (a.eval x),by simp only [execOp,ho,run_mkiface hT ht hk w,Sem.run_bind,Result.andThen_ok,Sem.run_pure],fun x' h=>by cases h; exact ⟨rfl,.pv _ _ (.iface t _ p (hI.evD hx))⟩⟩
theorem D_indexAddr_arr {t e e' id sz:Nat} {x ix:Operand} {ti ei:TyI} {k:IntKind} {n:Int} {es:List (List PV)} (hT:TabOK P T) (hg:guardT ops s o = true) (ho:o.op = .indexAddr t x ix) (hd:dstB nt o.dst = true) (ht:T t = some ti)
  (hk:ti.kind = .slice e) (he:T e = some ei) (hx:s.ev x = some (.arr id)) (hob:s.obj id = some (.arr e' sz es)) (hi:s.ev ix = some (.pv (.int k n))) (hn:0 <= n) (hlt:n.toNat < es.length) (hsz:Nat.beq sz ei.size = true) :
  StepOK P nt ops o s ⟨some (.aptr id sz n.toNat 0),false,[id],[]⟩ (s.putO o.dst (some (.aptr id sz n.toNat 0))) :=
 StepOK.mkP hg fun s1 h1 h2=>op_indexAddr_arr hT ho hd ht hk he (by rw [ev_agree h1 (by simp [ho,Op.operands])]; exact hx) (by rw [h2 id (by simp)]; exact hob) (by rw [ev_agree h1 (by simp [ho,Op.operands])]; exact hi) hn hlt hsz
theorem D_load_aptr {t id sz k off e:Nat} {x:Operand} {i:TyI} {es:List (List PV)} {el:List PV} {p:PV} (hT:TabOK P T) (hg:guardT ops s o = true) (ho:o.op = .load t x) (hd:dstB nt o.dst = true) (ht:T t = some i)
  (hx:s.ev x = some (.aptr id sz k off)) (hob:s.obj id = some (.arr e sz es)) (hel:es[k]? = some el) (hl:loadP i.agg i.size (el.drop off) = some p) :
  StepOK P nt ops o s ⟨some (.pv p),false,[id],[]⟩ (s.putO o.dst (some (.pv p))) :=
 StepOK.mkP hg fun s1 h1 h2=>op_load_aptr hT ho hd ht (by rw [ev_agree h1 (by simp [ho,Op.operands])]; exact hx) (by rw [h2 id (by simp)]; exact hob) hel hl
theorem D_call_own_p {f:Operand} {args:Array Operand} {ts:Array TypeId} {g:FuncId} {caps ps:List PV} {e sz d:Nat} {es:List (List PV)} (hg:guardT ops s o = true) (ho:o.op = .call { callee:=.value f,args,argTypes:=ts }) (hdst:o.dst = some d) (hd:dstB nt o.dst = true)
  (hf:s.calleeS f = some (g,caps)) (ha:mapO s.evS args.toList = some ps) (hc:ACalls P g (ps ++ caps) (fun r'=>r' = .own e sz es)) :
  StepOK P nt ops o s ⟨some (.pv (.sl es)),true,[],[]⟩ (s.putO o.dst (some (.pv (.sl es)))):= by
 refine StepOK.mkE hg (by cases hd:o.dst <;> rfl) (by cases hd:o.dst <;> exact Nat.le_refl _) (fun id hid _=>by cases hd:o.dst <;> rfl) fun fr s1 s2 h1 h2 h3 h4 h5 h6 h7=>?_
 have h8:=op_call1 (r:=.own e sz es) ho hd (by rw [(call_local ho h1).1]; exact hf) (by rw [(call_local ho h1).2]; exact ha) hc
 have e1:s1.bind o.dst (.own e sz es) = (s1.newObj (.arr e sz es)).putO o.dst (some (.arr s1.nxt)):=rfl
 rw [e1] at h8
 intro ro W0 D0 D φ a w hI K Q hK
 refine h8 ro W0 D0 D φ a w hI K Q fun D' φ' a' w' hI'=>?_
 rw [hdst] at hI' h5
 have hp:(s1.newObj (.arr e sz es)).obj s1.nxt = some (.arr e sz es):=by rw [ASt.obj_newObj]; exact if_pos rfl
 obtain ⟨D2,hI2⟩:=hI'.toPure (t:=d) (id:=s1.nxt) (e:=e) (sz:=sz) (es:=es) (by simp [ASt.putO,ASt.get_put]) hp
 refine hK D2 φ' a' w' ?_
 have hget:∀ tt,s2.get tt = if d = tt then some (.pv (.sl es)) else s1.get tt:= by
  intro tt
  show look s2.env tt = _
  rw [h5]
  show look ((d,_) :: s1.env) tt = _
  by_cases hdt:d = tt
  ·subst hdt; rw [look_cons_eq,if_pos rfl]
  ·rw [look_cons_ne _ _ hdt,if_neg hdt]; rfl
 have hobj:∀ id' ob,s2.obj id' = some ob -> s1.obj id' = some ob:= by
  intro id' ob h
  rw [h7] at h
  have q1:(s.putO o.dst (some (.pv (.sl es)))).obj id' = s.obj id':=by cases hd:o.dst <;> rfl
  rw [q1] at h
  by_cases hid:id' ∈ fr
  ·rw [if_pos hid] at h; exact h
  ·rw [if_neg hid] at h; rw [h4 id' hid]; exact h
 have hn2:s2.nxt = s1.nxt:= by
  rw [h6,h2]; cases hd:o.dst <;> rfl
 refine hI2.weaken (fun tt x hx=>?_) (fun id' ob hob2=>?_) (fun tt x hx=>?_) (fun id' ob hob2=>?_)
 ·rw [hget] at hx
  rw [ASt.get_put]
  by_cases hdt:d = tt
  ·rw [if_pos hdt] at hx ⊢; exact hx
  ·rw [if_neg hdt] at hx ⊢
   show look ((d,_) :: s1.env) tt = _
   rw [look_cons_ne _ _ hdt]; exact hx
 ·have g2:=hobj id' ob hob2
  have g3:=(hI.objs id' ob g2).1
  show ((((s1.newObj (.arr e sz es)).put d _).setObj s1.nxt none)).obj id' = some ob
  rw [ASt.obj_setObj,if_neg (by omega)]
  show (s1.newObj (.arr e sz es)).obj id' = some ob
  rw [ASt.obj_newObj,if_neg (by omega)]; exact g2
 ·rw [hget] at hx
  rw [hn2]
  by_cases hdt:d = tt
  ·rw [if_pos hdt] at hx; cases hx; rfl
  ·rw [if_neg hdt] at hx; exact (hI.env tt x hx).1
 ·have g2:=hobj id' ob hob2
  rw [hn2]
  exact ⟨(hI.objs id' ob g2).1,(hI.objs id' ob g2).2.1⟩
end
end Go.Abs
namespace Go.Abs
open Go.RowKit
section
variable {P:Program} {F:Fence} {n:Nat}
def TakesAll (P:Program):List Deferred -> World -> (World -> Prop) -> Prop
 | [],w,K=>K w
 | d :: ds,w,K=>∃ r w',d.target = .collected r /\ (Instr.takeDeferred r).run P w = .ok [] w' /\ TakesAll P ds w' K
theorem takes_steps {K:World -> Prop}:∀ (ds:List Deferred) (w:World) (fr:Frame) (cs:List Frame),fr.mode = .returning -> fr.defers = ds -> F.fn fr.fn -> F.room (cs.length + 1 + n) -> TakesAll P ds w K →
  ∃ w',K w' /\ StepsIn (Machine.fenced P F) P (lone fr cs w) (lone { fr with defers:=[] } cs w'):= by
 intro ds
 induction ds with
 | nil =>
  intro w fr cs hm hd hb hr h
  have:({ fr with defers:=[] }:Frame) = fr:=by rw [<- hd]
  exact ⟨w,h,by rw [this]; exact StepsIn.refl _⟩
 | cons d ds ih =>
  intro w fr cs hm hd hb hr ⟨r,w',h1,h2,h3⟩
  have hne:fr.mode ≠ .run:=by rw [hm]; simp
  have s1:=step_collected (cs:=cs) hne hd h1 h2
  have i1:(lone fr cs w).fenced P F:=fenced_out hb hr hne hd (fun g hg=>by rw [h1] at hg; simp [Target.leads] at hg)
  obtain ⟨w2,k,s2⟩:=ih w' { fr with defers:=[] ++ ds } cs hm rfl hb hr h3
  exact ⟨w2,k,.head i1 s1 s2⟩
def bodyPostSM (P:Program) (fn:Func) (c₀:Frame) (cs:List Frame) (R:Value -> FrameMode -> World -> Prop):Exit -> Act -> List Frame -> World -> Prop
 | .normal,a,cs',w|.ret,a,cs',w=>∃ u',cs' = { c₀ with mode:=u' } :: cs /\ TakesAll P a.defers w fun w'=>∃ v,(results fn a.tmps).run P w' = .ok v w' /\ R v u' w'
 | _,_,_,_=>False
theorem callsDIn_of_wpSIn_marks {f:FuncId} {fn:Func} {c:Code} {args:Array Value} {u:FrameMode} {w:World} {R:Value -> FrameMode -> World -> Prop}
  (hf:P.funcs[f]? = some fn) (hb:fn.body = some c) (hF:F.fn f)
  (h:∀ (c₀:Frame) (cs:List Frame),c₀.mode = u →
   c.wpSIn F n P (bodyPostSM P fn c₀ cs R) { tmps:=args ++ Array.replicate (fn.ntmps - args.size) undef,defers:=[] } (c₀ :: cs) w) :
  CallsDIn F n P f args u w fun e u' w'=>∃ v,e = .returned v /\ R v u' w':= by
 refine ⟨hF,fun c₀ cs hu hroom=>?_⟩
 let b:Frame:={ (default:Frame) with fn:=f,kind:=.deferred,roundOf:=none }
 have henter:Frame.enter P f args .deferred =
   b.atR { tmps:=args ++ Array.replicate (fn.ntmps - args.size) undef,defers:=[] } [.code c]:= by
  simp [Frame.enter,Frame.atR,hf,hb,b]
 obtain ⟨e,a',cs',w',hl,hq,harr⟩:=h c₀ cs hu b [] rfl rfl hF hroom
 rw [<- henter] at harr
 cases e with
 | normal =>
  obtain ⟨u',rfl,ht⟩:=hq
  obtain ⟨w2,⟨v,hr,hR⟩,hs2⟩:=takes_steps a'.defers w' { b.atR a' [] with mode:=.returning } ({ c₀ with mode:=u' } :: cs) rfl rfl hF hroom ht
  exact ⟨.returned v,u',w2,{ { b.atR a' [] with mode:=.returning } with defers:=[] },⟨v,rfl,hR⟩,StepsIn.trans harr (StepsIn.trans (.one (fenced_calm (fr:=b.atR a' []) hF hroom rfl) (stepR_end rfl)) hs2),rfl,rfl,rfl,rfl,fn,hf,hr⟩
 | ret =>
  obtain ⟨u',rfl,ht⟩:=hq
  obtain ⟨todo,hs⟩:=harr.1 rfl
  obtain ⟨w2,⟨v,hr,hR⟩,hs2⟩:=takes_steps a'.defers w' { b.atR a' todo with mode:=.returning } ({ c₀ with mode:=u' } :: cs) rfl rfl hF hroom ht
  exact ⟨.returned v,u',w2,{ { b.atR a' todo with mode:=.returning } with defers:=[] },⟨v,rfl,hR⟩,StepsIn.trans hs hs2,rfl,rfl,rfl,rfl,fn,hf,hr⟩
 | _=>exact hq.elim
end
section
variable {P:Program} {T:Nat -> Option TyI} {nt:Nat} {s:ASt}
theorem takes_of_inv {W0:World} {D0:Bas} {D:Nat -> Prop} {φ:Nat -> Value} {tmps:Array Value} {K:World -> Prop} (hpd:D0.pd = none) :
  ∀ (ms:List Deferred) (w:World),Inv W0 D0 nt s D φ { tmps:=tmps,defers:=ms } w -> ms.Nodup -> (∀ x ∈ ms,Marked w D s φ (mbase W0 D0) x) -> (∀ w',Inv W0 D0 nt s D φ { tmps:=tmps,defers:=[] } w' -> K w') -> TakesAll P ms w K
 | [],w,hI,_,_,h=>h w hI
 | d :: ms,w,hI,hn,hm,h=>by
  obtain ⟨m,rfl,h2,h3,h4⟩:=hI.take (P:=P) (m2:=[]) (by simpa using hn) (by simpa using hm)
  have hp:ms ++ pdl D0.pd ++ [] = ms:=by rw [hpd]; simp [pdl]
  rw [hp] at h3
  exact ⟨m,_,rfl,h2,takes_of_inv hpd ms _ h3 (List.nodup_cons.1 hn).2 (by simpa using h4) h⟩
def DCallsX (P:Program) (f:FuncId) (xs:List FV) (objs:List (Nat × AObj)) (n:Nat) (Q:ASt -> Prop) (u u':FrameMode):Prop :=
 ∀ W D φ vs,Held (entryX xs objs n) D φ W -> vs.size = xs.length -> (∀ (j:Nat) (v:Value) (x:FV),vs[j]? = some v -> xs[j]? = some x -> x.lt n = true /\ FRep W D φ v x) →
  CallsDIn Fence.wide 0 P f vs u W fun e u2 w'=>u2 = u' /\ PostX W (ownS (entryX xs objs n) φ) D Q (fun _ _=>False) e w'
theorem DCallsX.of_recover {f:FuncId} {fn:Func} {id d:Nat} {o:Oper} {c:Code} {xs:List FV} {objs:List (Nat × AObj)} {n:Nat} {Q:ASt -> Prop} {u u':FrameMode} (hT:TabOK P T) (hf:P.funcs[f]? = some fn) (hb:fn.body = some (.seq (.region id #[o] false) c))
  (hg:o.guard = none) (ho:∃ ts,o.op = .call { callee:=.builtin .recover,args:=#[],argTypes:=ts }) (hd:o.dst = some d) (hdn:Nat.blt d fn.ntmps = true) (hn:Nat.ble xs.length fn.ntmps = true) (v0:Value) (fv:FV)
  (hrec:∀ (c₀:Frame) (cs:List Frame),c₀.mode = u -> recoverD (c₀ :: cs) = some (v0,{ c₀ with mode:=u' } :: cs) \/ (recoverD (c₀ :: cs) = none /\ v0 = .nilIface /\ u' = u))
  (hv0:∀ D φ W,Held (entryX xs objs n) D φ W -> fv.lt n = true /\ FRep W D φ v0 fv)
  (h:AW P fn.ntmps c (RetX T fn.results.toList Q (fun _ _=>False)) ((entryX xs objs n).put d (some fv))):DCallsX P f xs objs n Q u u':= by
 intro W D φ vs hH hs hr
 have hn':=Nat.le_of_ble_eq_true hn
 obtain ⟨X,hX⟩:∃ X,ownS (entryX xs objs n) φ = X:=⟨_,rfl⟩
 have hE:=entryX_inv (nt:=fn.ntmps) hH hs hr (by rw [hs]; exact hn')
 rw [hX] at hE ⊢
 obtain ⟨hv1,hv2⟩:=hv0 D φ W hH
 have hE2:=hE.put (some d) (fun d' hd'=>by cases hd'; simpa using hdn) v0 (some fv) (fun x hx=>by cases hx; exact ⟨hv1,hv2⟩)
 have hfin:=h none W ⟨D,X,none,false⟩ D φ _ W ⟨rfl,fun l hl=>by cases hl⟩ hE2
 have key:CallsDIn Fence.wide 0 P f vs u W fun e u2 w'=>∃ v,e = .returned v /\ (u2 = u' /\ PostX W X D Q (fun _ _=>False) (.returned v) w'):= by
  refine callsDIn_of_wpSIn_marks (R:=fun v u2 w'=>u2 = u' /\ PostX W X D Q (fun _ _=>False) (.returned v) w') hf hb trivial fun c₀ cs hu=>?_
  have hbody:c.wpSIn Fence.wide 0 P (bodyPostSM P fn c₀ cs fun v u2 w'=>u2 = u' /\ PostX W X D Q (fun _ _=>False) (.returned v) w') (({ tmps:=vs ++ Array.replicate (fn.ntmps - vs.size) undef,defers:=[] }:Act).put (some d) v0) ({ c₀ with mode:=u' } :: cs) W:= by
   refine wpSIn_of_wpIn rfl (Go.wpIn_mono hfin ?_)
   have fin:∀ (a:Act) (w:World) (s':ASt) (D':Nat -> Prop) (φ':Nat -> Value),Inv W ⟨D,X,none,false⟩ fn.ntmps s' D' φ' a w →
     (∃ ys sf,mapO (resFV T s') fn.results.toList = some ys /\ Le ⟨[(0,some (tupF ys))],s'.objs,s'.nxt⟩ sf /\ Q sf) →
     ∃ u2,({ c₀ with mode:=u' } :: cs:List Frame) = { c₀ with mode:=u2 } :: cs /\ TakesAll P a.defers w fun w'=>∃ v,(results fn a.tmps).run P w' = .ok v w' /\ (u2 = u' /\ PostX W X D Q (fun _ _=>False) (.returned v) w'):= by
    rintro ⟨tmps,dfs⟩ w s' D' φ' hI ⟨ys,sf,h1,h2,h3⟩
    obtain ⟨ms,q1,q2,q3⟩:=hI.defers
    have hdm:dfs = ms:=q1.of_none
    subst hdm
    refine ⟨u',rfl,takes_of_inv rfl dfs w hI q2 q3 fun w' hI'=>?_⟩
    obtain ⟨us,r1,r2,r3⟩:=run_results hT hI' h1
    obtain ⟨φ2,g1,g2,g3,g4,g5,g6⟩:=postX_of hI' h2
    refine ⟨_,r1,rfl,⟨sf,D',φ2,g1,g2,g3,g4,g5,.inl ⟨_,rfl,fun x hx=>?_,h3⟩⟩⟩
    obtain ⟨k1,y,k2,k3⟩:=g6 0 x hx
    cases k2
    exact ⟨k1,k3 _ (tup_rep r2 r3)⟩
   rintro e a w ⟨s',D',φ',hI,hq⟩
   cases e with
   | normal=>exact fin a w s' D' φ' hI hq
   | ret=>exact fin a w s' D' φ' hI hq
   | panic ch=>obtain ⟨_,_,_,_,_,hq⟩:=hq; exact hq.elim
   | _=>exact hq.elim
  refine wpSIn_seq (wpSIn_region ?_)
  have hw:∀ b,Region.wanted o b = true:=fun b=>by simp [Region.wanted,hg]
  obtain ⟨ts,ho⟩:=ho
  show wpOpsSIn _ _ _ #[o] _ [0] _ _ _
  have hrun:∀ a:Act,(execOp a.eval o).run P W = .ok .recover W:= by
   intro a
   simp only [execOp,ho,resolve,invoke,builtin,Sem.run_bind,Sem.run_pure,Result.andThen_ok]
  simp only [wpOpsSIn,List.getElem?_toArray,List.getElem?_cons_zero,hw,if_true,hrun]
  refine ⟨fun _ _=>trivial,?_⟩
  rcases hrec c₀ cs hu with h1|⟨h1,h2,h3⟩
  ·rw [h1]
   simp only [hd]
   exact hbody
  ·rw [h1]
   simp only [hd]
   rw [<- h2]
   have hc0:({ c₀ with mode:=u' }:Frame) = c₀:=by rw [h3,<- hu]
   rw [hc0] at hbody
   exact hbody
 exact key.mono fun e u2 w' ⟨v,he,h1,h2⟩=>by subst he; exact ⟨h1,h2⟩
end
end Go.Abs
namespace Go.Abs
open Go.RowKit
section
variable {P:Program} {T:Nat -> Option TyI} {nt:Nat} {s:ASt} {o:Oper} {ops:Array Oper} {rest:List Oper}
def AWR (P:Program) (nt:Nat) (c:Code) (R:World -> Bas -> Exit -> Act -> World -> Prop) (pd:Option Value) (s:ASt):Prop :=
 ∀ W0 D0 D φ a w,RoOK none W0 D0 -> D0.pd = pd -> Inv W0 D0 nt s D φ a w -> c.wpIn (FW none) 0 P (R W0 D0) a w
variable {R:World -> Bas -> Exit -> Act -> World -> Prop} {pd:Option Value}
theorem AWR_seq {x y:Code} {Qx:Exit -> ASt -> Prop} (hx:AW P nt x (Then (AWR P nt y R pd) Qx) s) (hQ:∀ W0 D0 e a w,RoOK none W0 D0 -> D0.pd = pd -> e ≠ .normal -> Lift W0 D0 nt Qx e a w -> R W0 D0 e a w):AWR P nt (.seq x y) R pd s:= by
 intro W0 D0 D φ a w hr hp hI
 refine Go.wpIn_seq (Go.wpIn_mono (hx none W0 D0 D φ a w hr hI) ?_)
 rintro e a' w' ⟨s',D',φ',hI',hq⟩
 cases e with
 | normal=>exact hq W0 D0 D' φ' a' w' hr hp hI'
 | _=>exact hQ W0 D0 _ a' w' hr hp (by simp) ⟨s',D',φ',hI',hq⟩
theorem AWR_end {x:Code} {Qx:Exit -> ASt -> Prop} (hx:AW P nt x Qx s) (hQ:∀ W0 D0 e a w,RoOK none W0 D0 -> D0.pd = pd -> Lift W0 D0 nt Qx e a w -> R W0 D0 e a w):AWR P nt x R pd s :=
 fun W0 D0 D φ a w hr hp hI=>Go.wpIn_mono (hx none W0 D0 D φ a w hr hI) fun e a' w' h=>hQ W0 D0 e a' w' hr hp h
theorem Inv.anchorF {W0:World} {D0:Bas} {D:Nat -> Prop} {φ:Nat -> Value} {a:Act} {w:World} (hI:Inv W0 D0 nt s D φ a w) {v:Value} {x:FV} (hl:x.lt s.nxt = true) (hr:FRep w D φ v x):∃ φ',Inv W0 D0 nt (s.newObj (.anc v x)) D φ' a w:= by
 refine ⟨addH φ s.nxt (.bool false),hI.new (Below.refl _ _) (fun _ h=>h) (fun _ h=>.inl h) (.anc v x) (.bool false) ?_ ?_ (by intro b hb; simp [blk] at hb)⟩
 ·exact hl
 ·exact hr.mono (n:=s.nxt) (fun _ _=>rfl) (fun _ h=>h) (fun id hid=>addH_old φ _ hid) hl
theorem AWR_defer {id g:Nat} {o1 o2:Oper} {y:Code} {f:Operand} {ts:Array TypeId} {caps:List FV} {s1:ASt} {Rf:World -> (Nat -> Prop) -> (Nat -> Prop) -> Exit -> Act -> World -> Prop}
  (hg1:o1.guard = none) (h1:OpTo P nt o1 s s1) (hg2:o2.guard = none) (ho:o2.op = .defer { callee:=.value f,args:=#[],argTypes:=ts }) (hd:o2.dst = none) (hf:s1.ev f = some (.fn g caps))
  (h:∀ v,AWR P nt y (fun W0 D0=>Rf W0 D0.d D0.x) (some v) (s1.newObj (.anc v (.fn g caps)))):AWR P nt (.seq (.region id #[o1,o2] false) y) (fun W0 D0=>Rf W0 D0.d D0.x) none s:= by
 intro W0 D0 D φ a w hr hp hI
 refine Go.wpIn_seq (wpIn_region_lit (l:=[o1,o2]) ?_)
 unfold wpListIn
 rw [if_pos (by simp [Region.wanted,hg1])]
 refine h1 none W0 D0 D φ a w hI _ _ fun D1 φ1 a1 w1 hI1=>?_
 unfold wpListIn
 rw [if_pos (by simp [Region.wanted,hg2])]
 obtain ⟨hl,hrf⟩:=hI1.ev hf
 generalize hv:a1.eval f = v at hrf
 refine ⟨fun _ _=>trivial,?_⟩
 rw [Oper.semAt_none]
 cases hrf with
 | fn _ vs _ hls hrs =>
  have hrun:(execOp a1.eval o2).run P w1 = .ok (.defer { target:=.fn (.func g) vs,args:=#[] }) w1:= by
   simp only [execOp,ho,resolve,hv,Deferred.ofValue,Sem.run_bind,Sem.run_pure,Result.andThen_ok,List.map_toArray,List.map_nil,Array.append_empty]
  rw [hrun,Oper.uponIn_defer]
  show wpListIn _ _ _ _ _ [] _ _
  refine wpListIn_nil ?_
  rw [hd]
  obtain ⟨φ2,hI2⟩:=hI1.anchorF hl (FRep.fn g vs caps hls hrs)
  have hI3:Inv W0 { D0 with pd:=some (.func (.func g) #[] vs) } nt (s1.newObj (.anc (.func (.func g) #[] vs) (.fn g caps))) D1 φ2 { a1 with defers:={ target:=.fn (.func g) vs,args:=#[] } :: a1.defers } w1:= by
   obtain ⟨ms,q1,q2,q3⟩:=hI2.defers
   rw [hp] at q1
   have q1:=q1.of_none
   exact ⟨hI2.below,hI2.size,⟨ms,⟨[],ms,rfl,by simp [pdl,q1]⟩,q2,q3⟩,hI2.dlt,hI2.dof,hI2.d0,hI2.env,hI2.objs,hI2.own,hI2.sep⟩
  exact h _ W0 { D0 with pd:=some (.func (.func g) #[] vs) } D1 φ2 _ w1 hr rfl hI3
theorem leaves_deferred {A g:Nat} {v:Value} {u u':FrameMode} {caps xs:List FV} {objs:List (Nat × AObj)} {n:Nat} {Qc:(Nat -> Value) -> ASt -> Prop} (m:List (Nat × Nat)) (kp:List Nat) (ancs:List (Nat × Nat))
  (hc:∀ av,DCallsX P g xs (objs ++ ancL av ancs) n (Qc av) u u') (hen:Enters P g) (hA:s.obj A = some (.anc v (.fn g caps))) (hx:argsX s m caps xs) (hxl:FV.ltL n xs = true)
  (hobj:handX s m n objs) (hinj:injB m (objs.map (·.1)) = true) (hanc:ancOK n objs ancs ancs) (hkp:∀ k ∈ kp,k ∈ objs.map (·.1)) (hk:∀ av sf,Qc av sf -> keptX s m ancs av sf kp)
  (hu:u ≠ .run) (hset:settle u' = .returning) {W0:World} {D0:Bas} {D:Nat -> Prop} {φ:Nat -> Value} {a:Act} {w:World} (hpd:D0.pd = some v) (hI:Inv W0 D0 nt s D φ a w) {fn:Func} {Rz:Ending -> World -> Prop}
  (hK:∀ av sf D' φ' w',Qc av sf -> Inv W0 { D0 with pd:=none } nt (afterX s m kp (objs.map (·.1)) sf) D' φ' { tmps:=a.tmps,defers:=[] } w' -> ∃ r,(results fn a.tmps).run P w' = .ok r w' /\ Rz (.returned r) w') :
  LeavesInM Fence.wide 0 P fn a.tmps Rz a.defers u w:= by
 obtain ⟨tmps,dfs⟩:=a
 obtain ⟨ms,⟨m1,m2,rfl,q1⟩,q2,q3⟩:=hI.defers
 simp only at q1 hK ⊢
 subst q1
 refine leaves_marks hu m1 w hI q2 q3 fun w1 hI1 n2 k2=>?_
 have hrv:FRep w1 D φ v (.fn g caps):=(hI1.objs A _ hA).2.2
 cases hrv with
 | fn _ vs _ hls hrs =>
  rw [hpd]
  show LeavesInM Fence.wide 0 P fn tmps Rz ({ target:=.fn (.func g) vs,args:=#[] } :: m2) u w1
  have hI2:Inv W0 { D0 with pd:=none } nt s D φ { tmps:=tmps,defers:=m2 } w1 :=
   ⟨hI1.below,hI1.size,⟨m2,⟨m2,[],by simp,by simp [pdl]⟩,n2,k2⟩,hI1.dlt,hI1.dof,hI1.d0,hI1.env,hI1.objs,hI1.own,hI1.sep⟩
  obtain ⟨av,φc,hE,hsz,hargs,key⟩:=callX_core m kp ancs hx hxl hobj hinj hanc hkp hI2 vs hls (fun j v' y hv' hy=>hrs j v' y hv' hy)
  refine ⟨hu,.inr ⟨fun h=>(by cases h),.func g,vs,g,#[] ++ vs,rfl,?_,fun _ _=>trivial,?_⟩⟩
  ·exact hen _ _
  ·rw [Array.empty_append]
   refine (hc av w1 D φc vs hE hsz hargs).mono ?_
   rintro e u2 w' ⟨rfl,hP⟩
   rcases key _ _ e w' (hk av) (fun _ _ h=>h.elim) hP with ⟨r,sf,D',φ2,rfl,hq,hI',_⟩|⟨r,t,sf,D',φ2,rfl,hq,_⟩
   ·show LeavesInM Fence.wide 0 P fn tmps Rz m2 (settle u2) w'
    rw [hset]
    refine leaves_end (by simp) rfl hI' fun w2 hI''=>?_
    obtain ⟨r,h1,h2⟩:=hK av sf D' φ2 w2 hq hI''
    exact ⟨r,h1,h2⟩
   ·exact hq.elim
def RfD (P:Program) (fn:Func) (Q:RV -> Prop) (W0:World) (d x:Nat -> Prop) (e:Exit) (a:Act) (w:World):Prop:=(∀ b,¬ x b) -> bodyPostM Fence.wide 0 P fn (CallPost W0 d Q) e a w
theorem ACalls.of_deferring {f : FuncId} {fn : Func} {c : Code} {ps : List PV} {Q : RV → Prop} (hf : P.funcs[f]? = some fn) (hb : fn.body = some c) (hname : (fn.name == "runtime.NumGoroutine") = false) (hn : Nat.ble ps.length fn.ntmps = true)
  (h:AWR P fn.ntmps c (fun W0 D0=>RfD P fn Q W0 D0.d D0.x) none (entry ps)):ACalls P f ps Q:= by
 refine ⟨enters_of hf hb hname,fun W D vs hD hr=>?_⟩
 have hn':=Nat.le_of_ble_eq_true hn
 refine (callsIn_wide (n:=0)).1 (callsIn_of_wp_marks hf hb trivial ?_)
 exact Go.wpIn_mono (h W ⟨D,fun _=>False,none,false⟩ D _ _ W ⟨rfl,fun l hl=>by cases hl⟩ rfl (entry_inv hD hr (by rw [hr.1]; exact hn'))) fun e a w h=>h (fun _ h=>h)
end
end Go.Abs
