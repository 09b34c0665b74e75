/- The acids that are possible, as they come; all of them. -/
import Derived.Test.YtpoaccdbakbjhaaGreatXG22
import Derived.Test.YtpoaccdbakbjhaaGreatXG19
import Derived.Test.YtpoaccdbakbjhaaGreatXG16
import Derived.Test.YtpoaccdbakbjhaaGreatXG17
import Derived.Test.YtpoaccdbakbjhaaGreatXG14
set_option linter.unusedVariables false
set_option linter.unusedSimpArgs false
namespace Go.Abs
open Go.Proofs
set_option maxRecDepth 100000
def bitsOK:Bool:=(List.range 32).all fun s=>(List.range 5).all fun i=>bitI (s:Int) i == hasI (s:Int) i
theorem bits_ok:bitsOK = true:=by decide +kernel
theorem bit_has {set:Int} {i:Nat} (h0:0 <= set) (h1:set < 32) (hi:i < 5):bitI set i = hasI set i:= by
 obtain ⟨n,rfl⟩:∃ n:Nat,set = n:=⟨set.toNat,by omega⟩
 have:=List.all_eq_true.1 (List.all_eq_true.1 bits_ok n (List.mem_range.2 (by omega))) i (List.mem_range.2 hi)
 simpa using this
theorem known_bd {d:Drum} (hd:DrumP d):0 <= d.known /\ d.known < 32:= by
 have h1:=hd.k0; have h2:=hd.k1; have h3:=hd.a1; have h4:=hd.a0
 have:(2:Int) ^ d.acids.length <= 16:= by
  generalize d.acids.length = n at *
  match n,h3,h4 with
  | 1,_,_=>decide
  | 2,_,_=>decide
  | 3,_,_=>decide
  | 4,_,_=>decide
 omega
def mayP (d:Drum) (p:Acid × Nat):Bool:=hasI d.known p.2 && mayB d p.1
def flK (d:Drum) (k:Nat):List (Acid × Nat):=(d.acids.zipIdx.take k).filter (mayP d)
theorem flK_all (d:Drum):flK d d.acids.length = filledL d:= by
 unfold flK filledL
 rw [List.take_of_length_le (by simp)]; rfl
theorem flK_succ {d:Drum} {k:Nat} {a:Acid} (h:d.acids[k]? = some a):flK d (k + 1) = flK d k ++ if mayP d (a,k) then [(a,k)] else []:= by
 have hz:d.acids.zipIdx[k]? = some (a,k):=by rw [List.getElem?_zipIdx,h]; simp
 unfold flK
 rw [List.take_add_one,hz,List.filter_append]
 congr 1
 cases h:mayP d (a,k) <;> simp [h]
theorem flK_get {d:Drum} {k:Nat} {a:Acid} (h:d.acids[k]? = some a) (hp:mayP d (a,k) = true):(filledL d)[(flK d k).length]? = some (a,k):= by
 have hk:k < d.acids.length:=(List.getElem?_eq_some_iff.1 h).1
 obtain ⟨r,hr⟩:∃ r,filledL d = flK d (k + 1) ++ r:=⟨(d.acids.zipIdx.drop (k + 1)).filter (mayP d),by
  unfold filledL flK
  rw [<- List.filter_append,List.take_append_drop]; rfl⟩
 rw [hr,flK_succ h,hp,if_pos rfl]
 simp
def filledY (d:Drum):List (List PV):=(filledL d).map fun p=>[.agg (eFilled d p)]
theorem f141 (d:Drum):ACalls Tryz.prog 85 [eDrum d] (fun r=>r = .pv (.fn 152 [.ptr (eDrumC d)])):= by
 refine ACalls.of_body hT Tryz.func85 rfl (by kernel_rfl) rfl ?_
 (repeat (refine stq ?_))
 exact ⟨_,_,rfl,rfl,rfl⟩
set_option maxHeartbeats 4000000 in
theorem it171 (d:Drum) (hd:DrumP d):IterOK Tryz.prog 152 [.ptr (eDrumC d)] (filledY d):= by
 intro E B hEL hE
 have h4:=hd.a1
 have hkb:=known_bd hd
 refine ACallsX.of_body hT Tryz.func152 rfl (by kernel_rfl) rfl ?_
 (repeat (refine stq ?_))
 refine AW_loopC (fun i:Nat × (Nat -> Prop)=>i.1 <= d.acids.length) (fun i=>mkSt [(0,.yld 0),(1,.pv (.ptr (eDrumC d))),(6,.pv (.sl (d.acids.map eAcid))),(7,.pv (vi d.acids.length)),(8,.pv (vi i.1))] [(0,.ext E (flK d i.1).length i.2)] 1)
  (fun i=>d.acids.length - i.1) (0,B) (Nat.zero_le _) ?_ ?_
 ·(refine Le.mk ?_ ?_; all_goals (repeat' (first|exact trivial|refine sle ?_|refine ⟨?_,rfl,?_⟩|refine ⟨?_,by decide,rfl,?_⟩|fail)))
 ·rintro ⟨k,Bk⟩ hk
  simp only at hk
  dsimp only
  (repeat (refine stq ?_))
  refine AW_if rfl (fun hc=>?_) (fun hc=>?_)
  ·have hk':k < d.acids.length:=by omega
   obtain ⟨a,hac⟩:∃ a,d.acids[k]? = some a:=⟨d.acids[k],by simp [hk']⟩
   have hs:=flK_succ hac
   have k145:=f145 d.known k
   have hbh:=bit_has hkb.1 hkb.2 (i:=k) (by omega)
   cases q:bitI d.known k with
   | false =>
    rw [q] at k145 hbh
    rw [show mayP d (a,k) = false by simp [mayP,<- hbh],if_neg (by simp),List.append_nil] at hs
    (repeat' (first|refine stq ?_|(refine AL_do2 rfl ?_; first|refine ⟨_,op_call1 rfl rfl rfl rfl (k145),nrmA rfl ?_⟩)|(with_reducible refine AL_id ?_); (fail_if_success (refine glq rfl rfl rfl ?_)); first|refine AL_gdec rfl rfl rfl (fun hg=>?_) (fun hg=>?_)|refine AL_gnot rfl rfl rfl (fun hg=>?_) (fun hg=>?_)|refine AL_gcases rfl rfl rfl (fun hg=>?_) (fun hg=>?_)))
    all_goals (try (exfalso; simp at hg; done))
    refine ⟨(k + 1,Bk),hk',by simp only; omega,?_⟩
    rw [hs]
    (refine Le.mk ?_ ?_; all_goals (repeat' (first|exact trivial|refine sle ?_|refine ⟨?_,rfl,?_⟩|refine ⟨?_,by decide,rfl,?_⟩|fail)))
   | true =>
    rw [q] at k145 hbh
    have k108:=fun av'=>f108a d a k hd hac av'
    cases hm:mayB d a with
    | false =>
     simp only [tryF,hm,Bool.false_eq_true,if_false] at k108
     rw [show mayP d (a,k) = false by simp [mayP,hm],if_neg (by simp),List.append_nil] at hs
     (repeat' (first|refine stq ?_|(refine AL_do2 rfl ?_; first|refine ⟨_,op_call1 rfl rfl rfl rfl (k145),nrmA rfl ?_⟩)|(with_reducible refine AL_id ?_); (fail_if_success (refine glq rfl rfl rfl ?_)); first|refine AL_gdec rfl rfl rfl (fun hg=>?_) (fun hg=>?_)|refine AL_gnot rfl rfl rfl (fun hg=>?_) (fun hg=>?_)|refine AL_gcases rfl rfl rfl (fun hg=>?_) (fun hg=>?_)))
     all_goals (try (exfalso; simp at hg; done))
     refine AL_doS rfl (op_callXs (objs:=fbO k zeroF) (n:=4) [(0,1),(1,2)] [0,1] [(2,0),(3,1)] k108 rfl rfl rfl rfl (by (repeat' (first|exact trivial|refine And.intro ?_ ?_)); all_goals (first|rfl|decide)) rfl (by (repeat' (first|exact trivial|refine And.intro ?_ ?_)); all_goals (first|rfl|decide)) rfl ⟨⟨rfl,rfl,⟨_,.head _⟩,rfl⟩,⟨rfl,rfl,⟨_,.tail _ (.head _)⟩,rfl⟩,trivial⟩ (by simp) (fun av' sf hsf=>by subst hsf; exact ⟨.inl ⟨2,by simp,rfl⟩,.inl ⟨3,by simp,rfl⟩,trivial⟩)) ?_
     ·rintro s' ⟨av',sf,rfl,rfl⟩
      (repeat (refine stq ?_))
      refine ⟨(k + 1,Bk),hk',by simp only; omega,?_⟩
      rw [hs]
      (refine Le.mk ?_ ?_; all_goals (repeat' (first|exact trivial|refine sle ?_|refine ⟨?_,rfl,?_⟩|refine ⟨?_,by decide,rfl,?_⟩|fail)))
    | true =>
     simp only [tryF,hm,if_true] at k108
     have hp:mayP d (a,k) = true:=by simp [mayP,hm,<- hbh]
     have hx1:E.L[(flK d k).length]? = some [.agg (eFilled d (a,k))]:= by
      rw [hEL,filledY,List.getElem?_map,flK_get hac hp]; rfl
     rw [hp,if_pos rfl] at hs
     (repeat' (first|refine stq ?_|(refine AL_do2 rfl ?_; first|refine ⟨_,op_call1 rfl rfl rfl rfl (k145),nrmA rfl ?_⟩)|(with_reducible refine AL_id ?_); (fail_if_success (refine glq rfl rfl rfl ?_)); first|refine AL_gdec rfl rfl rfl (fun hg=>?_) (fun hg=>?_)|refine AL_gnot rfl rfl rfl (fun hg=>?_) (fun hg=>?_)|refine AL_gcases rfl rfl rfl (fun hg=>?_) (fun hg=>?_)))
     all_goals (try (exfalso; simp at hg; done))
     refine AL_doS rfl (op_callXs (objs:=fbO k zeroF) (n:=4) [(0,1),(1,2)] [0,1] [(2,0),(3,1)] k108 rfl rfl rfl rfl (by (repeat' (first|exact trivial|refine And.intro ?_ ?_)); all_goals (first|rfl|decide)) rfl (by (repeat' (first|exact trivial|refine And.intro ?_ ?_)); all_goals (first|rfl|decide)) rfl ⟨⟨rfl,rfl,⟨_,.head _⟩,rfl⟩,⟨rfl,rfl,⟨_,.tail _ (.head _)⟩,rfl⟩,trivial⟩ (by simp) (fun av' sf hsf=>by subst hsf; exact ⟨.inl ⟨2,by simp,rfl⟩,.inl ⟨3,by simp,rfl⟩,trivial⟩)) ?_
     ·rintro s' ⟨av',sf,rfl,rfl⟩
      (repeat (refine stq ?_))
      refine AL_doS rfl (op_yield hE rfl rfl rfl rfl rfl hx1) ?_
      rintro s' ⟨B',rfl⟩
      (repeat (refine stq ?_))
      refine ⟨(k + 1,B'),hk',by simp only; omega,?_⟩
      rw [hs,List.length_append]
      (refine Le.mk ?_ ?_; all_goals (repeat' (first|exact trivial|refine sle ?_|refine ⟨?_,rfl,?_⟩|refine ⟨?_,by decide,rfl,?_⟩|fail)))
  ·have hk':k = d.acids.length:=by omega
   subst hk'
   (repeat (refine stq ?_))
   refine ⟨_,mkSt [] [(0,.ext E (filledY d).length Bk)] 1,rfl,?_,Bk,rfl⟩
   rw [show (filledY d).length = (flK d d.acids.length).length by rw [flK_all]; simp [filledY]]
   (refine Le.mk ?_ ?_; all_goals (repeat' (first|exact trivial|refine sle ?_|refine ⟨?_,rfl,?_⟩|refine ⟨?_,by decide,rfl,?_⟩|fail)))
end Go.Abs
namespace Go.Abs
open Go.RowKit
section
variable {P:Program} {T:Nat -> Option TyI} {nt:Nat} {s:ASt} {o:Oper} {ops:Array Oper}
theorem op_appendW {t e id sz:Nat} {x0 x:Operand} {ti ei:TyI} {es ys:List (List PV)} (hT:TabOK P T) (ho:o.op = .call { callee:=.builtin .append,args:=#[x0,x],argTypes:=#[t,t] }) (hd:dstB nt o.dst = true)
  (ht:T t = some ti) (hk:ti.kind = .slice e) (he:T e = some ei) (hpos:Nat.blt 0 ei.size = true) (hzl:Nat.beq ei.zero.length ei.size = true) (hx0:s.ev x0 = some (.arr id)) (hob:s.obj id = some (.arr e sz es)) (hsz:Nat.beq sz ei.size = true)
  (hy:s.srcOf x = some ys) (hyl:∀ y ∈ ys,y.length = sz) (hmax:es.length + ys.length <= 1000000) (hby:Nat.ble ei.bytes 4096 = true) :
  OpTo P nt o s (((s.setObj id none).newObj (.arr e sz (es ++ ys))).putO o.dst (some (.arr s.nxt))):= by
 intro ro W0 D0 D φ a w hI K Q hK
 have hs:sz = ei.size:=Nat.eq_of_beq_eq_true hsz
 have hp:0 < sz:=by rw [hs]; simpa using hpos
 have hzl':=Nat.eq_of_beq_eq_true hzl
 have hby':=Nat.le_of_ble_eq_true hby
 obtain ⟨info,z,i1,i2,i3,i4,i5⟩:=(hT.ty he).info
 have hund:=(hT.ty ht).slice hk
 obtain ⟨hid,_,xs,hown,hxr⟩:=hI.objs id _ hob
 have hv0:a.eval x0 = φ id:= by
  have:=(hI.ev hx0).2
  generalize a.eval x0 = v at this
  cases this with
  | arr id n c ad h=>exact h.symm
 obtain ⟨ad,m,c,hvx,hm,hsrc⟩:=hI.src hy hyl hp
 have hzc:z.cells.size = sz:= by
  have:=(zrepL_ok i5).1
  simp at this; omega
 have hWle:=hI.below.size
 have hbytes:(es.length + ys.length) * ei.bytes <= 140737488355328:= by
  have:=Nat.mul_le_mul hmax hby'
  omega
 have hml:es.length + ys.length <= maxLen:=by simp only [maxLen]; omega
 have key:∃ v' w',(Builtin.append_ #[t,t] o.type #[φ id,a.eval x]).run P w = .ok v' w' /\ (∃ xs',w'.ownsRow 0 e sz v' (es ++ ys).length xs' /\ XRep w' D sz xs' (es ++ ys)) /\ w.grownBy w' (φ id).ownBlock /\
   ∀ g,blk v' = some g -> blk (φ id) = some g \/ (w.heap.size <= g /\ g < w'.heap.size):= by
  rcases hsrc with rfl|⟨b,news,rfl,hnl,hnc,hnr⟩
  ·obtain ⟨a0,c0,hv,hnc⟩:=ownsRow_slice hown
   refine ⟨φ id,w,?_,⟨xs,by simpa using hown,by simpa using hxr⟩,⟨rfl,rfl,rfl,Nat.le_refl _,fun _ _ _=>rfl⟩,fun g hg=>.inl hg⟩
   rw [hvx,hv,hm]
   exact run_append_zero w hund i1 _ _ _ _ _ hnc
  ·have hm0:0 < m \/ ys = []:= by
    cases ys with
    | nil=>exact .inr rfl
    | cons y ys=>left; rw [hm]; simp
   rcases hm0 with hm0|rfl
   ·obtain ⟨v',w',hr,h2,h3,h4⟩:=run_append_blk (P:=P) w (ty:=o.type) (c:=c) hund i1 i4 (by rw [i2,hs]) i3 hzc hp hown (by rw [hm]; exact hnl) hnc (hnr.oneCell hnl hp) hm0 (by rw [hm]; exact hml) (by rw [hm]; exact hbytes) (Nat.zero_le _)
    refine ⟨v',w',by rw [hvx]; exact hr,⟨xs ++ news,by rw [List.length_append,<- hm]; exact h2,?_⟩,h3,h4⟩
    have hDb:∀ b,D b -> w'.heap[b]? = w.heap[b]?:= by
     intro b hb
     refine h3.block b (hI.dlt b hb) ?_
     intro e
     obtain ⟨a0,c0,hv,_⟩:=ownsRow_slice hown
     have:=blk_own (φ id) ⟨_,_,_,hv⟩
     exact (hI.own id _ b hob (by show blk (φ id) = some b; rw [<- this]; exact e.symm)).1 hb
    exact (hxr.append hown.1 hnr).mono hDb (fun _ h=>h)
   ·obtain ⟨a0,c0,hv,hnc'⟩:=ownsRow_slice hown
    refine ⟨φ id,w,?_,⟨xs,by simpa using hown,by simpa using hxr⟩,⟨rfl,rfl,rfl,Nat.le_refl _,fun _ _ _=>rfl⟩,fun g hg=>.inl hg⟩
    rw [hvx,hv,hm]
    exact run_append_zero w hund i1 _ _ _ _ _ hnc'
 obtain ⟨v',w',hr,⟨xs',hown',hxr'⟩,hg,hbk⟩:=key
 obtain ⟨a0,c0,hv,_⟩:=ownsRow_slice hown
 have hbo:=blk_own (φ id) ⟨_,_,_,hv⟩
 obtain ⟨a1,c1,hv',_⟩:=ownsRow_slice hown'
 have hrun:(execOp a.eval o).run P w = .ok (.value v') w':= by
  simp only [execOp,ho,resolve,invoke,builtin,Sem.run_bind,Sem.run_pure,Result.andThen_ok,List.map_toArray,List.map_cons,List.map_nil,hv0,hr]
 refine wpIn_of (by rw [ho]; intro c hc; cases hc) ?_
 unfold Oper.wp
 rw [hrun]
 have hN:Inv W0 D0 nt ((s.setObj id none).newObj (.arr e sz (es ++ ys))) D (addH φ s.nxt v') a w':= by
  refine hI.chg s.nxt (fun j=>j = id) ⟨hg.os,hg.tape,hg.output,hg.size,fun k hk=>absurd hk (Nat.not_lt_zero _)⟩ ?_ (fun _ h=>h) (fun b hb=>.inl hb) (fun j hj=>addH_old _ _ hj) (Nat.le_succ _) (fun t x hx=>hx) ?_ ?_
  ·intro b hb hne
   refine hg.block b hb fun e=>?_
   exact hne id _ rfl hob (by show blk (φ id) = some b; rw [<- hbo]; exact e.symm)
  ·intro id' ob' hne ho'
   rw [ASt.obj_newObj] at ho'
   have hn2:(s.setObj id none).nxt = s.nxt:=rfl
   rw [hn2,if_neg (fun e=>hne e.symm),ASt.obj_setObj] at ho'
   by_cases h2:id = id'
   ·rw [if_pos h2] at ho'; cases ho'
   ·rw [if_neg h2] at ho'; exact ⟨fun e=>h2 e.symm,ho'⟩
  ·intro ob' ho'
   rw [ASt.obj_newObj] at ho'
   have hn2:(s.setObj id none).nxt = s.nxt:=rfl
   rw [hn2,if_pos rfl] at ho'
   cases ho'
   refine ⟨Nat.lt_succ_self _,rfl,⟨xs',by rw [addH_new]; exact hown',hxr'⟩,?_⟩
   intro b hb
   have hb2:blk v' = some b:=by simpa [oblk,addH_new] using hb
   rcases hbk b hb2 with h5|⟨h5,h6⟩
   ·have hob2:oblk φ id (.arr e sz es) b:=h5
    obtain ⟨g1,g2,g3⟩:=hI.own id _ b hob hob2
    exact ⟨g1,Nat.lt_of_lt_of_le g3 hg.size,.inr ⟨id,_,rfl,hob,hob2⟩⟩
   ·exact ⟨fun h=>by have:=hI.dlt b h; omega,h6,.inl h5⟩
 refine hK D _ _ _ (hN.put o.dst (dstB_lt hd) _ _ fun x' hx'=>?_)
 cases hx'
 refine ⟨by simp [FV.lt,ASt.newObj,ASt.setObj],?_⟩
 rw [hv']
 refine .arr _ _ _ _ ?_
 rw [addH_new]
theorem D_quo {t t':TypeId} {x y:Operand} {k:IntKind} {m n r:Int} (hg:guardT ops s o = true) (ho:o.op = .binOp .quo t x y t') (hd:dstB nt o.dst = true) (hx:s.ev x = some (.pv (.int k m))) (hy:s.ev y = some (.pv (.int k n))) (hn:¬ n = 0) (hr:k.wrap (m.tdiv n) = r) :
  StepOK P nt ops o s ⟨some (.pv (.int k r)),false,[],[]⟩ (s.putO o.dst (some (.pv (.int k r)))):= by
 subst hr
 exact StepOK.mkP hg fun s1 h1 _=>op_quo ho hd (by rw [ev_agree h1 (by simp [ho,Op.operands])]; exact hx) (by rw [ev_agree h1 (by simp [ho,Op.operands])]; exact hy) hn
end
end Go.Abs
namespace Go.Abs
open Go.Proofs
set_option maxRecDepth 100000
def askedE (d:Drum) (fine:Bool):List (Acid × Nat) × Int:=if drumB d && fine then (if (filledL d).length = 0 then ([],7) else (filledL d,0)) else ([],2)
theorem filled_len {d:Drum} (hd:DrumP d):(filledL d).length <= 4:= by
 unfold filledL
 have h1:=List.length_filter_le (fun p:Acid × Nat=>hasI d.known p.2 && mayB d p.1) d.acids.zipIdx
 have:=hd.a1
 simp at h1
 omega
set_option maxHeartbeats 4000000 in
theorem f84 (d:Drum) (fine:Bool) (hd:drumOK d):ACalls Tryz.prog 32 [eDrum d,.bool fine] (fun r=>r = .tup [eFilledL d (askedE d fine).1,vi (askedE d fine).2]):= by
 have k104:=f104 d hd
 refine ACalls.of_body hT Tryz.func32 rfl (by kernel_rfl) rfl ?_
 cases q1:drumB d with
 | false =>
  rw [q1] at k104
  (repeat' (first|refine stq ?_|(refine AL_do2 rfl ?_; first|refine ⟨_,op_call1 rfl rfl rfl rfl (k104),nrmA rfl ?_⟩)|(with_reducible refine AL_id ?_); (fail_if_success (refine glq rfl rfl rfl ?_)); first|refine AL_gdec rfl rfl rfl (fun hg=>?_) (fun hg=>?_)|refine AL_gnot rfl rfl rfl (fun hg=>?_) (fun hg=>?_)|refine AL_gcases rfl rfl rfl (fun hg=>?_) (fun hg=>?_)))
  all_goals (try (exfalso; simp at hg; done))
  exact ⟨_,_,rfl,rfl,by simp [askedE,q1,eFilledL]⟩
 | true =>
  rw [q1] at k104
  cases fine with
  | false =>
   (repeat' (first|refine stq ?_|(refine AL_do2 rfl ?_; first|refine ⟨_,op_call1 rfl rfl rfl rfl (k104),nrmA rfl ?_⟩)|(with_reducible refine AL_id ?_); (fail_if_success (refine glq rfl rfl rfl ?_)); first|refine AL_gdec rfl rfl rfl (fun hg=>?_) (fun hg=>?_)|refine AL_gnot rfl rfl rfl (fun hg=>?_) (fun hg=>?_)|refine AL_gcases rfl rfl rfl (fun hg=>?_) (fun hg=>?_)))
   all_goals (try (exfalso; simp at hg; done))
   exact ⟨_,_,rfl,rfl,by simp [askedE,q1,eFilledL]⟩
  | true =>
   have hP:=drumP_of.1 q1
   have hfl:=filled_len hP
   (repeat' (first|refine stq ?_|(refine AL_do2 rfl ?_; first|refine ⟨_,op_call1 rfl rfl rfl rfl (k104),nrmA rfl ?_⟩|refine ⟨_,op_call1 rfl rfl rfl rfl (f141 d),nrmA rfl ?_⟩)|(with_reducible refine AL_id ?_); (fail_if_success (refine glq rfl rfl rfl ?_)); first|refine AL_gdec rfl rfl rfl (fun hg=>?_) (fun hg=>?_)|refine AL_gnot rfl rfl rfl (fun hg=>?_) (fun hg=>?_)|refine AL_gcases rfl rfl rfl (fun hg=>?_) (fun hg=>?_)))
   all_goals (try (exfalso; simp at hg; done))
   refine AW_nilBox 1 0 172 8 rfl rfl ?_
   refine AW_range (gf:=152) (caps:=[.ptr (eDrumC d)]) (L:=filledY d) [6] [(6,.box 1 0)] (fun av k (_:Unit)=>[(1,.box [.arr 2]),(2,.arr 172 8 (((filledL d).take k).map (eFilled d))),(3,.anc (av 6) (.box 1 0))]) (fun _ _=>True) 4 [3] () trivial
    ?_ (it171 d hP) ?_ ?_ ?_ ?_ ?_ ?_
   ·rfl
   ·intro p hp
    simp only [List.mem_cons,List.not_mem_nil,or_false] at hp; subst hp; rfl
   ·intro x hx
    simp only [filledY,List.mem_map] at hx
    obtain ⟨y,_,rfl⟩:=hx; rfl
   ·intro av j i
    ((repeat' (first|exact trivial|refine And.intro ?_ ?_)); all_goals (first|rfl|decide))
   ·intro av
    (refine Le.mk ?_ ?_; all_goals (repeat' (first|exact trivial|refine sle ?_|refine ⟨?_,rfl,?_⟩|refine ⟨?_,by decide,rfl,?_⟩|fail)))
   ·intro av k _ x _ hx
    obtain ⟨p,hp,rfl⟩:∃ p,(filledL d)[k]? = some p /\ [.agg (eFilled d p)] = x:= by
     rw [filledY,List.getElem?_map,Option.map_eq_some_iff] at hx; exact hx
    have htk:(filledL d).take (k + 1) = (filledL d).take k ++ [p]:=by rw [List.take_add_one,hp]; rfl
    have htl:((filledL d).take k).length <= 1000:=by simp; omega
    generalize (filledL d).take k = ts at *
    (repeat (refine stq ?_))
    refine AL_do2 rfl ⟨_,op_appendW hT rfl rfl rfl rfl rfl rfl rfl rfl rfl rfl rfl (by intro y hy; (first|(simp only [List.mem_cons,List.not_mem_nil,or_false] at hy; subst hy; rfl)|(simp only [List.mem_cons,List.not_mem_nil,or_false] at hy; rcases hy with hy|hy <;> subst hy <;> rfl)|(obtain ⟨_,_,rfl⟩:=List.mem_map.1 hy; rfl)|(cases hy))) (by simp only [List.length_map,List.length_take,List.length_cons,List.length_nil,List.length_append]; omega) rfl,?_⟩
    (repeat (refine stq ?_))
    refine roundQ_intro () trivial ?_
    rw [htk]
    (refine Le.mkR [(1,1),(2,6),(3,3)] ?_ ?_ rfl; all_goals (repeat' (first|exact trivial|refine sle ?_|refine ⟨?_,rfl,?_⟩|refine ⟨?_,by decide,rfl,?_⟩|fail)))
    rw [List.map_append]; rfl
   ·intro av _ _
    rw [show (filledY d).length = (filledL d).length by simp [filledY],List.take_length]
    refine AW_arrBox (b:=1) 0 rfl rfl rfl rfl ?_
    (repeat (refine stq ?_))
    refine AW_if rfl (fun hc=>?_) (fun hc=>?_)
    ·(repeat (refine stq ?_))
     exact ⟨_,_,rfl,rfl,by
      have:(filledL d).length = 0:=by have:=hc; simp at this; simp [this]
      simp [askedE,q1,this,eFilledL]⟩
    ·(repeat (refine stq ?_))
     exact ⟨_,_,rfl,rfl,by
      have:¬ (filledL d).length = 0:=fun h=>hc (by simp [h])
      simp [askedE,q1,this,eFilledL]⟩
end Go.Abs
namespace Go.Abs
open Go.Proofs
set_option maxRecDepth 100000
theorem map_take_succ {α β:Type} (f:α -> β) {l:List α} {k:Nat} {x:α} (h:l[k]? = some x):(l.take (k + 1)).map f = (l.take k).map f ++ [f x]:= by
 rw [List.take_add_one,h]; simp
theorem strong_at {d:Drum} {a:Acid} {h:Nat} (hh:h < d.hours.toNat):((strongL d a).map eSpan)[h]? = some (eSpan (strongS d a h)):=map_get (strongL_get hh)
theorem f85 (d:Drum) (p:Acid × Nat) (h:Nat) (hh:h < d.hours.toNat):ACalls Tryz.prog 196 [.agg (eFilled d p),vi h] (fun r=>r = .pv (vi (strongS d p.1 h).low)):= by
 have e1:=strong_at (a:=p.1) hh
 have hl:=strongL_len d p.1
 refine ACalls.of_body hT Tryz.func196 rfl (by kernel_rfl) rfl ?_
 (repeat' (first|refine stq ?_|(with_reducible refine AL_id ?_); (fail_if_success (refine glq rfl rfl rfl ?_)); first|refine AL_gdec rfl rfl rfl (fun hg=>?_) (fun hg=>?_)|refine AL_gnot rfl rfl rfl (fun hg=>?_) (fun hg=>?_)|refine AL_gcases rfl rfl rfl (fun hg=>?_) (fun hg=>?_)))
 exact ⟨_,_,rfl,rfl,rfl⟩
theorem f86 (d:Drum) (p:Acid × Nat) (h:Nat) (hh:h < d.hours.toNat):ACalls Tryz.prog 197 [.agg (eFilled d p),vi h] (fun r=>r = .pv (vi (strongS d p.1 h).high)):= by
 have e1:=strong_at (a:=p.1) hh
 have hl:=strongL_len d p.1
 refine ACalls.of_body hT Tryz.func197 rfl (by kernel_rfl) rfl ?_
 (repeat' (first|refine stq ?_|(with_reducible refine AL_id ?_); (fail_if_success (refine glq rfl rfl rfl ?_)); first|refine AL_gdec rfl rfl rfl (fun hg=>?_) (fun hg=>?_)|refine AL_gnot rfl rfl rfl (fun hg=>?_) (fun hg=>?_)|refine AL_gcases rfl rfl rfl (fun hg=>?_) (fun hg=>?_)))
 exact ⟨_,_,rfl,rfl,rfl⟩
def errE (d:Drum) (fine:Bool):Int:=(askedE d fine).2
theorem asked_ok {d:Drum} {fine:Bool} (h:errE d fine = 0):DrumP d /\ fine = true /\ filledL d ≠ [] /\ askedE d fine = (filledL d,0):= by
 unfold errE at h
 unfold askedE at h ⊢
 split at h
 ·rename_i h1
  rw [if_pos h1]
  simp only [Bool.and_eq_true] at h1
  split at h
  ·cases h
  ·rename_i h2
   rw [if_neg h2]
   exact ⟨drumP_of.1 h1.1,h1.2,fun e=>h2 (by rw [e]; rfl),rfl⟩
 ·cases h
theorem asked_err {d:Drum} {fine:Bool} (h:errE d fine ≠ 0):askedE d fine = ([],errE d fine):= by
 unfold errE at h ⊢
 unfold askedE at h ⊢
 split
 ·split
  ·rfl
  ·rename_i h1 h2; rw [if_pos h1,if_neg h2] at h; exact absurd rfl h
 ·rfl
end Go.Abs
namespace Go.Abs
def inS (s:Span) (n:Int):Prop:=s.low <= n /\ n <= s.high
def openS (s:Span):Bool:=decide (s.low <= s.high)
def meetL (l:List Span):Span:=l.foldl common ⟨0,12⟩
def winP1 (d:Drum) (b:Batch):Span:=if smoothI d b < 0 then ⟨1,0⟩ else ⟨smoothI d b,thinI d b⟩
def winP (d:Drum):List Span:=d.batches.map (winP1 d)
def pick (W:List Span) (p:Nat -> Bool):List Span:=(W.zipIdx.filter fun x=>p x.2).map (·.1)
theorem foldl_common (l:List Span):∀ (x:Span) (n:Int),inS (l.foldl common x) n ↔ inS x n /\ ∀ s ∈ l,inS s n:= by
 induction l with
 | nil=>intro x n; simp
 | cons s l ih =>
  intro x n
  rw [List.foldl_cons,ih]
  simp only [List.mem_cons,forall_eq_or_imp,inS,common]
  constructor
  ·rintro ⟨h1,h2⟩; exact ⟨by omega,by omega,h2⟩
  ·rintro ⟨h1,h2,h3⟩; exact ⟨by omega,h3⟩
theorem meet_iff {l:List Span} {n:Int}:inS (meetL l) n ↔ (0 <= n /\ n <= 12) /\ ∀ s ∈ l,inS s n:= by
 rw [meetL,foldl_common]; rfl
theorem pick_mem {W:List Span} {p:Nat -> Bool} {s:Span}:s ∈ pick W p ↔ ∃ i,W[i]? = some s /\ p i = true:= by
 simp only [pick,List.mem_map,List.mem_filter]
 constructor
 ·rintro ⟨⟨x,i⟩,⟨h1,h2⟩,rfl⟩
  exact ⟨i,List.mem_zipIdx_iff_getElem?.1 h1,h2⟩
 ·rintro ⟨i,h1,h2⟩
  exact ⟨(s,i),⟨List.mem_zipIdx_iff_getElem?.2 h1,h2⟩,rfl⟩
theorem pick_iff {W:List Span} {p:Nat -> Bool} {n:Int}:inS (meetL (pick W p)) n ↔ (0 <= n /\ n <= 12) /\ ∀ i s,W[i]? = some s -> p i = true -> inS s n:= by
 rw [meet_iff]
 simp only [pick_mem]
 exact ⟨fun ⟨h1,h2⟩=>⟨h1,fun i s hi hp=>h2 s ⟨i,hi,hp⟩⟩,fun ⟨h1,h2⟩=>⟨h1,fun s ⟨i,hi,hp⟩=>h2 i s hi hp⟩⟩
theorem win1_iff {d:Drum} {b:Batch} {n:Int}:inS (winP1 d b) n ↔ 0 <= smoothI d b /\ smoothI d b <= n /\ n <= thinI d b:= by
 unfold winP1
 split
 ·simp only [inS]; constructor <;> intro h <;> omega
 ·simp only [inS]; constructor <;> intro h <;> omega
def sureB (d:Drum) (b:Batch) (h:Nat):Bool:=decide ((boundsI d b h).rough.high <= b.goal) && decide ((boundsI d b h).thick.low >= b.least)
theorem sure_iff {d:Drum} (hd:DrumP d) (hne:filledL d ≠ []) {b:Batch} (hb:BatchP3 b) {h:Nat} (hh:h <= d.hours.toNat):sureB d b h = true ↔ inS (winP1 d b) h:= by
 rw [win1_iff]
 simp only [sureB,Bool.and_eq_true,decide_eq_true_eq]
 rw [smooth_spec hd hne hb hh,thin_spec hd hne hb hh]
 constructor
 ·rintro ⟨⟨h1,h2⟩,h3⟩; exact ⟨h1,h2,h3⟩
 ·rintro ⟨h1,h2,h3⟩; exact ⟨⟨h1,h2⟩,h3⟩
def allW (d:Drum):Span:=meetL (pick (winP d) fun _=>true)
theorem all_iff {d:Drum} {n:Int}:inS (allW d) n ↔ (0 <= n /\ n <= 12) /\ ∀ b ∈ d.batches,inS (winP1 d b) n:= by
 unfold allW
 rw [pick_iff]
 refine and_congr_right fun _=>?_
 simp only [winP,List.getElem?_map,Option.map_eq_some_iff]
 constructor
 ·intro h b hb
  obtain ⟨i,hi⟩:=List.mem_iff_getElem?.1 hb
  exact h i _ ⟨b,hi,rfl⟩ trivial
 ·rintro h i s ⟨b,hb,rfl⟩ _
  exact h b (List.mem_of_getElem? hb)
theorem all_sure {d:Drum} (hd:DrumP d) (hne:filledL d ≠ []) {h:Nat} (hh:h <= d.hours.toNat):inS (allW d) h ↔ ∀ b ∈ d.batches,sureB d b h = true:= by
 rw [all_iff]
 have:=hd.h1
 constructor
 ·rintro ⟨_,h2⟩ b hb; exact (sure_iff hd hne (hd.batch b hb) hh).2 (h2 b hb)
 ·intro h2; exact ⟨by omega,fun b hb=>(sure_iff hd hne (hd.batch b hb) hh).1 (h2 b hb)⟩
end Go.Abs
namespace Go.Abs
def label (seen:List Nat):List Nat -> List Nat
 | []=>[]
 | c :: l=>if c ∈ seen then seen.idxOf c :: label seen l else seen.length :: label (seen ++ [c]) l
end Go.Abs
namespace Go.Abs
open Go.Proofs
set_option maxRecDepth 100000
theorem first_at {p:Nat -> Bool} {n h:Nat} (h1:∀ j,j < h -> p j = false) (h2:p h = true) (h3:h < n):firstI p n 0 = h:= by
 rcases firstI_spec p n 0 with ⟨_,g⟩|⟨m,g1,_,g3,g4,g5⟩
 ·have:=g h (by omega) (by omega); rw [h2] at this; cases this
 ·have:m = h:= by
   rcases Nat.lt_trichotomy m h with q|q|q
   ·have:=h1 m q; rw [g4] at this; cases this
   ·exact q
   ·have:=g5 h (by omega) q; rw [h2] at this; cases this
  rw [g1,this]
theorem first_none {p:Nat -> Bool} {n:Nat} (h1:∀ j,j < n -> p j = false):firstI p n 0 = -1:= by
 rcases firstI_spec p n 0 with ⟨g,_⟩|⟨m,g1,_,g3,g4,g5⟩
 ·exact g
 ·have:=h1 m (by omega); rw [g4] at this; cases this
end Go.Abs
namespace Go.Abs
open Go.Proofs
set_option maxRecDepth 100000
def bdU (c:Int) (l:List Int):Prop:=∀ x ∈ l,0 <= x /\ x <= c
theorem sumI_bdU {c:Int}:∀ {l:List Int},bdU c l -> 0 <= sumI l /\ sumI l <= c * l.length
 | [],_=>by simp [sumI]
 | x :: l,h=>by
  have h1:=h x (by simp)
  have h2:=sumI_bdU (l:=l) fun y hy=>h y (by simp [hy])
  simp only [sumI,List.length_cons,Int.natCast_add,Int.mul_add]
  omega
theorem f170 (l:List Int) (hl:l.length <= 1000) (hb:bdU 2000 l):ACalls Tryz.prog 100 [eInts l] (fun r=>r = .pv (vi (sumI l))):= by
 refine ACalls.of_body hT Tryz.func100 rfl (by kernel_rfl) rfl ?_
 (repeat (refine stq ?_))
 refine AW_loopC (fun k:Nat=>k <= l.length) (fun k=>mkSt [(3,.pv (vi (sumI (l.take k)))),(6,.pv (eInts l)),(7,.pv (vi l.length)),(8,.pv (vi k))] [] 0) (fun k=>l.length - k) 0 (Nat.zero_le _) ?_ ?_
 ·(refine Le.mk ?_ ?_; all_goals (repeat' (first|exact trivial|refine sle ?_|refine ⟨?_,rfl,?_⟩|refine ⟨?_,by decide,rfl,?_⟩|fail)))
 ·intro k hk
  (repeat (refine stq ?_))
  refine AW_if rfl (fun hc=>?_) (fun hc=>?_)
  ·have hk':k < l.length:=by omega
   obtain ⟨x,hx⟩:∃ x,l[k]? = some x:=⟨l[k],by simp [hk']⟩
   have e1:=get_map eInt hx
   have hs:sumI (l.take (k + 1)) = sumI (l.take k) + x:=by rw [List.take_add_one,hx,sumI_append]; simp [sumI]
   have hxb:=hb x (List.mem_of_getElem? hx)
   have hsb:=sumI_bdU (c:=2000) (l:=l.take k) fun y hy=>hb y (List.mem_of_mem_take hy)
   rw [List.length_take] at hsb
   generalize sumI (l.take k) = u at *
   (repeat (refine stq ?_))
   refine ⟨k + 1,hk',by omega,?_⟩
   rw [hs]
   (refine Le.mk ?_ ?_; all_goals (repeat' (first|exact trivial|refine sle ?_|refine ⟨?_,rfl,?_⟩|refine ⟨?_,by decide,rfl,?_⟩|fail)))
  ·have hk':k = l.length:=by omega
   subst hk'
   rw [List.take_length]
   (repeat (refine stq ?_))
   exact ⟨_,_,rfl,rfl,rfl⟩
theorem eat_bd {n p:Int} (hn:0 <= n) (hn2:n <= 1400) (hp:0 <= p) (hp2:p <= 100):0 <= n * p /\ n * p <= 140000 /\ 0 <= eatI n p /\ eatI n p <= 1400:= by
 have h1:0 <= n * p:=Int.mul_nonneg hn hp
 have h2:n * p <= 1400 * 100:=Int.mul_le_mul hn2 hp2 hp (by decide)
 have h3:eatI n p = (n * p) / 100:=by unfold eatI; rw [Int.tdiv_eq_ediv_of_nonneg h1]
 rw [h3]
 omega
theorem wrap_small {x:Int} (h:-1000000 <= x /\ x <= 1000000):IntKind.i64.wrap x = x:= by
 unfold IntKind.wrap; simp [IntKind.signed,IntKind.bits]; omega
def eatL (t:List Int) (p:Int) (h:Nat):List Int:=(t.take h).map fun n=>eatI n p
theorem eatL_succ {t:List Int} {p:Int} {h:Nat} {x:Int} (hx:t[h]? = some x):eatL t p (h + 1) = eatL t p h ++ [eatI x p]:= by
 unfold eatL; rw [map_take_succ (fun n=>eatI n p) hx]
theorem eatL_bd {t:List Int} {p:Int} {h:Nat} (ht:bdU 1400 t) (hp:0 <= p /\ p <= 100):bdU 2000 (eatL t p h):=fun x hx=>by
 obtain ⟨n,hn,rfl⟩:=List.mem_map.1 hx
 have h1:=ht n (List.mem_of_mem_take hn)
 have:=eat_bd h1.1 h1.2 hp.1 hp.2
 omega
set_option maxHeartbeats 4000000 in
theorem f136c (b:Batch) (hb:BatchP3 b) (hours:Nat) (hh:hours <= 12) (g:Nat) (caps:List PV) (t:List Int) (hl:hours <= t.length) (ht:bdU 1400 t) (hg:∀ (i:Nat) (x:Int),t[i]? = some x -> ACalls Tryz.prog g ([vi i] ++ caps) (fun r=>r = .pv (vi x))) :
  ACalls Tryz.prog 41 [.agg (eBatch b),vi hours,.fn g caps] (fun r=>r = .pv (.agg (eState (stateI b t hours)))):= by
 have hp0:=hb.p0; have hp1:=hb.p1; have he0:=hb.e0; have he1:=hb.e1
 have hr0:=hb.r0; have hr1:=hb.r1; have ht0:=hb.t0; have ht1:=hb.t1
 refine ACalls.of_body hT Tryz.func41 rfl (by kernel_rfl) rfl ?_
 (repeat (refine stq ?_))
 refine AW_own_nil (e:=3) (sz:=1) (t:=7) rfl rfl ?_
 refine AW_own_nil (e:=3) (sz:=1) (t:=8) rfl rfl ?_
 (repeat (refine stq ?_))
 refine AW_loopC (fun k:Nat=>k <= hours) (fun k=>mkSt [(2,.pv (.fn g caps)),(3,.box 0 0),(6,.box 1 0),(7,.arr 2),(8,.arr 3),(11,.pv (vi hours)),(12,.pv (vi k))] [(0,.box ((eBatch b).map FV.pv)),(1,.box [.pv (vi 0),.pv (vi 0)]),(2,.arr 3 1 ((eatL t b.polish k).map eInt)),(3,.arr 3 1 ((eatL t b.eat k).map eInt))] 4) (fun k=>hours - k) 0 (Nat.zero_le _) ?_ ?_
 ·(refine Le.mk ?_ ?_; all_goals (repeat' (first|exact trivial|refine sle ?_|refine ⟨?_,rfl,?_⟩|refine ⟨?_,by decide,rfl,?_⟩|fail)))
 ·intro k hk
  (repeat (refine stq ?_))
  refine AW_if rfl (fun hc=>?_) (fun hc=>?_)
  ·have hk':k < hours:=by omega
   obtain ⟨x,hx⟩:∃ x,t[k]? = some x:=⟨t[k]'(by omega),by simp⟩
   have hxb:=ht x (List.mem_of_getElem? hx)
   have q1:=eat_bd hxb.1 hxb.2 hp0 hp1
   have q2:=eat_bd hxb.1 hxb.2 he0 he1
   have m1:-9223372036854775808 <= x * b.polish /\ x * b.polish <= 9223372036854775807:=by omega
   have m2:-9223372036854775808 <= x * b.eat /\ x * b.eat <= 9223372036854775807:=by omega
   have w1:IntKind.i64.wrap ((x * b.polish).tdiv 100) = eatI x b.polish:=wrap_small (show -1000000 <= eatI x b.polish /\ eatI x b.polish <= 1000000 by omega)
   have w2:IntKind.i64.wrap ((x * b.eat).tdiv 100) = eatI x b.eat:=wrap_small (show -1000000 <= eatI x b.eat /\ eatI x b.eat <= 1000000 by omega)
   have s1:=eatL_succ (p:=b.polish) hx
   have s2:=eatL_succ (p:=b.eat) hx
   have l1:(eatL t b.polish k).length <= 1000:=by simp [eatL]; omega
   have l2:(eatL t b.eat k).length <= 1000:=by simp [eatL]; omega
   generalize eatL t b.polish k = u at *
   generalize eatL t b.eat k = v at *
   (repeat' (first|refine stq ?_|(refine AL_do2 rfl ?_; first|refine ⟨_,op_call1 rfl rfl rfl rfl (hg k x hx),nrmA rfl ?_⟩)|(with_reducible refine AL_id ?_); (fail_if_success (refine glq rfl rfl rfl ?_)); first|refine AL_gdec rfl rfl rfl (fun hg=>?_) (fun hg=>?_)|refine AL_gnot rfl rfl rfl (fun hg=>?_) (fun hg=>?_)|refine AL_gcases rfl rfl rfl (fun hg=>?_) (fun hg=>?_)))
   (repeat (first|refine DG_next (D_quo rfl rfl rfl rfl rfl (by decide) w1) ?_|refine DG_next (D_quo rfl rfl rfl rfl rfl (by decide) w2) ?_|refine sdq ?_))
   refine DG_end hM (by kernel_rfl) ?_
   (repeat (refine stq ?_))
   refine ⟨k + 1,hk',by omega,?_⟩
   rw [s1,s2]
   (refine Le.mkR [(0,0),(1,1),(2,4),(3,5)] ?_ ?_ rfl; all_goals (repeat' (first|exact trivial|refine sle ?_|refine ⟨?_,rfl,?_⟩|refine ⟨?_,by decide,rfl,?_⟩|fail)))
   ·rw [List.map_append]; rfl
   ·rw [List.map_append]; rfl
  ·have hk':k = hours:=by omega
   subst hk'
   have b1:=eatL_bd (p:=b.polish) (h:=k) ht ⟨hp0,hp1⟩
   have b2:=eatL_bd (p:=b.eat) (h:=k) ht ⟨he0,he1⟩
   have l1:(eatL t b.polish k).length <= 12:=by simp [eatL]; omega
   have l2:(eatL t b.eat k).length <= 12:=by simp [eatL]; omega
   have k1:=f170 (eatL t b.polish k) (by omega) b1
   have k2:=f170 (eatL t b.eat k) (by omega) b2
   have q1:=sumI_bdU b1
   have q2:=sumI_bdU b2
   have hs:stateI b t k = ⟨max 0 (b.rough - sumI (eatL t b.polish k)),max 0 (b.thick - sumI (eatL t b.eat k))⟩:=rfl
   rw [hs]
   generalize eatL t b.polish k = u at *
   generalize eatL t b.eat k = v at *
   refine AW_pure (t:=7) rfl rfl ?_
   refine AW_pure (t:=8) rfl rfl ?_
   (repeat (refine stq ?_))
   (repeat (first|refine sdq ?_|refine DG_next (D_call rfl rfl rfl rfl rfl (k1)) ?_|refine DG_next (D_call rfl rfl rfl rfl rfl (k2)) ?_))
   refine DG_end hM (by kernel_rfl) ?_
   (repeat (refine stq ?_))
   exact ⟨_,_,rfl,rfl,rfl⟩
set_option maxHeartbeats 4000000 in
theorem f136m (b:Batch) (hb:BatchP3 b) (hours:Nat) (hh:hours <= 12) (g:Nat) (first:List PV) (t:List Int) (hl:hours <= t.length) (ht:bdU 1400 t) (hg:∀ (i:Nat) (x:Int),t[i]? = some x -> ACalls Tryz.prog g (first ++ [vi i]) (fun r=>r = .pv (vi x))) :
  ACalls Tryz.prog 41 [.agg (eBatch b),vi hours,.meth g first] (fun r=>r = .pv (.agg (eState (stateI b t hours)))):= by
 have hp0:=hb.p0; have hp1:=hb.p1; have he0:=hb.e0; have he1:=hb.e1
 have hr0:=hb.r0; have hr1:=hb.r1; have ht0:=hb.t0; have ht1:=hb.t1
 refine ACalls.of_body hT Tryz.func41 rfl (by kernel_rfl) rfl ?_
 (repeat (refine stq ?_))
 refine AW_own_nil (e:=3) (sz:=1) (t:=7) rfl rfl ?_
 refine AW_own_nil (e:=3) (sz:=1) (t:=8) rfl rfl ?_
 (repeat (refine stq ?_))
 refine AW_loopC (fun k:Nat=>k <= hours) (fun k=>mkSt [(2,.pv (.meth g first)),(3,.box 0 0),(6,.box 1 0),(7,.arr 2),(8,.arr 3),(11,.pv (vi hours)),(12,.pv (vi k))] [(0,.box ((eBatch b).map FV.pv)),(1,.box [.pv (vi 0),.pv (vi 0)]),(2,.arr 3 1 ((eatL t b.polish k).map eInt)),(3,.arr 3 1 ((eatL t b.eat k).map eInt))] 4) (fun k=>hours - k) 0 (Nat.zero_le _) ?_ ?_
 ·(refine Le.mk ?_ ?_; all_goals (repeat' (first|exact trivial|refine sle ?_|refine ⟨?_,rfl,?_⟩|refine ⟨?_,by decide,rfl,?_⟩|fail)))
 ·intro k hk
  (repeat (refine stq ?_))
  refine AW_if rfl (fun hc=>?_) (fun hc=>?_)
  ·have hk':k < hours:=by omega
   obtain ⟨x,hx⟩:∃ x,t[k]? = some x:=⟨t[k]'(by omega),by simp⟩
   have hxb:=ht x (List.mem_of_getElem? hx)
   have q1:=eat_bd hxb.1 hxb.2 hp0 hp1
   have q2:=eat_bd hxb.1 hxb.2 he0 he1
   have m1:-9223372036854775808 <= x * b.polish /\ x * b.polish <= 9223372036854775807:=by omega
   have m2:-9223372036854775808 <= x * b.eat /\ x * b.eat <= 9223372036854775807:=by omega
   have w1:IntKind.i64.wrap ((x * b.polish).tdiv 100) = eatI x b.polish:=wrap_small (show -1000000 <= eatI x b.polish /\ eatI x b.polish <= 1000000 by omega)
   have w2:IntKind.i64.wrap ((x * b.eat).tdiv 100) = eatI x b.eat:=wrap_small (show -1000000 <= eatI x b.eat /\ eatI x b.eat <= 1000000 by omega)
   have s1:=eatL_succ (p:=b.polish) hx
   have s2:=eatL_succ (p:=b.eat) hx
   have l1:(eatL t b.polish k).length <= 1000:=by simp [eatL]; omega
   have l2:(eatL t b.eat k).length <= 1000:=by simp [eatL]; omega
   generalize eatL t b.polish k = u at *
   generalize eatL t b.eat k = v at *
   (repeat' (first|refine stq ?_|(refine AL_do2 rfl ?_; first|refine ⟨_,op_callM rfl rfl rfl rfl (hg k x hx),nrmA rfl ?_⟩)|(with_reducible refine AL_id ?_); (fail_if_success (refine glq rfl rfl rfl ?_)); first|refine AL_gdec rfl rfl rfl (fun hg=>?_) (fun hg=>?_)|refine AL_gnot rfl rfl rfl (fun hg=>?_) (fun hg=>?_)|refine AL_gcases rfl rfl rfl (fun hg=>?_) (fun hg=>?_)))
   (repeat (first|refine DG_next (D_quo rfl rfl rfl rfl rfl (by decide) w1) ?_|refine DG_next (D_quo rfl rfl rfl rfl rfl (by decide) w2) ?_|refine sdq ?_))
   refine DG_end hM (by kernel_rfl) ?_
   (repeat (refine stq ?_))
   refine ⟨k + 1,hk',by omega,?_⟩
   rw [s1,s2]
   (refine Le.mkR [(0,0),(1,1),(2,4),(3,5)] ?_ ?_ rfl; all_goals (repeat' (first|exact trivial|refine sle ?_|refine ⟨?_,rfl,?_⟩|refine ⟨?_,by decide,rfl,?_⟩|fail)))
   ·rw [List.map_append]; rfl
   ·rw [List.map_append]; rfl
  ·have hk':k = hours:=by omega
   subst hk'
   have b1:=eatL_bd (p:=b.polish) (h:=k) ht ⟨hp0,hp1⟩
   have b2:=eatL_bd (p:=b.eat) (h:=k) ht ⟨he0,he1⟩
   have l1:(eatL t b.polish k).length <= 12:=by simp [eatL]; omega
   have l2:(eatL t b.eat k).length <= 12:=by simp [eatL]; omega
   have k1:=f170 (eatL t b.polish k) (by omega) b1
   have k2:=f170 (eatL t b.eat k) (by omega) b2
   have q1:=sumI_bdU b1
   have q2:=sumI_bdU b2
   have hs:stateI b t k = ⟨max 0 (b.rough - sumI (eatL t b.polish k)),max 0 (b.thick - sumI (eatL t b.eat k))⟩:=rfl
   rw [hs]
   generalize eatL t b.polish k = u at *
   generalize eatL t b.eat k = v at *
   refine AW_pure (t:=7) rfl rfl ?_
   refine AW_pure (t:=8) rfl rfl ?_
   (repeat (refine stq ?_))
   (repeat (first|refine sdq ?_|refine DG_next (D_call rfl rfl rfl rfl rfl (k1)) ?_|refine DG_next (D_call rfl rfl rfl rfl rfl (k2)) ?_))
   refine DG_end hM (by kernel_rfl) ?_
   (repeat (refine stq ?_))
   exact ⟨_,_,rfl,rfl,rfl⟩
theorem f137 (acid:Int) (t:List Int) (i:Nat) (x:Int) (hx:t[i]? = some x):ACalls Tryz.prog 42 [vi i,.ptr [vi acid,eInts t]] (fun r=>r = .pv (vi x)):= by
 have e1:=get_map eInt hx
 have hl:i < t.length:=(List.getElem?_eq_some_iff.1 hx).1
 refine ACalls.of_body hT Tryz.func42 rfl (by kernel_rfl) rfl ?_
 (repeat' (first|refine stq ?_|(with_reducible refine AL_id ?_); (fail_if_success (refine glq rfl rfl rfl ?_)); first|refine AL_gdec rfl rfl rfl (fun hg=>?_) (fun hg=>?_)|refine AL_gnot rfl rfl rfl (fun hg=>?_) (fun hg=>?_)|refine AL_gcases rfl rfl rfl (fun hg=>?_) (fun hg=>?_)))
 exact ⟨_,_,rfl,rfl,rfl⟩
end Go.Abs
