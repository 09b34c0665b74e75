/- A range over a function that its body may leave: the last round is left by 'ret'. -/
import Derived.Test.YtpoaccdbakbjhaaGreatXG14
set_option linter.unusedVariables false
set_option linter.unusedSimpArgs false
namespace Go.Abs
open Go.RowKit
def Ext.Last (P:Program) (E:Ext) (x:List PV):Prop:=∀ (B D:Nat -> Prop) (w:World) (vs:Array Value),E.J E.L.length B D w -> B E.l -> RepL w D vs x -> (∀ b,D b -> b < w.heap.size) →
 (∀ b,B b -> b < w.heap.size /\ ¬ D b) -> ∃ f tmps assign body,(Instr.yield E.l vs).run P w = .ok (.round E.l f tmps assign body) w /\
  RoundIn Fence.wide 0 P E.l f tmps assign body w (fun e w'=>∃ B' D',e = .returned (.bool false) /\ BelowX B w w' /\ (∀ c,D c -> D' c) /\ (∀ c,D' c -> D c \/ B c \/ w.heap.size <= c) /\ (∀ c,D' c -> c < w'.heap.size) /\ B' E.l /\
   (∀ c,B' c -> (B c \/ w.heap.size <= c) /\ c < w'.heap.size /\ ¬ D' c) /\ E.J (E.L.length + 1) B' D' w')
section
variable {P:Program} {T:Nat -> Option TyI} {nt:Nat} {s:ASt} {o:Oper} {ops:Array Oper} {rest:List Oper} {Q:Exit -> ASt -> Prop}
theorem op_yieldL {f:Operand} {args:Array Operand} {ts:Array TypeId} {id k:Nat} {E:Ext} {B:Nat -> Prop} {x:List PV} (hE:E.Last P x) (ho:o.op = .call { callee:=.value f,args,argTypes:=ts }) (hd:dstB nt o.dst = true)
  (hf:s.ev f = some (.yld id)) (hob:s.obj id = some (.ext E k B)) (ha:mapO s.evD args.toList = some x) (hx:k = E.L.length) :
  OpToS P nt o s (fun s'=>∃ B',s' = (s.setObj id (some (.ext E (E.L.length + 1) B'))).putO o.dst (some (.pv (.bool false)))):= by
 intro ro W0 D0 D φ a w hI K Q hK
 obtain ⟨l,hl1,hv⟩:=FRep.inv_yld (hI.ev hf).2
 obtain ⟨hid,_,hm,hl2,hBl,hJ⟩:=hI.objs id _ hob
 have hll:l = E.l:=by rw [hl1] at hl2; cases hl2; rfl
 subst hll
 have hargs:=evD_args hI ha
 subst hx
 obtain ⟨f',tmps,assign,body,hy,hround⟩:=hE B D w (args.map a.eval) hJ hBl hargs hI.dlt fun b hb=>⟨(hI.own id _ b hob hb).2.2,(hI.own id _ b hob hb).1⟩
 have hrun:(execOp a.eval o).run P w = .ok (.round E.l f' tmps assign body) w:= by
  simp only [execOp,ho,resolve,hv,Deferred.ofValue,Sem.run_bind,Sem.run_pure,Result.andThen_ok,invoke,Array.empty_append]
  exact hy
 refine ⟨fun _ _=>trivial,?_⟩
 rw [Oper.semAt_eq _ _ _ (by rw [ho]; intro c hc; cases hc),hrun]
 refine ⟨fun hd=>(by cases hd),RoundIn.mono (F:=Fence.wide) hround ?_⟩
 rintro e w' ⟨B',D',rfl,h1,h2,h3,h4,h5,h6,h7⟩
 refine hK _ D' φ _ w' ⟨B',rfl⟩ ?_
 refine Inv.put (s:=s.setObj id (some (.ext E (E.L.length + 1) B'))) (hI.chg (s':=s.setObj id (some (.ext E (E.L.length + 1) B'))) id (fun j=>j = id) ⟨h1.os,h1.tape,h1.output,h1.size,fun k hk=>absurd hk (Nat.not_lt_zero _)⟩ ?_ h2 ?_ (fun _ _=>rfl) (Nat.le_refl _) (fun t x hx=>hx) ?_ ?_) o.dst (dstB_lt hd) _ (some (.pv (.bool false))) fun x' hx'=>by cases hx'; exact ⟨rfl,.pv _ _ (.bool _)⟩
 ·intro b hb hne
  exact h1.block b hb fun hB=>hne id _ rfl hob hB
 ·intro b hb
  rcases h3 b hb with q|q|q
  ·exact .inl q
  ·exact .inr ⟨h4 b hb,.inr ⟨id,_,rfl,hob,q⟩⟩
  ·exact .inr ⟨h4 b hb,.inl q⟩
 ·intro id' ob' hne ho'
  rw [ASt.obj_setObj,if_neg (fun e=>hne e.symm)] at ho'
  exact ⟨hne,ho'⟩
 ·intro ob' ho'
  rw [ASt.obj_setObj,if_pos rfl] at ho'
  cases ho'
  refine ⟨hid,rfl,⟨hm,hl2,h5,h7⟩,fun b hb=>?_⟩
  obtain ⟨q1,q2,q3⟩:=h6 b hb
  refine ⟨q3,q2,?_⟩
  rcases q1 with q|q
  ·exact .inr ⟨id,_,rfl,hob,q⟩
  ·exact .inl q
def LastQ {ι:Type} (I:Nat -> ι -> ASt) (J:Nat -> ι -> Prop) (k:Nat):Exit -> ASt -> Prop
 | .ret,s=>∃ j,J k j /\ Le s.bare (I k j).bare
 | _,_=>False
def recX (n:Nat) (rec:Loop) (k:Nat):Loop:=if k <= n then rec else { rec with state:=.done,pending:=some .ret }
def loopX {ι:Type} (L:List (List PV)) (I:Nat -> ι -> ASt) (J:Nat -> ι -> Prop) (l:Nat) (mk:Option Nat) (rec:Loop):Ext:=⟨L,l,fun k=>loopJ I J l mk (recX L.length rec k) k⟩
theorem loopX_mono {ι:Type} {L:List (List PV)} {I:Nat -> ι -> ASt} {J:Nat -> ι -> Prop} {l:Nat} {mk:Option Nat} {rec:Loop}:(loopX L I J l mk rec).Mono :=
 fun k B D D' w w'=>loopE_mono (L:=L) (rec:=recX L.length rec k) k B D D' w w'
theorem loopX_round {ι:Type} {L:List (List PV)} {I:Nat -> ι -> ASt} {J:Nat -> ι -> Prop} {l:Nat} {mk:Option Nat} {rec:Loop} (h:(loopE L I J l mk rec).Round P):(loopX L I J l mk rec).Round P:= by
 intro k x B D w vs hJ hBl hx hvs hDlt hBok
 have hx':L[k]? = some x:=hx
 have hk:k < L.length:=(List.getElem?_eq_some_iff.1 hx').1
 have hJ':loopJ I J l mk (recX L.length rec k) k B D w:=hJ
 rw [recX,if_pos (by omega)] at hJ'
 obtain ⟨f,tmps,as,bd,h1,h2⟩:=h k x B D w vs hJ' hBl hx hvs hDlt hBok
 refine ⟨f,tmps,as,bd,h1,RoundIn.mono h2 ?_⟩
 rintro e w' ⟨B',D',g1,g2,g3,g4,g5,g6,g7,g8⟩
 refine ⟨B',D',g1,g2,g3,g4,g5,g6,g7,?_⟩
 show loopJ I J l mk (recX L.length rec (k + 1)) (k + 1) B' D' w'
 rw [recX,if_pos (by omega)]; exact g8
theorem loopX_last {ι:Type} {L:List (List PV)} {I:Nat -> ι -> ASt} {J:Nat -> ι -> Prop} {l:Nat} {mk:Option Nat} {rec:Loop} {av:Nat -> Value} (hst:rec.state = .ready) (hpe:rec.pending = none) (hnt:rec.tmps.size = nt) (hav:∀ t,av t = rec.tmps.getD t undef)
  (hps:∀ p ∈ rec.params.toList,p < nt) {x:List PV} (hxl:x.length = rec.params.size) (hanc:∀ k i,EnvAnc nt av (I k i))
  (hround:∀ i,J L.length i -> AW P nt rec.assign (Then (fun s2=>AW P nt rec.body (LastQ I J (L.length + 1)) s2) (fun _ _=>False)) (putPs (I L.length i) rec.params.toList x)):(loopX L I J l mk rec).Last P x:= by
 intro B D w vs hJ hBl hvs hDlt hBok
 obtain ⟨k,hkL⟩:∃ k,k = L.length:=⟨_,rfl⟩
 have hJ:loopJ I J l mk (recX L.length rec L.length) L.length B D w:=hJ
 rw [recX,if_pos (Nat.le_refl _),<- hkL] at hJ
 rw [<- hkL] at hround
 obtain ⟨i,D1,φ1,hJi,h1,h2,h3,h4,h5,h6⟩:=hJ
 have hvl:vs.size = rec.params.size:=by rw [hvs.1]; exact hxl
 have h3':w.heap[l]? = some (.loop rec):=h3
 have hlw:l < w.heap.size:=(Array.getElem?_eq_some_iff.1 h3').1
 have hlD:¬ D l:=(hBok l ((h5 l).2 (.inl rfl))).2
 show ∃ f tmps assign body,(Instr.yield l vs).run P w = .ok (.round l f tmps assign body) w /\ RoundIn Fence.wide 0 P l f tmps assign body w _
 refine ⟨rec.fn,_,rec.assign,rec.body,run_yield h3' hvl,roundIn_of_wpIn trivial ?_⟩
 have hH:Held (I k i) D φ1 w:=h1.wider h2 hDlt fun b hb=>(hBok b ((h5 b).2 (.inr (.inr hb)))).2
 have hE0:EnvOK (I k i) D φ1 rec.tmps w:= by
  intro t y hy
  obtain ⟨q1,a',q2⟩:=hanc k i t y hy
  obtain ⟨_,q3,q4⟩:=hH.objs a' _ q2
  refine ⟨q3,av t,?_,q4⟩
  have ht:t < rec.tmps.size:=by omega
  rw [hav,Array.getD_eq_getD_getElem?,Array.getElem?_eq_getElem ht]; rfl
 obtain ⟨g1,g2⟩:=putPs_ok rec.params.toList vs.toList x (I k i) rec.tmps hE0 (fun p hp=>by rw [hnt]; exact hps p hp) (by simpa using hvs.1) (fun j v y hv hy=>hvs.2 j v y (by simpa using hv) hy)
 have hzip:(rec.params.zip vs).foldl (fun t (p,v)=>t.setIfInBounds p v) rec.tmps = (rec.params.toList.zip vs.toList).foldl (fun t (p,v)=>t.setIfInBounds p v) rec.tmps:= by
  rw [<- Array.foldl_toList]; simp
 obtain ⟨o1,o2⟩:=putPs_objs rec.params.toList x (I k i)
 have hob:∀ id,(putPs (I k i) rec.params.toList x).obj id = (I k i).obj id:=fun id=>by unfold ASt.obj; rw [o1]
 generalize hS:putPs (I k i) rec.params.toList x = S at *
 have hX:∀ b,ownS S φ1 b ↔ ownS (I k i) φ1 b:=fun b=>by unfold ownS; simp only [hob]
 have hI:Inv w ⟨D,ownS S φ1,none,true⟩ nt S D φ1 { tmps:=(rec.params.toList.zip vs.toList).foldl (fun t (p,v)=>t.setIfInBounds p v) rec.tmps,defers:=[] } w:= by
  refine ⟨BelowX.refl _ _,by rw [<- hnt]; exact g2,⟨[],.nil,.nil,by simp⟩,hDlt,fun b hb=>.inl hb,fun b hb=>hb,g1,fun id ob ho=>?_,fun id ob b ho hb=>?_,fun id ob id' ob' b ho ho'=>?_⟩
  ·rw [hob] at ho
   obtain ⟨q1,q2,q3⟩:=hH.objs id ob ho
   rw [o2]; exact ⟨q1,q2,q3.base⟩
  ·have ho2:=ho
   rw [hob] at ho
   obtain ⟨q1,q2⟩:=hH.own id ob b ho hb
   exact ⟨q1,.inl ⟨id,ob,ho2,hb⟩,q2⟩
  ·rw [hob] at ho ho'
   exact hH.sep id ob id' ob' b ho ho'
 have hXl:¬ ownS S φ1 l:=fun h=>h6 ((hX l).1 h)
 rw [hzip]
 refine Go.wpIn_mono (F:=FW (some l)) ((hS ▸ hround i hJi) (some l) w ⟨D,ownS S φ1,none,true⟩ D φ1 _ w ⟨rfl,fun l' hl'=>by cases hl'; exact ⟨⟨rec,h3'⟩,hXl⟩⟩ hI) ?_
 rintro e a1 w1 ⟨s2,D2,φ2,hI2,hq⟩
 cases e with
 | normal =>
  have hX2:∀ b,ownS s2 φ2 b -> ownS S φ1 b \/ w.heap.size <= b:=fun b ⟨id,ob,ho,hb⟩=>(hI2.own id ob b ho hb).2.1
  have hl2:¬ ownS s2 φ2 l:=fun h=>by
   rcases hX2 l h with q|q
   ·exact hXl q
   ·omega
  have hD2:∀ b,b < w.heap.size -> ¬ D b -> ¬ ownS S φ1 b -> ¬ D2 b:=fun b hb hd hx h=>by
   rcases hI2.dof b h with q|q|q
   ·exact hd q
   ·exact hx q
   ·exact absurd hb (Nat.not_lt.2 q)
  have hl1:w1.heap[l]? = some (.loop rec):=(hI2.below.block l hlw hXl).trans h3'
  have hlw1:l < w1.heap.size:=(Array.getElem?_eq_some_iff.1 hl1).1
  refine ⟨_,run_beginRound hl1 hst,?_⟩
  generalize hw2:w1.putObj l (.loop { rec with state:=.busy }) = w2
  have e2l:w2.heap[l]? = some (.loop { rec with state:=.busy }):=by rw [<- hw2]; exact World.putObj_heap_same hlw1
  have e2o:∀ b,b ≠ l -> w2.heap[b]? = w1.heap[b]?:=fun b hb=>by rw [<- hw2]; exact World.putObj_heap_other hb
  have e2s:w2.heap.size = w1.heap.size:=by rw [<- hw2]; simp
  have hI3:Inv w2 ⟨D2,ownS s2 φ2,none,true⟩ nt s2 D2 φ2 a1 w2:= by
   have hms:a1.defers = []:= by
    obtain ⟨ms,q1,q2,q3⟩:=hI2.defers
    cases ms with
    | nil=>exact q1.of_none
    | cons d ms=>obtain ⟨_,_,_,q,_⟩:=q3 d (by simp); cases q.1
   have hDs:∀ b,D2 b -> w2.heap[b]? = w1.heap[b]?:=fun b hb=>e2o b (by rintro rfl; exact hD2 _ hlw hlD hXl hb)
   refine ⟨BelowX.refl _ _,hI2.size,⟨[],by rw [hms]; exact .nil,.nil,by simp⟩,fun b hb=>by rw [e2s]; exact hI2.dlt b hb,fun b hb=>.inl hb,fun b hb=>hb,fun t y hy=>?_,fun id ob ho=>?_,fun id ob b ho hb=>?_,hI2.sep⟩
   ·obtain ⟨q1,v,q2,q3⟩:=hI2.env t y hy
    exact ⟨q1,v,q2,q3.mono hDs (fun _ h=>h) (fun _ _=>rfl) q1⟩
   ·obtain ⟨q1,q2,q3⟩:=hI2.objs id ob ho
    exact ⟨q1,q2,(q3.keep q2 q1 hDs (fun _ h=>h) (fun _ _=>rfl) fun b hb=>e2o b (by rintro rfl; exact hl2 ⟨id,ob,ho,hb⟩)).base⟩
   ·obtain ⟨q1,q2,q3⟩:=hI2.own id ob b ho hb
    exact ⟨q1,.inl ⟨id,ob,ho,hb⟩,by rw [e2s]; exact q3⟩
  have hq:AW P nt rec.body (LastQ I J (k + 1)) s2:=hq
  refine Go.wpIn_mono (F:=FW (some l)) (hq (some l) w2 ⟨D2,ownS s2 φ2,none,true⟩ D2 φ2 a1 w2 ⟨rfl,fun l' hl'=>by cases hl'; exact ⟨⟨_,e2l⟩,hl2⟩⟩ hI3) ?_
  rintro e3 a3 w3 ⟨s3,D3,φ3,hI4,hq3⟩
  cases e3 with
  | ret =>
   obtain ⟨j,hJj,hle⟩:=hq3
   have e3l:w3.heap[l]? = some (.loop { rec with state:=.busy }):=(hI4.below.block l (by rw [e2s]; exact hlw1) hl2).trans e2l
   have hl3s:l < w3.heap.size:=(Array.getElem?_eq_some_iff.1 e3l).1
   obtain ⟨φ4,k1,k2,_⟩:=(Held.bare.2 hI4.held).le hle
   have k1:=Held.bare.1 k1
   have k2:∀ b,ownS (I (k + 1) j) φ4 b -> ownS s3 φ3 b:=k2
   have k3:∀ b,ownS (I (k + 1) j) φ4 b -> ownS (I k i) φ1 b \/ w.heap.size <= b:=fun b hb=>by
    obtain ⟨id,ob,ho,hb'⟩:=k2 b hb
    rcases (hI4.own id ob b ho hb').2.1 with q|q
    ·exact (hX2 b q).imp (hX b).1 (fun h=>h)
    ·exact .inr (Nat.le_trans hI2.below.size (by rw [<- e2s]; exact q))
   have k4:∀ b,D3 b -> D b \/ B b \/ w.heap.size <= b:=fun b hb=>by
    rcases hI4.dof b hb with q|q|q
    ·rcases hI2.dof b q with q|q|q
     ·exact .inl q
     ·exact .inr (.inl ((h5 b).2 (.inr (.inr ((hX b).1 q)))))
     ·exact .inr (.inr q)
    ·rcases hX2 b q with q|q
     ·exact .inr (.inl ((h5 b).2 (.inr (.inr ((hX b).1 q)))))
     ·exact .inr (.inr q)
    ·exact .inr (.inr (Nat.le_trans hI2.below.size (by rw [<- e2s]; exact q)))
   have k5:∀ b,b < w.heap.size -> ¬ D b -> ¬ ownS (I k i) φ1 b -> ¬ D3 b:=fun b hb hd hx h=>by
    rcases hI4.dof b h with q|q|q
    ·exact hD2 b hb hd (fun h=>hx ((hX b).1 h)) q
    ·rcases hX2 b q with q|q
     ·exact hx ((hX b).1 q)
     ·omega
    ·have:w2.heap.size <= b:=q
     have:=hI2.below.size; omega
   have k6:∀ b,b < w.heap.size -> ¬ ownS (I k i) φ1 b -> ¬ ownS s3 φ3 b:=fun b hb hx ⟨id,ob,ho,hb'⟩=>by
    rcases (hI4.own id ob b ho hb').2.1 with q|q
    ·rcases hX2 b q with q|q
     ·exact hx ((hX b).1 q)
     ·omega
    ·have:w2.heap.size <= b:=q
     have:=hI2.below.size; omega
   have hres:=run_endRound (P:=P) (some .ret) e3l
   refine ⟨_,_,hres,?_⟩
   obtain ⟨rec2,hrec2⟩:∃ r,r = recX L.length rec (k + 1):=⟨_,rfl⟩
   have hrec:({ ({ rec with state:=LoopState.busy }:Loop) with state:=if (some Code.ret).isNone then LoopState.ready else LoopState.done,pending:=some .ret }:Loop) = rec2:= by
    rw [hrec2]; unfold recX; rw [if_neg (show ¬ k + 1 <= L.length by omega)]; rfl
   have fin:∀ {B' D':Nat -> Prop} {w':World},loopJ I J l mk rec2 (k + 1) B' D' w' -> (loopX L I J l mk rec).J ((loopX L I J l mk rec).L.length + 1) B' D' w':=fun h=>by
    rw [hrec2,hkL] at h; exact h
   rw [hrec]
   generalize hw4:w3.putObj l (.loop rec2) = w4
   have e4l:w4.heap[l]? = some (.loop rec2):=by rw [<- hw4]; exact World.putObj_heap_same hl3s
   have e4o:∀ b,b ≠ l -> w4.heap[b]? = w3.heap[b]?:=fun b hb=>by rw [<- hw4]; exact World.putObj_heap_other hb
   have e4s:w4.heap.size = w3.heap.size:=by rw [<- hw4]; simp
   have o4:w4.os = w3.os /\ w4.tape = w3.tape /\ w4.output = w3.output:=by rw [<- hw4]; exact ⟨rfl,rfl,rfl⟩
   have o2:w2.os = w1.os /\ w2.tape = w1.tape /\ w2.output = w1.output:=by rw [<- hw2]; exact ⟨rfl,rfl,rfl⟩
   have same:∀ b,b < w.heap.size -> b ≠ l -> ¬ ownS (I k i) φ1 b -> w4.heap[b]? = w.heap[b]?:=fun b hb hne hx=>by
    rw [e4o b hne,hI4.below.block b (by rw [e2s]; exact Nat.lt_of_lt_of_le hb hI2.below.size) (fun h=>by
     rcases hX2 b h with q|q
     ·exact hx ((hX b).1 q)
     ·omega),e2o b hne,hI2.below.block b hb (fun h=>hx ((hX b).1 h))]
   have hl3D:¬ D3 l:=k5 l hlw hlD h6
   refine ⟨fun b=>b = l \/ some b = mk \/ ownS (I (k + 1) j) φ4 b,D3,rfl,⟨o4.1.trans (hI4.below.os.trans (o2.1.trans hI2.below.os)),o4.2.1.trans (hI4.below.tape.trans (o2.2.1.trans hI2.below.tape)),o4.2.2.trans (hI4.below.output.trans (o2.2.2.trans hI2.below.output)),?_,?_⟩,
    fun c hc=>hI4.d0 c (hI2.d0 c hc),k4,fun c hc=>by rw [e4s]; exact hI4.dlt c hc,.inl rfl,fun c hc=>?_,(fin ⟨j,D3,φ4,hJj,?_,fun _ h=>h,e4l,fun m hm=>?_,fun b=>Iff.rfl,fun h=>?_⟩)⟩
   ·rw [e4s]; exact Nat.le_trans hI2.below.size (by rw [<- e2s]; exact hI4.below.size)
   ·intro c hc hnB
    exact same c hc (fun e=>hnB ((h5 c).2 (.inl e))) fun h=>hnB ((h5 c).2 (.inr (.inr h)))
   ·rcases hc with rfl|hc|hc
    ·exact ⟨.inl ((h5 _).2 (.inl rfl)),by rw [e4s]; exact hl3s,hl3D⟩
    ·have hBc:=(h5 c).2 (.inr (.inl hc))
     obtain ⟨z1,z2⟩:=hBok c hBc
     refine ⟨.inl hBc,?_,k5 c z1 z2 (h4 c hc.symm).2.2⟩
     rw [e4s]; exact Nat.lt_of_lt_of_le z1 (Nat.le_trans hI2.below.size (by rw [<- e2s]; exact hI4.below.size))
    ·obtain ⟨id,ob,ho,hb'⟩:=k2 c hc
     obtain ⟨z1,_,z3⟩:=hI4.own id ob c ho hb'
     refine ⟨?_,by rw [e4s]; exact z3,z1⟩
     exact (k3 c hc).imp (fun q=>(h5 c).2 (.inr (.inr q))) (fun h=>h)
   ·refine k1.mono (D':=D3) (fun b hb=>e4o b (by rintro rfl; exact hl3D hb)) fun b hb=>e4o b ?_
    rintro rfl
    exact k6 _ hlw h6 (k2 _ hb)
   ·obtain ⟨z1,z2,z3⟩:=h4 m hm
    have hmw:m < w.heap.size:=(Array.getElem?_eq_some_iff.1 z1).1
    refine ⟨(same m hmw z2 z3).trans z1,z2,fun h=>k6 m hmw z3 (k2 m h)⟩
   ·exact k6 l hlw h6 (k2 l h)
  | _=>exact hq3.elim
 | _=>exact hq.elim
def IterOKX (P:Program) (g:FuncId) (caps:List PV) (L:List (List PV)) (x:List PV):Prop:=∀ E B,E.L = L -> E.Round P -> E.Last P x →
 ACallsX P g (.yld 0 :: caps.map .pv) [(0,.ext E 0 B)] 1 (fun sf=>∃ B',sf.obj 0 = some (.ext E (L.length + 1) B')) (fun _ _=>False)
set_option maxHeartbeats 1000000 in
theorem AW_rangeFuncX {g:Operand} {ps:Array Nat} {assign body:Code} {ι:Type} {gf:FuncId} {caps:List PV} {L:List (List PV)} {xL:List PV} (ts:List Nat) (I:(Nat -> Value) -> Nat -> ι -> ASt) (J:Nat -> ι -> Prop) (i0:ι) (hJ0:J 0 i0) (hg:s.evD g = some (.fn gf caps)) (hit:IterOKX P gf caps L xL)
  (hps:∀ p ∈ ps.toList,Nat.blt p nt = true) (hxl:∀ x ∈ L,x.length = ps.size) (hxL:xL.length = ps.size) (hanc:∀ av k i,EnvAnc nt av (I av k i)) (h0:∀ av,Le (anchS av s ts).bare (I av 0 i0).bare)
  (hround:∀ av k i x,J k i -> L[k]? = some x -> AW P nt assign (Then (fun s2=>AW P nt body (RoundQ (I av) J (k + 1)) s2) (fun _ _=>False)) (putPs (I av k i) ps.toList x))
  (hlast:∀ av i,J L.length i -> AW P nt assign (Then (fun s2=>AW P nt body (LastQ (I av) J (L.length + 1)) s2) (fun _ _=>False)) (putPs (I av L.length i) ps.toList xL))
  (hdone:∀ av i,J (L.length + 1) i -> Q .ret (I av (L.length + 1) i)):AW P nt (.rangeFunc g ps assign body) Q s:= by
 intro ro W0 D0 D φ a w hr hI
 obtain ⟨av,hav⟩:∃ av:Nat -> Value,∀ t,av t = a.tmps.getD t undef:=⟨fun t=>a.tmps.getD t undef,fun _=>rfl⟩
 obtain ⟨φa,hIa⟩:=hI.anch hav ts
 obtain ⟨φ0,k1,k2,_⟩:=(Held.bare.2 hIa.held).le (h0 av)
 have k1:=Held.bare.1 k1
 have k2:∀ b,ownS (I av 0 i0) φ0 b -> ownS (anchS av s ts) φa b:=k2
 have hfn:=hI.evD hg
 generalize hv:a.eval g = v at hfn
 cases hfn with
 | fn _ vs _ hl hrr =>
 refine wpIn_rangeFunc fun fn _=>?_
 have go:∀ (l:Nat) (mk:Option Nat) (W1:World) (dfs:Nat),(mk.isSome = true -> D0.rnd = false) -> w.heap.size <= l -> (∀ m,mk = some m -> w.heap.size <= m /\ m ≠ l /\ W1.heap[m]? = some (.deferred (some []))) -> (∀ b,b < w.heap.size -> W1.heap[b]? = w.heap[b]?) -> w.heap.size <= W1.heap.size →
   (W1.os = w.os /\ W1.tape = w.tape /\ W1.output = w.output) -> W1.heap[l]? = some (.loop { state:=.ready,pending:=none,fn,tmps:=a.tmps,params:=ps,assign,body,defers:=dfs }) →
   Enters P gf /\ CallsIn (FW ro) 0 P gf (#[.func (.yield l) #[] #[]] ++ vs) W1 (rangePost (FW ro) 0 P l (Lift W0 D0 nt Q) { a with defers:=marksOf mk ++ a.defers }):= by
  intro l mk W1 dfs hmr hlw hmw hW1 hW1s hW1o hW1l
  generalize hrec:({ state:=.ready,pending:=none,fn,tmps:=a.tmps,params:=ps,assign,body,defers:=dfs }:Loop) = rec at hW1l
  have hround':(loopX L (I av) J l mk rec).Round P:= by
   subst hrec
   exact loopX_round <| loopE_round rfl rfl hI.size hav (fun p hp=>by simpa using hps p hp) hxl (hanc av) (hround av)
  have hlast':(loopX L (I av) J l mk rec).Last P xL:= by
   subst hrec
   exact loopX_last rfl rfl hI.size hav (fun p hp=>by simpa using hps p hp) hxL (hanc av) (hlast av)
  have hlt1:l < W1.heap.size:=(Array.getElem?_eq_some_iff.1 hW1l).1
  have own0:∀ b,ownS (I av 0 i0) φ0 b -> ¬ D b /\ b < w.heap.size:=fun b hb=>by
   obtain ⟨id,ob,ho,hb'⟩:=k2 b hb
   exact hIa.held.own id ob b ho hb'
  have hHW:Held (I av 0 i0) D φ0 W1:=k1.mono (D':=D) (fun b hb=>hW1 b (hI.dlt b hb)) fun b hb=>hW1 b (own0 b hb).2
  obtain ⟨B0,hB0⟩:∃ B0:Nat -> Prop,∀ b,B0 b ↔ b = l \/ some b = mk \/ ownS (I av 0 i0) φ0 b:=⟨_,fun b=>Iff.rfl⟩
  have hB0n:∀ b,B0 b -> ¬ D b /\ b < W1.heap.size:=fun b hb=>by
   rcases (hB0 b).1 hb with rfl|q|q
   ·exact ⟨fun h=>by have:=hI.dlt _ h; omega,hlt1⟩
   ·obtain ⟨z1,_,z3⟩:=hmw b q.symm
    exact ⟨fun h=>by have:=hI.dlt _ h; omega,(Array.getElem?_eq_some_iff.1 z3).1⟩
   ·obtain ⟨z1,z2⟩:=own0 b q; exact ⟨z1,by omega⟩
  have hJ0:loopJ (I av) J l mk rec 0 B0 D W1:=⟨i0,D,φ0,hJ0,hHW,fun _ h=>h,hW1l,fun m hm=>⟨(hmw m hm).2.2,(hmw m hm).2.1,fun h=>by have:=(own0 m h).2; have:=(hmw m hm).1; omega⟩,hB0,fun h=>by have:=(own0 l h).2; omega⟩
  have hc:=hit (loopX L (I av) J l mk rec) B0 rfl hround' hlast'
  refine ⟨hc.1,?_⟩
  have hobE:∀ id ob,(entryX (.yld 0 :: caps.map .pv) [(0,.ext (loopX L (I av) J l mk rec) 0 B0)] 1).obj id = some ob -> id = 0 /\ ob = .ext (loopX L (I av) J l mk rec) 0 B0:=fun id ob h=>by
   have:=look_map [(0,AObj.ext (loopX L (I av) J l mk rec) 0 B0)] id ob h
   simp at this; exact this
  have hown:∀ b,ownS (entryX (.yld 0 :: caps.map .pv) [(0,.ext (loopX L (I av) J l mk rec) 0 B0)] 1) (fun _=>.map (some l)) b -> B0 b:=fun b ⟨id,ob,ho,hb⟩=>by
   obtain ⟨rfl,rfl⟩:=hobE id ob ho; exact hb
  have hcall:=hc.2 W1 D (fun _=>.map (some l)) (#[.func (.yield l) #[] #[]] ++ vs) ⟨fun b hb=>by have:=hI.dlt b hb; omega,fun id ob ho=>by
    obtain ⟨rfl,rfl⟩:=hobE id ob ho
    exact ⟨Nat.lt_succ_self 0,rfl,loopX_mono,rfl,(hB0 l).2 (.inl rfl),hJ0⟩,fun id ob b ho hb=>by
    obtain ⟨rfl,rfl⟩:=hobE id ob ho; exact hB0n b hb,fun id ob id' ob' b ho ho' _ _=>by rw [(hobE id ob ho).1,(hobE id' ob' ho').1]⟩ (by simp [hl]; omega)
   (fun j v x hv hx=>by
    cases j with
    | zero =>
     have hv2:v = .func (.yield l) #[] #[]:=by rw [Array.getElem?_append_left (by simp)] at hv; simpa using hv.symm
     simp at hx; subst hv2; subst hx; exact ⟨rfl,.yld 0 l rfl⟩
    | succ j =>
     simp only [List.getElem?_cons_succ,List.getElem?_map,Option.map_eq_some_iff] at hx
     obtain ⟨p,hp,rfl⟩:=hx
     rw [Array.getElem?_append_right (by simp)] at hv
     exact ⟨rfl,.pv _ _ ((hrr j v p (by simpa using hv) hp).mono (fun b hb=>hW1 b (hI.dlt b hb)) (fun _ h=>h))⟩)
  refine (callsIn_wide (n:=0)).2 (Calls.mono hcall ?_)
  rintro e w3 ⟨sf,D',φ',p1,p2,p3,p4,p5,p6⟩
  rcases p6 with ⟨v',rfl,_,B',hsf⟩|⟨_,_,_,hf⟩
  ·obtain ⟨_,_,_,q1,q2,q3⟩:=p4.objs 0 _ hsf
   have q3:loopJ (I av) J l mk (recX L.length rec (L.length + 1)) (L.length + 1) B' D' w3:=q3
   rw [recX,if_neg (by omega)] at q3
   have q3':loopJ (I av) J l mk { rec with state:=.done,pending:=some .ret } (L ++ [xL]).length B' D' w3:=by rw [List.length_append]; exact q3
   have hl3:=q3
   obtain ⟨_,_,_,_,_,_,hl3,_⟩:=hl3
   have hX:∀ b,ownS (entryX (.yld 0 :: caps.map .pv) [(0,.ext (loopX L (I av) J l mk rec) 0 B0)] 1) (fun _=>.map (some l)) b -> B0 b:=hown
   have hX':∀ b,B0 b -> ownS (entryX (.yld 0 :: caps.map .pv) [(0,.ext (loopX L (I av) J l mk rec) 0 B0)] 1) (fun _=>.map (some l)) b:=fun b hb=>⟨0,_,rfl,hb⟩
   obtain ⟨i,φ1,hJi,hI'⟩:=loop_end (L:=L ++ [xL]) (fin:={ rec with state:=.exhausted,pending:=some .ret }) (ro:=ro) (hanc av) hIa hav hmr hlw (fun m hm=>⟨(hmw m hm).1,(hmw m hm).2.1⟩) hW1 hW1s hW1o (B0:=B0) (fun b hb=>by
     rcases (hB0 b).1 hb with q|q|q
     ·exact .inl q
     ·exact .inr (.inl q)
     ·exact .inr (.inr (k2 b q))) ⟨p1.os,p1.tape,p1.output,p1.size,fun k hk hx=>p1.block k hk fun h=>hx (hX k h)⟩ p2 (fun b hb=>(p3 b hb).imp (fun h=>h) (fun h=>h.imp (hX b) (fun h=>h))) p4.dlt
     (fun b hb=>⟨(p5 b ⟨0,_,hsf,hb⟩).imp (hX b) (fun h=>h),(p4.own 0 _ b hsf hb).1⟩) q3'
   rw [List.length_append] at hJi hI'
   refine ⟨some .ret,_,?_,(AW_ret (P:=P) (hdone av i hJi)) ro W0 D0 D' φ1 _ _ hr hI'⟩
   have:=run_endLoop (P:=P) hl3 (by simp)
   rw [this]
  ·exact hf.elim
 have fin:∀ (l:Nat) (mk:Option Nat) (W1:World),(Instr.enterLoop fn a.tmps ps assign body ro).run P w = .ok (l,marksOf mk) W1 →
   (Enters P gf /\ CallsIn (FW ro) 0 P gf (#[.func (.yield l) #[] #[]] ++ vs) W1 (rangePost (FW ro) 0 P l (Lift W0 D0 nt Q) { a with defers:=marksOf mk ++ a.defers })) →
   ∃ (l:Nat) (mark:List Deferred) (w₁:World) (d:Deferred) (w₁':World) (f:FuncId) (args:Array Value) (w₂:World),(Instr.enterLoop fn a.tmps ps assign body ro).run P w = .ok (l,mark) w₁ /\ (resolve a.eval (rangeCall g l) 0).run P w₁ = .ok d w₁' /\
    (∀ f',Target.leads P w₁' d.target d.args = some f' -> (FW ro).fn f') /\ (invoke d.target d.args).run P w₁' = .ok (.enter f args) w₂ /\ ((FW ro).depth.isSome = true -> 1 <= 0) /\ CallsIn (FW ro) (0 - 1) P f args w₂ (rangePost (FW ro) 0 P l (Lift W0 D0 nt Q) { a with defers:=mark ++ a.defers }):= by
  rintro l mk W1 hent ⟨hen,hcall⟩
  refine ⟨l,marksOf mk,W1,{ target:=.fn (.func gf) vs,args:=#[.func (.yield l) #[] #[]] },W1,gf,#[.func (.yield l) #[] #[]] ++ vs,W1,hent,?_,fun _ _=>trivial,?_,fun h=>(by cases h),?_⟩
  rotate_right
  ·exact hcall
  ·simp only [resolve,hv]; simp [go_sem]
  ·simp [invoke,go_sem,hen _ _]
 cases ro with
 | none =>
  refine fin (w.heap.size + 1) (some w.heap.size) _ (run_enterLoop_outer _ _ _ _ _) (go _ _ _ w.heap.size (fun _=>hr.1) (by omega) (fun m hm=>?_) (fun b hb=>?_) (by simp; omega) ⟨rfl,rfl,rfl⟩ ?_)
  ·cases hm
   refine ⟨Nat.le_refl _,by omega,?_⟩
   exact (Below.heap_alloc _ _ _ (by simp)).trans (World.alloc_heap_new w _)
  ·exact (Below.heap_alloc _ _ _ (by simp; omega)).trans (Below.heap_alloc _ _ _ hb)
  ·have:=World.alloc_heap_new (w.alloc (.deferred (some []))) (.loop { state:=.ready,pending:=none,fn,tmps:=a.tmps,params:=ps,assign,body,defers:=w.heap.size })
   rwa [World.size_alloc] at this
 | some l0 =>
  obtain ⟨⟨r0,hr0⟩,hx0⟩:=hr.2 l0 rfl
  have hl0:w.heap[l0]? = some (.loop r0):=(hI.below.block l0 (Array.getElem?_eq_some_iff.1 hr0).1 hx0).trans hr0
  refine fin w.heap.size none _ (run_enterLoop_inner hl0 _ _ _ _ _) (go _ _ _ r0.defers (fun h=>by cases h) (Nat.le_refl _) (fun m hm=>by cases hm) (fun b hb=>Below.heap_alloc _ _ _ hb) (by simp) ⟨rfl,rfl,rfl⟩ ?_)
  exact World.alloc_heap_new w _
def LastQL {ι:Type} (O:Nat -> ι -> List (Nat × AObj)) (J:Nat -> ι -> Prop) (n k:Nat):Exit -> ASt -> Prop
 | .ret,s=>∃ j,J k j /\ Le s.bare (mkSt [] (O k j) n)
 | _,_=>False
theorem lastQ_intro {ι:Type} {O:Nat -> ι -> List (Nat × AObj)} {J:Nat -> ι -> Prop} {n k:Nat} (j:ι) (hJ:J k j) (h:Le s.bare (mkSt [] (O k j) n)):LastQL O J n k .ret s:=⟨j,hJ,h⟩
theorem AW_rangeX {g:Operand} {ps:Array Nat} {assign body:Code} {ι:Type} {gf:FuncId} {caps:List PV} {L:List (List PV)} {xL:List PV} (ts:List Nat) (env:List (Nat × FV)) (O:(Nat -> Value) -> Nat -> ι -> List (Nat × AObj)) (J:Nat -> ι -> Prop) (n:Nat) (as:List Nat) (i0:ι) (hJ0:J 0 i0)
  (hg:s.evD g = some (.fn gf caps)) (hit:IterOKX P gf caps L xL) (hps:∀ p ∈ ps.toList,Nat.blt p nt = true) (hxl:∀ x ∈ L,x.length = ps.size) (hxL:xL.length = ps.size) (hanc:∀ av k i,ancEnv nt av (mkSt env (O av k i) n) env as)
  (h0:∀ av,Le (anchS av s ts).bare (mkSt [] (O av 0 i0) n))
  (hround:∀ av k i x,J k i -> L[k]? = some x -> AW P nt assign (Then (fun s2=>AW P nt body (RoundQL (O av) J n (k + 1)) s2) (fun _ _=>False)) (putPs (mkSt env (O av k i) n) ps.toList x))
  (hlast:∀ av i,J L.length i -> AW P nt assign (Then (fun s2=>AW P nt body (LastQL (O av) J n (L.length + 1)) s2) (fun _ _=>False)) (putPs (mkSt env (O av L.length i) n) ps.toList xL))
  (hdone:∀ av i,J (L.length + 1) i -> Q .ret (mkSt env (O av (L.length + 1) i) n)):AW P nt (.rangeFunc g ps assign body) Q s:= by
 refine AW_rangeFuncX ts (fun av k i=>mkSt env (O av k i) n) J i0 hJ0 hg hit hps hxl hxL (fun av k i t x hx=>ancEnv_mem (hanc av k i) t x (look_map env t x hx)) h0 (fun av k i x hJ hx=>AW_mono (hround av k i x hJ hx) fun e s2 h=>?_) (fun av i hJ=>AW_mono (hlast av i hJ) fun e s2 h=>?_) hdone
 ·cases e with
  | normal=>exact AW_mono h fun e s3 h3=>by cases e <;> exact h3
  | _=>exact h.elim
 ·cases e with
  | normal=>exact AW_mono h fun e s3 h3=>by cases e <;> exact h3
  | _=>exact h.elim
def IterAll (P:Program) (g:FuncId) (caps:List PV) (C:List (List PV)):Prop:=IterOK P g caps C /\ ∀ (n:Nat) (x:List PV),C[n]? = some x -> IterOKX P g caps (C.take n) x
end
end Go.Abs
