/- More steps: of drawn regions; loops under a condition; small lemmas on lists that are read. -/
import Derived.Test.YtpoaccdbakbjhaaGreatXG09
set_option linter.unusedVariables false
set_option linter.unusedSimpArgs false
namespace Go.Abs
open Go.RowKit
section
variable {P:Program} {T:Nat -> Option TyI} {nt:Nat} {s:ASt} {o:Oper} {ops:Array Oper} {rest:List Oper} {Q:Exit -> ASt -> Prop}
theorem AW_loopC {c:Code} {ι:Type} (C:ι -> Prop) (I:ι -> ASt) (μ:ι -> Nat) (i0:ι) (hC:C i0) (h0:Le s (I i0)) (round:∀ i,C i -> AW P nt c (Then (fun s'=>∃ j,C j /\ μ j < μ i /\ Le s' (I j)) Q) (I i)):AW P nt (.loop c) Q s:= by
 have:=AW_loop (P:=P) (nt:=nt) (Q:=Q) (s:=s) (c:=c) (ι:={i // C i}) (fun i=>I i.1) (fun i=>μ i.1) ⟨i0,hC⟩ h0 (fun i=>AW_mono (round i.1 i.2) fun e s' h=>by
  cases e with
  | normal=>obtain ⟨j,h1,h2,h3⟩:=h; exact ⟨⟨j,h1⟩,h2,h3⟩
  | _=>exact h)
 exact this
theorem len_map {α:Type} (l:List α) (f:α -> List PV):((l.map f).length:Int) = (l.length:Int):=by simp
theorem get_map {α:Type} {l:List α} {k:Nat} {x:α} (f:α -> List PV) (h:l[k]? = some x):(l.map f)[(k:Int).toNat]? = some (f x):=by simp [h]
theorem get_map_i {α:Type} {l:List α} {i:Int} {x:α} (f:α -> List PV) (h:l[i.toNat]? = some x):(l.map f)[i.toNat]? = some (f x):=by simp [h]
def pvS (x:FV):Option PV:=(⟨[],[],0⟩:ASt).pvOf false 5 x
def ASt.evS (s:ASt) (o:Operand):Option PV:=match s.ev o with
 | some x=>pvS x
 | none=>none
theorem pvOf_up {s1 s2:ASt} (h:∀ id,s1.obj id = none):∀ (n:Nat) (x:FV) (p:PV),s1.pvOf false n x = some p -> s2.pvOf false n x = some p:= by
 intro n
 induction n with
 | zero=>intro x p hp; simp [ASt.pvOf] at hp
 | succ n ih =>
  intro x p hp
  have hm:∀ (l:List FV) (ps:List PV),mapO (s1.pvOf false n) l = some ps -> mapO (s2.pvOf false n) l = some ps:= by
   intro l
   induction l with
   | nil=>intro ps hp; exact hp
   | cons y l ihl =>
    intro ps hp
    unfold mapO at hp ⊢
    split at hp
    ·rename_i a b h1 h2
     rw [ih y _ h1,ihl _ h2]; exact hp
    ·cases hp
  cases x with
  | arr id=>simp only [ASt.pvOf,h id] at hp; cases hp
  | fn f caps =>
   simp only [ASt.pvOf] at hp ⊢
   split at hp
   ·rename_i ps h1; rw [hm _ _ h1]; exact hp
   ·cases hp
  | agg cs =>
   simp only [ASt.pvOf] at hp ⊢
   split at hp
   ·rename_i ps h1; rw [hm _ _ h1]; exact hp
   ·cases hp
  | pv q=>exact hp
  | nils=>exact hp
  | box id off=>simp [ASt.pvOf] at hp
  | mp id=>simp [ASt.pvOf] at hp
  | yld id=>simp [ASt.pvOf] at hp
  | sub _ _ _ _=>simp [ASt.pvOf] at hp
  | aptr _ _ _ _=>simp [ASt.pvOf] at hp
  | tup _=>simp [ASt.pvOf] at hp
theorem evS_D {x:Operand} {p:PV} (h:s.evS x = some p):s.evD x = some p:= by
 unfold ASt.evS at h
 unfold ASt.evD
 split at h
 ·rename_i y hy
  rw [hy]
  exact pvOf_up (fun id=>rfl) 5 y p h
 ·cases h
theorem evS_local {s1:ASt} {x:Operand} {l:List Operand} (h:∀ t ∈ opTmps l,s1.get t = s.get t) (hx:x ∈ l):s1.evS x = s.evS x:= by
 unfold ASt.evS; rw [ev_agree h hx]
theorem mapO_up {α β:Type} {f g:α -> Option β}:∀ {l:List α} {ys:List β},(∀ x ∈ l,∀ y,f x = some y -> g x = some y) -> mapO f l = some ys -> mapO g l = some ys
 | [],_,_,h=>h
 | x :: l,ys,hfg,h=>by
  unfold mapO at h ⊢
  split at h
  ·rename_i a b h1 h2
   rw [hfg x (by simp) a h1,mapO_up (fun y hy=>hfg y (by simp [hy])) h2]; exact h
  ·cases h
theorem D_indexAddr {t e:Nat} {x ix:Operand} {ti ei:TyI} {k:IntKind} {n:Int} {es:List (List PV)} {el:List PV} (hT:TabOK P T) (hg:guardT ops s o = true) (ho:o.op = .indexAddr t x ix) (hd:dstB nt o.dst = true) (ht:T t = some ti)
  (hk:ti.kind = .slice e) (he:T e = some ei) (hx:s.evS x = some (.sl es)) (hi:s.ev ix = some (.pv (.int k n))) (hn:0 <= n) (hel:es[n.toNat]? = some el) (hsz:el.length = ei.size) (hpos:Nat.blt 0 ei.size = true) :
  StepOK P nt ops o s ⟨some (.pv (.ptr el)),false,[],[]⟩ (s.putO o.dst (some (.pv (.ptr el)))) :=
 StepOK.mkP hg fun s1 h1 _=>op_indexAddr_sl hT ho hd ht hk he (evS_D (by rw [evS_local h1 (by simp [ho,Op.operands])]; exact hx)) (by rw [ev_agree h1 (by simp [ho,Op.operands])]; exact hi) hn hel hsz hpos
theorem D_add {t t':TypeId} {x y:Operand} {m n:Int} (hg:guardT ops s o = true) (ho:o.op = .binOp .add t x y t') (hd:dstB nt o.dst = true) (hx:s.ev x = some (.pv (.int .i64 m))) (hy:s.ev y = some (.pv (.int .i64 n)))
  (h:-9223372036854775808 <= m + n /\ m + n <= 9223372036854775807):StepOK P nt ops o s ⟨some (.pv (.int .i64 (m + n))),false,[],[]⟩ (s.putO o.dst (some (.pv (.int .i64 (m + n))))) :=
 StepOK.mkP hg fun s1 h1 _=>op_add ho hd (by rw [ev_agree h1 (by simp [ho,Op.operands])]; exact hx) (by rw [ev_agree h1 (by simp [ho,Op.operands])]; exact hy) h
theorem D_sub {t t':TypeId} {x y:Operand} {m n:Int} (hg:guardT ops s o = true) (ho:o.op = .binOp .sub t x y t') (hd:dstB nt o.dst = true) (hx:s.ev x = some (.pv (.int .i64 m))) (hy:s.ev y = some (.pv (.int .i64 n)))
  (h:-9223372036854775808 <= m - n /\ m - n <= 9223372036854775807):StepOK P nt ops o s ⟨some (.pv (.int .i64 (m - n))),false,[],[]⟩ (s.putO o.dst (some (.pv (.int .i64 (m - n))))) :=
 StepOK.mkP hg fun s1 h1 _=>op_sub ho hd (by rw [ev_agree h1 (by simp [ho,Op.operands])]; exact hx) (by rw [ev_agree h1 (by simp [ho,Op.operands])]; exact hy) h
theorem D_mul {t t':TypeId} {x y:Operand} {m n:Int} (hg:guardT ops s o = true) (ho:o.op = .binOp .mul t x y t') (hd:dstB nt o.dst = true) (hx:s.ev x = some (.pv (.int .i64 m))) (hy:s.ev y = some (.pv (.int .i64 n)))
  (h:-9223372036854775808 <= m * n /\ m * n <= 9223372036854775807):StepOK P nt ops o s ⟨some (.pv (.int .i64 (m * n))),false,[],[]⟩ (s.putO o.dst (some (.pv (.int .i64 (m * n))))) :=
 StepOK.mkP hg fun s1 h1 _=>op_mul ho hd (by rw [ev_agree h1 (by simp [ho,Op.operands])]; exact hx) (by rw [ev_agree h1 (by simp [ho,Op.operands])]; exact hy) h
theorem D_neg {t:TypeId} {x:Operand} {n:Int} (hg:guardT ops s o = true) (ho:o.op = .unOp .neg t x) (hd:dstB nt o.dst = true) (hx:s.ev x = some (.pv (.int .i64 n))) (h:-9223372036854775807 <= n /\ n <= 9223372036854775807) :
  StepOK P nt ops o s ⟨some (.pv (.int .i64 (-n))),false,[],[]⟩ (s.putO o.dst (some (.pv (.int .i64 (-n))))) :=
 StepOK.mkP hg fun s1 h1 _=>op_neg ho hd (by rw [ev_agree h1 (by simp [ho,Op.operands])]; exact hx) h
theorem D_len {t e:Nat} {x:Operand} {ti:TyI} {es:List (List PV)} {n:Int} (hT:TabOK P T) (hg:guardT ops s o = true) (ho:o.op = .call { callee:=.builtin .len,args:=#[x],argTypes:=#[t] }) (hd:dstB nt o.dst = true) (ht:T t = some ti)
  (hk:ti.kind = .slice e) (hx:s.evS x = some (.sl es)) (hn:(es.length:Int) = n):StepOK P nt ops o s ⟨some (.pv (.int .i64 n)),false,[],[]⟩ (s.putO o.dst (some (.pv (.int .i64 n)))) :=
 StepOK.mkP hg fun s1 h1 _=>op_len_sl hT ho hd ht hk (by
  have h2:=evS_local (s:=s) h1 (x:=x) (by simp [ho,Op.operands,Call.operands])
  rw [hx] at h2
  unfold ASt.evS at h2
  unfold ASt.evB
  split at h2
  ·rename_i y hy
   rw [hy]
   simp only []
   unfold pvS at h2
   cases y <;> simp [ASt.pvOf,ASt.obj,look] at h2 ⊢ <;> first|exact h2|(split at h2 <;> cases h2)
  ·cases h2) hn
theorem D_min2 {x y:Operand} {ts:Array TypeId} {m n:Int} (hg:guardT ops s o = true) (ho:o.op = .call { callee:=.builtin .min,args:=#[x,y],argTypes:=ts }) (hd:dstB nt o.dst = true) (hx:s.ev x = some (.pv (.int .i64 m))) (hy:s.ev y = some (.pv (.int .i64 n))) :
  StepOK P nt ops o s ⟨some (.pv (.int .i64 (min m n))),false,[],[]⟩ (s.putO o.dst (some (.pv (.int .i64 (min m n))))) :=
 StepOK.mkP hg fun s1 h1 _=>op_min2 ho hd (by rw [ev_agree h1 (by simp [ho,Op.operands,Call.operands])]; exact hx) (by rw [ev_agree h1 (by simp [ho,Op.operands,Call.operands])]; exact hy)
theorem D_max2 {x y:Operand} {ts:Array TypeId} {m n:Int} (hg:guardT ops s o = true) (ho:o.op = .call { callee:=.builtin .max,args:=#[x,y],argTypes:=ts }) (hd:dstB nt o.dst = true) (hx:s.ev x = some (.pv (.int .i64 m))) (hy:s.ev y = some (.pv (.int .i64 n))) :
  StepOK P nt ops o s ⟨some (.pv (.int .i64 (max m n))),false,[],[]⟩ (s.putO o.dst (some (.pv (.int .i64 (max m n))))) :=
 StepOK.mkP hg fun s1 h1 _=>op_max2 ho hd (by rw [ev_agree h1 (by simp [ho,Op.operands,Call.operands])]; exact hx) (by rw [ev_agree h1 (by simp [ho,Op.operands,Call.operands])]; exact hy)
def ASt.calleeS (s:ASt) (f:Operand):Option (FuncId × List PV):=match s.evS f with
 | some (.fn g caps)=>some (g,caps)
 | _=>none
theorem OpToS.one {s':ASt} (h:OpToS P nt o s (fun s2=>s2 = s')):OpTo P nt o s s':=fun ro W0 D0 D φ a w hI K Q hK=>h ro W0 D0 D φ a w hI K Q fun s2 D' φ' a' w' he hI'=>by subst he; exact hK D' φ' a' w' hI'
theorem op_call1 {f:Operand} {args:Array Operand} {ts:Array TypeId} {g:FuncId} {caps ps:List PV} {r:RV} (ho:o.op = .call { callee:=.value f,args,argTypes:=ts }) (hd:dstB nt o.dst = true)
  (hf:s.calleeS f = some (g,caps)) (ha:mapO s.evS args.toList = some ps) (hc:ACalls P g (ps ++ caps) (fun r'=>r' = r)):OpTo P nt o s (s.bind o.dst r):= by
 have hf':s.calleeD f = some (g,caps):= by
  unfold ASt.calleeS at hf
  unfold ASt.calleeD
  split at hf
  ·rename_i g' caps' he
   rw [evS_D he]; exact hf
  ·cases hf
 have:=op_callD ho hd hf' (mapO_up (fun x _ y h=>evS_D h) ha) hc
 exact OpToS.one fun ro W0 D0 D φ a w hI K Q hK=>this ro W0 D0 D φ a w hI K Q fun s2 D' φ' a' w' ⟨r',e1,e2⟩ hI'=>hK s2 D' φ' a' w' (by rw [e2,e1]) hI'
theorem call_local {s1:ASt} {f:Operand} {args:Array Operand} {ts:Array TypeId} (ho:o.op = .call { callee:=.value f,args,argTypes:=ts }) (h1:∀ t ∈ opTmps o.op.operands.toList,s1.get t = s.get t) :
  s1.calleeS f = s.calleeS f /\ mapO s1.evS args.toList = mapO s.evS args.toList:= by
 refine ⟨?_,mapO_congr fun x hx=>evS_local h1 (by simp [ho,Op.operands,Call.operands]; right; simpa using hx)⟩
 unfold ASt.calleeS
 rw [evS_local h1 (by simp [ho,Op.operands,Call.operands])]
theorem D_call {f:Operand} {args:Array Operand} {ts:Array TypeId} {g:FuncId} {caps ps:List PV} {p:PV} (hg:guardT ops s o = true) (ho:o.op = .call { callee:=.value f,args,argTypes:=ts }) (hd:dstB nt o.dst = true)
  (hf:s.calleeS f = some (g,caps)) (ha:mapO s.evS args.toList = some ps) (hc:ACalls P g (ps ++ caps) (fun r'=>r' = .pv p)):StepOK P nt ops o s ⟨some (.pv p),false,[],[]⟩ (s.putO o.dst (some (.pv p))) :=
 StepOK.mkP hg fun s1 h1 _=>op_call1 (r:=.pv p) ho hd (by rw [(call_local ho h1).1]; exact hf) (by rw [(call_local ho h1).2]; exact ha) hc
theorem D_call_tup {f:Operand} {args:Array Operand} {ts:Array TypeId} {g:FuncId} {caps ps rs:List PV} (hg:guardT ops s o = true) (ho:o.op = .call { callee:=.value f,args,argTypes:=ts }) (hd:dstB nt o.dst = true)
  (hf:s.calleeS f = some (g,caps)) (ha:mapO s.evS args.toList = some ps) (hc:ACalls P g (ps ++ caps) (fun r'=>r' = .tup rs)):StepOK P nt ops o s ⟨some (.tup (rs.map .pv)),false,[],[]⟩ (s.putO o.dst (some (.tup (rs.map .pv)))) :=
 StepOK.mkP hg fun s1 h1 _=>op_call1 (r:=.tup rs) ho hd (by rw [(call_local ho h1).1]; exact hf) (by rw [(call_local ho h1).2]; exact ha) hc
theorem ACalls.pure {f:FuncId} {ps:List PV} {e sz:Nat} {es:List (List PV)} (h:ACalls P f ps (fun r=>r = .own e sz es)):ACalls P f ps (fun r=>r = .pv (.sl es)):= by
 refine ⟨h.1,fun W D vs hD hr=>(h.2 W D vs hD hr).mono ?_⟩
 rintro en w' ⟨v,r,D',h1,h2,h3,h4,h5,h6,rfl⟩
 obtain ⟨xs,g1,g2,g3⟩:=h6
 have hlt:∀ b,blk v = some b -> W.heap.size <= b /\ b < w'.heap.size:= by
  intro b hb
  rcases g1.2 with ⟨h,_⟩|⟨g,cap,cur,q1,q2,q3,_⟩
  ·rw [h] at hb; cases hb
  ·rw [q1] at hb; cases hb; exact ⟨q2,(Array.getElem?_eq_some_iff.1 q3).1⟩
 refine ⟨v,.pv (.sl es),fun b=>D' b \/ blk v = some b,h1,h2,fun b hb=>.inl (h3 b hb),fun b hb=>?_,fun b hb=>?_,(show Rep w' (fun b=>D' b \/ blk v = some b) v (.sl es) from owns_rep g1 (g2.mono (fun _ _=>rfl) (fun _ h=>.inl h)) (fun b hb=>.inr hb)),rfl⟩
 ·rcases hb with hb|hb
  ·exact h4 b hb
  ·exact .inr (hlt b hb).1
 ·rcases hb with hb|hb
  ·exact h5 b hb
  ·exact (hlt b hb).2
theorem OpTo.ext {s1 sa sb:ASt} (h:OpTo P nt o s1 sa) (hg:∀ t,sb.get t = sa.get t) (ho:∀ id,sb.obj id = sa.obj id) (hn:sb.nxt = sa.nxt):OpTo P nt o s1 sb :=
 fun ro W0 D0 D φ a w hI K Q hK=>h ro W0 D0 D φ a w hI K Q fun D' φ' a' w' hI'=>hK D' φ' a' w'
  (hI'.weaken (fun t x hx=>by rw [<- hg]; exact hx) (fun id ob hob=>by rw [<- ho]; exact hob) (fun t x hx=>by rw [hn]; exact (hI'.env t x (by rw [<- hg]; exact hx)).1)
   (fun id ob hob=>by rw [hn]; have:=hI'.objs id ob (by rw [<- ho]; exact hob); exact ⟨this.1,this.2.1⟩))
theorem StepOK.mkE {s':ASt} {x:Option FV} {mods:List Nat} (hg:guardT ops s o = true) (henv:s'.env = putE s.env o.dst x) (hn:s.nxt <= s'.nxt) (hm:∀ id,id < s.nxt -> id ∉ mods -> s'.obj id = s.obj id)
  (h:∀ (fr:List Nat) (s1 s2:ASt),(∀ t ∈ opTmps o.op.operands.toList,s1.get t = s.get t) -> s1.nxt = s.nxt -> (∀ id ∈ fr,id < s.nxt /\ id ∉ mods) -> (∀ id,id ∉ fr -> s1.obj id = s.obj id) -> s2.env = putE s1.env o.dst x -> s2.nxt = s'.nxt →
   (∀ id,s2.obj id = if id ∈ fr then s1.obj id else s'.obj id) -> OpTo P nt o s1 s2):StepOK P nt ops o s ⟨x,true,[],mods⟩ s' :=
 ⟨henv,fun h=>(by cases h),fun _=>⟨hn,hm⟩,fun h=>(by cases h),fun _ fr s1 s2 h1 h2 h3 h4 h5 h6 h7=>GOpTo.of (by rw [guardT_local h1]; exact hg) (h fr s1 s2 (fun t ht=>h1 t (needs_op ht)) h2 h3 h4 h5 h6 h7)⟩
theorem StepOK.mkL {s':ASt} {x:Option FV} {mods:List Nat} (hg:guardT ops s o = true) (henv:s'.env = putE s.env o.dst x) (hn:s'.nxt = s.nxt) (hm:s'.objs = (mods.map fun id=>(id,s'.obj id)) ++ s.objs)
  (h:∀ (s1:ASt),(∀ t ∈ opTmps o.op.operands.toList,s1.get t = s.get t) -> (∀ id ∈ mods,s1.obj id = s.obj id) -> OpTo P nt o s1 ⟨putE s1.env o.dst x,(mods.map fun id=>(id,s'.obj id)) ++ s1.objs,s1.nxt⟩):StepOK P nt ops o s ⟨x,false,[],mods⟩ s' :=
 ⟨henv,fun _=>⟨hm,hn⟩,fun h=>(by cases h),fun _ s1 h1 _ h3=>GOpTo.of (by rw [guardT_local h1]; exact hg) (h s1 (fun t ht=>h1 t (needs_op ht)) h3),fun h=>(by cases h)⟩
theorem D_call_own {f:Operand} {args:Array Operand} {ts:Array TypeId} {g:FuncId} {caps ps:List PV} {e sz:Nat} {es:List (List PV)} (hg:guardT ops s o = true) (ho:o.op = .call { callee:=.value f,args,argTypes:=ts }) (hd:dstB nt o.dst = true)
  (hf:s.calleeS f = some (g,caps)) (ha:mapO s.evS args.toList = some ps) (hc:ACalls P g (ps ++ caps) (fun r'=>r' = .own e sz es)) :
  StepOK P nt ops o s ⟨some (.arr s.nxt),true,[],[]⟩ ((s.newObj (.arr e sz es)).putO o.dst (some (.arr s.nxt))):= by
 refine StepOK.mkE hg (by cases hd:o.dst <;> rfl) (by cases hd:o.dst <;> exact Nat.le_succ _) (fun id hid _=>?_) fun fr s1 s2 h1 h2 h3 h4 h5 h6 h7=>?_
 ·have:((s.newObj (.arr e sz es)).putO o.dst (some (.arr s.nxt))).obj id = (s.newObj (.arr e sz es)).obj id:=by cases hd:o.dst <;> rfl
  rw [this,ASt.obj_newObj,if_neg (by omega)]
 ·have h8:=op_call1 (r:=.own e sz es) ho hd (by rw [(call_local ho h1).1]; exact hf) (by rw [(call_local ho h1).2]; exact ha) hc
  have e1:s1.bind o.dst (.own e sz es) = (s1.newObj (.arr e sz es)).putO o.dst (some (.arr s1.nxt)):=rfl
  rw [e1] at h8
  refine h8.ext (fun t=>?_) (fun id=>?_) ?_
  ·show look s2.env t = look _ t
   rw [h5,<- h2]; cases hd:o.dst <;> rfl
  ·have q1:((s.newObj (.arr e sz es)).putO o.dst (some (.arr s.nxt))).obj id = (s.newObj (.arr e sz es)).obj id:=by cases hd:o.dst <;> rfl
   have q2:((s1.newObj (.arr e sz es)).putO o.dst (some (.arr s1.nxt))).obj id = (s1.newObj (.arr e sz es)).obj id:=by cases hd:o.dst <;> rfl
   rw [h7,q1,q2,ASt.obj_newObj,ASt.obj_newObj,h2]
   by_cases hid:id ∈ fr
   ·rw [if_pos hid,if_neg (by have:=(h3 id hid).1; omega)]
   ·rw [if_neg hid,h4 id hid]
  ·rw [h6]; cases hd:o.dst <;> simp [ASt.putO,ASt.put,ASt.newObj,h2]
def ASt.srcS (s:ASt) (x:Operand):Option (List (List PV)):=match s.ev x with
 | some (.pv (.sl ys))=>some ys
 | some .nils=>some []
 | _=>none
theorem srcS_src {x:Operand} {ys:List (List PV)} (h:s.srcS x = some ys):s.srcOf x = some ys:= by
 unfold ASt.srcS at h
 unfold ASt.srcOf
 split at h <;> simp_all
theorem D_append {t e id sz:Nat} {x0 x:Operand} {ti ei:TyI} {es ys:List (List PV)} (hT:TabOK P T) (hg:guardT ops s o = true) (ho:o.op = .call { callee:=.builtin .append,args:=#[x0,x],argTypes:=#[t,t] }) (hd:dstB nt o.dst = true)
  (ht:T t = some ti) (hk:ti.kind = .slice e) (he:T e = some ei) (hpos:Nat.blt 0 ei.size = true) (hzl:Nat.beq ei.zero.length ei.size = true) (hx0:s.ev x0 = some (.arr id)) (hob:s.obj id = some (.arr e sz es)) (hsz:Nat.beq sz ei.size = true)
  (hy:s.srcS x = some ys) (hyl:∀ y ∈ ys,y.length = sz) (hmax:es.length + ys.length <= 1099511627776) (hby:Nat.ble ei.bytes 128 = true) :
  StepOK P nt ops o s ⟨some (.arr s.nxt),true,[],[id]⟩ (((s.setObj id none).newObj (.arr e sz (es ++ ys))).putO o.dst (some (.arr s.nxt))):= by
 refine StepOK.mkE hg (by cases hd:o.dst <;> rfl) (by cases hd:o.dst <;> exact Nat.le_succ _) (fun id' hid hm=>?_) fun fr s1 s2 h1 h2 h3 h4 h5 h6 h7=>?_
 ·have:(((s.setObj id none).newObj (.arr e sz (es ++ ys))).putO o.dst (some (.arr s.nxt))).obj id' = ((s.setObj id none).newObj (.arr e sz (es ++ ys))).obj id':=by cases hd:o.dst <;> rfl
  rw [this,ASt.obj_newObj]
  have hn2:(s.setObj id none).nxt = s.nxt:=rfl
  rw [hn2,if_neg (by omega),ASt.obj_setObj,if_neg (fun e=>hm (by simp [e]))]
 ·have hidf:id ∉ fr:=fun hf=>(h3 id hf).2 (by simp)
  have hob1:s1.obj id = some (.arr e sz es):=by rw [h4 id hidf]; exact hob
  have hys:s1.srcS x = some ys:=by unfold ASt.srcS; rw [ev_agree h1 (by simp [ho,Op.operands,Call.operands])]; exact hy
  have h8:=op_append (s:=s1) hT ho hd ht hk he hpos hzl (by rw [ev_agree h1 (by simp [ho,Op.operands,Call.operands])]; exact hx0) hob1 hsz (srcS_src hys) hyl hmax hby
  refine h8.ext (fun t=>?_) (fun id'=>?_) ?_
  ·show look s2.env t = look _ t
   rw [h5,<- h2]; cases hd:o.dst <;> rfl
  ·have q1:(((s.setObj id none).newObj (.arr e sz (es ++ ys))).putO o.dst (some (.arr s.nxt))).obj id' = ((s.setObj id none).newObj (.arr e sz (es ++ ys))).obj id':=by cases hd:o.dst <;> rfl
   have q2:(((s1.setObj id none).newObj (.arr e sz (es ++ ys))).putO o.dst (some (.arr s1.nxt))).obj id' = ((s1.setObj id none).newObj (.arr e sz (es ++ ys))).obj id':=by cases hd:o.dst <;> rfl
   rw [h7,q1,q2,ASt.obj_newObj,ASt.obj_newObj,ASt.obj_setObj,ASt.obj_setObj]
   have n1:(s.setObj id none).nxt = s.nxt:=rfl
   have n2:(s1.setObj id none).nxt = s.nxt:=h2
   rw [n1,n2]
   by_cases hid:id' ∈ fr
   ·rw [if_pos hid,if_neg (by have:=(h3 id' hid).1; omega),if_neg (fun e:id = id'=>hidf (by rw [e]; exact hid))]
   ·rw [if_neg hid,h4 id' hid]
  ·rw [h6]; cases hd:o.dst <;> simp [ASt.putO,ASt.put,ASt.newObj,ASt.setObj,h2]
theorem op_buildSlice_p {t e n:Nat} {ps:Array (Nat × Operand)} {ti ei:TyI} {es:List (List PV)} (hT:TabOK P T) (ho:o.op = .buildSlice t n ps) (hd:dstB nt o.dst = true) (ht:T t = some ti) (hk:ti.kind = .slice e) (he:T e = some ei)
  (hpos:Nat.blt 0 ei.size = true) (hp:partsP s ei.size 0 ps.toList = some es) (hn:Nat.beq ps.toList.length n = true) (hmax:Nat.ble (n * ei.size) 100000 = true):OpTo P nt o s (s.putO o.dst (some (.pv (.sl es)))):= by
 intro ro W0 D0 D φ a w hI K Q hK
 refine op_buildSlice hT ho hd ht hk he hpos hp hn hmax ro W0 D0 D φ a w hI K Q fun D' φ' a' w' hI'=>?_
 have hob:((s.newObj (.arr e ei.size es)).putO o.dst (some (.arr s.nxt))).obj s.nxt = some (.arr e ei.size es):= by
  have:((s.newObj (.arr e ei.size es)).putO o.dst (some (.arr s.nxt))).obj s.nxt = (s.newObj (.arr e ei.size es)).obj s.nxt:=by cases hd:o.dst <;> rfl
  rw [this,ASt.obj_newObj,if_pos rfl]
 obtain ⟨D2,hF⟩:=hI'.freeze hob
 refine hK D2 φ' a' w' ?_
 have back:∀ id ob,(s.putO o.dst (some (.pv (.sl es)))).obj id = some ob -> (((s.newObj (.arr e ei.size es)).putO o.dst (some (.arr s.nxt))).setObj s.nxt (some (.fro es))).obj id = some ob:= by
  intro id ob hob2
  have hob2':s.obj id = some ob:= by
   have:(s.putO o.dst (some (.pv (.sl es)))).obj id = s.obj id:=by cases hd:o.dst <;> rfl
   rw [<- this]; exact hob2
  have hlt:=(hI.objs id ob hob2').1
  rw [ASt.obj_setObj,if_neg (by omega)]
  have:((s.newObj (.arr e ei.size es)).putO o.dst (some (.arr s.nxt))).obj id = (s.newObj (.arr e ei.size es)).obj id:=by cases hd:o.dst <;> rfl
  rw [this,ASt.obj_newObj,if_neg (by omega)]; exact hob2'
 refine ⟨hF.below,hF.size,hF.defers_of back,hF.dlt,hF.dof,hF.d0,?_,?_,?_,?_⟩
 ·intro tt x hx
  have old:s.get tt = some x -> x.lt s.nxt = true:=fun h=>(hI.env tt x h).1
  cases hdd:o.dst with
  | none =>
   rw [hdd] at hx hF
   exact ⟨old hx,(hF.env tt x hx).2⟩
  | some d =>
   rw [hdd] at hx hF
   simp only [ASt.putO,ASt.get_put] at hx
   by_cases htd:d = tt
   ·subst htd
    rw [if_pos rfl] at hx
    cases hx
    refine ⟨rfl,?_⟩
    obtain ⟨_,v,hv,hr⟩:=hF.env d (.arr s.nxt) (by show look _ _ = _; simp [ASt.putO,ASt.put,ASt.setObj,look_cons_eq])
    refine ⟨v,hv,?_⟩
    cases hr with
    | arr id m c ad hφ =>
     have:Rep w' D2 (φ' s.nxt) (.sl es):=(hF.objs s.nxt (.fro es) (by rw [ASt.obj_setObj,if_pos rfl])).2.2
     rw [hφ] at this
     exact .pv _ _ this
   ·rw [if_neg htd] at hx
    refine ⟨old hx,(hF.env tt x ?_).2⟩
    show look _ _ = _
    simp only [ASt.putO,ASt.put,ASt.setObj,ASt.newObj]
    rw [look_cons_ne _ _ htd]; exact hx
 ·intro id ob hob2
  have hob2':s.obj id = some ob:= by
   have:(s.putO o.dst (some (.pv (.sl es)))).obj id = s.obj id:=by cases hd:o.dst <;> rfl
   rw [<- this]; exact hob2
  have hlt:=hI.objs id ob hob2'
  have hn2:(s.putO o.dst (some (.pv (.sl es)))).nxt = s.nxt:=by cases hd:o.dst <;> rfl
  rw [hn2]
  refine ⟨hlt.1,hlt.2.1,(hF.objs id ob ?_).2.2⟩
  rw [ASt.obj_setObj,if_neg (by omega)]
  have:((s.newObj (.arr e ei.size es)).putO o.dst (some (.arr s.nxt))).obj id = (s.newObj (.arr e ei.size es)).obj id:=by cases hd:o.dst <;> rfl
  rw [this,ASt.obj_newObj,if_neg (by omega)]; exact hob2'
 ·intro id ob b hob2
  have hob2':s.obj id = some ob:= by
   have:(s.putO o.dst (some (.pv (.sl es)))).obj id = s.obj id:=by cases hd:o.dst <;> rfl
   rw [<- this]; exact hob2
  have hlt:=(hI.objs id ob hob2').1
  refine hF.own id ob b ?_
  rw [ASt.obj_setObj,if_neg (by omega)]
  have:((s.newObj (.arr e ei.size es)).putO o.dst (some (.arr s.nxt))).obj id = (s.newObj (.arr e ei.size es)).obj id:=by cases hd:o.dst <;> rfl
  rw [this,ASt.obj_newObj,if_neg (by omega)]; exact hob2'
 ·intro id ob id' ob' b h1 h2
  have back:∀ id ob,(s.putO o.dst (some (.pv (.sl es)))).obj id = some ob -> (((s.newObj (.arr e ei.size es)).putO o.dst (some (.arr s.nxt))).setObj s.nxt (some (.fro es))).obj id = some ob:= by
   intro id ob hob2
   have hob2':s.obj id = some ob:= by
    have:(s.putO o.dst (some (.pv (.sl es)))).obj id = s.obj id:=by cases hd:o.dst <;> rfl
    rw [<- this]; exact hob2
   have hlt:=(hI.objs id ob hob2').1
   rw [ASt.obj_setObj,if_neg (by omega)]
   have:((s.newObj (.arr e ei.size es)).putO o.dst (some (.arr s.nxt))).obj id = (s.newObj (.arr e ei.size es)).obj id:=by cases hd:o.dst <;> rfl
   rw [this,ASt.obj_newObj,if_neg (by omega)]; exact hob2'
  exact hF.sep id ob id' ob' b (back id ob h1) (back id' ob' h2)
def partsS (s:ASt) (sz:Nat):Nat -> List (Nat × Operand) -> Option (List (List PV))
 | _,[]=>some []
 | k,(i,x) :: r=>match Nat.beq i k,s.evS x,partsS s sz (k + 1) r with
  | true,some p,some l=>match Nat.beq (cellsP p).length sz,leafP (cellsP p) with
   | true,true=>some (cellsP p :: l)
   | _,_=>none
  | _,_,_=>none
theorem partsS_P {sz:Nat}:∀ {l:List (Nat × Operand)} {k:Nat} {es:List (List PV)},partsS s sz k l = some es -> partsP s sz k l = some es
 | [],_,_,h=>h
 | (i,x) :: l,k,es,h=>by
  unfold partsS at h
  unfold partsP
  split at h
  ·rename_i p l' h1 h2 h3
   rw [h1,evS_D h2,partsS_P h3]; exact h
  ·cases h
theorem partsS_local {s1:ASt} {sz:Nat} {L:List Operand} (h:∀ t ∈ opTmps L,s1.get t = s.get t):∀ {l:List (Nat × Operand)} {k:Nat},(∀ p ∈ l,p.2 ∈ L) -> partsS s1 sz k l = partsS s sz k l
 | [],_,_=>rfl
 | (i,x) :: l,k,hm=>by
  unfold partsS
  rw [evS_local h (hm (i,x) (by simp)),partsS_local h (l:=l) fun p hp=>hm p (by simp [hp])]
theorem D_buildSlice {t e n:Nat} {ps:Array (Nat × Operand)} {ti ei:TyI} {es:List (List PV)} (hT:TabOK P T) (hg:guardT ops s o = true) (ho:o.op = .buildSlice t n ps) (hd:dstB nt o.dst = true) (ht:T t = some ti) (hk:ti.kind = .slice e) (he:T e = some ei)
  (hpos:Nat.blt 0 ei.size = true) (hp:partsS s ei.size 0 ps.toList = some es) (hn:Nat.beq ps.toList.length n = true) (hmax:Nat.ble (n * ei.size) 100000 = true) :
  StepOK P nt ops o s ⟨some (.pv (.sl es)),false,[],[]⟩ (s.putO o.dst (some (.pv (.sl es)))) :=
 StepOK.mkP hg fun s1 h1 _=>op_buildSlice_p hT ho hd ht hk he hpos (partsS_P (by rw [partsS_local h1 fun p hp=>by simp [ho,Op.operands]; exact ⟨p.1,by simpa using hp⟩]; exact hp)) hn hmax
end
end Go.Abs
namespace Go.Abs
open Go.RowKit
section
variable {P:Program} {T:Nat -> Option TyI} {nt:Nat} {s:ASt} {o:Oper} {ops:Array Oper} {rest:List Oper} {Q:Exit -> ASt -> Prop}
theorem AL_gcases {j d:Nat} {b c:Bool} (hg:o.guard = some (j,b)) (hj:(ops[j]?).bind (·.dst) = some d) (hd:s.get d = some (.pv (.bool c))) (h1:c = true -> AL P nt ops (o :: rest) Q (s.put d (some (.pv (.bool true)))))
  (h2:c = false -> AL P nt ops (o :: rest) Q (s.put d (some (.pv (.bool false))))):AL P nt ops (o :: rest) Q s:=AL_cases hd h1 h2
theorem AL_gdec {j d:Nat} {b:Bool} {p:Prop} [Decidable p] (hg:o.guard = some (j,b)) (hj:(ops[j]?).bind (·.dst) = some d) (hd:s.get d = some (.pv (.bool (decide p)))) (h1:p -> AL P nt ops (o :: rest) Q (s.put d (some (.pv (.bool true)))))
  (h2:¬ p -> AL P nt ops (o :: rest) Q (s.put d (some (.pv (.bool false))))):AL P nt ops (o :: rest) Q s:=AL_cases hd (fun h=>h1 (of_decide_eq_true h)) (fun h=>h2 (of_decide_eq_false h))
theorem AL_gnot {j d:Nat} {b:Bool} {p:Prop} [Decidable p] (hg:o.guard = some (j,b)) (hj:(ops[j]?).bind (·.dst) = some d) (hd:s.get d = some (.pv (.bool (!decide p)))) (h1:¬ p -> AL P nt ops (o :: rest) Q (s.put d (some (.pv (.bool true)))))
  (h2:p -> AL P nt ops (o :: rest) Q (s.put d (some (.pv (.bool false))))):AL P nt ops (o :: rest) Q s:=AL_cases hd (fun h=>h1 (by simpa using h)) (fun h=>h2 (by simpa using h))
theorem AW_if {c:Nat} {x y:Code} {p:Prop} [Decidable p] (hc:s.get c = some (.pv (.bool (decide p)))) (h1:p -> AW P nt x Q s) (h2:¬ p -> AW P nt y Q s):AW P nt (.cond (.tmp c) x y) Q s :=
 AW_cond hc (fun h=>h1 (of_decide_eq_true h)) (fun h=>h2 (of_decide_eq_false h))
theorem op_callB {f:Operand} {args:Array Operand} {ts:Array TypeId} {g:FuncId} {caps ps:List PV} {r:RV} (ho:o.op = .call { callee:=.value f,args,argTypes:=ts }) (hd:dstB nt o.dst = true)
  (hf:s.callee f = some (g,caps)) (ha:mapO s.evB args.toList = some ps) (hc:ACalls P g (ps ++ caps) (fun r'=>r' = r)) (hfl:r.flat = true):OpTo P nt o s (s.bind o.dst r):= by
 have:=op_call ho hd hf ha hc (fun r' hr'=>by subst hr'; exact hfl)
 exact OpToS.one fun ro W0 D0 D φ a w hI K Q hK=>this ro W0 D0 D φ a w hI K Q fun s2 D' φ' a' w' ⟨r',e1,e2⟩ hI'=>hK s2 D' φ' a' w' (by rw [e2,e1]) hI'
end
end Go.Abs
