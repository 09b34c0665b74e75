/- Calls and functions. -/
import Derived.Test.YtpoaccdbakbjhaaGreatXG05
import Derived.RangeFuncLeaves
set_option linter.unusedVariables false
set_option linter.unusedSimpArgs false
namespace Go.Abs
open Go.RowKit
inductive RV where
 | pv (p:PV)
 | own (e sz:Nat) (es:List (List PV))
 | imap (ks:List Int)
 | tup (ps:List PV)
def RRep (base:Nat) (w:World) (D:Nat -> Prop) (v:Value):RV -> Prop
 | .pv p=>Rep w D v p
 | .own e sz es=>∃ xs,w.ownsRow base e sz v es.length xs /\ XRep w D sz xs es /\ ∀ b,blk v = some b -> ¬ D b
 | .imap ks=>∃ r es clock,v = .map (some r) /\ w.heap[r]? = some (.map es clock) /\ MRep es clock ks /\ base <= r /\ ¬ D r
 | .tup ps=>∃ vs,v = .tuple vs /\ vs.size = ps.length /\ ∀ (j:Nat) (u:Value) (p:PV),vs[j]? = some u -> ps[j]? = some p -> Rep w D u p
def RepL (w:World) (D:Nat -> Prop) (vs:Array Value) (ps:List PV):Prop:=vs.size = ps.length /\ ∀ (j:Nat) (u:Value) (p:PV),vs[j]? = some u -> ps[j]? = some p -> Rep w D u p
def Enters (P:Program) (f:FuncId):Prop:=∀ args w,(callFunc f args).run P w = .ok (.enter f args) w
structure CallPost (W:World) (D:Nat -> Prop) (Q:RV -> Prop) (e:Ending) (w':World):Prop where
 out:∃ v r D',e = .returned v /\ Below W.heap.size W w' /\ (∀ b,D b -> D' b) /\ (∀ b,D' b -> D b \/ W.heap.size <= b) /\ (∀ b,D' b -> b < w'.heap.size) /\ RRep W.heap.size w' D' v r /\ Q r
def ACalls (P:Program) (f:FuncId) (ps:List PV) (Q:RV -> Prop):Prop :=
 Enters P f /\ ∀ W D vs,(∀ b,D b -> b < W.heap.size) -> RepL W D vs ps -> Calls P f vs W (CallPost W D Q)
theorem ACalls.mono {P:Program} {f:FuncId} {ps:List PV} {Q Q':RV -> Prop} (h:ACalls P f ps Q) (hq:∀ r,Q r -> Q' r):ACalls P f ps Q' :=
 ⟨h.1,fun W D vs hD hr=>(h.2 W D vs hD hr).mono fun e w' ⟨v,r,D',h1,h2,h3,h4,h5,h6,h7⟩=>⟨v,r,D',h1,h2,h3,h4,h5,h6,hq r h7⟩⟩
def ASt.callee (s:ASt) (f:Operand):Option (FuncId × List PV):=match s.evB f with
 | some (.fn g caps)=>some (g,caps)
 | _=>none
def ASt.calleeD (s:ASt) (f:Operand):Option (FuncId × List PV):=match s.evD f with
 | some (.fn g caps)=>some (g,caps)
 | _=>none
def ASt.bind (s:ASt) (d:Option Nat):RV -> ASt
 | .pv p=>s.putO d (some (.pv p))
 | .own e sz es=>(s.newObj (.arr e sz es)).putO d (some (.arr s.nxt))
 | .imap ks=>(s.newObj (.imap ks)).putO d (some (.mp s.nxt))
 | .tup ps=>s.putO d (some (.tup (ps.map .pv)))
def flatLL:List (List PV) -> Bool
 | []=>true
 | e :: es=>PV.flatL e && flatLL es
def RV.flat:RV -> Bool
 | .pv p=>p.flat
 | .own _ _ es=>flatLL es
 | .imap _=>true
 | .tup ps=>PV.flatL ps
theorem flatLL_mem:∀ {es:List (List PV)} {e:List PV},flatLL es = true -> e ∈ es -> PV.flatL e = true
 | [],_,_,hp=>by cases hp
 | _ :: _,_,h,hp=>by
  simp only [flatLL,Bool.and_eq_true] at h
  cases hp with
  | head=>exact h.1
  | tail _ hp=>exact flatLL_mem h.2 hp
def OpToS (P:Program) (nt:Nat) (o:Oper) (s:ASt) (R:ASt -> Prop):Prop:=∀ ro W0 D0 D φ a w,Inv W0 D0 nt s D φ a w -> ∀ (K:Act -> World -> Prop) (Q:Exit -> Act -> World -> Prop),
 (∀ s' D' φ' a' w',R s' -> Inv W0 D0 nt s' D' φ' a' w' -> K a' w') -> o.wpIn (FW ro) 0 P a w K Q
section
variable {P:Program} {nt:Nat} {s:ASt} {o:Oper} {ops:Array Oper} {rest:List Oper} {Q:Exit -> ASt -> Prop}
theorem AL_opS {R:ASt -> Prop} (hg:o.guard = none) (ho:OpToS P nt o s R) (h:∀ s',R s' -> AL P nt ops rest Q s'):AL P nt ops (o :: rest) Q s:= by
 intro ro W0 D0 D φ a w hr hI
 unfold wpListIn
 rw [if_pos (by simp [Region.wanted,hg])]
 exact ho ro W0 D0 D φ a w hI _ _ fun s' D' φ' a' w' hs' hI'=>h s' hs' ro W0 D0 D' φ' a' w' hr hI'
theorem AL_guardS_t {R:ASt -> Prop} {j d:Nat} {b:Bool} (hg:o.guard = some (j,b)) (hj:(ops[j]?).bind (·.dst) = some d) (hd:s.get d = some (.pv (.bool b))) (ho:OpToS P nt o s R) (h:∀ s',R s' -> AL P nt ops rest Q s') :
  AL P nt ops (o :: rest) Q s:= by
 intro ro W0 D0 D φ a w hr hI
 have hy:=yielded_of hI hj hd
 unfold wpListIn
 rw [if_pos (by simp [Region.wanted,hg,hy])]
 exact ho ro W0 D0 D φ a w hI _ _ fun s' D' φ' a' w' hs' hI'=>h s' hs' ro W0 D0 D' φ' a' w' hr hI'
theorem ownsRow_base {w:World} {base base' e sz n:Nat} {v:Value} {xs:List Value} (h:w.ownsRow base e sz v n xs) (hb:∀ b,blk v = some b -> base' <= b):w.ownsRow base' e sz v n xs:= by
 refine ⟨h.1,?_⟩
 rcases h.2 with h2|⟨g,cap,cur,rfl,hg,r⟩
 ·exact .inl h2
 ·exact .inr ⟨g,cap,cur,rfl,hb g rfl,r⟩
theorem Inv.bind {W0:World} {D0:Bas} {D:Nat -> Prop} {φ:Nat -> Value} {a:Act} {w w':World} (hI:Inv W0 D0 nt s D φ a w) {D':Nat -> Prop} (hb:Below w.heap.size w w') (hD:∀ b,D b -> D' b) (hDn:∀ b,D' b -> D b \/ (b < w'.heap.size /\ w.heap.size <= b))
  {v:Value} {r:RV} (hr:RRep w.heap.size w' D' v r) (d:Option Nat) (hd:dstB nt d = true):∃ φ',Inv W0 D0 nt (s.bind d r) D' φ' (a.put d v) w':= by
 cases r with
 | pv p=>exact ⟨φ,(hI.grow hb hD hDn).put d (dstB_lt hd) v _ fun x' hx'=>by cases hx'; exact ⟨rfl,.pv _ _ hr⟩⟩
 | tup ps =>
  obtain ⟨vs,rfl,h1,h2⟩:=hr
  refine ⟨φ,(hI.grow hb hD hDn).put d (dstB_lt hd) _ _ fun x' hx'=>?_⟩
  cases hx'
  refine ⟨ltL_of fun x hx=>?_,.tup vs _ (by simpa using h1) fun j u p hu hp=>?_⟩
  ·simp at hx; obtain ⟨p,_,rfl⟩:=hx; rfl
  ·rw [List.getElem?_map,Option.map_eq_some_iff] at hp
   obtain ⟨q,hq,rfl⟩:=hp
   exact .pv _ _ (h2 j u q hu hq)
 | own e sz es =>
  obtain ⟨xs,h1,h2,h3⟩:=hr
  obtain ⟨a0,c0,hv,hnc⟩:=ownsRow_slice h1
  refine ⟨addH φ s.nxt v,?_⟩
  have hN:=hI.new hb hD hDn (.arr e sz es) v rfl ⟨xs,by rw [addH_new]; exact ownsRow_base h1 (fun _ _=>Nat.zero_le _),h2⟩ (fun b hbk=>by
   refine ⟨?_,?_,h3 b hbk⟩
   ·rcases h1.2 with ⟨h,_⟩|⟨g,cap,cur,g1,g2,g3⟩
    ·rw [h] at hbk; cases hbk
    ·rw [g1] at hbk; cases hbk; exact g2
   ·rcases h1.2 with ⟨h,_⟩|⟨g,cap,cur,g1,g2,g3,_⟩
    ·rw [h] at hbk; cases hbk
    ·rw [g1] at hbk; cases hbk; exact (Array.getElem?_eq_some_iff.1 g3).1)
  refine hN.put d (dstB_lt hd) v _ fun x' hx'=>?_
  cases hx'
  refine ⟨by simp [FV.lt,ASt.newObj],?_⟩
  rw [hv]; exact .arr _ _ _ _ (by rw [addH_new])
 | imap ks =>
  obtain ⟨r,es,clock,rfl,h2,h3,h4,h5⟩:=hr
  refine ⟨addH φ s.nxt (.map (some r)),?_⟩
  have hN:=hI.new hb hD hDn (.imap ks) (.map (some r)) rfl ⟨r,es,clock,addH_new _ _ _,h2,h3⟩ (fun b hbk=>by
   cases hbk; exact ⟨h4,(Array.getElem?_eq_some_iff.1 h2).1,h5⟩)
  refine hN.put d (dstB_lt hd) _ _ fun x' hx'=>?_
  cases hx'
  exact ⟨by simp [FV.lt,ASt.newObj],.mp _ _ (addH_new _ _ _)⟩
theorem RRep.mono {base:Nat} {w:World} {D D':Nat -> Prop} {v:Value} {r:RV} (h:RRep base w D v r) (hf:r.flat = true) (hD:∀ b,D' b -> D b):RRep base w D' v r:= by
 cases r with
 | pv p=>exact h.flat_any hf _ _
 | tup ps =>
  obtain ⟨vs,h1,h2,h3⟩:=h
  exact ⟨vs,h1,h2,fun j u p hu hp=>(h3 j u p hu hp).flat_any (PV.flatL_mem hf (List.mem_of_getElem? hp)) _ _⟩
 | own e sz es =>
  obtain ⟨xs,h1,h2,h3⟩:=h
  refine ⟨xs,h1,⟨h2.1,fun i j el p he hp=>?_⟩,fun b hb hd=>h3 b hb (hD b hd)⟩
  obtain ⟨g1,u,g2,g3⟩:=h2.2 i j el p he hp
  exact ⟨g1,u,g2,g3.flat_any (PV.flatL_mem (flatLL_mem hf (List.mem_of_getElem? he)) (List.mem_of_getElem? hp)) _ _⟩
 | imap ks =>
  obtain ⟨r,es,clock,h1,h2,h3,h4,h5⟩:=h
  exact ⟨r,es,clock,h1,h2,h3,h4,fun hd=>h5 (hD r hd)⟩
theorem evB_args {W0:World} {D0:Bas} {D:Nat -> Prop} {φ:Nat -> Value} {a:Act} {w:World} (hI:Inv W0 D0 nt s D φ a w) {args:Array Operand} {ps:List PV} (h:mapO s.evB args.toList = some ps):RepL w (inAll s D φ) (args.map a.eval) ps:= by
 obtain ⟨h1,h2⟩:=mapO_some h
 refine ⟨by simpa using h1,fun j u p hu hp=>?_⟩
 rw [Array.getElem?_map,Option.map_eq_some_iff] at hu
 obtain ⟨x,hx,rfl⟩:=hu
 exact hI.evB (h2 j x p (by simpa using hx) hp)
theorem evD_args {W0:World} {D0:Bas} {D:Nat -> Prop} {φ:Nat -> Value} {a:Act} {w:World} (hI:Inv W0 D0 nt s D φ a w) {args:Array Operand} {ps:List PV} (h:mapO s.evD args.toList = some ps):RepL w D (args.map a.eval) ps:= by
 obtain ⟨h1,h2⟩:=mapO_some h
 refine ⟨by simpa using h1,fun j u p hu hp=>?_⟩
 rw [Array.getElem?_map,Option.map_eq_some_iff] at hu
 obtain ⟨x,hx,rfl⟩:=hu
 exact hI.evD (h2 j x p (by simpa using hx) hp)
theorem RepL.append {w:World} {D:Nat -> Prop} {vs us:Array Value} {ps qs:List PV} (h:RepL w D vs ps) (h':RepL w D us qs):RepL w D (vs ++ us) (ps ++ qs):= by
 refine ⟨by simp [h.1,h'.1],fun j u p hu hp=>?_⟩
 by_cases hj:j < vs.size
 ·rw [Array.getElem?_append_left hj] at hu
  rw [List.getElem?_append_left (by rw [<- h.1]; exact hj)] at hp
  exact h.2 j u p hu hp
 ·rw [Array.getElem?_append_right (by omega)] at hu
  rw [List.getElem?_append_right (by rw [<- h.1]; omega),<- h.1] at hp
  exact h'.2 _ u p hu hp
theorem call_run {w:World} {a:Act} {f:Operand} {args:Array Operand} {ts:Array TypeId} {g:FuncId} {vs:Array Value} (ho:o.op = .call { callee:=.value f,args,argTypes:=ts }) (hf:a.eval f = .func (.func g) #[] vs) (hg:Enters P g) :
  (execOp a.eval o).run P w = .ok (.enter g (args.map a.eval ++ vs)) w:= by
 simp only [execOp,ho,resolve,hf,Deferred.ofValue,Sem.run_bind,Sem.run_pure,Result.andThen_ok,invoke,Array.empty_append]
 exact hg _ _
theorem op_call {f:Operand} {args:Array Operand} {ts:Array TypeId} {g:FuncId} {caps ps:List PV} {Qf:RV -> Prop} (ho:o.op = .call { callee:=.value f,args,argTypes:=ts }) (hd:dstB nt o.dst = true)
  (hf:s.callee f = some (g,caps)) (ha:mapO s.evB args.toList = some ps) (hc:ACalls P g (ps ++ caps) Qf) (hfl:∀ r,Qf r -> r.flat = true):OpToS P nt o s (fun s'=>∃ r,Qf r /\ s' = s.bind o.dst r):= by
 intro ro W0 D0 D φ a w hI K Q hK
 have hfr:∃ vs,a.eval f = .func (.func g) #[] vs /\ RepL w (inAll s D φ) vs caps:= by
  unfold ASt.callee at hf
  split at hf
  ·rename_i g' caps' he
   cases hf
   have:=hI.evB he
   generalize a.eval f = v at this
   cases this with
   | fn f vs cs hl hr=>exact ⟨vs,rfl,hl,hr⟩
  ·cases hf
 obtain ⟨vs,hv,hvr⟩:=hfr
 refine wpIn_of (by rw [ho]; intro c hc; cases hc) ?_
 unfold Oper.wp
 rw [call_run ho hv hc.1]
 have hall:∀ b,inAll s D φ b -> b < w.heap.size:= by
  rintro b (hb|⟨id,ob,h1,h2⟩)
  ·exact hI.dlt b hb
  ·exact (hI.own id ob b h1 h2).2.2
 refine (hc.2 w (inAll s D φ) _ hall ((evB_args hI ha).append hvr)).mono ?_
 rintro e w' ⟨v,r,D',rfl,h2,h3,h4,h5,h6,h7⟩
 have h6':RRep w.heap.size w' (fun b=>D b \/ (w.heap.size <= b /\ D' b)) v r:=h6.mono (hfl r h7) (fun b hb=>by
  rcases hb with hb|hb
  ·exact h3 b (.inl hb)
  ·exact hb.2)
 obtain ⟨φ',hI'⟩:=hI.bind h2 (fun b hb=>.inl hb) (fun b hb=>by
  rcases hb with hb|hb
  ·exact .inl hb
  ·exact .inr ⟨h5 b hb.2,hb.1⟩) h6' o.dst hd
 exact hK _ _ _ _ _ ⟨r,h7,rfl⟩ hI'
theorem op_callD {f:Operand} {args:Array Operand} {ts:Array TypeId} {g:FuncId} {caps ps:List PV} {Qf:RV -> Prop} (ho:o.op = .call { callee:=.value f,args,argTypes:=ts }) (hd:dstB nt o.dst = true)
  (hf:s.calleeD f = some (g,caps)) (ha:mapO s.evD args.toList = some ps) (hc:ACalls P g (ps ++ caps) Qf):OpToS P nt o s (fun s'=>∃ r,Qf r /\ s' = s.bind o.dst r):= by
 intro ro W0 D0 D φ a w hI K Q hK
 have hfr:∃ vs,a.eval f = .func (.func g) #[] vs /\ RepL w D vs caps:= by
  unfold ASt.calleeD at hf
  split at hf
  ·rename_i g' caps' he
   cases hf
   have:=hI.evD he
   generalize a.eval f = v at this
   cases this with
   | fn f vs cs hl hr=>exact ⟨vs,rfl,hl,hr⟩
  ·cases hf
 obtain ⟨vs,hv,hvr⟩:=hfr
 refine wpIn_of (by rw [ho]; intro c hc; cases hc) ?_
 unfold Oper.wp
 rw [call_run ho hv hc.1]
 refine (hc.2 w D _ hI.dlt ((evD_args hI ha).append hvr)).mono ?_
 rintro e w' ⟨v,r,D',rfl,h2,h3,h4,h5,h6,h7⟩
 obtain ⟨φ',hI'⟩:=hI.bind h2 h3 (fun b hb=>by
  rcases h4 b hb with h|h
  ·exact .inl h
  ·exact .inr ⟨h5 b hb,h⟩) h6 o.dst hd
 exact hK _ _ _ _ _ ⟨r,h7,rfl⟩ hI'
end
def entryEnv:Nat -> List PV -> List (Nat × Option FV)
 | _,[]=>[]
 | i,p :: ps=>(i,some (.pv p)) :: entryEnv (i + 1) ps
def entry (ps:List PV):ASt:=⟨entryEnv 0 ps,[],0⟩
theorem entryEnv_get:∀ (ps:List PV) (i t:Nat) (x:FV),look (entryEnv i ps) t = some x -> ∃ p,x = .pv p /\ i <= t /\ ps[t - i]? = some p
 | [],i,t,x,h=>by simp [entryEnv,look] at h
 | p :: ps,i,t,x,h=>by
  by_cases hi:i = t
  ·subst hi
   rw [entryEnv,look_cons_eq] at h
   cases h
   exact ⟨p,rfl,Nat.le_refl _,by simp⟩
  ·rw [entryEnv,look_cons_ne _ _ hi] at h
   obtain ⟨q,h1,h2,h3⟩:=entryEnv_get ps (i + 1) t x h
   refine ⟨q,h1,by omega,?_⟩
   have:t - i = (t - (i + 1)) + 1:=by omega
   rw [this,List.getElem?_cons_succ]; exact h3
theorem entry_inv {W:World} {D:Nat -> Prop} {vs:Array Value} {ps:List PV} {nt:Nat} (hD:∀ b,D b -> b < W.heap.size) (hr:RepL W D vs ps) (hn:vs.size <= nt) :
  Inv W ⟨D,fun _=>False,none,false⟩ nt (entry ps) D (fun _=>undef) { tmps:=vs ++ Array.replicate (nt - vs.size) undef,defers:=[] } W:= by
 refine ⟨BelowX.refl _ _,by simp; omega,⟨[],.nil,.nil,by simp⟩,hD,fun b hb=>.inl hb,fun b hb=>hb,?_,?_,?_,?_⟩
 ·intro t x hx
  obtain ⟨p,rfl,_,hp⟩:=entryEnv_get ps 0 t x hx
  rw [Nat.sub_zero] at hp
  have ht:t < vs.size:=by rw [hr.1]; exact (List.getElem?_eq_some_iff.1 hp).1
  refine ⟨rfl,vs[t],?_,.pv _ _ (hr.2 t _ p (by simp [ht]) hp)⟩
  rw [Array.getElem?_append_left ht]; simp [ht]
 ·intro id ob h; simp [ASt.obj,entry,look] at h
 ·intro id ob b h; simp [ASt.obj,entry,look] at h
 ·intro id ob id' ob' b h; simp [ASt.obj,entry,look] at h
def semRes (tmps:Array Value):ResultVar -> Sem Value
 | .tmp t=>pure (tmps.getD t undef)
 | .cell c t=>do loadVar t (← asAddr (tmps.getD c undef))
def tupV:List Value -> Value
 | [v]=>v
 | vs=>.tuple vs.toArray
def resFV (T:Nat -> Option TyI) (s:ASt):ResultVar -> Option FV
 | .tmp t=>s.get t
 | .cell c t=>match s.get c,T t with
  | some (.box id off),some i=>match s.obj id with
   | some (.box cs)=>loadF i.agg i.size (cs.drop off)
   | _=>none
  | _,_=>none
def ret1 (s:ASt) (x:FV):Option RV:=match x with
 | .arr id=>match s.obj id with
  | some (.arr e sz es)=>some (.own e sz es)
  | some (.fro es)=>some (.pv (.sl es))
  | _=>none
 | .mp id=>match s.obj id with
  | some (.imap ks)=>some (.imap ks)
  | _=>none
 | x=>match s.pvOf true 5 x with
  | some p=>some (.pv p)
  | none=>none
def retL (s:ASt) (xs:List FV):Option RV:=match mapO (s.pvOf true 5) xs with
 | some ps=>some (.tup ps)
 | none=>none
def retR (s:ASt):List FV -> Option RV
 | [x]=>ret1 s x
 | []=>retL s []
 | x :: y :: xs=>retL s (x :: y :: xs)
def RetQ (T:Nat -> Option TyI) (rs:List ResultVar) (Q:RV -> Prop):Exit -> ASt -> Prop
 | .normal,s=>∃ xs r,mapO (resFV T s) rs = some xs /\ retR s xs = some r /\ Q r
 | .ret,s=>∃ xs r,mapO (resFV T s) rs = some xs /\ retR s xs = some r /\ Q r
 | _,_=>False
section
variable {P:Program} {T:Nat -> Option TyI} {nt:Nat} {s:ASt}
theorem run_resVar {W0:World} {D0:Bas} {D:Nat -> Prop} {φ:Nat -> Value} {a:Act} {w:World} (hT:TabOK P T) (hI:Inv W0 D0 nt s D φ a w) {rv:ResultVar} {x:FV} (h:resFV T s rv = some x) :
  ∃ v,(semRes a.tmps rv).run P w = .ok v w /\ FRep w D φ v x:= by
 cases rv with
 | tmp t=>exact ⟨a.eval (.tmp t),rfl,hI.eval h⟩
 | cell c t =>
  simp only [resFV] at h
  split at h
  ·rename_i id off i hc ht
   split at h
   ·rename_i cs hob
    have hr:=hI.eval hc
    have he:a.eval (.tmp c) = a.tmps.getD c undef:=rfl
    have := op_load_box (P := P) (nt := nt) (o := { dst := none, op := .load t (.tmp c), type := 0, pos := "", after := #[], guard := none }) hT rfl rfl ht hc hob h
    have hx:=this none W0 D0 D φ a w hI (fun a' w'=>True) (fun _ _ _=>True) (fun _ _ _ _ _=>trivial)
    clear hx this
    generalize hv:a.eval (.tmp c) = v at hr
    cases hr with
    | box id off b hφ =>
     obtain ⟨hlt,holt,b',vs,e,h1,h2,h3,h4⟩:=hI.objs id _ hob
     rw [hφ] at h1; cases h1
     have hcell:∀ j,off + j < vs.size -> w.cell? ((⟨b,off,none⟩:Addr).add j) = some (vs.getD (off + j) undef):= by
      intro j hj
      rw [addr_add]
      simp [World.cell?,h2,hj]
     have hTy:=hT.ty ht
     cases hagg:i.agg with
     | true =>
      rw [hagg] at h
      simp only [loadF] at h
      split at h
      ·rename_i hle
       cases h
       have hle':i.size <= cs.length - off:=by simpa using Nat.le_of_ble_eq_true hle
       have hrun:=run_loadVar hTy w ⟨b,off,none⟩ (fun j=>vs.getD (off + j) undef) (fun j hj=>hcell j (by rw [hagg] at hj; simp at hj; omega))
       refine ⟨_,by simp only [semRes,<- he,hv,asAddr,Sem.run_bind,Sem.run_pure,Result.andThen_ok,hrun]; rfl,?_⟩
       rw [hagg]
       refine .agg _ _ (by simp; omega) fun j u y hu hy=>?_
       have hj:j < i.size:= by
        have:=(Array.getElem?_eq_some_iff.1 hu).1
        simpa using this
       have hu':u = vs.getD (off + j) undef:=by simpa [hj] using hu.symm
       have hy':cs[off + j]? = some y:= by
        rw [List.getElem?_take,if_pos hj,List.getElem?_drop] at hy; exact hy
       subst hu'
       have hvs:off + j < vs.size:=by rw [h3]; exact (List.getElem?_eq_some_iff.1 hy').1
       have e1:vs.getD (off + j) undef = vs[off + j]:=by simp [hvs]
       rw [e1]
       exact (h4 (off + j) _ y (by simp [hvs]) hy').2
      ·cases h
     | false =>
      rw [hagg] at h
      simp only [loadF] at h
      split at h
      ·rename_i c' r hcs
       cases h
       have hc0:cs[off]? = some x:= by
        have:(cs.drop off)[0]? = some x:=by rw [hcs]; rfl
        simpa using this
       have hvs:off < vs.size:=by rw [h3]; exact (List.getElem?_eq_some_iff.1 hc0).1
       have hrun:=run_loadVar hTy w ⟨b,off,none⟩ (fun j=>vs.getD (off + j) undef) (fun j hj=>hcell j (by rw [hagg] at hj; simp at hj; omega))
       refine ⟨_,by simp only [semRes,<- he,hv,asAddr,Sem.run_bind,Sem.run_pure,Result.andThen_ok,hrun]; rfl,?_⟩
       rw [hagg]
       have e1:vs.getD (off + 0) undef = vs[off]:=by simp [hvs]
       simp only [Bool.false_eq_true,if_false,e1]
       exact (h4 off _ x (by simp [hvs]) hc0).2
      ·cases h
   ·cases h
  ·cases h
theorem run_resList {W0:World} {D0:Bas} {D:Nat -> Prop} {φ:Nat -> Value} {a:Act} {w:World} (hT:TabOK P T) (hI:Inv W0 D0 nt s D φ a w):∀ (rs:List ResultVar) (xs:List FV),mapO (resFV T s) rs = some xs →
  ∃ vs:List Value,(rs.mapM (semRes a.tmps)).run P w = .ok vs w /\ vs.length = xs.length /\
   ∀ (j:Nat) (v:Value) (x:FV),vs[j]? = some v -> xs[j]? = some x -> FRep w D φ v x
 | [],xs,h=>by cases h; exact ⟨[],by simp,rfl,by simp⟩
 | r :: rs,xs,h=>by
  unfold mapO at h
  split at h
  ·rename_i y ys hy hys
   cases h
   obtain ⟨v,h1,h2⟩:=run_resVar hT hI hy
   obtain ⟨vs,h3,h4,h5⟩:=run_resList hT hI rs ys hys
   refine ⟨v :: vs,by simp only [List.mapM_cons,Sem.run_bind,h1,Result.andThen_ok,h3,Sem.run_pure],by simp [h4],fun j u x hu hx=>?_⟩
   cases j with
   | zero=>simp at hu hx; subst hu; subst hx; exact h2
   | succ j=>exact h5 j u x (by simpa using hu) (by simpa using hx)
  ·cases h
theorem run_results {W0:World} {D0:Bas} {D:Nat -> Prop} {φ:Nat -> Value} {a:Act} {w:World} (hT:TabOK P T) (hI:Inv W0 D0 nt s D φ a w) {fn:Func} {xs:List FV} (h:mapO (resFV T s) fn.results.toList = some xs) :
  ∃ vs:List Value,(results fn a.tmps).run P w = .ok (tupV vs) w /\ vs.length = xs.length /\ ∀ (j:Nat) (v:Value) (x:FV),vs[j]? = some v -> xs[j]? = some x -> FRep w D φ v x:= by
 obtain ⟨vs,h1,h2,h3⟩:=run_resList hT hI _ xs h
 refine ⟨vs,?_,h2,h3⟩
 have hres:results fn a.tmps = (do let vs ← fn.results.mapM (semRes a.tmps); pure (if h:vs.size = 1 then vs[0] else .tuple vs)):= by
  unfold results
  congr 2
 rw [hres,Array.mapM_eq_mapM_toList]
 simp only [Sem.run_bind,Sem.run_map,h1,Result.andThen_ok,Sem.run_pure]
 cases vs with
 | nil=>simp [tupV]
 | cons v vs=>cases vs with
  | nil=>simp [tupV]
  | cons v2 vs=>simp [tupV]
theorem ret1_rep {W:World} {D0:Bas} {D:Nat -> Prop} {φ:Nat -> Value} {a:Act} {w:World} (hI:Inv W D0 nt s D φ a w) (hX:∀ b,¬ D0.x b) {v:Value} {x:FV} {r:RV} (hf:FRep w D φ v x) (h:ret1 s x = some r) :
  RRep W.heap.size w (inAll s D φ) v r \/ RRep W.heap.size w D v r:= by
 have gen:(match s.pvOf true 5 x with
  | some p=>some (RV.pv p)
  | none=>none) = some r -> RRep W.heap.size w (inAll s D φ) v r:= by
  intro h
  split at h
  ·rename_i p hp
   cases h
   exact show Rep w (inAll s D φ) v p by simpa using pvOf_rep hI true 5 _ v p hf hp
  ·cases h
 cases hf with
 | arr id n c ad hφ =>
  right
  simp only [ret1] at h
  split at h
  ·rename_i e sz es hob
   cases h
   obtain ⟨_,_,ys,g1,g2⟩:=hI.objs id _ hob
   rw [hφ] at g1
   have hbb:∀ b,blk (Value.slice ad n c) = some b -> oblk φ id (.arr e sz es) b:=fun b hb=>by simpa [oblk,hφ] using hb
   exact ⟨ys,ownsRow_base g1 (fun b hb=>(hI.own id _ b hob (hbb b hb)).2.1.resolve_left (hX b)),g2,fun b hb=>(hI.own id _ b hob (hbb b hb)).1⟩
  ·rename_i es hob
   cases h
   have g1:Rep w D (φ id) (.sl es):=(hI.objs id _ hob).2.2
   rw [hφ] at g1; exact g1
  ·cases h
 | mp id r' hφ =>
  right
  simp only [ret1] at h
  split at h
  ·rename_i ks hob
   cases h
   obtain ⟨_,_,q,es,clock,g1,g2,g3⟩:=hI.objs id _ hob
   rw [hφ] at g1; cases g1
   have:=hI.own id _ q hob (by simp [oblk,hφ,blk])
   exact ⟨q,es,clock,rfl,g2,g3,this.2.1.resolve_left (hX q),this.1⟩
  ·cases h
 | pv v p hp=>exact .inl (gen h)
 | nils=>exact .inl (gen h)
 | yld _ _ _=>exact .inl (gen h)
 | sub _ _ _ _ _ _ _ _ _=>exact .inl (gen h)
 | box _ _ _ _=>exact .inl (gen h)
 | aptr _ _ _ _ _ _ _ _=>exact .inl (gen h)
 | fn _ _ _ _ _=>exact .inl (gen h)
 | agg _ _ _ _=>exact .inl (gen h)
 | tup _ _ _ _=>exact .inl (gen h)
theorem retL_rep {W:World} {D0:Bas} {D:Nat -> Prop} {φ:Nat -> Value} {a:Act} {w:World} (hI:Inv W D0 nt s D φ a w) {vs:List Value} {xs:List FV} {r:RV} (hl:vs.length = xs.length)
  (hf:∀ (j:Nat) (v:Value) (x:FV),vs[j]? = some v -> xs[j]? = some x -> FRep w D φ v x) (h:retL s xs = some r):RRep W.heap.size w (inAll s D φ) (.tuple vs.toArray) r:= by
 unfold retL at h
 split at h
 ·rename_i ps hp
  cases h
  obtain ⟨m1,m2⟩:=mapO_some hp
  refine ⟨vs.toArray,rfl,by simp; omega,fun j u p hu hp=>?_⟩
  have hj:j < xs.length:=by rw [m1]; exact (List.getElem?_eq_some_iff.1 hp).1
  have hx:xs[j]? = some xs[j]:=by simp [hj]
  have hu':vs[j]? = some u:=by simpa using hu
  simpa using pvOf_rep hI true 5 _ u p (hf j u _ hu' hx) (m2 j _ p hx hp)
 ·cases h
theorem retR_rep {W:World} {D0:Bas} {D:Nat -> Prop} {φ:Nat -> Value} {a:Act} {w:World} (hI:Inv W D0 nt s D φ a w) (hX:∀ b,¬ D0.x b) {vs:List Value} {xs:List FV} {r:RV} (hl:vs.length = xs.length)
  (hf:∀ (j:Nat) (v:Value) (x:FV),vs[j]? = some v -> xs[j]? = some x -> FRep w D φ v x) (h:retR s xs = some r):RRep W.heap.size w (inAll s D φ) (tupV vs) r \/ RRep W.heap.size w D (tupV vs) r:= by
 match vs,xs,hl,hf,h with
 | [],[],hl,hf,h=>exact .inl (retL_rep hI hl hf h)
 | [v],[x],hl,hf,h=>exact ret1_rep hI hX (hf 0 v x rfl rfl) h
 | v :: v2 :: vs,x :: y :: xs,hl,hf,h=>exact .inl (retL_rep hI hl hf h)
theorem ret_post {W:World} {D0:Bas} {D:Nat -> Prop} {φ:Nat -> Value} {a:Act} {w:World} (hT:TabOK P T) (hX:∀ b,¬ D0.x b) (hI:Inv W D0 nt s D φ a w) {fn:Func} {xs:List FV} {r:RV} {Q:RV -> Prop} (h:mapO (resFV T s) fn.results.toList = some xs)
  (hr:retR s xs = some r) (hq:Q r):∃ v,(results fn a.tmps).run P w = .ok v w /\ CallPost W D0.d Q (.returned v) w:= by
 obtain ⟨vs,h1,h2,h3⟩:=run_results hT hI h
 refine ⟨_,h1,?_⟩
 have hbel:Below W.heap.size W w:=⟨hI.below.os,hI.below.tape,hI.below.output,hI.below.size,fun k hk=>hI.below.block k hk (hX k)⟩
 have hdof:∀ b,D b -> D0.d b \/ W.heap.size <= b:=fun b hb=>by
  rcases hI.dof b hb with g|g|g
  ·exact .inl g
  ·exact absurd g (hX b)
  ·exact .inr g
 have hall:∀ b,inAll s D φ b -> b < w.heap.size /\ (D0.d b \/ W.heap.size <= b):= by
  rintro b (hb|⟨id,ob,g1,g2⟩)
  ·exact ⟨hI.dlt b hb,hdof b hb⟩
  ·obtain ⟨g3,g4,g5⟩:=hI.own id ob b g1 g2; exact ⟨g5,.inr (g4.resolve_left (hX b))⟩
 rcases retR_rep hI hX h2 h3 hr with hrr|hrr
 ·exact ⟨_,r,_,rfl,hbel,fun b hb=>.inl (hI.d0 b hb),fun b hb=>(hall b hb).2,fun b hb=>(hall b hb).1,hrr,hq⟩
 ·exact ⟨_,r,_,rfl,hbel,fun b hb=>hI.d0 b hb,hdof,fun b hb=>hI.dlt b hb,hrr,hq⟩
theorem Inv.take {W0:World} {D0:Bas} {D:Nat -> Prop} {φ:Nat -> Value} {a:Act} {w:World} {ms m2:List Deferred} {d:Deferred} (hI:Inv W0 D0 nt s D φ a w) (hn:((d :: ms) ++ m2).Nodup) (hm:∀ x ∈ (d :: ms) ++ m2,Marked w D s φ (mbase W0 D0) x) :
  ∃ m,d = { target:=.collected m,args:=#[] } /\ (Instr.takeDeferred m).run P w = .ok [] (w.putObj m (.deferred none)) /\ Inv W0 D0 nt s D φ { a with defers:=ms ++ pdl D0.pd ++ m2 } (w.putObj m (.deferred none)) /\
   ∀ x ∈ ms ++ m2,Marked (w.putObj m (.deferred none)) D s φ (mbase W0 D0) x:= by
 obtain ⟨m,rfl,g2,g3,g4,g5⟩:=hm d (by simp)
 rw [List.cons_append] at hn hm
 have hms:∀ x ∈ ms ++ m2,Marked (w.putObj m (.deferred none)) D s φ (mbase W0 D0) x:=fun x hx=>by
  obtain ⟨m',rfl,q2,q3,q4,q5⟩:=hm x (List.mem_cons_of_mem _ hx)
  refine ⟨m',rfl,?_,q3,q4,q5⟩
  rw [World.putObj_heap_other]
  ·exact q2
  ·rintro rfl; exact (List.nodup_cons.1 hn).1 hx
 have hDk:∀ b,D b -> (w.putObj m (.deferred none)).heap[b]? = w.heap[b]?:=fun b hb=>World.putObj_heap_other (by rintro rfl; exact g4 hb)
 refine ⟨m,rfl,run_takeDeferred g2,?_,hms⟩
 refine ⟨⟨hI.below.os,hI.below.tape,hI.below.output,by simpa using hI.below.size,fun k hk hx=>(World.putObj_heap_other (by have:=g3.2; omega)).trans (hI.below.block k hk hx)⟩,hI.size,⟨ms ++ m2,⟨ms,m2,rfl,rfl⟩,(List.nodup_cons.1 hn).2,hms⟩,
  fun b hb=>by simpa using hI.dlt b hb,hI.dof,hI.d0,fun t x hx=>?_,fun id ob ho=>?_,fun id ob b ho hb=>?_,hI.sep⟩
 ·obtain ⟨h1,v,h2,h3⟩:=hI.env t x hx
  exact ⟨h1,v,h2,h3.mono hDk (fun _ h=>h) (fun _ _=>rfl) h1⟩
 ·obtain ⟨h1,h2,h3⟩:=hI.objs id ob ho
  exact ⟨h1,h2,h3.keep h2 h1 hDk (fun _ h=>h) (fun _ _=>rfl) fun b hb=>World.putObj_heap_other (by rintro rfl; exact g5 id ob ho hb)⟩
 ·obtain ⟨h1,h2,h3⟩:=hI.own id ob b ho hb
  exact ⟨h1,h2,by simpa using h3⟩
theorem leaves_marks {F:Fence} {n:Nat} {fn:Func} {R:Ending -> World -> Prop} {u:FrameMode} {W0:World} {D0:Bas} {D:Nat -> Prop} {φ:Nat -> Value} {tmps:Array Value} {m2:List Deferred} (hu:u ≠ .run) :
  ∀ (ms:List Deferred) (w:World),Inv W0 D0 nt s D φ { tmps:=tmps,defers:=ms ++ pdl D0.pd ++ m2 } w -> (ms ++ m2).Nodup -> (∀ x ∈ ms ++ m2,Marked w D s φ (mbase W0 D0) x) →
  (∀ w',Inv W0 D0 nt s D φ { tmps:=tmps,defers:=pdl D0.pd ++ m2 } w' -> m2.Nodup -> (∀ x ∈ m2,Marked w' D s φ (mbase W0 D0) x) -> LeavesInM F n P fn tmps R (pdl D0.pd ++ m2) u w') -> LeavesInM F n P fn tmps R (ms ++ pdl D0.pd ++ m2) u w
 | [],w,hI,hn,hm,h=>h w hI hn hm
 | d :: ms,w,hI,hn,hm,h=>by
  obtain ⟨m,rfl,h2,h3,h4⟩:=hI.take (P:=P) hn hm
  exact ⟨hu,.inl ⟨m,_,rfl,h2,leaves_marks hu ms _ h3 (by rw [List.cons_append] at hn; exact (List.nodup_cons.1 hn).2) h4 h⟩⟩
theorem leaves_end {F:Fence} {n:Nat} {fn:Func} {R:Ending -> World -> Prop} {u:FrameMode} {W0:World} {D0:Bas} {D:Nat -> Prop} {φ:Nat -> Value} {tmps:Array Value} {dfs:List Deferred} (hu:u ≠ .run) (hpd:D0.pd = none) {w:World}
  (hI:Inv W0 D0 nt s D φ { tmps:=tmps,defers:=dfs } w) (h:∀ w',Inv W0 D0 nt s D φ { tmps:=tmps,defers:=[] } w' -> LeavesInM F n P fn tmps R [] u w'):LeavesInM F n P fn tmps R dfs u w:= by
 obtain ⟨ms,q1,q2,q3⟩:=hI.defers
 have hp:pdl D0.pd = []:=by rw [hpd]; rfl
 have hd:dfs = ms:=by rw [hpd] at q1; exact q1.of_none
 have e1:dfs = ms ++ pdl D0.pd ++ []:=by rw [hp,hd]; simp
 rw [e1] at hI ⊢
 refine leaves_marks hu ms w hI (by simpa using q2) (by simpa using q3) fun w' hI' _ _=>?_
 rw [hp] at hI' ⊢
 exact h w' hI'
theorem enters_of {f : FuncId} {fn : Func} {c : Code} (hf : P.funcs[f]? = some fn) (hb : fn.body = some c) (hname : (fn.name == "runtime.NumGoroutine") = false) : Enters P f := fun args w => by
 have hname' : ¬ fn.name = "runtime.NumGoroutine" := by simpa using hname
 simp [callFunc,hf,hname',hb]
theorem ACalls.of_body {f : FuncId} {fn : Func} {c : Code} {ps : List PV} {Q : RV → Prop} (hT : TabOK P T) (hf : P.funcs[f]? = some fn) (hb : fn.body = some c) (hname : (fn.name == "runtime.NumGoroutine") = false) (hn : Nat.ble ps.length fn.ntmps = true)
  (h:AW P fn.ntmps c (RetQ T fn.results.toList Q) (entry ps)):ACalls P f ps Q:= by
 refine ⟨enters_of hf hb hname,fun W D vs hD hr=>?_⟩
 have hn':=Nat.le_of_ble_eq_true hn
 refine (callsIn_wide (n:=0)).1 (callsIn_of_wp_marks hf hb trivial ?_)
 refine Go.wpIn_mono (h none W ⟨D,fun _=>False,none,false⟩ D _ _ W ⟨rfl,fun l hl=>by cases hl⟩ (entry_inv hD hr (by rw [hr.1]; exact hn'))) ?_
 have fin:∀ (a:Act) (w:World) (s':ASt) (D':Nat -> Prop) (φ':Nat -> Value),Inv W ⟨D,fun _=>False,none,false⟩ fn.ntmps s' D' φ' a w -> (∃ xs r,mapO (resFV T s') fn.results.toList = some xs /\ retR s' xs = some r /\ Q r) →
   LeavesInM Fence.wide 0 P fn a.tmps (CallPost W D Q) a.defers .returning w:= by
  rintro a w s' D' φ' hI ⟨xs,r,h1,h2,h3⟩
  obtain ⟨tmps,dfs⟩:=a
  exact leaves_end (by simp) rfl hI fun w' hI'=>ret_post hT (fun _ h=>h) hI' h1 h2 h3
 rintro e a w ⟨s',D',φ',hI,hq⟩
 cases e with
 | normal=>exact fin a w s' D' φ' hI hq
 | ret=>exact fin a w s' D' φ' hI hq
 | _=>exact hq.elim
end
end Go.Abs
