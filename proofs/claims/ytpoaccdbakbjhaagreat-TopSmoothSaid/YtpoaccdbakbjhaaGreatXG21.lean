/- Functions of pure data that panic with a value of pure data; their calls, in drawn regions too. -/
import Derived.Test.YtpoaccdbakbjhaaGreatXG20
import Derived.Test.YtpoaccdbakbjhaaGreatXG16
set_option linter.unusedVariables false
set_option linter.unusedSimpArgs false
namespace Go.Abs
open Go.RowKit
def panV (c:TypeId × Value):List PanicEntry:=[{ v:=.iface c.1 c.2,recovered:=false }]
def ACallsP (P:Program) (f:FuncId) (ps:List PV) (c:TypeId × Value):Prop :=
 Enters P f /\ ∀ W D vs,(∀ b,D b -> b < W.heap.size) -> RepL W D vs ps -> Calls P f vs W fun e w'=>e = .panicked (panV c) /\ Below W.heap.size W w'
def RetP (c:TypeId × Value):Exit -> ASt -> Prop
 | .panic ch,_=>ch = panV c
 | _,_=>False
def valP1:PV -> Option Value
 | .bool b=>some (.bool b)
 | .int k n=>some (.int k n)
 | .str s=>some (.string s)
 | _=>none
def valL:List PV -> Option (List Value)
 | []=>some []
 | p :: r=>match valP1 p,valL r with
  | some v,some vs=>some (v :: vs)
  | _,_=>none
def valP:PV -> Option Value
 | .agg cs=>(valL cs).map fun vs=>.agg vs.toArray
 | p=>valP1 p
theorem valP1_rep {w:World} {D:Nat -> Prop} {v u:Value} {p:PV} (h:Rep w D v p) (hv:valP1 p = some u):v = u:= by
 cases h <;> simp only [valP1,Option.some.injEq,reduceCtorEq] at hv <;> exact hv
theorem valL_rep {w:World} {D:Nat -> Prop}:∀ {cs:List PV} {us vs:List Value},valL cs = some us -> vs.length = cs.length -> (∀ (j:Nat) (v:Value) (p:PV),vs[j]? = some v -> cs[j]? = some p -> Rep w D v p) -> vs = us
 | [],us,vs,h,hl,_=>by
  simp only [valL,Option.some.injEq] at h
  subst h
  exact List.length_eq_zero_iff.1 hl
 | p :: cs,us,vs,h,hl,hr=>by
  match vs,hl,hr with
  | v :: vs,hl,hr =>
   simp only [valL] at h
   split at h
   ·rename_i u us' h1 h2
    simp only [Option.some.injEq] at h
    subst h
    have e1:=valP1_rep (hr 0 v p rfl rfl) h1
    have e2:=valL_rep (vs:=vs) h2 (by simpa using hl) (fun j v p hv hp=>hr (j + 1) v p (by simpa using hv) (by simpa using hp))
    rw [e1,e2]
   ·cases h
theorem valP_rep {w:World} {D:Nat -> Prop} {v u:Value} {p:PV} (h:Rep w D v p) (hv:valP p = some u):v = u:= by
 cases h with
 | agg vs cs hl hr =>
  simp only [valP,Option.map_eq_some_iff] at hv
  obtain ⟨us,h1,rfl⟩:=hv
  have:=valL_rep (vs:=vs.toList) h1 (by simpa using hl) (fun j v p hv hp=>hr j v p (by simpa using hv) hp)
  rw [<- this]
 | bool b=>exact valP1_rep (w:=w) (D:=D) (.bool b) hv
 | int k n=>exact valP1_rep (w:=w) (D:=D) (.int k n) hv
 | str s=>exact valP1_rep (w:=w) (D:=D) (.str s) hv
 | _=>cases hv
section
variable {P:Program} {T:Nat -> Option TyI} {nt:Nat} {s:ASt} {o:Oper} {ops:Array Oper} {rest:List Oper} {Q:Exit -> ASt -> Prop}
theorem op_panicV {t:Nat} {x:Operand} {p:PV} {v:Value} (ho:o.op = .panic x) (hx:s.ev x = some (.pv (.iface t p))) (hv:valP p = some v):OpToP P nt o s (fun _=>False) (fun c s'=>c = (t,v) /\ s' = s):= by
 intro ro W0 D0 D φ a w hI K Q hK hQ
 have hr:=(hI.ev hx).2.inv_pv
 generalize hvx:a.eval x = u at hr
 cases hr with
 | iface t u p hr =>
  refine wpIn_of (by rw [ho]; intro c hc; cases hc) ?_
  unfold Oper.wp
  have hrun:(execOp a.eval o).run P w = .halt (.panic (.iface t u)) w:= by
   simp only [execOp,ho,hvx,Instr.panic,goPanic,Sem.run_bind]
   rfl
  rw [hrun]
  have:=valP_rep hr hv
  subst this
  exact hQ _ D φ a w t u ⟨rfl,rfl⟩ hI
theorem AL_panicV {t:Nat} {x:Operand} {p:PV} {v:Value} (hg:guardT ops s o = true) (ho:o.op = .panic x) (hx:s.ev x = some (.pv (.iface t p))) (hv:valP p = some v) (hQ:Q (.panic (panV (t,v))) s):AL P nt ops (o :: rest) Q s :=
 AL_doP hg (op_panicV ho hx hv) (fun _ h=>h.elim) (fun t' s' v' h=>by obtain ⟨h1,rfl⟩:=h; cases h1; exact hQ)
theorem op_callPn {f:Operand} {args:Array Operand} {ts:Array TypeId} {g:FuncId} {caps ps:List PV} {c:TypeId × Value} (ho:o.op = .call { callee:=.value f,args,argTypes:=ts })
  (hf:s.calleeS f = some (g,caps)) (ha:mapO s.evS args.toList = some ps) (hc:ACallsP P g (ps ++ caps) c):OpToP P nt o s (fun _=>False) (fun c' s'=>c' = c /\ s' = s):= by
 intro ro W0 D0 D φ a w hI K Q hK hQ
 have hf':s.calleeD f = some (g,caps):= by
  unfold ASt.calleeS at hf
  unfold ASt.calleeD
  split at hf
  ·rename_i g' caps' he
   rw [evS_D he]; exact hf
  ·cases hf
 have ha':mapO s.evD args.toList = some ps:=mapO_up (fun x _ y h=>evS_D h) ha
 have hfr:∃ vs,a.eval f = .func (.func g) #[] vs /\ RepL w D vs caps:= by
  unfold ASt.calleeD at hf'
  split at hf'
  ·rename_i g' caps' he
   cases hf'
   have:=hI.evD he
   generalize a.eval f = v at this
   cases this with
   | fn f vs cs hl hr=>exact ⟨vs,rfl,hl,hr⟩
  ·cases hf'
 obtain ⟨vs,hv,hvr⟩:=hfr
 refine wpIn_of (by rw [ho]; intro c hc; cases hc) ?_
 unfold Oper.wp
 rw [call_run ho hv hc.1]
 refine (hc.2 w D _ hI.dlt ((evD_args hI ha').append hvr)).mono ?_
 rintro e w' ⟨rfl,hb⟩
 have hI':Inv W0 D0 nt s D φ a w':=hI.chg s.nxt (fun _=>False) (hb.mono (Nat.zero_le _)) (fun b hb' _=>hb.block b hb') (fun _ h=>h) (fun _ h=>.inl h) (fun _ _=>rfl) (Nat.le_refl _) (fun _ _ h=>h) (fun id ob _ h=>⟨fun f=>f,h⟩)
  (fun ob h=>absurd (hI.objs _ _ h).1 (Nat.lt_irrefl _))
 exact hQ s D φ a w' c.1 c.2 ⟨rfl,rfl⟩ hI'
theorem DG_callP {id k d:Nat} {opl:List Oper} {s0:ASt} {l:List DEnt} {f:Operand} {args:Array Operand} {ts:Array TypeId} {g:FuncId} {caps ps:List PV} {c:TypeId × Value} (hm:P.follows .mixedOrders = true) (hg:guardT opl.toArray s o = true) (hd:o.dst = some d)
  (ho:o.op = .call { callee:=.value f,args,argTypes:=ts }) (hf:s.calleeS f = some (g,caps)) (ha:mapO s.evS args.toList = some ps) (hc:ACallsP P g (ps ++ caps) c) (hQ:∀ s',Q (.panic (panV c)) s')
  (hok:drawOK opl.toArray (k + 1) s0.nxt (l ++ [⟨some (.box s.nxt 0),false,[],[]⟩]) = true):DG P nt id opl Q s0 k (o :: rest) s l:= by
 intro hr hdr
 have hk:opl[k]? = some o:= by
  have:(opl.drop k)[0]? = some o:=by rw [hdr]; rfl
  simpa using this
 have hZ:StepZ P nt opl.toArray Q o s ⟨some (.box s.nxt 0),false,[],[]⟩ (s.putO o.dst (some (.box s.nxt 0))):= by
  refine ⟨by rw [hd]; rfl,fun _=>by rw [hd]; exact ⟨rfl,rfl⟩,fun h=>(by cases h),fun _ s1 h1 h2 _=>?_,fun h=>(by cases h)⟩
  intro ro W0 D0 D φ a w hI K hK
  have hg1:guardT opl.toArray s1 o = true:=by rw [guardT_local h1]; exact hg
  have hn:∀ t ∈ opTmps o.op.operands.toList,s1.get t = s.get t:=fun t ht=>h1 t (needs_op ht)
  have hw:Region.wanted o (yielded opl.toArray a.tmps) = true:= by
   rcases guardT_spec hg1 with hg|⟨j,b,d,hg,hj,hd⟩
   ·simp [Region.wanted,hg]
   ·simp [Region.wanted,hg,yielded_of hI hj hd]
  rw [if_pos hw]
  refine op_callPn (s:=s1) ho (by rw [(call_local ho hn).1]; exact hf) (by rw [(call_local ho hn).2]; exact ha) hc ro W0 D0 D φ a w hI K _ (fun _ _ _ _ _ h=>h.elim) ?_
  rintro s' D' φ' a' w' t v ⟨h3,rfl⟩ hI'
  cases h3
  exact ⟨_,D',φ',hI',hQ _⟩
 refine AW_drawZ hm (hr.snocZ (by simpa using hk) hZ) hok ?_
 rw [hd]
 exact AL_bot (t:=d) (id:=s.nxt) (by simp [ASt.putO,ASt.get_put]) (Nat.le_refl _)
theorem ACallsP.of_body {f : FuncId} {fn : Func} {c : Code} {ps : List PV} {pc : TypeId × Value} (hT : TabOK P T) (hf : P.funcs[f]? = some fn) (hb : fn.body = some c) (hname : (fn.name == "runtime.NumGoroutine") = false) (hn : Nat.ble ps.length fn.ntmps = true)
  (h:AW P fn.ntmps c (RetP pc) (entry ps)):ACallsP P f ps pc:= by
 refine ⟨enters_of hf hb hname,fun W D vs hD hr=>?_⟩
 have hn':=Nat.le_of_ble_eq_true hn
 refine (callsIn_wide (n:=0)).1 (callsIn_of_wp_marks hf hb trivial ?_)
 refine Go.wpIn_mono (h none W ⟨D,fun _=>False,none,false⟩ D _ _ W ⟨rfl,fun l hl=>by cases hl⟩ (entry_inv hD hr (by rw [hr.1]; exact hn'))) ?_
 rintro e a w ⟨s',D',φ',hI,hq⟩
 cases e with
 | panic ch =>
  have hq:ch = panV pc:=hq
  subst hq
  obtain ⟨tmps,dfs⟩:=a
  show LeavesInM Fence.wide 0 P fn tmps _ dfs (.panicking _) w
  exact leaves_end (by simp) rfl hI fun w' hI'=>⟨rfl,hI'.below.below⟩
 | _=>exact hq.elim
def ACallsB (P:Program) (f:FuncId) (ps:List PV) (Q:RV -> Prop) (QP:TypeId × Value -> Prop):Prop :=
 Enters P f /\ ∀ W D vs,(∀ b,D b -> b < W.heap.size) -> RepL W D vs ps -> Calls P f vs W fun e w'=>CallPost W D Q e w' \/ ∃ c,QP c /\ e = .panicked (panV c) /\ Below W.heap.size W w'
def RetB (T:Nat -> Option TyI) (rs:List ResultVar) (Q:RV -> Prop) (QP:TypeId × Value -> Prop):Exit -> ASt -> Prop
 | .panic ch,_=>∃ c,QP c /\ ch = panV c
 | .normal,s=>RetQ T rs Q .normal s
 | .ret,s=>RetQ T rs Q .ret s
 | _,_=>False
theorem ACallsB.of_body {f : FuncId} {fn : Func} {c : Code} {ps : List PV} {Q : RV → Prop} {QP : TypeId × Value → Prop} (hT : TabOK P T) (hf : P.funcs[f]? = some fn) (hb : fn.body = some c) (hname : (fn.name == "runtime.NumGoroutine") = false) (hn : Nat.ble ps.length fn.ntmps = true)
  (h:AW P fn.ntmps c (RetB T fn.results.toList Q QP) (entry ps)):ACallsB P f ps Q QP:= by
 refine ⟨enters_of hf hb hname,fun W D vs hD hr=>?_⟩
 have hn':=Nat.le_of_ble_eq_true hn
 refine (callsIn_wide (n:=0)).1 (callsIn_of_wp_marks hf hb trivial ?_)
 refine Go.wpIn_mono (h none W ⟨D,fun _=>False,none,false⟩ D _ _ W ⟨rfl,fun l hl=>by cases hl⟩ (entry_inv hD hr (by rw [hr.1]; exact hn'))) ?_
 have fin:∀ (a:Act) (w:World) (s':ASt) (D':Nat -> Prop) (φ':Nat -> Value),Inv W ⟨D,fun _=>False,none,false⟩ fn.ntmps s' D' φ' a w -> (∃ xs r,mapO (resFV T s') fn.results.toList = some xs /\ retR s' xs = some r /\ Q r) →
   LeavesInM Fence.wide 0 P fn a.tmps (fun e w'=>CallPost W D Q e w' \/ ∃ c,QP c /\ e = .panicked (panV c) /\ Below W.heap.size W w') a.defers .returning w:= by
  rintro a w s' D' φ' hI ⟨xs,r,h1,h2,h3⟩
  obtain ⟨tmps,dfs⟩:=a
  refine leaves_end (by simp) rfl hI fun w' hI'=>?_
  obtain ⟨v,g1,g2⟩:=ret_post hT (fun _ h=>h) hI' h1 h2 h3
  exact ⟨v,g1,.inl g2⟩
 rintro e a w ⟨s',D',φ',hI,hq⟩
 cases e with
 | normal=>exact fin a w s' D' φ' hI hq
 | ret=>exact fin a w s' D' φ' hI hq
 | panic ch =>
  obtain ⟨pc,hq1,rfl⟩:=hq
  obtain ⟨tmps,dfs⟩:=a
  show LeavesInM Fence.wide 0 P fn tmps _ dfs (.panicking _) w
  exact leaves_end (by simp) rfl hI fun w' hI'=>.inr ⟨pc,hq1,rfl,hI'.below.below⟩
 | _=>exact hq.elim
theorem ACallsB.calm {f:FuncId} {ps:List PV} {Q:RV -> Prop} (h:ACallsB P f ps Q (fun _=>False)):ACalls P f ps Q :=
 ⟨h.1,fun W D vs hD hr=>(h.2 W D vs hD hr).mono fun e w' hp=>hp.elim id fun ⟨_,hf,_⟩=>hf.elim⟩
theorem ACallsB.dies {f:FuncId} {ps:List PV} {QP:TypeId × Value -> Prop} {c:TypeId × Value} (h:ACallsB P f ps (fun _=>False) QP) (hc:∀ c',QP c' -> c' = c):ACallsP P f ps c :=
 ⟨h.1,fun W D vs hD hr=>(h.2 W D vs hD hr).mono fun e w' hp=>hp.elim (fun ⟨_,_,_,_,_,_,_,_,_,hq⟩=>hq.elim) fun ⟨c',hq,he,hb⟩=>by rw [hc c' hq] at he; exact ⟨he,hb⟩⟩
theorem ACallsB.mono {f:FuncId} {ps:List PV} {Q Q':RV -> Prop} {QP QP':TypeId × Value -> Prop} (h:ACallsB P f ps Q QP) (hq:∀ r,Q r -> Q' r) (hqp:∀ c,QP c -> QP' c):ACallsB P f ps Q' QP' :=
 ⟨h.1,fun W D vs hD hr=>(h.2 W D vs hD hr).mono fun e w' hp=>hp.elim (fun ⟨v,r,D',h1,h2,h3,h4,h5,h6,h7⟩=>.inl ⟨v,r,D',h1,h2,h3,h4,h5,h6,hq r h7⟩) fun ⟨c',hq,he,hb⟩=>.inr ⟨c',hqp c' hq,he,hb⟩⟩
theorem op_callBP {f:Operand} {args:Array Operand} {ts:Array TypeId} {g:FuncId} {caps ps:List PV} {Qf:RV -> Prop} {QP:TypeId × Value -> Prop} (ho:o.op = .call { callee:=.value f,args,argTypes:=ts }) (hd:dstB nt o.dst = true)
  (hf:s.calleeS f = some (g,caps)) (ha:mapO s.evS args.toList = some ps) (hc:ACallsB P g (ps ++ caps) Qf QP):OpToP P nt o s (fun s'=>∃ r,Qf r /\ s' = s.bind o.dst r) (fun c' s'=>QP c' /\ s' = s):= by
 intro ro W0 D0 D φ a w hI K Q hK hQ
 have hf':s.calleeD f = some (g,caps):= by
  unfold ASt.calleeS at hf
  unfold ASt.calleeD
  split at hf
  ·rename_i g' caps' he
   rw [evS_D he]; exact hf
  ·cases hf
 have ha':mapO s.evD args.toList = some ps:=mapO_up (fun x _ y h=>evS_D h) ha
 have hfr:∃ vs,a.eval f = .func (.func g) #[] vs /\ RepL w D vs caps:= by
  unfold ASt.calleeD at hf'
  split at hf'
  ·rename_i g' caps' he
   cases hf'
   have:=hI.evD he
   generalize a.eval f = v at this
   cases this with
   | fn f vs cs hl hr=>exact ⟨vs,rfl,hl,hr⟩
  ·cases hf'
 obtain ⟨vs,hv,hvr⟩:=hfr
 refine wpIn_of (by rw [ho]; intro c hc; cases hc) ?_
 unfold Oper.wp
 rw [call_run ho hv hc.1]
 refine (hc.2 w D _ hI.dlt ((evD_args hI ha').append hvr)).mono ?_
 rintro e w' (⟨v,r,D',rfl,h2,h3,h4,h5,h6,h7⟩|⟨c,hqp,rfl,hb⟩)
 ·obtain ⟨φ',hI'⟩:=hI.bind h2 h3 (fun b hb=>(h4 b hb).imp id fun h=>⟨h5 b hb,h⟩) h6 o.dst hd
  exact hK _ _ _ _ _ ⟨r,h7,rfl⟩ hI'
 ·have hI':Inv W0 D0 nt s D φ a w':=hI.chg s.nxt (fun _=>False) (hb.mono (Nat.zero_le _)) (fun b hb' _=>hb.block b hb') (fun _ h=>h) (fun _ h=>.inl h) (fun _ _=>rfl) (Nat.le_refl _) (fun _ _ h=>h) (fun id ob _ h=>⟨fun f=>f,h⟩)
   (fun ob h=>absurd (hI.objs _ _ h).1 (Nat.lt_irrefl _))
  exact hQ s D φ a w' c.1 c.2 ⟨hqp,rfl⟩ hI'
end
end Go.Abs
namespace Go.Abs
open Go.Proofs
set_option maxRecDepth 100000
def bitI (set:Int) (i:Nat):Bool:=decide (andR .i64 (shrR .i64 set i) 1 = 1)
theorem f145 (set:Int) (n:Nat):ACalls Tryz.prog 89 [vi set,vi n] (fun r=>r = .pv (.bool (bitI set n))):= by
 refine ACalls.of_body hT Tryz.func89 rfl (by kernel_rfl) rfl ?_
 (repeat' (first|refine stq ?_|(with_reducible refine AL_id ?_); (fail_if_success (refine glq rfl rfl rfl ?_)); first|refine AL_gdec rfl rfl rfl (fun hg=>?_) (fun hg=>?_)|refine AL_gnot rfl rfl rfl (fun hg=>?_) (fun hg=>?_)|refine AL_gcases rfl rfl rfl (fun hg=>?_) (fun hg=>?_)))
 exact ⟨_,_,rfl,rfl,rfl⟩
def sizedB (d:Drum) (acid:Int) (t:List Int):Bool:=inB acid 0 (d.acids.length - 1) && decide ((t.length:Int) = d.hours)
theorem f134 (d:Drum) (acid:Int) (t:List Int) (hd:d.acids.length <= 1000) (ht:t.length <= 1000):ACalls Tryz.prog 38 [eDrum d,eTruth acid t] (fun r=>r = .pv (.bool (sizedB d acid t))):= by
 refine ACalls.of_body hT Tryz.func38 rfl (by kernel_rfl) rfl ?_
 (repeat' (first|refine stq ?_|(refine AL_do2 rfl ?_; first|refine ⟨_,op_call1 rfl rfl rfl rfl (f87 acid 0 (d.acids.length - 1)),nrmA rfl ?_⟩)|(with_reducible refine AL_id ?_); (fail_if_success (refine glq rfl rfl rfl ?_)); first|refine AL_gdec rfl rfl rfl (fun hg=>?_) (fun hg=>?_)|refine AL_gnot rfl rfl rfl (fun hg=>?_) (fun hg=>?_)|refine AL_gcases rfl rfl rfl (fun hg=>?_) (fun hg=>?_)))
 all_goals exact ⟨_,_,rfl,rfl,by simp_all [sizedB]; try omega⟩
theorem f188 (hour:Int) (a b:Span):ACallsB Tryz.prog 195 [vi hour,eS a,eS b] (fun r=>(common a b).low <= (common a b).high /\ r = .pv (eS (common a b))) (fun c=>(common a b).low > (common a b).high /\ c = (286,.agg #[.int .i64 hour])):= by
 refine ACallsB.of_body hT Tryz.func195 rfl (by kernel_rfl) rfl ?_
 (repeat (refine stq ?_))
 refine AW_if rfl (fun hc=>?_) (fun hc=>?_)
 ·(repeat (refine stq ?_))
  refine AL_do2 rfl ⟨_,op_mkiface hT rfl rfl rfl rfl rfl,?_⟩
  refine AL_panicV rfl rfl rfl rfl ?_
  (repeat (first|refine then_panic ?_|refine inblk_panic ?_))
  exact ⟨_,⟨hc,rfl⟩,rfl⟩
 ·(repeat (refine stq ?_))
  exact ⟨_,_,rfl,rfl,by simpa [common] using hc,rfl⟩
end Go.Abs
namespace Go.Abs
open Go.Proofs
set_option maxRecDepth 100000
theorem common_ok {hour:Int} {a b:Span} (h:(common a b).low <= (common a b).high):ACalls Tryz.prog 195 [vi hour,eS a,eS b] (fun r=>r = .pv (eS (common a b))) :=
 (ACallsB.mono (f188 hour a b) (fun r hr=>hr.2) (fun c hc=>by have:=hc.1; omega)).calm
theorem common_dies {hour:Int} {a b:Span} (h:(common a b).low > (common a b).high):ACallsP Tryz.prog 195 [vi hour,eS a,eS b] (286,.agg #[.int .i64 hour]) :=
 ACallsB.dies (ACallsB.mono (f188 hour a b) (fun r hr=>by have:=hr.1; omega) (fun c hc=>hc.2)) (fun c hc=>hc)
theorem f169 (acid:Int) (t:List Int) (n:Int) (s:Strip) (hs:StripP n s) (hn:n <= 12) (ht:(t.length:Int) = n):ACalls Tryz.prog 99 [.agg (eStrip s),.ptr [vi acid,eInts t]] (fun r=>r = .pv (.bool (!seenB t s))):= by
 have:=hs.h0; have:=hs.h1; have:=hs.s0; have:=hs.s1; have:=hs.o0; have:=hs.o1
 obtain ⟨x,hx⟩:∃ x,t[s.hour.toNat]? = some x:=⟨t[s.hour.toNat]'(by omega),by simp⟩
 have e1:=get_map eInt hx
 have e2:seenB t s = inB x (s.seen - s.off) (s.seen + s.off):=by unfold seenB; rw [List.getD_eq_getElem?_getD,hx]; rfl
 rw [e2]
 refine ACalls.of_body hT Tryz.func99 rfl (by kernel_rfl) rfl ?_
 (repeat (refine stq ?_))
 (repeat (first|refine sdq ?_|refine DG_next (D_call rfl rfl rfl rfl rfl (f87 x (s.seen - s.off) (s.seen + s.off))) ?_))
 refine DG_end hM (by kernel_rfl) ?_
 (repeat (refine stq ?_))
 exact ⟨_,_,rfl,rfl,rfl⟩
theorem steps_bd {d:Drum} {a:Acid} (hd:DrumP d) (ha:AcidP a) {t:List Int}:∀ k,(∀ i,i <= k -> stepsB d a t i = true) -> 0 <= t.getD k 0 /\ t.getD k 0 <= 100 * (k + 2)
 | 0,h=>by
  have h1:=h 0 (Nat.le_refl _)
  have:=ha.s0; have:=ha.s2
  have:=add_bd hd 0
  simp only [stepsB,if_true,inB,Bool.and_eq_true,decide_eq_true_eq,initS] at h1
  omega
 | k + 1,h=>by
  have h1:=h (k + 1) (Nat.le_refl _)
  have ih:=steps_bd hd ha k fun i hi=>h i (by omega)
  have:=ha.f0; have:=ha.f1
  have:=add_bd hd (k + 1)
  simp only [stepsB,Nat.add_one_ne_zero,if_false,inB,Bool.and_eq_true,decide_eq_true_eq,Nat.add_sub_cancel,afterS] at h1
  omega
abbrev fiO (d:Drum) (n:Nat) (t:List Int) (a:Acid):List (Nat × AObj):=[(0,.box ((eDrumC d).map FV.pv)),(1,.box [.pv (vi n),.pv (eInts t)]),(2,.box ((eAcid a).map FV.pv))]
set_option maxHeartbeats 4000000 in
theorem f135 (d:Drum) (a:Acid) (acid:Int) (t:List Int) (hd:DrumP d) (h0:0 <= acid) (hac:d.acids[acid.toNat]? = some a) (ht:(t.length:Int) = d.hours):ACalls Tryz.prog 39 [eDrum d,eTruth acid t] (fun r=>r = .pv (.bool (bitI d.known acid.toNat && truesB d a t))):= by
 obtain ⟨n,rfl⟩:∃ n:Nat,acid = n:=⟨acid.toNat,by omega⟩
 simp only [Int.toNat_natCast] at hac ⊢
 have ha:=hd.acid a (List.mem_of_getElem? hac)
 have h12:=hd.h1
 have hal:=hd.al
 have k145:=f145 d.known n
 have e1:=get_map eAcid hac
 have k95:=c95 d.strips 99 [.ptr [vi n,eInts t]] (fun s=>!seenB t s) (by have:=hd.sl; omega) (fun s hs=>f169 n t d.hours s (hd.strip s hs) h12 ht)
 rw [any_not'] at k95
 refine ACalls.of_body hT Tryz.func39 rfl (by kernel_rfl) rfl ?_
 cases q:bitI d.known n with
 | false =>
  rw [q] at k145
  (repeat' (first|refine stq ?_|(refine AL_do2 rfl ?_; first|refine ⟨_,op_call1 rfl rfl rfl rfl (k145),nrmA rfl ?_⟩)|(with_reducible refine AL_id ?_); (fail_if_success (refine glq rfl rfl rfl ?_)); first|refine AL_gdec rfl rfl rfl (fun hg=>?_) (fun hg=>?_)|refine AL_gnot rfl rfl rfl (fun hg=>?_) (fun hg=>?_)|refine AL_gcases rfl rfl rfl (fun hg=>?_) (fun hg=>?_)))
  exact ⟨_,_,rfl,rfl,rfl⟩
 | true =>
  rw [q] at k145
  (repeat' (first|refine stq ?_|(refine AL_do2 rfl ?_; first|refine ⟨_,op_call1 rfl rfl rfl rfl (k145),nrmA rfl ?_⟩)|(with_reducible refine AL_id ?_); (fail_if_success (refine glq rfl rfl rfl ?_)); first|refine AL_gdec rfl rfl rfl (fun hg=>?_) (fun hg=>?_)|refine AL_gnot rfl rfl rfl (fun hg=>?_) (fun hg=>?_)|refine AL_gcases rfl rfl rfl (fun hg=>?_) (fun hg=>?_)))
  refine AW_loopC (fun k:Nat=>k <= t.length /\ ∀ i,i < k -> stepsB d a t i = true) (fun k=>mkSt [(2,.box 0 0),(3,.box 1 0),(5,.box 2 0),(24,.pv (eInts t)),(25,.pv (vi t.length)),(26,.pv (vi k))] (fiO d n t a) 3) (fun k=>t.length - k) 0 ⟨Nat.zero_le _,by simp⟩ ?_ ?_
  ·(refine Le.mk ?_ ?_; all_goals (repeat' (first|exact trivial|refine sle ?_|refine ⟨?_,rfl,?_⟩|refine ⟨?_,by decide,rfl,?_⟩|fail)))
  ·rintro k ⟨hk,hall⟩
   (repeat (refine stq ?_))
   refine AW_if rfl (fun hc=>?_) (fun hc=>?_)
   ·have hk':k < t.length:=by omega
    obtain ⟨x,hx⟩:∃ x,t[k]? = some x:=⟨t[k],by simp [hk']⟩
    obtain ⟨y,hy⟩:∃ y,d.adds[k]? = some y:=⟨d.adds[k]'(by omega),by simp⟩
    have e2:=get_map eInt hx
    have e3:=get_map eInt hy
    have hyb:=hd.add y (List.mem_of_getElem? hy)
    have:=ha.s0; have:=ha.s1; have:=ha.s2; have:=ha.f0; have:=ha.f1; have:=ha.f2
    have gx:t.getD k 0 = x:=by rw [List.getD_eq_getElem?_getD,hx]; rfl
    have gy:d.adds.getD k 0 = y:=by rw [List.getD_eq_getElem?_getD,hy]; rfl
    have fall:stepsB d a t k = false -> truesB d a t = false:=fun h=>by
     cases hb:truesB d a t with
     | false=>rfl
     | true=>have:=(steps_iff.1 hb).1 k (by omega); rw [h] at this; cases this
    have next:stepsB d a t k = true -> ∀ i,i < k + 1 -> stepsB d a t i = true:=fun h i hi=>by
     by_cases hik:i = k
     ·rw [hik]; exact h
     ·exact hall i (by omega)
    by_cases hk0:k = 0
    ·subst hk0
     have es:stepsB d a t 0 = inB x (a.strength.low + y) (a.strength.high + y):= by
      simp only [stepsB,if_true,gx,gy,initS]
     have k87:=f87 x (a.strength.low + y) (a.strength.high + y)
     cases hb:inB x (a.strength.low + y) (a.strength.high + y) with
     | false =>
      rw [hb] at k87 es
      (repeat (refine stq ?_))
      (repeat (refine sdq ?_))
      refine DG_end hM (by kernel_rfl) ?_
      (repeat (refine stq ?_))
      (repeat (first|refine sdq ?_|refine DG_next (D_call rfl rfl rfl rfl rfl (k87)) ?_))
      refine DG_end hM (by kernel_rfl) ?_
      (repeat (refine stq ?_))
      exact ⟨_,_,rfl,rfl,by rw [fall es]; rfl⟩
     | true =>
      rw [hb] at k87 es
      (repeat (refine stq ?_))
      (repeat (refine sdq ?_))
      refine DG_end hM (by kernel_rfl) ?_
      (repeat (refine stq ?_))
      (repeat (first|refine sdq ?_|refine DG_next (D_call rfl rfl rfl rfl rfl (k87)) ?_))
      refine DG_end hM (by kernel_rfl) ?_
      (repeat (refine stq ?_))
      refine ⟨0 + 1,⟨hk',next es⟩,by omega,?_⟩
      (refine Le.mk ?_ ?_; all_goals (repeat' (first|exact trivial|refine sle ?_|refine ⟨?_,rfl,?_⟩|refine ⟨?_,by decide,rfl,?_⟩|fail)))
    ·obtain ⟨z,hz⟩:∃ z,t[k - 1]? = some z:=⟨t[k - 1]'(by omega),by simp⟩
     have gz:t.getD (k - 1) 0 = z:=by rw [List.getD_eq_getElem?_getD,hz]; rfl
     have e4:(t.map eInt)[((k:Int) - 1).toNat]? = some (eInt z):= by
      rw [show ((k:Int) - 1).toNat = k - 1 by omega]; exact get_map eInt hz
     have hzb:=steps_bd hd ha (t:=t) (k - 1) (fun i hi=>hall i (by omega))
     rw [gz] at hzb
     have es:stepsB d a t k = inB x (max 0 (z - a.fall.high) + y) (max 0 (z - a.fall.low) + y):= by
      simp only [stepsB,if_neg hk0,gx,gy,gz,afterS]
     have k87:=f87 x (max 0 (z - a.fall.high) + y) (max 0 (z - a.fall.low) + y)
     have hm1:(0:Int) <= max 0 (z - a.fall.high) /\ max 0 (z - a.fall.high) <= 10000:=by omega
     have hm2:(0:Int) <= max 0 (z - a.fall.low) /\ max 0 (z - a.fall.low) <= 10000:=by omega
     cases hb:inB x (max 0 (z - a.fall.high) + y) (max 0 (z - a.fall.low) + y) with
     | false =>
      rw [hb] at k87 es
      (repeat (refine stq ?_))
      (repeat (refine sdq ?_))
      refine DG_end hM (by kernel_rfl) ?_
      (repeat (refine stq ?_))
      refine AW_if rfl (fun _=>?_) (fun hc=>by omega)
      (repeat (refine stq ?_))
      (repeat (refine sdq ?_))
      refine DG_end hM (by kernel_rfl) ?_
      (repeat (refine stq ?_))
      (repeat (first|refine sdq ?_|refine DG_next (D_call rfl rfl rfl rfl rfl (k87)) ?_))
      refine DG_end hM (by kernel_rfl) ?_
      (repeat (refine stq ?_))
      exact ⟨_,_,rfl,rfl,by rw [fall es]; rfl⟩
     | true =>
      rw [hb] at k87 es
      (repeat (refine stq ?_))
      (repeat (refine sdq ?_))
      refine DG_end hM (by kernel_rfl) ?_
      (repeat (refine stq ?_))
      refine AW_if rfl (fun _=>?_) (fun hc=>by omega)
      (repeat (refine stq ?_))
      (repeat (refine sdq ?_))
      refine DG_end hM (by kernel_rfl) ?_
      (repeat (refine stq ?_))
      (repeat (first|refine sdq ?_|refine DG_next (D_call rfl rfl rfl rfl rfl (k87)) ?_))
      refine DG_end hM (by kernel_rfl) ?_
      (repeat (refine stq ?_))
      refine ⟨k + 1,⟨hk',next es⟩,by omega,?_⟩
      (refine Le.mk ?_ ?_; all_goals (repeat' (first|exact trivial|refine sle ?_|refine ⟨?_,rfl,?_⟩|refine ⟨?_,by decide,rfl,?_⟩|fail)))
   ·have hk':k = t.length:=by omega
    subst hk'
    (repeat' (first|refine stq ?_|(refine AL_do2 rfl ?_; first|refine ⟨_,op_callB rfl rfl rfl rfl (k95) rfl,nrmA rfl ?_⟩|refine ⟨_,op_call1 rfl rfl rfl rfl (k95),nrmA rfl ?_⟩)|(with_reducible refine AL_id ?_); (fail_if_success (refine glq rfl rfl rfl ?_)); first|refine AL_gdec rfl rfl rfl (fun hg=>?_) (fun hg=>?_)|refine AL_gnot rfl rfl rfl (fun hg=>?_) (fun hg=>?_)|refine AL_gcases rfl rfl rfl (fun hg=>?_) (fun hg=>?_)))
    exact ⟨_,_,rfl,rfl,by
     have:truesB d a t = d.strips.all (seenB t):= by
      unfold truesB
      rw [show ((List.range d.hours.toNat).all (stepsB d a t)) = true from List.all_eq_true.2 fun i hi=>hall i (by have:=List.mem_range.1 hi; omega)]
      rfl
     rw [this]; simp⟩
def fitsB (d:Drum) (acid:Int) (t:List Int):Bool:=bitI d.known acid.toNat && truesB d (d.acids.getD acid.toNat ⟨⟨0,0⟩,⟨0,0⟩⟩) t
theorem sized_of {d:Drum} {acid:Int} {t:List Int} (h:sizedB d acid t = true):0 <= acid /\ d.acids[acid.toNat]? = some (d.acids.getD acid.toNat ⟨⟨0,0⟩,⟨0,0⟩⟩) /\ (t.length:Int) = d.hours:= by
 simp only [sizedB,inB,Bool.and_eq_true,decide_eq_true_eq] at h
 refine ⟨h.1.1,?_,h.2⟩
 have:acid.toNat < d.acids.length:=by omega
 rw [List.getD_eq_getElem?_getD]; simp [this]
end Go.Abs
