/- Calls that are handed what the caller owns, and hand it back. -/
import Derived.Test.YtpoaccdbakbjhaaGreatXG11
set_option linter.unusedVariables false
set_option linter.unusedSimpArgs false
namespace Go.Abs
open Go.RowKit
theorem FRep.ren' {w:World} {D:Nat -> Prop} {φ:Nat -> Value} {ρ:Nat -> Nat} {v:Value} {x:FV} (h:FRep w D (fun id=>φ (ρ id)) v x):FRep w D φ v (x.ren ρ):= by
 induction h with
 | pv v p h=>exact .pv v p h
 | box id off b h=>exact .box _ off b h
 | nils=>exact .nils
 | arr id n c a h=>exact .arr _ n c a h
 | aptr id sz i off g n c h=>exact .aptr _ sz i off g n c h
 | mp id r h=>exact .mp _ r h
 | yld id l h=>exact .yld _ l h
 | sub id sz lo n g m c h hc=>exact .sub _ sz lo n g m c h hc
 | fn f vs cs hl hr ih =>
  simp only [FV.ren,FV.renL_eq]
  refine .fn f vs _ (by simpa using hl) fun j v p hv hp=>?_
  simp only [List.getElem?_map,Option.map_eq_some_iff] at hp
  obtain ⟨q,hq,rfl⟩:=hp
  exact ih j v q hv hq
 | agg vs cs hl hr ih =>
  simp only [FV.ren,FV.renL_eq]
  refine .agg vs _ (by simpa using hl) fun j v p hv hp=>?_
  simp only [List.getElem?_map,Option.map_eq_some_iff] at hp
  obtain ⟨q,hq,rfl⟩:=hp
  exact ih j v q hv hq
 | tup vs cs hl hr ih =>
  simp only [FV.ren,FV.renL_eq]
  refine .tup vs _ (by simpa using hl) fun j v p hv hp=>?_
  simp only [List.getElem?_map,Option.map_eq_some_iff] at hp
  obtain ⟨q,hq,rfl⟩:=hp
  exact ih j v q hv hq
theorem ORep.ren' {w:World} {D:Nat -> Prop} {φ:Nat -> Value} {base:Nat} {ρ:Nat -> Nat} {id:Nat} {ob:AObj} (h:ORep w D (fun id=>φ (ρ id)) base id ob):ORep w D φ base (ρ id) (ob.ren ρ):= by
 cases ob with
 | box cs =>
  obtain ⟨b,vs,e,h1,h2,h3,h4⟩:=h
  refine ⟨b,vs,e,h1,h2,by rw [FV.renL_eq]; simpa using h3,fun j v x hv hx=>?_⟩
  rw [FV.renL_eq,List.getElem?_map,Option.map_eq_some_iff] at hx
  obtain ⟨q,hq,rfl⟩:=hx
  obtain ⟨g1,g2⟩:=h4 j v q hv hq
  exact ⟨by rw [FV.ren_leaf]; exact g1,g2.ren'⟩
 | arr e sz es=>exact h
 | imap ks=>exact h
 | fro es=>exact h
 | res=>exact h
 | ext E k B=>exact h
 | anc v x=>exact FRep.ren' h
 | iter ks rem cur=>exact h
 | siter x pos=>exact h
 | lst e sz es x ps =>
  obtain ⟨h0,xs,u,h1,h2,h3,h4⟩:=h
  exact ⟨by rw [FV.ren_leaf]; exact h0,xs,u,h1,h2,h3,h4.ren'⟩
 | pool e sz l=>exact h
theorem ORep.base {w:World} {D:Nat -> Prop} {φ:Nat -> Value} {base base' id:Nat} {ob:AObj} (h:ORep w D φ base id ob):ORep w D φ base' id ob:=by cases ob <;> exact h
theorem FRep.handles {w:World} {D:Nat -> Prop} {φ φ':Nat -> Value} {n:Nat} (hφ:∀ id,id < n -> φ' id = φ id) {v:Value} {x:FV} (h:FRep w D φ v x) (hx:x.lt n = true):FRep w D φ' v x:=h.mono (fun _ _=>rfl) (fun _ h=>h) hφ hx
theorem ORep.handles {w:World} {D:Nat -> Prop} {φ φ':Nat -> Value} {n base id:Nat} {ob:AObj} (hφ:∀ id,id < n -> φ' id = φ id) (h:ORep w D φ base id ob) (hx:ob.lt n = true) (hid:id < n):ORep w D φ' base id ob :=
 h.keep hx hid (fun _ _=>rfl) (fun _ h=>h) hφ (fun _ _=>rfl)
mutual
theorem FV.lt_ren {ρ:Nat -> Nat} {n m:Nat} (hρ:∀ id,id < n -> ρ id < m):∀ (x:FV),x.lt n = true -> (x.ren ρ).lt m = true
 | .pv _,_=>rfl
 | .nils,_=>rfl
 | .box id _,h=>by simp [FV.lt,FV.ren] at *; exact hρ id h
 | .arr id,h=>by simp [FV.lt,FV.ren] at *; exact hρ id h
 | .aptr id _ _ _,h=>by simp [FV.lt,FV.ren] at *; exact hρ id h
 | .mp id,h=>by simp [FV.lt,FV.ren] at *; exact hρ id h
 | .yld id,h=>by simp [FV.lt,FV.ren] at *; exact hρ id h
 | .sub id _ _ _,h=>by simp [FV.lt,FV.ren] at *; exact hρ id h
 | .fn _ cs,h=>by simp only [FV.lt,FV.ren] at *; exact FV.ltL_ren hρ cs h
 | .agg cs,h=>by simp only [FV.lt,FV.ren] at *; exact FV.ltL_ren hρ cs h
 | .tup cs,h=>by simp only [FV.lt,FV.ren] at *; exact FV.ltL_ren hρ cs h
theorem FV.ltL_ren {ρ:Nat -> Nat} {n m:Nat} (hρ:∀ id,id < n -> ρ id < m):∀ (xs:List FV),FV.ltL n xs = true -> FV.ltL m (FV.renL ρ xs) = true
 | [],_=>rfl
 | x :: xs,h=>by
  simp only [FV.ltL,FV.renL,Bool.and_eq_true] at *
  exact ⟨FV.lt_ren hρ x h.1,FV.ltL_ren hρ xs h.2⟩
end
theorem AObj.lt_ren {ρ:Nat -> Nat} {n m:Nat} (hρ:∀ id,id < n -> ρ id < m) (ob:AObj) (h:ob.lt n = true):(ob.ren ρ).lt m = true:= by
 cases ob with
 | box cs=>exact FV.ltL_ren hρ cs h
 | anc v x=>exact FV.lt_ren hρ x h
 | lst e sz es x ps=>exact FV.lt_ren hρ x h
 | _=>rfl
structure Held (s:ASt) (D:Nat -> Prop) (φ:Nat -> Value) (w:World):Prop where
 dlt:∀ b,D b -> b < w.heap.size
 objs:∀ id ob,s.obj id = some ob -> id < s.nxt /\ ob.lt s.nxt = true /\ ORep w D φ 0 id ob
 own:∀ id ob b,s.obj id = some ob -> oblk φ id ob b -> ¬ D b /\ b < w.heap.size
 sep:∀ id ob id' ob' b,s.obj id = some ob -> s.obj id' = some ob' -> oblk φ id ob b -> oblk φ id' ob' b -> id = id'
def ownS (s:ASt) (φ:Nat -> Value) (b:Nat):Prop:=∃ id ob,s.obj id = some ob /\ oblk φ id ob b
theorem Inv.held {W0:World} {D0:Bas} {nt:Nat} {s:ASt} {D:Nat -> Prop} {φ:Nat -> Value} {a:Act} {w:World} (h:Inv W0 D0 nt s D φ a w):Held s D φ w :=
 ⟨h.dlt,fun id ob ho=>let ⟨h1,h2,h3⟩:=h.objs id ob ho; ⟨h1,h2,h3.base⟩,fun id ob b ho hb=>let ⟨h1,_,h3⟩:=h.own id ob b ho hb; ⟨h1,h3⟩,h.sep⟩
theorem Held.le {s s':ASt} {D:Nat -> Prop} {φ:Nat -> Value} {w:World} (h:Held s D φ w) (hle:Le s s') :
  ∃ φ',Held s' D φ' w /\ (∀ b,ownS s' φ' b -> ownS s φ b) /\ ∀ t x,s'.get t = some x -> x.lt s'.nxt = true /\ ∃ y,s.get t = some y /\ ∀ v,FRep w D φ v y -> FRep w D φ' v x:= by
 obtain ⟨ρ,h1,h2,h3⟩:=hle
 refine ⟨fun id=>φ (ρ id),⟨h.dlt,fun id ob ho=>?_,fun id ob b ho hb=>?_,fun id ob id' ob' b ho ho' hb hb'=>?_⟩,?_,fun t x hx=>?_⟩
 ·obtain ⟨g1,g2,g3⟩:=h2 id ob ho
  exact ⟨g2,g3,(h.objs _ _ g1).2.2.ren⟩
 ·exact h.own _ _ b (h2 id ob ho).1 (by rw [AObj.ren_blk]; exact hb)
 ·exact h3 id ob id' ob' ho ho' (h.sep _ _ _ _ b (h2 id ob ho).1 (h2 id' ob' ho').1 (by rw [AObj.ren_blk]; exact hb) (by rw [AObj.ren_blk]; exact hb'))
 ·rintro b ⟨id,ob,ho,hb⟩
  exact ⟨_,_,(h2 id ob ho).1,by rw [AObj.ren_blk]; exact hb⟩
 ·obtain ⟨g1,g2⟩:=h1 t x hx
  exact ⟨g2,_,g1,fun v hv=>hv.ren x rfl⟩
def entryF:Nat -> List FV -> List (Nat × Option FV)
 | _,[]=>[]
 | i,x :: xs=>(i,some x) :: entryF (i + 1) xs
theorem entryF_get:∀ (xs:List FV) (i t:Nat) (x:FV),look (entryF i xs) t = some x -> i <= t /\ xs[t - i]? = some x
 | [],i,t,x,h=>by simp [entryF,look] at h
 | y :: xs,i,t,x,h=>by
  by_cases hi:i = t
  ·subst hi
   rw [entryF,look_cons_eq] at h
   simpa using h
  ·rw [entryF,look_cons_ne _ _ hi] at h
   obtain ⟨h1,h2⟩:=entryF_get xs (i + 1) t x h
   refine ⟨by omega,?_⟩
   rw [show t - i = (t - (i + 1)) + 1 by omega,List.getElem?_cons_succ]; exact h2
def entryX (xs:List FV) (objs:List (Nat × AObj)) (n:Nat):ASt:=⟨entryF 0 xs,objs.map fun (t,x)=>(t,some x),n⟩
structure PostX (W:World) (X D:Nat -> Prop) (Q:ASt -> Prop) (QP:TypeId × Value -> ASt -> Prop) (e:Ending) (w':World):Prop where
 out:∃ sf D' φ',BelowX X W w' /\ (∀ b,D b -> D' b) /\ (∀ b,D' b -> D b \/ X b \/ W.heap.size <= b) /\ Held sf D' φ' w' /\ (∀ b,ownS sf φ' b -> X b \/ W.heap.size <= b) /\
  ((∃ v,e = .returned v /\ (∀ x,sf.get 0 = some x -> x.lt sf.nxt = true /\ FRep w' D' φ' v x) /\ Q sf) \/ (∃ v t,e = .panicked [{ v:=.iface t v,recovered:=false }] /\ QP (t,v) sf))
def ACallsX (P:Program) (f:FuncId) (xs:List FV) (objs:List (Nat × AObj)) (n:Nat) (Q:ASt -> Prop) (QP:TypeId × Value -> ASt -> Prop):Prop :=
 Enters P f /\ ∀ W D φ vs,Held (entryX xs objs n) D φ W -> vs.size = xs.length -> (∀ (j:Nat) (v:Value) (x:FV),vs[j]? = some v -> xs[j]? = some x -> x.lt n = true /\ FRep W D φ v x) →
  Calls P f vs W (PostX W (ownS (entryX xs objs n) φ) D Q QP)
theorem entryX_inv {W:World} {D:Nat -> Prop} {φ:Nat -> Value} {vs:Array Value} {xs:List FV} {objs:List (Nat × AObj)} {n nt:Nat} (hH:Held (entryX xs objs n) D φ W) (hs:vs.size = xs.length)
  (hr:∀ (j:Nat) (v:Value) (x:FV),vs[j]? = some v -> xs[j]? = some x -> x.lt n = true /\ FRep W D φ v x) (hn:vs.size <= nt) :
  Inv W ⟨D,ownS (entryX xs objs n) φ,none,false⟩ nt (entryX xs objs n) D φ { tmps:=vs ++ Array.replicate (nt - vs.size) undef,defers:=[] } W:= by
 refine ⟨BelowX.refl _ _,by simp; omega,⟨[],.nil,.nil,by simp⟩,hH.dlt,fun b hb=>.inl hb,fun b hb=>hb,?_,?_,?_,hH.sep⟩
 ·intro t x hx
  obtain ⟨_,hp⟩:=entryF_get xs 0 t x hx
  rw [Nat.sub_zero] at hp
  have ht:t < vs.size:=by rw [hs]; exact (List.getElem?_eq_some_iff.1 hp).1
  obtain ⟨h1,h2⟩:=hr t vs[t] x (by simp [ht]) hp
  exact ⟨h1,vs[t],by rw [Array.getElem?_append_left ht]; simp [ht],h2⟩
 ·intro id ob ho
  obtain ⟨h1,h2,h3⟩:=hH.objs id ob ho
  exact ⟨h1,h2,h3.base⟩
 ·intro id ob b ho hb
  obtain ⟨h1,h2⟩:=hH.own id ob b ho hb
  exact ⟨h1,.inl ⟨id,ob,ho,hb⟩,h2⟩
def tupF:List FV -> FV
 | [x]=>x
 | xs=>.tup xs
theorem tup_rep {w:World} {D:Nat -> Prop} {φ:Nat -> Value} {vs:List Value} {xs:List FV} (hl:vs.length = xs.length) (hf:∀ (j:Nat) (v:Value) (x:FV),vs[j]? = some v -> xs[j]? = some x -> FRep w D φ v x):FRep w D φ (tupV vs) (tupF xs):= by
 match vs,xs,hl,hf with
 | [],[],hl,hf=>exact .tup #[] [] rfl (by simp)
 | [v],[x],hl,hf=>exact hf 0 v x rfl rfl
 | v :: v2 :: vs,x :: y :: xs,hl,hf =>
  show FRep w D φ (.tuple (v :: v2 :: vs).toArray) (.tup (x :: y :: xs))
  exact .tup _ _ (by simpa using hl) fun j u p hu hp=>hf j u p (by simpa using hu) hp
def RetX (T:Nat -> Option TyI) (rs:List ResultVar) (Q:ASt -> Prop) (QP:TypeId × Value -> ASt -> Prop):Exit -> ASt -> Prop
 | .normal,s=>∃ ys sf,mapO (resFV T s) rs = some ys /\ Le ⟨[(0,some (tupF ys))],s.objs,s.nxt⟩ sf /\ Q sf
 | .ret,s=>∃ ys sf,mapO (resFV T s) rs = some ys /\ Le ⟨[(0,some (tupF ys))],s.objs,s.nxt⟩ sf /\ Q sf
 | .panic ch,s=>∃ v t sf,ch = [{ v:=.iface t v,recovered:=false }] /\ Le ⟨[],s.objs,s.nxt⟩ sf /\ QP (t,v) sf
 | _,_=>False
section
variable {P:Program} {T:Nat -> Option TyI} {nt:Nat} {s:ASt} {o:Oper} {ops:Array Oper} {rest:List Oper} {Q:Exit -> ASt -> Prop}
theorem postX_of {W:World} {D0:Bas} {D:Nat -> Prop} {φ:Nat -> Value} {a:Act} {w:World} (hI:Inv W D0 nt s D φ a w) {env:List (Nat × Option FV)} {sf:ASt} (hle:Le ⟨env,s.objs,s.nxt⟩ sf) :
  ∃ φ',BelowX D0.x W w /\ (∀ b,D0.d b -> D b) /\ (∀ b,D b -> D0.d b \/ D0.x b \/ W.heap.size <= b) /\ Held sf D φ' w /\ (∀ b,ownS sf φ' b -> D0.x b \/ W.heap.size <= b) /\
   ∀ t x,sf.get t = some x -> x.lt sf.nxt = true /\ ∃ y,look env t = some y /\ ∀ v,FRep w D φ v y -> FRep w D φ' v x:= by
 have hH:Held ⟨env,s.objs,s.nxt⟩ D φ w:=⟨hI.held.dlt,hI.held.objs,hI.held.own,hI.held.sep⟩
 obtain ⟨φ',h1,h2,h3⟩:=hH.le hle
 refine ⟨φ',hI.below,hI.d0,hI.dof,h1,fun b hb=>?_,h3⟩
 obtain ⟨id,ob,ho,hk⟩:=h2 b hb
 exact (hI.own id ob b ho hk).2.1
theorem ACallsX.of_body {f:FuncId} {fn:Func} {c:Code} {xs:List FV} {objs:List (Nat × AObj)} {n:Nat} {Q:ASt -> Prop} {QP:TypeId × Value -> ASt -> Prop} (hT:TabOK P T) (hf:P.funcs[f]? = some fn) (hb:fn.body = some c)
  (hname : (fn.name == "runtime.NumGoroutine") = false) (hn : Nat.ble xs.length fn.ntmps = true) (h : AW P fn.ntmps c (RetX T fn.results.toList Q QP) (entryX xs objs n)) : ACallsX P f xs objs n Q QP := by
 refine ⟨enters_of hf hb hname,fun W D φ vs hH hs hr=>?_⟩
 have hn':=Nat.le_of_ble_eq_true hn
 generalize hX:ownS (entryX xs objs n) φ = X
 have hE:=entryX_inv (nt:=fn.ntmps) hH hs hr (by rw [hs]; exact hn')
 rw [hX] at hE
 refine (callsIn_wide (n:=0)).1 (callsIn_of_wp_marks hf hb trivial ?_)
 refine Go.wpIn_mono (h none W ⟨D,X,none,false⟩ D φ _ W ⟨rfl,fun l hl=>by cases hl⟩ hE) ?_
 have fin:∀ (a:Act) (w:World) (s':ASt) (D':Nat -> Prop) (φ':Nat -> Value),Inv W ⟨D,X,none,false⟩ fn.ntmps s' D' φ' a w →
   (∃ ys sf,mapO (resFV T s') fn.results.toList = some ys /\ Le ⟨[(0,some (tupF ys))],s'.objs,s'.nxt⟩ sf /\ Q sf) →
   LeavesInM Fence.wide 0 P fn a.tmps (PostX W X D Q QP) a.defers .returning w:= by
  rintro a w s' D' φ' hI ⟨ys,sf,h1,h2,h3⟩
  obtain ⟨tmps,dfs⟩:=a
  refine leaves_end (by simp) rfl hI fun w' hI'=>?_
  obtain ⟨us,r1,r2,r3⟩:=run_results hT hI' h1
  obtain ⟨φ2,g1,g2,g3,g4,g5,g6⟩:=postX_of hI' h2
  refine ⟨_,r1,⟨sf,D',φ2,g1,g2,g3,g4,g5,.inl ⟨_,rfl,fun x hx=>?_,h3⟩⟩⟩
  obtain ⟨k1,y,k2,k3⟩:=g6 0 x hx
  cases k2
  exact ⟨k1,k3 _ (tup_rep r2 r3)⟩
 rintro e a w ⟨s',D',φ',hI,hq⟩
 cases e with
 | normal=>exact fin a w s' D' φ' hI hq
 | ret=>exact fin a w s' D' φ' hI hq
 | panic ch =>
  obtain ⟨v,t,sf,rfl,h2,h3⟩:=hq
  obtain ⟨tmps,dfs⟩:=a
  show LeavesInM Fence.wide 0 P fn tmps (PostX W X D Q QP) dfs (.panicking _) w
  refine leaves_end (by simp) rfl hI fun w' hI'=>?_
  obtain ⟨φ2,g1,g2,g3,g4,g5,g6⟩:=postX_of hI' h2
  exact ⟨sf,D',φ2,g1,g2,g3,g4,g5,.inr ⟨v,t,rfl,h3⟩⟩
 | _=>exact hq.elim
def OpToP (P:Program) (nt:Nat) (o:Oper) (s:ASt) (R:ASt -> Prop) (RP:TypeId × Value -> ASt -> Prop):Prop:=∀ ro W0 D0 D φ a w,Inv W0 D0 nt s D φ a w -> ∀ (K:Act -> World -> Prop) (Q:Exit -> Act -> World -> Prop),
 (∀ s' D' φ' a' w',R s' -> Inv W0 D0 nt s' D' φ' a' w' -> K a' w') →
 (∀ s' D' φ' a' w' t v,RP (t,v) s' -> Inv W0 D0 nt s' D' φ' a' w' -> Q (.panic [{ v:=.iface t v,recovered:=false }]) a' w') -> o.wpIn (FW ro) 0 P a w K Q
theorem OpToP.calm {R:ASt -> Prop} (h:OpToP P nt o s R (fun _ _=>False)):OpToS P nt o s R:=fun ro W0 D0 D φ a w hI K Q hK=>h ro W0 D0 D φ a w hI K Q hK (fun _ _ _ _ _ _ _ h=>h.elim)
theorem AL_doP {R:ASt -> Prop} {RP:TypeId × Value -> ASt -> Prop} (hg:guardT ops s o = true) (ho:OpToP P nt o s R RP) (h:∀ s',R s' -> AL P nt ops rest Q s') (hp:∀ t s' v,RP (t,v) s' -> Q (.panic [{ v:=.iface t v,recovered:=false }]) s'):AL P nt ops (o :: rest) Q s:= by
 intro ro W0 D0 D φ a w hr hI
 have key:=ho ro W0 D0 D φ a w hI (wpListIn (FW ro) 0 P ops (Lift W0 D0 nt Q) rest) (Lift W0 D0 nt Q) (fun s' D' φ' a' w' hs' hI'=>h s' hs' ro W0 D0 D' φ' a' w' hr hI')
  (fun s' D' φ' a' w' t v hs' hI'=>⟨s',D',φ',hI',hp t s' v hs'⟩)
 unfold wpListIn
 rcases guardT_spec hg with hg|⟨j,b,d,hg,hj,hd⟩
 ·rw [if_pos (by simp [Region.wanted,hg])]; exact key
 ·rw [if_pos (by have hy:=yielded_of hI hj hd; simp [Region.wanted,hg,hy])]; exact key
def argX (s:ASt) (m:List (Nat × Nat)) (y:FV):FV -> Prop
 | .pv p=>s.pvOf false 5 y = some p
 | x=>y = x.ren (rho m)
def argsX (s:ASt) (m:List (Nat × Nat)):List FV -> List FV -> Prop
 | [],[]=>True
 | y :: ys,x :: xs=>argX s m y x /\ argsX s m ys xs
 | _,_=>False
def evL (s:ASt):List Operand -> Option (List FV)
 | []=>some []
 | x :: xs=>match s.ev x,evL s xs with
  | some y,some ys=>some (y :: ys)
  | _,_=>none
def ancL (av:Nat -> Value) (ancs:List (Nat × Nat)):List (Nat × AObj):=ancs.map fun (a,k)=>(a,.anc (av a) (.box k 0))
def handX (s:ASt) (m:List (Nat × Nat)) (n:Nat):List (Nat × AObj) -> Prop
 | []=>True
 | (k,ob) :: r=>s.obj (rho m k) = some (ob.ren (rho m)) /\ k < n /\ ob.lt n = true /\ handX s m n r
def rho2 (m:List (Nat × Nat)) (kp:List Nat) (b:Nat) (k:Nat):Nat:=match kp.contains k with
 | true=>rho m k
 | false=>b + k
def objBack (ρ:Nat -> Nat):Option AObj -> Option AObj
 | some (.anc v (.pv p))=>some (.anc v (.pv p))
 | some (.anc _ _)=>none
 | some ob=>some (ob.ren ρ)
 | none=>none
def afterX (s:ASt) (m:List (Nat × Nat)) (kp:List Nat) (ks:List Nat) (sf:ASt):ASt :=
 ⟨s.env,(sf.objs.map fun (k,ob)=>(rho2 m kp s.nxt k,objBack (rho2 m kp s.nxt) ob)) ++ (ks.map fun k=>(rho m k,none)) ++ s.objs,s.nxt + sf.nxt⟩
inductive KeptA (s:ASt) (m:List (Nat × Nat)) (ancs:List (Nat × Nat)) (av:Nat -> Value) (sf:ASt) (k:Nat):Prop
 | inl (h:∃ a,(a,k) ∈ ancs /\ sf.obj a = some (.anc (av a) (.box k 0)))
 | inr (h:∃ E j B j' B',sf.obj k = some (.ext E j B) /\ s.obj (rho m k) = some (.ext E j' B'))
 | inp (h:∃ e sz l e' sz' l',sf.obj k = some (.pool e sz l) /\ s.obj (rho m k) = some (.pool e' sz' l'))
def keptX (s:ASt) (m:List (Nat × Nat)) (ancs:List (Nat × Nat)) (av:Nat -> Value) (sf:ASt):List Nat -> Prop
 | []=>True
 | k :: r=>KeptA s m ancs av sf k /\ keptX s m ancs av sf r
theorem keptX_mem {m:List (Nat × Nat)} {ancs:List (Nat × Nat)} {av:Nat -> Value} {sf:ASt}:∀ {kp:List Nat},keptX s m ancs av sf kp -> ∀ k ∈ kp,KeptA s m ancs av sf k
 | [],_,_,h=>by cases h
 | k :: r,h,x,hx=>by
  cases hx with
  | head=>exact h.1
  | tail _ hx=>exact keptX_mem h.2 x hx
theorem handX_mem {m:List (Nat × Nat)} {n:Nat}:∀ {l:List (Nat × AObj)},handX s m n l -> ∀ k ob,(k,ob) ∈ l -> s.obj (rho m k) = some (ob.ren (rho m)) /\ k < n /\ ob.lt n = true
 | [],_,_,_,h=>by cases h
 | (k',ob') :: r,h,k,ob,hm=>by
  cases hm with
  | head=>exact ⟨h.1,h.2.1,h.2.2.1⟩
  | tail _ hm=>exact handX_mem h.2.2.2 k ob hm
theorem look_append {α:Type}:∀ (l r:List (Nat × Option α)) (t:Nat),look (l ++ r) t = if t ∈ l.map (·.1) then look l t else look r t
 | [],r,t=>by simp
 | (k,v) :: l,r,t=>by
  by_cases hk:k = t
  ·subst hk; simp [look_cons_eq]
  ·rw [List.cons_append,look_cons_ne _ _ hk,look_append l r t,look_cons_ne _ _ hk]
   simp only [List.map_cons,List.mem_cons]
   by_cases ht:t ∈ l.map (·.1)
   ·rw [if_pos ht,if_pos (.inr ht)]
   ·rw [if_neg ht,if_neg (by rintro (h|h); exact hk h.symm; exact ht h)]
theorem look_renkeys {α β:Type} (f:Nat -> Nat) (g:Option α -> Option β):∀ (l:List (Nat × Option α)) (t:Nat),(∀ k ∈ l.map (·.1),f k = f t -> k = t) -> t ∈ l.map (·.1) -> look (l.map fun (k,x)=>(f k,g x)) (f t) = g (look l t)
 | [],t,_,h=>by simp at h
 | (k,v) :: l,t,hinj,ht=>by
  simp only [List.map_cons]
  by_cases hk:k = t
  ·subst hk; rw [look_cons_eq,look_cons_eq]
  ·rw [look_cons_ne _ _ hk,look_cons_ne _ _ (fun e=>hk (hinj k (by simp) e))]
   refine look_renkeys f g l t (fun k' h'=>hinj k' (by simp [h'])) ?_
   simp only [List.map_cons,List.mem_cons] at ht
   exact ht.resolve_left (fun e=>hk e.symm)
theorem rho2_inj {m:List (Nat × Nat)} {kp:List Nat} {b:Nat} (hlt:∀ k ∈ kp,rho m k < b) (hinj:∀ k ∈ kp,∀ k' ∈ kp,rho m k = rho m k' -> k = k') {k k':Nat} (h:rho2 m kp b k = rho2 m kp b k'):k = k':= by
 unfold rho2 at h
 cases h1:kp.contains k <;> cases h2:kp.contains k' <;> rw [h1,h2] at h
 ·simp only at h; omega
 ·have:=hlt k' (by simpa using h2); simp only at h; omega
 ·have:=hlt k (by simpa using h1); simp only at h; omega
 ·exact hinj k (by simpa using h1) k' (by simpa using h2) h
theorem argsX_spec {m:List (Nat × Nat)}:∀ {ys xs:List FV},argsX s m ys xs -> ys.length = xs.length /\ ∀ (j:Nat) (y x:FV),ys[j]? = some y -> xs[j]? = some x -> argX s m y x
 | [],[],_=>⟨rfl,by simp⟩
 | y :: ys,x :: xs,h=>by
  obtain ⟨h1,h2⟩:=argsX_spec h.2
  refine ⟨by simp [h1],fun j y' x' hy hx=>?_⟩
  cases j with
  | zero=>simp at hy hx; subst hy; subst hx; exact h.1
  | succ j=>exact h2 j y' x' (by simpa using hy) (by simpa using hx)
 | [],_ :: _,h=>h.elim
 | _ :: _,[],h=>h.elim
theorem evL_spec:∀ {l:List Operand} {ys:List FV},evL s l = some ys -> l.length = ys.length /\ ∀ (j:Nat) (x:Operand) (y:FV),l[j]? = some x -> ys[j]? = some y -> s.ev x = some y
 | [],ys,h=>by cases h; simp
 | x :: l,ys,h=>by
  unfold evL at h
  split at h
  ·rename_i y ys' h1 h2
   cases h
   obtain ⟨g1,g2⟩:=evL_spec h2
   refine ⟨by simp [g1],fun j x' y' hx hy=>?_⟩
   cases j with
   | zero=>simp at hx hy; subst hx; subst hy; exact h1
   | succ j=>exact g2 j x' y' (by simpa using hx) (by simpa using hy)
  ·cases h
theorem argX_rep {W0:World} {D0:Bas} {D:Nat -> Prop} {φ:Nat -> Value} {a:Act} {w:World} (hI:Inv W0 D0 nt s D φ a w) {m:List (Nat × Nat)} {v:Value} {y x:FV} (hv:FRep w D φ v y) (h:argX s m y x):FRep w D (fun id=>φ (rho m id)) v x:= by
 have gen:y = x.ren (rho m) -> FRep w D (fun id=>φ (rho m id)) v x:=fun e=>hv.ren x e.symm
 cases x with
 | pv p=>exact .pv _ _ (by simpa using pvOf_rep hI false 5 y v p hv h)
 | _=>exact gen h
end
end Go.Abs
namespace Go.Abs
open Go.RowKit
section
variable {P:Program} {T:Nat -> Option TyI} {nt:Nat} {s:ASt} {o:Oper} {ops:Array Oper} {rest:List Oper} {Q:Exit -> ASt -> Prop}
theorem FRep.inv_box {w:World} {D:Nat -> Prop} {φ:Nat -> Value} {v:Value} {id off:Nat} (h:FRep w D φ v (.box id off)):∃ b,φ id = .pointer (some ⟨b,0,none⟩) /\ v = .pointer (some ⟨b,off,none⟩):= by
 cases h with
 | box _ _ b h=>exact ⟨b,h,rfl⟩
def lookN:List (Nat × Nat) -> Nat -> Option Nat
 | [],_=>none
 | (a,k) :: r,t=>match Nat.beq a t with
  | true=>some k
  | false=>lookN r t
def ancOK (n:Nat) (objs:List (Nat × AObj)) (ancs:List (Nat × Nat)):List (Nat × Nat) -> Prop
 | []=>True
 | (a,k) :: r=>(Nat.blt a n = true /\ Nat.blt k n = true /\ (∃ cs,(k,AObj.box cs) ∈ objs) /\ lookN ancs a = some k) /\ ancOK n objs ancs r
theorem ancOK_mem {n:Nat} {objs:List (Nat × AObj)} {ancs:List (Nat × Nat)}:∀ {l:List (Nat × Nat)},ancOK n objs ancs l -> ∀ a k,(a,k) ∈ l -> a < n /\ k < n /\ (∃ cs,(k,AObj.box cs) ∈ objs) /\ lookN ancs a = some k
 | [],_,_,_,h=>by cases h
 | (a',k') :: r,h,a,k,hm=>by
  cases hm with
  | head=>exact ⟨by simpa using h.1.1,by simpa using h.1.2.1,h.1.2.2⟩
  | tail _ hm=>exact ancOK_mem h.2 a k hm
theorem look_nones (f:Nat -> Nat):∀ (l:List Nat) (t:Nat),look (l.map fun k=>(f k,(none:Option AObj))) t = none
 | [],_=>rfl
 | k :: l,t=>by
  by_cases hk:f k = t
  ·rw [List.map_cons,hk,look_cons_eq]
  ·rw [List.map_cons,look_cons_ne _ _ hk]; exact look_nones f l t
theorem objBack_some {ρ:Nat -> Nat} {x:Option AObj} {ob:AObj} (h:objBack ρ x = some ob):∃ ob',x = some ob' /\ ob = ob'.ren ρ:= by
 unfold objBack at h
 split at h
 ·cases h; exact ⟨_,rfl,rfl⟩
 ·cases h
 ·cases h; exact ⟨_,rfl,rfl⟩
 ·cases h
def ASt.calleeX (s:ASt) (f:Operand):Option (FuncId × List FV):=match s.ev f with
 | some (.fn g caps)=>some (g,caps)
 | some (.pv (.fn g ps))=>some (g,ps.map .pv)
 | _=>none
theorem calleeX_rep {W0:World} {D0:Bas} {D:Nat -> Prop} {φ:Nat -> Value} {a:Act} {w:World} (hI:Inv W0 D0 nt s D φ a w) {f:Operand} {g:FuncId} {caps:List FV} (hf:s.calleeX f = some (g,caps)) :
  ∃ vs,a.eval f = .func (.func g) #[] vs /\ vs.size = caps.length /\ ∀ (j:Nat) (v:Value) (p:FV),vs[j]? = some v -> caps[j]? = some p -> FRep w D φ v p:= by
 unfold ASt.calleeX at hf
 split at hf
 ·rename_i g' caps' he
  cases hf
  have:=(hI.ev he).2
  generalize a.eval f = v at this
  cases this with
  | fn _ vs _ hl hr=>exact ⟨vs,rfl,hl,hr⟩
 ·rename_i g' ps he
  cases hf
  have:=(hI.ev he).2.inv_pv
  generalize a.eval f = v at this
  cases this with
  | fn _ vs _ hl hr =>
   refine ⟨vs,rfl,by simpa using hl,fun j v p hv hp=>?_⟩
   rw [List.getElem?_map,Option.map_eq_some_iff] at hp
   obtain ⟨q,hq,rfl⟩:=hp
   exact .pv _ _ (hr j v q hv hq)
 ·cases hf
theorem callX_core {ys xs:List FV} {objs:List (Nat × AObj)} {n:Nat} (m:List (Nat × Nat)) (kp:List Nat) (ancs:List (Nat × Nat)) (hx:argsX s m ys xs) (hxl:FV.ltL n xs = true)
  (hobj:handX s m n objs) (hinj:injB m (objs.map (·.1)) = true) (hanc:ancOK n objs ancs ancs) (hkp:∀ k ∈ kp,k ∈ objs.map (·.1))
  {W0:World} {D0:Bas} {D:Nat -> Prop} {φ:Nat -> Value} {a:Act} {w:World} (hI:Inv W0 D0 nt s D φ a w) (all:Array Value) (hall:all.size = ys.length) (hrall:∀ (j:Nat) (v:Value) (y:FV),all[j]? = some v -> ys[j]? = some y -> FRep w D φ v y) :
  ∃ (av:Nat -> Value) (φc:Nat -> Value),Held (entryX xs (objs ++ ancL av ancs) n) D φc w /\ all.size = xs.length /\ (∀ (j:Nat) (v:Value) (x:FV),all[j]? = some v -> xs[j]? = some x -> x.lt n = true /\ FRep w D φc v x) /\
   ∀ (Qc:ASt -> Prop) (QPc:TypeId × Value -> ASt -> Prop) (e:Ending) (w':World),(∀ sf,Qc sf -> keptX s m ancs av sf kp) -> (∀ t sf,QPc t sf -> keptX s m ancs av sf kp) -> PostX w (ownS (entryX xs (objs ++ ancL av ancs) n) φc) D Qc QPc e w' →
    (∃ v sf D' φ2,e = .returned v /\ Qc sf /\ Inv W0 D0 nt (afterX s m kp (objs.map (·.1)) sf) D' φ2 a w' /\ ∀ x,sf.get 0 = some x -> (x.ren (rho2 m kp s.nxt)).lt (s.nxt + sf.nxt) = true /\ FRep w' D' φ2 v (x.ren (rho2 m kp s.nxt))) \/
    (∃ v t sf D' φ2,e = .panicked [{ v:=.iface t v,recovered:=false }] /\ QPc (t,v) sf /\ Inv W0 D0 nt (afterX s m kp (objs.map (·.1)) sf) D' φ2 a w'):= by
 obtain ⟨av,hav⟩:∃ av:Nat -> Value,∀ a k,(a,k) ∈ ancs -> av a = φ (rho m k) :=
  ⟨fun a=>match lookN ancs a with|some k=>φ (rho m k)|none=>undef,fun a k hm=>by simp only [(ancOK_mem hanc a k hm).2.2.2]⟩
 generalize hφc:(fun id=>φ (rho m id)) = φc
 have hmem:∀ id ob,(entryX xs (objs ++ ancL av ancs) n).obj id = some ob -> (id,ob) ∈ objs \/ ∃ k,(id,k) ∈ ancs /\ ob = .anc (av id) (.box k 0):= by
  intro id ob h
  have:=look_map (objs ++ ancL av ancs) id ob h
  rcases List.mem_append.1 this with h|h
  ·exact .inl h
  ·obtain ⟨⟨a',k'⟩,h1,h2⟩:=List.mem_map.1 h
   cases h2; exact .inr ⟨k',h1,rfl⟩
 have hE:Held (entryX xs (objs ++ ancL av ancs) n) D φc w:= by
  subst hφc
  refine ⟨hI.dlt,fun id ob h=>?_,fun id ob b h hb=>?_,fun id ob id' ob' b h h' hb hb'=>?_⟩
  ·rcases hmem id ob h with h|⟨k,h0,rfl⟩
   ·obtain ⟨g1,g2,g3⟩:=handX_mem hobj id ob h
    exact ⟨g2,g3,(hI.objs _ _ g1).2.2.base.ren⟩
   ·clear h
    have h:=h0
    obtain ⟨g1,g2,⟨cs,g3⟩,_⟩:=ancOK_mem hanc id k h
    refine ⟨g1,by simp [AObj.lt,FV.lt]; exact g2,?_⟩
    obtain ⟨q1,_,_⟩:=handX_mem hobj k _ g3
    obtain ⟨b,vs,e,r1,_⟩:=(hI.objs _ _ q1).2.2
    show FRep w D _ (av id) (.box k 0)
    rw [hav id k h,r1]
    exact .box k 0 b r1
  ·rcases hmem id ob h with h|⟨k,h,rfl⟩
   ·obtain ⟨g1,g2,g3⟩:=hI.own _ _ b (handX_mem hobj id ob h).1 (by rw [AObj.ren_blk]; exact hb)
    exact ⟨g1,g3⟩
   ·exact hb.elim
  ·rcases hmem id ob h with h|⟨k,h,rfl⟩
   ·rcases hmem id' ob' h' with h'|⟨k',h',rfl⟩
    ·exact injB_spec hinj id (List.mem_map.2 ⟨_,h,rfl⟩) id' (List.mem_map.2 ⟨_,h',rfl⟩) (hI.sep _ _ _ _ b (handX_mem hobj id ob h).1 (handX_mem hobj id' ob' h').1 (by rw [AObj.ren_blk]; exact hb) (by rw [AObj.ren_blk]; exact hb'))
    ·exact hb'.elim
   ·exact hb.elim
 generalize hX:ownS (entryX xs (objs ++ ancL av ancs) n) φc = X
 have hXs:∀ b,X b -> ∃ k ∈ objs.map (·.1),∃ ob,s.obj (rho m k) = some ob /\ oblk φ (rho m k) ob b:= by
  intro b hb
  rw [<- hX] at hb
  obtain ⟨id,ob,h,hb⟩:=hb
  rcases hmem id ob h with h|⟨k,h,rfl⟩
  ·exact ⟨id,List.mem_map.2 ⟨_,h,rfl⟩,_,(handX_mem hobj id ob h).1,by rw [AObj.ren_blk,hφc]; exact hb⟩
  ·exact hb.elim
 have hXD:∀ b,X b -> ¬ D b /\ (D0.x b \/ W0.heap.size <= b) /\ b < w.heap.size:=fun b hb=>let ⟨k,_,ob,h1,h2⟩:=hXs b hb; hI.own _ _ b h1 h2
 obtain ⟨a1,a2⟩:=argsX_spec hx
 have hsz:all.size = xs.length:=by rw [hall,a1]
 have hargs:∀ (j:Nat) (v:Value) (x:FV),all[j]? = some v -> xs[j]? = some x -> x.lt n = true /\ FRep w D φc v x:= by
  intro j v x hv' hx'
  refine ⟨FV.lt_mem hxl (List.mem_of_getElem? hx'),?_⟩
  have hjl:j < ys.length:=by rw [a1]; exact (List.getElem?_eq_some_iff.1 hx').1
  have hy:ys[j]? = some ys[j]:=by simp [hjl]
  have hry:FRep w D φ v ys[j]:=hrall j v _ hv' hy
  subst hφc
  exact argX_rep hI hry (a2 j _ x hy hx')
 refine ⟨av,φc,hE,hsz,hargs,?_⟩
 rw [hX]
 rintro Qc QPc e w' hk hkP ⟨sf,D',φ',h1,h2,h3,h4,h5,h6⟩
 have key:keptX s m ancs av sf kp -> ∃ φ2,Inv W0 D0 nt (afterX s m kp (objs.map (·.1)) sf) D' φ2 a w' /\ ∀ v x,x.lt sf.nxt = true -> FRep w' D' φ' v x -> (x.ren (rho2 m kp s.nxt)).lt (s.nxt + sf.nxt) = true /\ FRep w' D' φ2 v (x.ren (rho2 m kp s.nxt)):= by
  intro hkept
  have hkb:∀ k ∈ kp,rho m k < s.nxt:=fun k hk=>by
   obtain ⟨⟨k',ob⟩,hm,rfl⟩:=List.mem_map.1 (hkp k hk)
   exact (hI.objs _ _ (handX_mem hobj _ _ hm).1).1
  have hki:∀ k ∈ kp,∀ k' ∈ kp,rho m k = rho m k' -> k = k':=fun k hk k' hk' he=>injB_spec hinj k (hkp k hk) k' (hkp k' hk') he
  generalize hρ2:rho2 m kp s.nxt = ρ2
  have hinj2:∀ k k',ρ2 k = ρ2 k' -> k = k':=fun k k' he=>by rw [<- hρ2] at he; exact rho2_inj hkb hki he
  obtain ⟨φ2,hφ2⟩:∃ φ2:Nat -> Value,φ2 = fun id=>if id < s.nxt then φ id else φ' (id - s.nxt):=⟨_,rfl⟩
  have hold:∀ id,id < s.nxt -> φ2 id = φ id:=fun id hid=>by rw [hφ2]; simp [hid]
  have hnew:∀ k,φ2 (ρ2 k) = φ' k:= by
   intro k
   rw [<- hρ2]
   unfold rho2
   cases hck:kp.contains k
   ·simp only; rw [hφ2]; simp only; rw [if_neg (by omega)]; congr 1; omega
   ·have hkm:k ∈ kp:=by simpa using hck
    simp only
    rw [hold _ (hkb k hkm)]
    rcases keptX_mem hkept k hkm with ⟨a',q1,q2⟩|⟨E,j,B,j',B',q1,q2⟩|⟨e1,z1,l1,e2,z2,l2,q1,q2⟩
    ·have:=(h4.objs a' _ q2).2.2
     obtain ⟨b,r1,r2⟩:=FRep.inv_box (show FRep w' D' φ' (av a') (.box k 0) from this)
     rw [<- hav a' k q1,r2,r1]
    ·rw [(hI.objs _ _ q2).2.2.2.1,(h4.objs _ _ q1).2.2.2.1]
    ·rw [(hI.objs _ _ q2).2.2.1,(h4.objs _ _ q1).2.2.1]
  have hcomp:(fun id=>φ2 (ρ2 id)) = φ':=funext hnew
  have hlt2:∀ k,k < sf.nxt -> ρ2 k < s.nxt + sf.nxt:= by
   intro k hk
   rw [<- hρ2]; unfold rho2
   cases hck:kp.contains k
   ·simp only; omega
   ·have:=hkb k (by simpa using hck); simp only; omega
  have hcase:∀ id ob,(afterX s m kp (objs.map (·.1)) sf).obj id = some ob -> (∃ k ob',id = ρ2 k /\ sf.obj k = some ob' /\ ob = ob'.ren ρ2) \/ (s.obj id = some ob /\ ∀ k ∈ objs.map (·.1),id ≠ rho m k):= by
   intro id ob h
   have h':look ((sf.objs.map fun (k,ob)=>(ρ2 k,objBack ρ2 ob)) ++ ((objs.map (·.1)).map fun k=>(rho m k,none)) ++ s.objs) id = some ob:=by rw [<- hρ2]; exact h
   rw [List.append_assoc,look_append] at h'
   split at h'
   ·rename_i hk
    rw [List.map_map] at hk
    obtain ⟨⟨k,x⟩,hk1,hk2⟩:=List.mem_map.1 hk
    have hk2:ρ2 k = id:=hk2
    subst hk2
    rw [look_renkeys ρ2 (objBack ρ2) sf.objs k (fun k' _ he=>hinj2 _ _ he) (List.mem_map.2 ⟨_,hk1,rfl⟩)] at h'
    obtain ⟨ob',q1,q2⟩:=objBack_some h'
    exact .inl ⟨k,ob',rfl,q1,q2⟩
   ·rw [look_append] at h'
    split at h'
    ·rw [look_nones (rho m)] at h'; cases h'
    ·rename_i hk
     refine .inr ⟨h',fun k hkm he=>hk ?_⟩
     rw [List.map_map]
     exact List.mem_map.2 ⟨k,hkm,he.symm⟩
  have hDs:∀ b,D b -> w'.heap[b]? = w.heap[b]?:=fun b hb=>h1.block b (hI.dlt b hb) fun hx=>(hXD b hx).1 hb
  have hoX:∀ id ob b,s.obj id = some ob -> (∀ k ∈ objs.map (·.1),id ≠ rho m k) -> oblk φ id ob b -> ¬ X b:= by
   intro id ob b ho hne hb hxb
   obtain ⟨k,hk1,ob',hk2,hk3⟩:=hXs b hxb
   exact hne k hk1 (hI.sep _ _ _ _ b ho hk2 hb hk3)
  have hD3:∀ b,b < w.heap.size -> ¬ D b -> ¬ X b -> ¬ D' b:=fun b hb hd hx hd'=>by
   rcases h3 b hd' with q|q|q
   ·exact hd q
   ·exact hx q
   ·omega
  have hrep:∀ v x,x.lt sf.nxt = true -> FRep w' D' φ' v x -> (x.ren ρ2).lt (s.nxt + sf.nxt) = true /\ FRep w' D' φ2 v (x.ren ρ2):=fun v x hx hr=>⟨FV.lt_ren hlt2 x hx,FRep.ren' (by rw [hcomp]; exact hr)⟩
  have hblk:∀ k ob b,oblk φ2 (ρ2 k) (ob.ren ρ2) b ↔ oblk φ' k ob b:=fun k ob b=>by rw [AObj.ren_blk,hcomp]
  refine ⟨φ2,⟨⟨h1.os.trans hI.below.os,h1.tape.trans hI.below.tape,h1.output.trans hI.below.output,Nat.le_trans hI.below.size h1.size,fun k hk hx=>?_⟩,hI.size,?_,h4.dlt,fun b hb=>?_,fun b hb=>h2 b (hI.d0 b hb),fun t x hx=>?_,fun id ob ho=>?_,
   fun id ob b ho hb=>?_,fun id ob id' ob' b ho ho' hb hb'=>?_⟩,hrep⟩
  ·refine (h1.block k (Nat.lt_of_lt_of_le hk hI.below.size) fun hxk=>?_).trans (hI.below.block k hk hx)
   rcases (hXD k hxk).2.1 with q|q
   ·exact hx q
   ·omega
  ·obtain ⟨ms,q1,q2,q3⟩:=hI.defers
   refine ⟨ms,q1,q2,fun d hd=>?_⟩
   obtain ⟨mk,r1,r2,r3,r4,r5⟩:=q3 d hd
   have hmw:mk < w.heap.size:=(Array.getElem?_eq_some_iff.1 r2).1
   have hmx:¬ X mk:=fun hx=>let ⟨k,_,ob,z1,z2⟩:=hXs mk hx; r5 _ _ z1 z2
   refine ⟨mk,r1,(h1.block mk hmw hmx).trans r2,r3,hD3 mk hmw r4 hmx,fun id ob ho hb=>?_⟩
   rcases hcase id ob ho with ⟨k,ob',rfl,z1,rfl⟩|⟨z1,z2⟩
   ·rcases h5 mk ⟨k,ob',z1,(hblk k ob' mk).1 hb⟩ with y|y
    ·exact hmx y
    ·omega
   ·exact r5 id ob z1 ((oblk_congr (hold id (hI.objs id ob z1).1) ob mk).1 hb)
  ·rcases h3 b hb with q|q|q
   ·exact hI.dof b q
   ·exact .inr (hXD b q).2.1
   ·exact .inr (.inr (Nat.le_trans hI.below.size q))
  ·obtain ⟨q1,v,q2,q3⟩:=hI.env t x hx
   exact ⟨FV.lt_mono (Nat.le_add_right _ _) x q1,v,q2,q3.mono hDs h2 hold q1⟩
  ·rcases hcase id ob ho with ⟨k,ob',rfl,z1,rfl⟩|⟨z1,z2⟩
   ·obtain ⟨r1,r2,r3⟩:=h4.objs k ob' z1
    exact ⟨hlt2 k r1,AObj.lt_ren hlt2 ob' r2,(ORep.ren' (ρ:=ρ2) (φ:=φ2) (by rw [hcomp]; exact r3)).base⟩
   ·obtain ⟨r1,r2,r3⟩:=hI.objs id ob z1
    exact ⟨Nat.lt_of_lt_of_le r1 (Nat.le_add_right _ _),AObj.lt_mono (Nat.le_add_right _ _) ob r2,r3.keep r2 r1 hDs h2 hold fun b hb=>h1.block b (hI.own id ob b z1 hb).2.2 (hoX id ob b z1 z2 hb)⟩
  ·rcases hcase id ob ho with ⟨k,ob',rfl,z1,rfl⟩|⟨z1,z2⟩
   ·have hb':=(hblk k ob' b).1 hb
    obtain ⟨r1,r2⟩:=h4.own k ob' b z1 hb'
    refine ⟨r1,?_,r2⟩
    rcases h5 b ⟨k,ob',z1,hb'⟩ with q|q
    ·exact (hXD b q).2.1
    ·exact .inr (Nat.le_trans hI.below.size q)
   ·have hb':=(oblk_congr (hold id (hI.objs id ob z1).1) ob b).1 hb
    obtain ⟨r1,r2,r3⟩:=hI.own id ob b z1 hb'
    exact ⟨hD3 b r3 r1 (hoX id ob b z1 z2 hb'),r2,Nat.lt_of_lt_of_le r3 h1.size⟩
  ·have hmix:∀ k ob1 id2 ob2,sf.obj k = some ob1 -> s.obj id2 = some ob2 -> (∀ k ∈ objs.map (·.1),id2 ≠ rho m k) -> oblk φ' k ob1 b -> oblk φ2 id2 ob2 b -> False:= by
    intro k ob1 id2 ob2 z1 z2 z3 z4 z5
    have z5:=(oblk_congr (hold id2 (hI.objs id2 ob2 z2).1) ob2 b).1 z5
    rcases h5 b ⟨k,ob1,z1,z4⟩ with q|q
    ·exact hoX id2 ob2 b z2 z3 z5 q
    ·have:=(hI.own id2 ob2 b z2 z5).2.2; omega
   rcases hcase id ob ho with ⟨k,ob1,rfl,z1,rfl⟩|⟨z1,z2⟩ <;> rcases hcase id' ob' ho' with ⟨k',ob2,rfl,z3,rfl⟩|⟨z3,z4⟩
   ·rw [h4.sep k ob1 k' ob2 b z1 z3 ((hblk _ _ _).1 hb) ((hblk _ _ _).1 hb')]
   ·exact (hmix k ob1 id' ob' z1 z3 z4 ((hblk _ _ _).1 hb) hb').elim
   ·exact (hmix k' ob2 id ob z3 z1 z2 ((hblk _ _ _).1 hb') hb).elim
   ·exact hI.sep id ob id' ob' b z1 z3 ((oblk_congr (hold id (hI.objs id ob z1).1) ob b).1 hb) ((oblk_congr (hold id' (hI.objs id' ob' z3).1) ob' b).1 hb')
 rcases h6 with ⟨v,rfl,hx',hq⟩|⟨v,t,rfl,hq⟩
 ·obtain ⟨φ2,hI',hr'⟩:=key (hk sf hq)
  exact .inl ⟨v,sf,D',φ2,rfl,hq,hI',fun x hx=>hr' v x (hx' x hx).1 (hx' x hx).2⟩
 ·obtain ⟨φ2,hI',_⟩:=key (hkP (t,v) sf hq)
  exact .inr ⟨v,t,sf,D',φ2,rfl,hq,hI'⟩
theorem op_callX {f:Operand} {args:Array Operand} {ts:Array TypeId} {g:FuncId} {caps ys xs:List FV} {objs:List (Nat × AObj)} {n:Nat} {Qc:(Nat -> Value) -> ASt -> Prop} {QPc:(Nat -> Value) -> TypeId × Value -> ASt -> Prop}
  (m:List (Nat × Nat)) (kp:List Nat) (ancs:List (Nat × Nat)) (hc:∀ av,ACallsX P g xs (objs ++ ancL av ancs) n (Qc av) (QPc av))
  (ho:o.op = .call { callee:=.value f,args,argTypes:=ts }) (hd:dstB nt o.dst = true) (hf:s.calleeX f = some (g,caps)) (ha:evL s args.toList = some ys) (hx:argsX s m (ys ++ caps) xs) (hxl:FV.ltL n xs = true)
  (hobj:handX s m n objs) (hinj:injB m (objs.map (·.1)) = true) (hanc:ancOK n objs ancs ancs) (hkp:∀ k ∈ kp,k ∈ objs.map (·.1))
  (hk:∀ av sf,Qc av sf -> keptX s m ancs av sf kp) (hkP:∀ av t sf,QPc av t sf -> keptX s m ancs av sf kp) :
  OpToP P nt o s (fun s'=>∃ av sf,Qc av sf /\ s' = (afterX s m kp (objs.map (·.1)) sf).putO o.dst ((sf.get 0).map (·.ren (rho2 m kp s.nxt)))) (fun t s'=>∃ av sf,QPc av t sf /\ s' = afterX s m kp (objs.map (·.1)) sf):= by
 intro ro W0 D0 D φ a w hI K Q hK hKP
 obtain ⟨vs,hv,hl,hr⟩:=calleeX_rep hI hf
 obtain ⟨e1,e2⟩:=evL_spec ha
 have hls:args.size = ys.length:=by simpa using e1
 obtain ⟨av,φc,hE,hsz,hargs,key⟩:=callX_core m kp ancs hx hxl hobj hinj hanc hkp hI (args.map a.eval ++ vs) (by simp [hl,hls]) (by
  intro j v y hv' hy
  by_cases hj:j < ys.length
  ·rw [Array.getElem?_append_left (by simp; omega)] at hv'
   simp only [Array.getElem?_map,Option.map_eq_some_iff] at hv'
   obtain ⟨op,hop,rfl⟩:=hv'
   rw [List.getElem?_append_left hj] at hy
   exact (hI.ev (e2 j op y (by simpa using hop) hy)).2
  ·rw [Array.getElem?_append_right (by simp; omega)] at hv'
   rw [List.getElem?_append_right (by omega)] at hy
   refine hr _ v _ (by simpa [hls] using hv') hy)
 refine wpIn_of (by rw [ho]; intro c hc; cases hc) ?_
 unfold Oper.wp
 rw [call_run ho hv (hc av).1]
 refine Calls.mono ((hc av).2 w D φc _ hE hsz hargs) ?_
 intro e w' hP
 rcases key _ _ e w' (hk av) (hkP av) hP with ⟨v,sf,D',φ2,rfl,hq,hI',hx'⟩|⟨v,t,sf,D',φ2,rfl,hq,hI'⟩
 ·refine hK _ D' φ2 _ w' ⟨av,sf,hq,rfl⟩ (hI'.put o.dst (dstB_lt hd) v _ fun x' he=>?_)
  rw [Option.map_eq_some_iff] at he
  obtain ⟨x,he1,rfl⟩:=he
  exact hx' x he1
 ·exact hKP _ D' φ2 a w' t v ⟨av,sf,hq,rfl⟩ hI'
end
end Go.Abs
