/- Abstract states of a running function; the invariant that ties one to a frame and a world; how it is kept. -/
import Derived.Test.YtpoaccdbakbjhaaGreatXG00
import Derived.Deep.LoopGhost
import Derived.Laws.Cells
import Derived.Laws.CopyRow
import Derived.RangeFuncNested
import Derived.OrdersIn
import Derived.Sort.LoopGhostIn
set_option linter.unusedVariables false
set_option linter.unusedSimpArgs false
namespace Go.Abs
open Go.RowKit
def FV.leaf:FV -> Bool
 | .pv p=>p.leaf
 | .agg _=>false
 | .tup _=>false
 | _=>true
theorem Rep.oneCell {w:World} {D:Nat -> Prop} {v:Value} {p:PV} (h:Rep w D v p) (hl:p.leaf = true):v.oneCell' = true:= by
 cases h <;> first|rfl|assumption|(simp [PV.leaf] at hl)
theorem FRep.oneCell {w:World} {D:Nat -> Prop} {φ:Nat -> Value} {v:Value} {x:FV} (h:FRep w D φ v x) (hl:x.leaf = true):v.oneCell' = true:= by
 cases h with
 | pv v p h=>exact h.oneCell hl
 | agg=>simp [FV.leaf] at hl
 | tup=>simp [FV.leaf] at hl
 | _=>rfl
structure Ext where
 L:List (List PV)
 l:Nat
 J:Nat -> (Nat -> Prop) -> (Nat -> Prop) -> World -> Prop
inductive AObj where
 | box (cs:List FV)
 | arr (e:TypeId) (sz:Nat) (es:List (List PV))
 | imap (ks:List Int)
 | fro (es:List (List PV))
 | res
 | ext (E:Ext) (k:Nat) (B:Nat -> Prop)
 | anc (v:Value) (x:FV)
 | iter (ks rem:List Int) (cur:Option Int)
 | siter (s:ByteArray) (pos:Nat)
 | lst (e:TypeId) (sz:Nat) (es:List (List PV)) (x:FV) (ps:List Int)
 | pool (e:TypeId) (sz:Nat) (l:List (Value × Option (List (List PV))))
def AObj.lt (n:Nat):AObj -> Bool
 | .box cs=>FV.ltL n cs
 | .anc _ x=>x.lt n
 | .lst _ _ _ x _=>x.lt n
 | _=>true
theorem AObj.lt_mono {n m:Nat} (hnm:n <= m):∀ (ob:AObj),ob.lt n = true -> ob.lt m = true
 | .box cs,h=>FV.ltL_mono hnm cs h
 | .arr _ _ _,_=>rfl
 | .imap _,_=>rfl
 | .fro _,_=>rfl
 | .res,_=>rfl
 | .ext _ _ _,_=>rfl
 | .anc _ x,h=>FV.lt_mono hnm x h
 | .iter _ _ _,_=>rfl
 | .siter _ _,_=>rfl
 | .lst _ _ _ x _,h=>FV.lt_mono hnm x h
 | .pool _ _ _,_=>rfl
def look {α:Type}:List (Nat × Option α) -> Nat -> Option α
 | [],_=>none
 | (k,v) :: r,t=>match Nat.beq k t with|true=>v|false=>look r t
structure ASt where
 env:List (Nat × Option FV)
 objs:List (Nat × Option AObj)
 nxt:Nat
def ASt.get (s:ASt) (t:Nat):Option FV:=look s.env t
def ASt.obj (s:ASt) (id:Nat):Option AObj:=look s.objs id
def ASt.put (s:ASt) (d:Nat) (x:Option FV):ASt:={ s with env:=(d,x) :: s.env }
def ASt.putO (s:ASt) (d:Option Nat) (x:Option FV):ASt:=match d with|some d=>s.put d x|none=>s
def ASt.setObj (s:ASt) (id:Nat) (ob:Option AObj):ASt:={ s with objs:=(id,ob) :: s.objs }
def ASt.newObj (s:ASt) (ob:AObj):ASt:={ env:=s.env,objs:=(s.nxt,some ob) :: s.objs,nxt:=s.nxt + 1 }
theorem look_cons_eq {α:Type} (k:Nat) (v:Option α) (r:List (Nat × Option α)):look ((k,v) :: r) k = v:= by
 simp [look,Nat.beq_refl]
theorem look_cons_ne {α:Type} {k t:Nat} (v:Option α) (r:List (Nat × Option α)) (h:k ≠ t):look ((k,v) :: r) t = look r t:= by
 have:Nat.beq k t = false:= by
  cases hb:Nat.beq k t
  ·rfl
  ·exact absurd (Nat.eq_of_beq_eq_true hb) h
 simp [look,this]
theorem ASt.get_put (s:ASt) (d t:Nat) (x:Option FV):(s.put d x).get t = if d = t then x else s.get t:= by
 by_cases h:d = t
 ·subst h; simp [ASt.get,ASt.put,look_cons_eq]
 ·simp [ASt.get,ASt.put,look_cons_ne _ _ h,h]
theorem ASt.obj_setObj (s:ASt) (d t:Nat) (x:Option AObj):(s.setObj d x).obj t = if d = t then x else s.obj t:= by
 by_cases h:d = t
 ·subst h; simp [ASt.obj,ASt.setObj,look_cons_eq]
 ·simp [ASt.obj,ASt.setObj,look_cons_ne _ _ h,h]
theorem ASt.obj_newObj (s:ASt) (t:Nat) (x:AObj):(s.newObj x).obj t = if s.nxt = t then some x else s.obj t:= by
 by_cases h:s.nxt = t
 ·subst h; simp [ASt.obj,ASt.newObj,look_cons_eq]
 ·simp [ASt.obj,ASt.newObj,look_cons_ne _ _ h,h]
def blk:Value -> Option Nat
 | .pointer (some a)=>some a.block
 | .slice (some a) _ _=>some a.block
 | .map (some r)=>some r
 | _=>none
def oblk (φ:Nat -> Value) (id:Nat):AObj -> Nat -> Prop
 | .box _,b=>blk (φ id) = some b
 | .arr _ _ _,b=>blk (φ id) = some b
 | .imap _,b=>blk (φ id) = some b
 | .ext _ _ B,b=>B b
 | .iter _ _ _,b=>blk (φ id) = some b
 | .siter _ _,b=>blk (φ id) = some b
 | .lst _ _ _ _ _,b=>blk (φ id) = some b
 | .pool _ _ l,b=>∃ v es,(v,some es) ∈ l /\ blk v = some b
 | .fro _,_=>False
 | .res,_=>False
 | .anc _ _,_=>False
theorem oblk_congr {φ φ':Nat -> Value} {id id':Nat} (h:φ' id' = φ id) (ob:AObj) (b:Nat):oblk φ' id' ob b ↔ oblk φ id ob b:= by
 cases ob <;> simp only [oblk,h]
def Ext.Mono (E:Ext):Prop:=∀ (k:Nat) (B D D':Nat -> Prop) (w w':World),E.J k B D w -> (∀ b,D b -> D' b) -> (∀ b,D b -> w'.heap[b]? = w.heap[b]?) →
 (∀ b,B b -> w'.heap[b]? = w.heap[b]?) -> E.J k B D' w'
def XRep (w:World) (D:Nat -> Prop) (sz:Nat) (xs:List Value) (es:List (List PV)):Prop :=
 (∀ (i:Nat) (e:List PV),es[i]? = some e -> e.length = sz) /\
 ∀ (i j:Nat) (e:List PV) (p:PV),es[i]? = some e -> e[j]? = some p -> p.leaf = true /\ ∃ u,xs[i * sz + j]? = some u /\ Rep w D u p
def MRep (es:Array MapEntry) (clock:Nat) (ks:List Int):Prop :=
 es.toList.map (fun e=>(e.key,e.val)) = ks.map (fun k=>(.int .i64 k,.bool true)) /\ (∀ e ∈ es,e.born < clock) /\ (es.toList.map (·.born)).Nodup /\ ks.Nodup
def ORep (w:World) (D:Nat -> Prop) (φ:Nat -> Value) (base id:Nat):AObj -> Prop
 | .box cs=>∃ b vs e,φ id = .pointer (some ⟨b,0,none⟩) /\ w.heap[b]? = some (.cells vs e (0,0)) /\ vs.size = cs.length /\
   (∀ (j:Nat) (v:Value) (x:FV),vs[j]? = some v -> cs[j]? = some x -> x.leaf = true /\ FRep w D φ v x)
 | .arr e sz es=>∃ xs,w.ownsRow 0 e sz (φ id) es.length xs /\ XRep w D sz xs es
 | .imap ks=>∃ r es clock,φ id = .map (some r) /\ w.heap[r]? = some (.map es clock) /\ MRep es clock ks
 | .fro es=>Rep w D (φ id) (.sl es)
 | .res=>φ id = .bool false
 | .ext E k B=>E.Mono /\ φ id = .map (some E.l) /\ B E.l /\ E.J k B D w
 | .anc v x=>FRep w D φ v x
 | .iter ks rem cur=>∃ r m es clock seen,φ id = .pointer (some ⟨r,0,none⟩) /\ w.heap[r]? = some (.mapIter (some m) clock seen clock) /\ D m /\ w.heap[m]? = some (.map es clock) /\ MRep es clock ks /\ rem.Nodup /\
   (∀ k,k ∈ rem ↔ ∃ e:MapEntry,e ∈ es.toList /\ e.key = .int .i64 k /\ seen.contains e.born = false) /\ ∀ k,cur = some k -> ∃ (e:MapEntry) (seen':Array Nat),e ∈ es.toList /\ e.key = .int .i64 k /\ seen = seen'.push e.born
 | .siter x pos=>∃ r,φ id = .pointer (some ⟨r,0,none⟩) /\ w.heap[r]? = some (.stringIter x pos)
 | .lst e sz es x ps=>x.leaf = true /\ ∃ xs u,w.ownsRow 0 e sz (φ id) (es.length + 1) (xs ++ u :: ps.map (Value.int .i64)) /\ xs.length = es.length * sz /\ XRep w D sz xs es /\ FRep w D φ u x
 | .pool e sz l=>φ id = .bool false /\ (∀ v es,(v,some es) ∈ l -> ∃ xs,w.ownsRow 0 e sz v es.length xs /\ XRep w D sz xs es) /\
   ∀ (i j:Nat) (v u:Value) (es fs:List (List PV)) (b:Nat),l[i]? = some (v,some es) -> l[j]? = some (u,some fs) -> blk v = some b -> blk u = some b -> i = j
theorem XRep.mono {w w':World} {D D':Nat -> Prop} {sz:Nat} {xs:List Value} {es:List (List PV)} (h:XRep w D sz xs es) (hw:∀ b,D b -> w'.heap[b]? = w.heap[b]?) (hD:∀ b,D b -> D' b) :
  XRep w' D' sz xs es :=
 ⟨h.1,fun i j e p he hp=>let ⟨hl,u,hu,hr⟩:=h.2 i j e p he hp; ⟨hl,u,hu,hr.mono hw hD⟩⟩
theorem ownsRow_same {w w':World} {base e sz n:Nat} {v:Value} {xs:List Value} (h:w.ownsRow base e sz v n xs) (hb:∀ b,blk v = some b -> w'.heap[b]? = w.heap[b]?):w'.ownsRow base e sz v n xs:= by
 refine ⟨h.1,?_⟩
 rcases h.2 with h2|⟨g,cap,cur,rfl,hg,hh,r⟩
 ·exact .inl h2
 ·exact .inr ⟨g,cap,cur,rfl,hg,by rw [hb g rfl]; exact hh,r⟩
theorem ORep.keep {w w':World} {D D':Nat -> Prop} {φ φ':Nat -> Value} {base id n:Nat} {ob:AObj} (h:ORep w D φ base id ob) (hlt:ob.lt n = true) (hid:id < n)
  (hw:∀ b,D b -> w'.heap[b]? = w.heap[b]?) (hD:∀ b,D b -> D' b) (hφ:∀ id,id < n -> φ' id = φ id) (hb:∀ b,oblk φ id ob b -> w'.heap[b]? = w.heap[b]?):ORep w' D' φ' base id ob:= by
 cases ob with
 | box cs =>
  obtain ⟨b,vs,e,h1,h2,h3,h4⟩:=h
  refine ⟨b,vs,e,by rw [hφ _ hid]; exact h1,by rw [hb b (by simp [oblk,h1,blk])]; exact h2,h3,fun j v x hv hx=>?_⟩
  obtain ⟨hl,hr⟩:=h4 j v x hv hx
  exact ⟨hl,hr.mono hw hD hφ (FV.lt_mem hlt (List.mem_of_getElem? hx))⟩
 | arr e sz es =>
  obtain ⟨xs,h1,h2⟩:=h
  exact ⟨xs,by rw [hφ _ hid]; exact ownsRow_same h1 (fun b hb'=>hb b hb'),h2.mono hw hD⟩
 | imap ks =>
  obtain ⟨r,es,clock,h1,h2,h3⟩:=h
  exact ⟨r,es,clock,by rw [hφ _ hid]; exact h1,by rw [hb r (by simp [oblk,h1,blk])]; exact h2,h3⟩
 | fro es=>exact show Rep w' D' (φ' id) (.sl es) by rw [hφ _ hid]; exact Rep.mono h hw hD
 | res=>exact show φ' id = .bool false by rw [hφ _ hid]; exact h
 | ext E k B =>
  obtain ⟨h1,h2,h3,h4⟩:=h
  exact ⟨h1,by rw [hφ _ hid]; exact h2,h3,h1 k B D D' w w' h4 hD hw hb⟩
 | anc v x=>exact FRep.mono h hw hD hφ hlt
 | iter ks rem cur =>
  obtain ⟨r,m,es,clock,seen,h1,h2,h3,h4,h5⟩:=h
  exact ⟨r,m,es,clock,seen,by rw [hφ _ hid]; exact h1,by rw [hb r (by simp [oblk,h1,blk])]; exact h2,hD m h3,by rw [hw m h3]; exact h4,h5⟩
 | siter x pos =>
  obtain ⟨r,h1,h2⟩:=h
  exact ⟨r,by rw [hφ _ hid]; exact h1,by rw [hb r (by simp [oblk,h1,blk])]; exact h2⟩
 | lst e sz es x ps =>
  obtain ⟨h0,xs,u,h1,h2,h3,h4⟩:=h
  exact ⟨h0,xs,u,by rw [hφ _ hid]; exact ownsRow_same h1 (fun b hb'=>hb b hb'),h2,h3.mono hw hD,FRep.mono h4 hw hD hφ hlt⟩
 | pool e sz l =>
  obtain ⟨h0,h1,h2⟩:=h
  refine ⟨by rw [hφ _ hid]; exact h0,fun v es hm=>?_,h2⟩
  obtain ⟨xs,g1,g2⟩:=h1 v es hm
  exact ⟨xs,ownsRow_same g1 (fun b hb'=>hb b ⟨v,es,hm,hb'⟩),g2.mono hw hD⟩
structure Bas where
 d:Nat -> Prop
 x:Nat -> Prop
 pd:Option Value
 rnd:Bool:=false
def pdl:Option Value -> List Deferred
 | some (.func f caps vs)=>[{ target:=.fn f vs,args:=caps }]
 | _=>[]
def DefL (pd:Option Value) (ms l:List Deferred):Prop:=∃ m1 m2,ms = m1 ++ m2 /\ l = m1 ++ pdl pd ++ m2
theorem DefL.nil:DefL none [] []:=⟨[],[],rfl,rfl⟩
theorem DefL.of_none {ms l:List Deferred} (h:DefL none ms l):l = ms:= by
 obtain ⟨m1,m2,rfl,rfl⟩:=h; simp [pdl]
theorem DefL.cons {pd:Option Value} {ms l:List Deferred} (h:DefL pd ms l) (d:Deferred):DefL pd (d :: ms) (d :: l):= by
 obtain ⟨m1,m2,rfl,rfl⟩:=h; exact ⟨d :: m1,m2,rfl,rfl⟩
structure BelowX (X:Nat -> Prop) (W w:World):Prop where
 os:w.os = W.os
 tape:w.tape = W.tape
 output:w.output = W.output
 size:W.heap.size <= w.heap.size
 block:∀ k,k < W.heap.size -> ¬ X k -> w.heap[k]? = W.heap[k]?
theorem BelowX.drew {X:Nat -> Prop} {a w:World} (h:BelowX X a w):BelowX X a w.drew:=⟨h.os,h.tape,h.output,h.size,h.block⟩
theorem BelowX.below {W w:World} (h:BelowX (fun _=>False) W w):Below W.heap.size W w:=⟨h.os,h.tape,h.output,h.size,fun k hk=>h.block k hk (fun f=>f)⟩
theorem BelowX.refl (X:Nat -> Prop) (w:World):BelowX X w w:=⟨rfl,rfl,rfl,Nat.le_refl _,fun _ _ _=>rfl⟩
def Marked (w:World) (D:Nat -> Prop) (s:ASt) (φ:Nat -> Value) (mb:Nat -> Prop) (d:Deferred):Prop :=
 ∃ m,d = { target:=.collected m,args:=#[] } /\ w.heap[m]? = some (.deferred (some [])) /\ mb m /\ ¬ D m /\ ∀ id ob,s.obj id = some ob -> ¬ oblk φ id ob m
def mbase (W0:World) (D0:Bas) (m:Nat):Prop:=D0.rnd = false /\ W0.heap.size <= m
structure Inv (W0:World) (D0:Bas) (nt:Nat) (s:ASt) (D:Nat -> Prop) (φ:Nat -> Value) (a:Act) (w:World):Prop where
 below:BelowX D0.x W0 w
 size:a.tmps.size = nt
 defers:∃ ms,DefL D0.pd ms a.defers /\ ms.Nodup /\ ∀ d ∈ ms,Marked w D s φ (mbase W0 D0) d
 dlt:∀ b,D b -> b < w.heap.size
 dof:∀ b,D b -> D0.d b \/ D0.x b \/ W0.heap.size <= b
 d0:∀ b,D0.d b -> D b
 env:∀ t x,s.get t = some x -> x.lt s.nxt = true /\ ∃ v,a.tmps[t]? = some v /\ FRep w D φ v x
 objs:∀ id ob,s.obj id = some ob -> id < s.nxt /\ ob.lt s.nxt = true /\ ORep w D φ W0.heap.size id ob
 own:∀ id ob b,s.obj id = some ob -> oblk φ id ob b -> ¬ D b /\ (D0.x b \/ W0.heap.size <= b) /\ b < w.heap.size
 sep:∀ id ob id' ob' b,s.obj id = some ob -> s.obj id' = some ob' -> oblk φ id ob b -> oblk φ id' ob' b -> id = id'
section
variable {W0:World} {D0:Bas} {nt:Nat} {s:ASt} {D:Nat -> Prop} {φ:Nat -> Value} {a:Act} {w:World}
theorem Inv.eval {t:Nat} {x:FV} (h:Inv W0 D0 nt s D φ a w) (hx:s.get t = some x):FRep w D φ (a.eval (.tmp t)) x:= by
 obtain ⟨_,v,hv,hr⟩:=h.env t x hx
 have:a.eval (.tmp t) = v:=by simp [Act.eval,Array.getD_eq_getD_getElem?,hv]
 rw [this]; exact hr
theorem Inv.put (h:Inv W0 D0 nt s D φ a w) (d:Option Nat) (hd:∀ d',d = some d' -> d' < nt) (v:Value) (x:Option FV) (hx:∀ x',x = some x' -> x'.lt s.nxt = true /\ FRep w D φ v x') :
  Inv W0 D0 nt (s.putO d x) D φ (a.put d v) w:= by
 cases d with
 | none=>exact h
 | some d =>
  refine ⟨h.below,by simp [Act.put,h.size],h.defers,h.dlt,h.dof,h.d0,?_,h.objs,h.own,h.sep⟩
  intro t x' hg
  simp only [ASt.putO,ASt.get_put] at hg
  by_cases ht:d = t
  ·subst ht
   simp only [if_true] at hg
   obtain ⟨h1,h2⟩:=hx x' hg
   refine ⟨h1,v,?_,h2⟩
   have:=hd d rfl
   simp [Act.put,h.size,this]
  ·simp only [if_neg ht] at hg
   obtain ⟨h1,u,h2,h3⟩:=h.env t x' hg
   refine ⟨h1,u,?_,h3⟩
   simp only [Act.put,Array.getElem?_setIfInBounds,if_neg ht]
   exact h2
theorem Inv.chg (h:Inv W0 D0 nt s D φ a w) {s':ASt} {D':Nat -> Prop} {φ':Nat -> Value} {w':World} (id0:Nat) (touched:Nat -> Prop)
  (hb:Below 0 w w')
  (hun:∀ b,b < w.heap.size -> (∀ id ob,touched id -> s.obj id = some ob -> ¬ oblk φ id ob b) -> w'.heap[b]? = w.heap[b]?)
  (hD:∀ b,D b -> D' b)
  (hDn:∀ b,D' b -> D b \/ (b < w'.heap.size /\ (w.heap.size <= b \/ ∃ id ob,touched id /\ s.obj id = some ob /\ oblk φ id ob b)))
  (hφ:∀ id,id < s.nxt -> φ' id = φ id) (hn:s.nxt <= s'.nxt) (henv:∀ t x,s'.get t = some x -> s.get t = some x)
  (hoth:∀ id ob,id ≠ id0 -> s'.obj id = some ob -> ¬ touched id /\ s.obj id = some ob)
  (hnew:∀ ob,s'.obj id0 = some ob -> id0 < s'.nxt /\ ob.lt s'.nxt = true /\ ORep w' D' φ' W0.heap.size id0 ob /\
   ∀ b,oblk φ' id0 ob b -> ¬ D' b /\ b < w'.heap.size /\ (w.heap.size <= b \/ ∃ id ob,touched id /\ s.obj id = some ob /\ oblk φ id ob b)) :
  Inv W0 D0 nt s' D' φ' a w':= by
 have hDw:∀ b,D b -> w'.heap[b]? = w.heap[b]?:=fun b hb'=>hun b (h.dlt b hb') fun id ob _ ho he=>(h.own id ob b ho he).1 hb'
 have hOw:∀ id ob,¬ touched id -> s.obj id = some ob -> ∀ b,oblk φ id ob b -> w'.heap[b]? = w.heap[b]?:=fun id ob ht ho b hbk =>
  hun b (h.own id ob b ho hbk).2.2 fun id2 ob2 ht2 ho2 he2=>ht (h.sep id ob id2 ob2 b ho ho2 hbk he2 ▸ ht2)
 have hfr:∀ b,(w.heap.size <= b \/ ∃ id ob,touched id /\ s.obj id = some ob /\ oblk φ id ob b) -> (D0.x b \/ W0.heap.size <= b) /\ ∀ id ob,¬ touched id -> s.obj id = some ob -> ¬ oblk φ id ob b:= by
  rintro b (h1|⟨id,ob,h1,h2,h3⟩)
  ·exact ⟨.inr (Nat.le_trans h.below.size h1),fun id ob _ ho hk=>absurd (h.own id ob b ho hk).2.2 (by omega)⟩
  ·exact ⟨(h.own id ob b h2 h3).2.1,fun id' ob' ht ho hk=>ht (h.sep id' ob' id ob b ho h2 hk h3 ▸ h1)⟩
 refine ⟨⟨hb.os.trans h.below.os,hb.tape.trans h.below.tape,hb.output.trans h.below.output,Nat.le_trans h.below.size hb.size,fun k hk hx=>?_⟩,h.size,?_,?_,?_,fun b hb'=>hD b (h.d0 b hb'),?_,?_,?_,?_⟩
 ·refine (hun k (Nat.lt_of_lt_of_le hk h.below.size) fun id ob _ ho he=>?_).trans (h.below.block k hk hx)
  rcases (h.own id ob k ho he).2.1 with g|g
  ·exact hx g
  ·omega
 ·obtain ⟨ms,h1,h2,h3⟩:=h.defers
  refine ⟨ms,h1,h2,fun d hd=>?_⟩
  obtain ⟨m,g1,g2,g3,g4,g5⟩:=h3 d hd
  have hms:m < w.heap.size:=(Array.getElem?_eq_some_iff.1 g2).1
  refine ⟨m,g1,(hun m hms fun id ob _ ho=>g5 id ob ho).trans g2,g3,fun hd'=>?_,fun id ob ho hk=>?_⟩
  ·rcases hDn m hd' with q|⟨_,q|⟨id,ob,_,q2,q3⟩⟩
   ·exact g4 q
   ·omega
   ·exact g5 id ob q2 q3
  ·by_cases hid:id = id0
   ·subst hid
    rcases ((hnew ob ho).2.2.2 m hk).2.2 with q|⟨id,ob,_,q2,q3⟩
    ·omega
    ·exact g5 id ob q2 q3
   ·obtain ⟨q1,q2⟩:=hoth id ob hid ho
    exact g5 id ob q2 ((oblk_congr (hφ id (h.objs id ob q2).1) ob m).1 hk)
 ·intro b hb'
  rcases hDn b hb' with h1|h1
  ·exact Nat.lt_of_lt_of_le (h.dlt b h1) hb.size
  ·exact h1.1
 ·intro b hb'
  rcases hDn b hb' with h1|h1
  ·exact h.dof b h1
  ·exact .inr (hfr b h1.2).1
 ·intro t x hx
  obtain ⟨h1,v,h2,h3⟩:=h.env t x (henv t x hx)
  exact ⟨FV.lt_mono hn x h1,v,h2,h3.mono hDw hD hφ h1⟩
 ·intro id ob ho
  by_cases hid:id = id0
  ·subst hid
   obtain ⟨h1,h2,h3,_⟩:=hnew ob ho
   exact ⟨h1,h2,h3⟩
  ·obtain ⟨h1,h2⟩:=hoth id ob hid ho
   obtain ⟨h3,h4,h5⟩:=h.objs id ob h2
   exact ⟨Nat.lt_of_lt_of_le h3 hn,AObj.lt_mono hn ob h4,h5.keep h4 h3 hDw hD hφ (hOw id ob h1 h2)⟩
 ·intro id ob b ho hbk
  by_cases hid:id = id0
  ·subst hid
   obtain ⟨_,_,_,h4⟩:=hnew ob ho
   exact ⟨(h4 b hbk).1,(hfr b (h4 b hbk).2.2).1,(h4 b hbk).2.1⟩
  ·obtain ⟨h1,h2⟩:=hoth id ob hid ho
   have hlt:=(h.objs id ob h2).1
   rw [oblk_congr (hφ id hlt)] at hbk
   obtain ⟨h3,h4,h5⟩:=h.own id ob b h2 hbk
   refine ⟨fun hd=>?_,h4,Nat.lt_of_lt_of_le h5 hb.size⟩
   rcases hDn b hd with h6|h6
   ·exact h3 h6
   ·exact (hfr b h6.2).2 id ob h1 h2 hbk
 ·intro id ob id' ob' b ho ho' hbk hbk'
  by_cases hid:id = id0 <;> by_cases hid':id' = id0
  ·rw [hid,hid']
  ·subst hid
   obtain ⟨h1,h2⟩:=hoth id' ob' hid' ho'
   rw [oblk_congr (hφ id' (h.objs id' ob' h2).1)] at hbk'
   exact absurd hbk' ((hfr b ((hnew ob ho).2.2.2 b hbk).2.2).2 id' ob' h1 h2)
  ·subst hid'
   obtain ⟨h1,h2⟩:=hoth id ob hid ho
   rw [oblk_congr (hφ id (h.objs id ob h2).1)] at hbk
   exact absurd hbk ((hfr b ((hnew ob' ho').2.2.2 b hbk').2.2).2 id ob h1 h2)
  ·obtain ⟨h1,h2⟩:=hoth id ob hid ho
   obtain ⟨h3,h4⟩:=hoth id' ob' hid' ho'
   rw [oblk_congr (hφ id (h.objs id ob h2).1)] at hbk
   rw [oblk_congr (hφ id' (h.objs id' ob' h4).1)] at hbk'
   exact h.sep id ob id' ob' b h2 h4 hbk hbk'
theorem Inv.weaken (h:Inv W0 D0 nt s D φ a w) {s':ASt} (henv:∀ t x,s'.get t = some x -> s.get t = some x) (hobj:∀ id ob,s'.obj id = some ob -> s.obj id = some ob)
  (hlt:∀ t x,s'.get t = some x -> x.lt s'.nxt = true) (hol:∀ id ob,s'.obj id = some ob -> id < s'.nxt /\ ob.lt s'.nxt = true):Inv W0 D0 nt s' D φ a w:= by
 refine ⟨h.below,h.size,?_,h.dlt,h.dof,h.d0,?_,?_,?_,?_⟩
 ·obtain ⟨ms,h1,h2,h3⟩:=h.defers
  exact ⟨ms,h1,h2,fun d hd=>let ⟨m,g1,g2,g3,g4,g5⟩:=h3 d hd; ⟨m,g1,g2,g3,g4,fun id ob ho=>g5 id ob (hobj id ob ho)⟩⟩
 ·exact fun t x hx=>⟨hlt t x hx,(h.env t x (henv t x hx)).2⟩
 ·exact fun id ob ho=>⟨(hol id ob ho).1,(hol id ob ho).2,(h.objs id ob (hobj id ob ho)).2.2⟩
 ·exact fun id ob b ho=>h.own id ob b (hobj id ob ho)
 ·exact fun id ob id' ob' b ho ho'=>h.sep id ob id' ob' b (hobj id ob ho) (hobj id' ob' ho')
end
def Lift (W0:World) (D0:Bas) (nt:Nat) (Q:Exit -> ASt -> Prop):Exit -> Act -> World -> Prop:=fun e a w=>∃ s D φ,Inv W0 D0 nt s D φ a w /\ Q e s
abbrev FW (ro:Option Nat):Fence:={ Fence.wide with round:=ro }
def RoOK (ro:Option Nat) (W0:World) (D0:Bas):Prop:=D0.rnd = ro.isSome /\ ∀ l,ro = some l -> (∃ r,W0.heap[l]? = some (.loop r)) /\ ¬ D0.x l
def AW (P:Program) (nt:Nat) (c:Code) (Q:Exit -> ASt -> Prop) (s:ASt):Prop:=∀ ro W0 D0 D φ a w,RoOK ro W0 D0 -> Inv W0 D0 nt s D φ a w -> c.wpIn (FW ro) 0 P (Lift W0 D0 nt Q) a w
def AL (P:Program) (nt:Nat) (ops:Array Oper) (rest:List Oper) (Q:Exit -> ASt -> Prop) (s:ASt):Prop:=∀ ro W0 D0 D φ a w,RoOK ro W0 D0 -> Inv W0 D0 nt s D φ a w -> wpListIn (FW ro) 0 P ops (Lift W0 D0 nt Q) rest a w
def Then (K:ASt -> Prop) (Q:Exit -> ASt -> Prop):Exit -> ASt -> Prop
 | .normal,s=>K s
 | e,s=>Q e s
def InBlk (id:Nat) (Q:Exit -> ASt -> Prop):Exit -> ASt -> Prop
 | .exit id',s=>if id' = id then Q .normal s else Q (.exit id') s
 | e,s=>Q e s
section
variable {P:Program} {nt:Nat} {Q:Exit -> ASt -> Prop} {s:ASt}
theorem then_normal {K:ASt -> Prop} (h:K s):Then K Q .normal s:=h
theorem then_exit {K:ASt -> Prop} {id:Nat} (h:Q (.exit id) s):Then K Q (.exit id) s:=h
theorem then_ret {K:ASt -> Prop} (h:Q .ret s):Then K Q .ret s:=h
theorem then_panic {K:ASt -> Prop} {ch:List PanicEntry} (h:Q (.panic ch) s):Then K Q (.panic ch) s:=h
theorem inblk_here {id:Nat} (h:Q .normal s):InBlk id Q (.exit id) s:=by simp [InBlk]; exact h
theorem inblk_other {id id':Nat} (hne:Nat.beq id' id = false) (h:Q (.exit id') s):InBlk id Q (.exit id') s:= by
 have:id' ≠ id:=fun e=>by subst e; simp at hne
 simp [InBlk,this]; exact h
theorem inblk_normal {id:Nat} (h:Q .normal s):InBlk id Q .normal s:=h
theorem inblk_ret {id:Nat} (h:Q .ret s):InBlk id Q .ret s:=h
theorem inblk_panic {id:Nat} {ch:List PanicEntry} (h:Q (.panic ch) s):InBlk id Q (.panic ch) s:=h
theorem AW_seq {x y:Code} (h:AW P nt x (Then (AW P nt y Q) Q) s):AW P nt (.seq x y) Q s:= by
 intro ro W0 D0 D φ a w hr hI
 refine Go.wpIn_seq (Go.wpIn_mono (h ro W0 D0 D φ a w hr hI) ?_)
 rintro e a' w' ⟨s',D',φ',hI',hq⟩
 cases e with
 | normal=>exact hq ro W0 D0 D' φ' a' w' hr hI'
 | _=>exact ⟨s',D',φ',hI',hq⟩
theorem AW_mono {c:Code} {Q':Exit -> ASt -> Prop} (h:AW P nt c Q s) (hq:∀ e s,Q e s -> Q' e s):AW P nt c Q' s:= by
 intro ro W0 D0 D φ a w hr hI
 refine Go.wpIn_mono (h ro W0 D0 D φ a w hr hI) ?_
 rintro e a' w' ⟨s',D',φ',hI',h'⟩
 exact ⟨s',D',φ',hI',hq _ _ h'⟩
theorem AW_skip (h:Q .normal s):AW P nt .skip Q s:=fun ro W0 D0 D φ a w hr hI=>wpIn_skip ⟨s,D,φ,hI,h⟩
theorem AW_ret (h:Q .ret s):AW P nt .ret Q s:=fun ro W0 D0 D φ a w hr hI=>wpIn_ret ⟨s,D,φ,hI,h⟩
theorem AW_exit {id:Nat} (h:Q (.exit id) s):AW P nt (.exit id) Q s:=fun ro W0 D0 D φ a w hr hI=>wpIn_exit ⟨s,D,φ,hI,h⟩
theorem AW_label {id:Nat} (h:Q .normal s):AW P nt (.label id) Q s:=fun ro W0 D0 D φ a w hr hI=>wpIn_label ⟨s,D,φ,hI,h⟩
theorem AW_cond {c:Nat} {x y:Code} {b:Bool} (hc:s.get c = some (.pv (.bool b))) (h1:b = true -> AW P nt x Q s) (h2:b = false -> AW P nt y Q s):AW P nt (.cond (.tmp c) x y) Q s:= by
 intro ro W0 D0 D φ a w hr hI
 have he:=hI.eval hc
 generalize hv:a.eval (.tmp c) = v at he
 cases he with
 | pv v p hp =>
  cases hp
  exact wpIn_cond_split hv (fun hb=>h1 hb ro W0 D0 D φ a w hr hI) (fun hb=>h2 hb ro W0 D0 D φ a w hr hI)
theorem AW_cond_t {c:Nat} {x y:Code} (hc:s.get c = some (.pv (.bool true))) (h1:AW P nt x Q s):AW P nt (.cond (.tmp c) x y) Q s:=AW_cond hc (fun _=>h1) (fun h=>by cases h)
theorem AW_cond_f {c:Nat} {x y:Code} (hc:s.get c = some (.pv (.bool false))) (h1:AW P nt y Q s):AW P nt (.cond (.tmp c) x y) Q s:=AW_cond hc (fun h=>by cases h) (fun _=>h1)
theorem AW_block {id:Nat} {c:Code} (h:AW P nt c (InBlk id Q) s):AW P nt (.block id c) Q s:= by
 intro ro W0 D0 D φ a w hr hI
 refine wpIn_block (Go.wpIn_mono (h ro W0 D0 D φ a w hr hI) ?_)
 rintro e a' w' ⟨s',D',φ',hI',hq⟩
 cases e with
 | exit id' =>
  by_cases hid:id' = id
  ·simp only [InBlk,hid,if_true] at hq
   simp only [Exit.inBlock,hid,if_true]
   exact ⟨s',D',φ',hI',hq⟩
  ·simp only [InBlk,hid,if_false] at hq
   simp only [Exit.inBlock,hid,if_false]
   exact ⟨s',D',φ',hI',hq⟩
 | _=>exact ⟨s',D',φ',hI',hq⟩
mutual
def FV.ren (ρ:Nat -> Nat):FV -> FV
 | .pv p=>.pv p
 | .nils=>.nils
 | .box id off=>.box (ρ id) off
 | .arr id=>.arr (ρ id)
 | .aptr id sz i off=>.aptr (ρ id) sz i off
 | .mp id=>.mp (ρ id)
 | .yld id=>.yld (ρ id)
 | .sub id sz lo n=>.sub (ρ id) sz lo n
 | .fn f cs=>.fn f (FV.renL ρ cs)
 | .agg cs=>.agg (FV.renL ρ cs)
 | .tup cs=>.tup (FV.renL ρ cs)
def FV.renL (ρ:Nat -> Nat):List FV -> List FV
 | []=>[]
 | x :: xs=>x.ren ρ :: FV.renL ρ xs
end
theorem FV.renL_eq (ρ:Nat -> Nat):∀ (xs:List FV),FV.renL ρ xs = xs.map (FV.ren ρ)
 | []=>rfl
 | x :: xs=>by rw [FV.renL,FV.renL_eq ρ xs]; rfl
def AObj.ren (ρ:Nat -> Nat):AObj -> AObj
 | .box cs=>.box (FV.renL ρ cs)
 | .anc v x=>.anc v (x.ren ρ)
 | .lst e sz es x ps=>.lst e sz es (x.ren ρ) ps
 | ob=>ob
theorem FRep.ren {w:World} {D:Nat -> Prop} {φ:Nat -> Value} {ρ:Nat -> Nat} {v:Value} {y:FV} (h:FRep w D φ v y):∀ x:FV,x.ren ρ = y -> FRep w D (fun id=>φ (ρ id)) v x:= by
 induction h with
 | pv v p h=>intro x hx; cases x <;> simp [FV.ren] at hx; subst hx; exact .pv v _ h
 | box id off b h=>intro x hx; cases x <;> simp [FV.ren] at hx; obtain ⟨rfl,rfl⟩:=hx; exact .box _ _ b h
 | nils=>intro x hx; cases x <;> simp [FV.ren] at hx; exact .nils
 | arr id n c a h=>intro x hx; cases x <;> simp [FV.ren] at hx; subst hx; exact .arr _ n c a h
 | aptr id sz i off g n c h=>intro x hx; cases x <;> simp [FV.ren] at hx; obtain ⟨rfl,rfl,rfl,rfl⟩:=hx; exact .aptr _ _ _ _ g n c h
 | mp id r h=>intro x hx; cases x <;> simp [FV.ren] at hx; subst hx; exact .mp _ r h
 | yld id l h=>intro x hx; cases x <;> simp [FV.ren] at hx; subst hx; exact .yld _ l h
 | sub id sz lo n g m c h hc=>intro x hx; cases x <;> simp [FV.ren] at hx; obtain ⟨rfl,rfl,rfl,rfl⟩:=hx; exact .sub _ _ _ _ g m c h hc
 | fn f vs cs hl hr ih =>
  intro x hx; cases x <;> simp [FV.ren] at hx; obtain ⟨rfl,rfl⟩:=hx
  rename_i cs
  rw [FV.renL_eq] at hl ih
  exact .fn _ vs cs (by simpa using hl) fun j v p hv hp=>ih j v (p.ren ρ) hv (by simp [hp]) p rfl
 | agg vs cs hl hr ih =>
  intro x hx; cases x <;> simp [FV.ren] at hx; subst hx
  rename_i cs
  rw [FV.renL_eq] at hl ih
  exact .agg vs cs (by simpa using hl) fun j v p hv hp=>ih j v (p.ren ρ) hv (by simp [hp]) p rfl
 | tup vs cs hl hr ih =>
  intro x hx; cases x <;> simp [FV.ren] at hx; subst hx
  rename_i cs
  rw [FV.renL_eq] at hl ih
  exact .tup vs cs (by simpa using hl) fun j v p hv hp=>ih j v (p.ren ρ) hv (by simp [hp]) p rfl
theorem FV.ren_leaf {ρ:Nat -> Nat} (x:FV):(x.ren ρ).leaf = x.leaf:=by cases x <;> rfl
theorem AObj.ren_blk {ρ:Nat -> Nat} {φ:Nat -> Value} (id:Nat) (ob:AObj) (b:Nat):oblk φ (ρ id) (ob.ren ρ) b = oblk (fun id=>φ (ρ id)) id ob b:=by cases ob <;> rfl
theorem ORep.ren {w:World} {D:Nat -> Prop} {φ:Nat -> Value} {base:Nat} {ρ:Nat -> Nat} {id:Nat} {ob:AObj} (h:ORep w D φ base (ρ id) (ob.ren ρ)):ORep w D (fun id=>φ (ρ id)) base id ob:= by
 cases ob with
 | box cs =>
  obtain ⟨b,vs,e,h1,h2,h3,h4⟩:=h
  rw [FV.renL_eq] at h3 h4
  refine ⟨b,vs,e,h1,h2,by simpa using h3,fun j v x hv hx=>?_⟩
  obtain ⟨g1,g2⟩:=h4 j v (x.ren ρ) hv (by simp [hx])
  exact ⟨by rw [<- FV.ren_leaf (ρ:=ρ)]; exact g1,g2.ren x rfl⟩
 | arr e sz es=>exact h
 | imap ks=>exact h
 | fro es=>exact h
 | res=>exact h
 | ext E k B=>exact h
 | anc v x=>exact FRep.ren h x rfl
 | iter ks rem cur=>exact h
 | siter x pos=>exact h
 | lst e sz es x ps =>
  obtain ⟨h0,xs,u,h1,h2,h3,h4⟩:=h
  exact ⟨by rw [<- FV.ren_leaf (ρ:=ρ)]; exact h0,xs,u,h1,h2,h3,h4.ren x rfl⟩
 | pool e sz l=>exact h
def LeR (ρ:Nat -> Nat) (s s':ASt):Prop:=(∀ t x,s'.get t = some x -> s.get t = some (x.ren ρ) /\ x.lt s'.nxt = true) /\ (∀ id ob,s'.obj id = some ob -> s.obj (ρ id) = some (ob.ren ρ) /\ id < s'.nxt /\ ob.lt s'.nxt = true) /\
 ∀ id1 ob1 id2 ob2,s'.obj id1 = some ob1 -> s'.obj id2 = some ob2 -> ρ id1 = ρ id2 -> id1 = id2
def Le (s s':ASt):Prop:=∃ ρ,LeR ρ s s'
theorem Le.inv {s':ASt} (h:Le s s') {W0:World} {D0:Bas} {D:Nat -> Prop} {φ:Nat -> Value} {a:Act} {w:World} (hI:Inv W0 D0 nt s D φ a w):∃ φ',Inv W0 D0 nt s' D φ' a w:= by
 obtain ⟨ρ,h1,h2,h3⟩:=h
 refine ⟨fun id=>φ (ρ id),hI.below,hI.size,?_,hI.dlt,hI.dof,hI.d0,fun t x hx=>?_,fun id ob ho=>?_,fun id ob b ho hb=>?_,fun id ob id' ob' b ho ho' hb hb'=>?_⟩
 ·obtain ⟨ms,q1,q2,q3⟩:=hI.defers
  refine ⟨ms,q1,q2,fun d hd=>?_⟩
  obtain ⟨m,g1,g2,g3,g4,g5⟩:=q3 d hd
  exact ⟨m,g1,g2,g3,g4,fun id ob ho hk=>g5 _ _ (h2 id ob ho).1 (by rw [AObj.ren_blk]; exact hk)⟩
 ·obtain ⟨g1,g2⟩:=h1 t x hx
  obtain ⟨_,v,hv,hr⟩:=hI.env t _ g1
  exact ⟨g2,v,hv,hr.ren x rfl⟩
 ·obtain ⟨g1,g2,g3⟩:=h2 id ob ho
  exact ⟨g2,g3,(hI.objs _ _ g1).2.2.ren⟩
 ·obtain ⟨g1,g2,g3⟩:=h2 id ob ho
  exact hI.own _ _ b g1 (by rw [AObj.ren_blk]; exact hb)
 ·obtain ⟨g1,_⟩:=h2 id ob ho
  obtain ⟨g1',_⟩:=h2 id' ob' ho'
  exact h3 id ob id' ob' ho ho' (hI.sep _ _ _ _ b g1 g1' (by rw [AObj.ren_blk]; exact hb) (by rw [AObj.ren_blk]; exact hb'))
def leEnv (s:ASt) (n:Nat):List (Nat × FV) -> Prop
 | []=>True
 | (t,x) :: r=>s.get t = some x /\ x.lt n = true /\ leEnv s n r
def leObj (s:ASt) (n:Nat):List (Nat × AObj) -> Prop
 | []=>True
 | (t,x) :: r=>s.obj t = some x /\ t < n /\ x.lt n = true /\ leObj s n r
def mkSt (env:List (Nat × FV)) (objs:List (Nat × AObj)) (n:Nat):ASt:=⟨env.map fun (t,x)=>(t,some x),objs.map fun (t,x)=>(t,some x),n⟩
theorem look_map {α:Type}:∀ (l:List (Nat × α)) (t:Nat) (x:α),look (l.map fun (t,x)=>(t,some x)) t = some x -> (t,x) ∈ l
 | [],_,_,h=>by simp [look] at h
 | (k,v) :: r,t,x,h=>by
  by_cases hk:k = t
  ·subst hk
   rw [List.map_cons,look_cons_eq] at h
   cases h; exact List.mem_cons_self
  ·rw [List.map_cons,look_cons_ne _ _ hk] at h
   exact List.mem_cons_of_mem _ (look_map r t x h)
theorem leEnv_mem {n:Nat}:∀ {l:List (Nat × FV)},leEnv s n l -> ∀ t x,(t,x) ∈ l -> s.get t = some x /\ x.lt n = true
 | [],_,_,_,h=>by cases h
 | (k,v) :: r,hl,t,x,h=>by
  cases h with
  | head=>exact ⟨hl.1,hl.2.1⟩
  | tail _ h=>exact leEnv_mem hl.2.2 t x h
theorem leObj_mem {n:Nat}:∀ {l:List (Nat × AObj)},leObj s n l -> ∀ t x,(t,x) ∈ l -> s.obj t = some x /\ t < n /\ x.lt n = true
 | [],_,_,_,h=>by cases h
 | (k,v) :: r,hl,t,x,h=>by
  cases h with
  | head=>exact ⟨hl.1,hl.2.1,hl.2.2.1⟩
  | tail _ h=>exact leObj_mem hl.2.2.2 t x h
mutual
theorem FV.ren_id:∀ (x:FV),x.ren (fun n=>n) = x
 | .pv _|.nils|.box _ _|.arr _|.aptr _ _ _ _|.mp _|.yld _|.sub _ _ _ _=>rfl
 | .fn f cs=>by rw [FV.ren,FV.renL_id cs]
 | .agg cs=>by rw [FV.ren,FV.renL_id cs]
 | .tup cs=>by rw [FV.ren,FV.renL_id cs]
theorem FV.renL_id:∀ (xs:List FV),FV.renL (fun n=>n) xs = xs
 | []=>rfl
 | x :: xs=>by rw [FV.renL,FV.ren_id x,FV.renL_id xs]
end
theorem AObj.ren_id (ob:AObj):ob.ren (fun n=>n) = ob:=by cases ob <;> simp [AObj.ren,FV.renL_id,FV.ren_id]
theorem Le.mk {env:List (Nat × FV)} {objs:List (Nat × AObj)} {n:Nat} (h1:leEnv s n env) (h2:leObj s n objs):Le s (mkSt env objs n) :=
 ⟨fun n=>n,fun t x hx=>by rw [FV.ren_id]; exact leEnv_mem h1 t x (look_map env t x hx),fun id ob ho=>by rw [AObj.ren_id]; exact leObj_mem h2 id ob (look_map objs id ob ho),fun _ _ _ _ _ _ h=>h⟩
def rho:List (Nat × Nat) -> Nat -> Nat
 | [],n=>n
 | (a,b) :: r,n=>match Nat.beq a n with|true=>b|false=>rho r n
def rleEnv (s:ASt) (m:List (Nat × Nat)) (n:Nat):List (Nat × FV) -> Prop
 | []=>True
 | (t,x) :: r=>s.get t = some (x.ren (rho m)) /\ x.lt n = true /\ rleEnv s m n r
def rleObj (s:ASt) (m:List (Nat × Nat)) (n:Nat):List (Nat × AObj) -> Prop
 | []=>True
 | (t,x) :: r=>s.obj (rho m t) = some (x.ren (rho m)) /\ t < n /\ x.lt n = true /\ rleObj s m n r
def injB (m:List (Nat × Nat)):List Nat -> Bool
 | []=>true
 | i :: r=>r.all (fun j=>!Nat.beq (rho m i) (rho m j)) && injB m r
theorem injB_spec {m:List (Nat × Nat)}:∀ {l:List Nat},injB m l = true -> ∀ i ∈ l,∀ j ∈ l,rho m i = rho m j -> i = j
 | [],_,_,h,_,_,_=>by cases h
 | a :: l,hb,i,hi,j,hj,he=>by
  simp only [injB,Bool.and_eq_true,List.all_eq_true,Bool.not_eq_true'] at hb
  cases hi with
  | head =>
   cases hj with
   | head=>rfl
   | tail _ hj=>have:=hb.1 j hj; rw [he] at this; simp at this
  | tail _ hi =>
   cases hj with
   | head=>have:=hb.1 i hi; rw [he] at this; simp at this
   | tail _ hj=>exact injB_spec hb.2 i hi j hj he
theorem rleEnv_mem {m:List (Nat × Nat)} {n:Nat}:∀ {l:List (Nat × FV)},rleEnv s m n l -> ∀ t x,(t,x) ∈ l -> s.get t = some (x.ren (rho m)) /\ x.lt n = true
 | [],_,_,_,h=>by cases h
 | (k,v) :: r,hl,t,x,h=>by
  cases h with
  | head=>exact ⟨hl.1,hl.2.1⟩
  | tail _ h=>exact rleEnv_mem hl.2.2 t x h
theorem rleObj_mem {m:List (Nat × Nat)} {n:Nat}:∀ {l:List (Nat × AObj)},rleObj s m n l -> ∀ t x,(t,x) ∈ l -> s.obj (rho m t) = some (x.ren (rho m)) /\ t < n /\ x.lt n = true
 | [],_,_,_,h=>by cases h
 | (k,v) :: r,hl,t,x,h=>by
  cases h with
  | head=>exact ⟨hl.1,hl.2.1,hl.2.2.1⟩
  | tail _ h=>exact rleObj_mem hl.2.2.2 t x h
theorem Le.mkR (m:List (Nat × Nat)) {env:List (Nat × FV)} {objs:List (Nat × AObj)} {n:Nat} (h1:rleEnv s m n env) (h2:rleObj s m n objs) (h3:injB m (objs.map (·.1)) = true):Le s (mkSt env objs n) :=
 ⟨rho m,fun t x hx=>rleEnv_mem h1 t x (look_map env t x hx),fun id ob ho=>rleObj_mem h2 id ob (look_map objs id ob ho),fun id1 ob1 id2 ob2 h1 h2 h =>
  injB_spec h3 id1 (List.mem_map.2 ⟨_,look_map objs id1 ob1 h1,rfl⟩) id2 (List.mem_map.2 ⟨_,look_map objs id2 ob2 h2,rfl⟩) h⟩
theorem AW_loop {c:Code} {ι:Type} (I:ι -> ASt) (μ:ι -> Nat) (i0:ι) (h0:Le s (I i0)) (round:∀ i,AW P nt c (Then (fun s'=>∃ j,μ j < μ i /\ Le s' (I j)) Q) (I i)):AW P nt (.loop c) Q s:= by
 intro ro W0 D0 D φ a w hr hI
 obtain ⟨φ0,hI0⟩:=h0.inv hI
 refine wpIn_loop_ghost (fun n a w=>∃ i D φ,μ i = n /\ Inv W0 D0 nt (I i) D φ a w) (μ i0) ⟨i0,D,φ0,rfl,hI0⟩ ?_
 rintro n a w ⟨i,D,φ,rfl,hI⟩
 refine Go.wpIn_mono (round i ro W0 D0 D φ a w hr hI) ?_
 rintro e a' w' ⟨s',D',φ',hI',hq⟩
 cases e with
 | normal =>
  obtain ⟨j,hj,hle⟩:=hq
  obtain ⟨φ2,hI2⟩:=hle.inv hI'
  exact ⟨μ j,hj,j,D',φ2,rfl,hI2⟩
 | _=>exact ⟨s',D',φ',hI',hq⟩
theorem AW_region {id:Nat} {ops:List Oper} (h:AL P nt ops.toArray ops Q s):AW P nt (.region id ops.toArray false) Q s :=
 fun ro W0 D0 D φ a w hr hI=>wpIn_region_lit (h ro W0 D0 D φ a w hr hI)
variable {ops:Array Oper} {rest:List Oper} {o:Oper}
theorem AL_nil (h:Q .normal s):AL P nt ops [] Q s:=fun ro W0 D0 D φ a w hr hI=>wpListIn_nil ⟨s,D,φ,hI,h⟩
theorem AL_nil_then {K:ASt -> Prop} (h:K s):AL P nt ops [] (Then K Q) s:=AL_nil h
theorem rowsIn_of {ro:Option Nat} {n:Nat} {row:String} {args:Array Value} {w:World} {R:Value -> World -> Prop} (h:Rows P row args w R):RowsIn (FW ro) n P row args w R :=
 fun c cs _=>let ⟨v,w',r,st⟩:=h c cs; ⟨v,w',r,(stepsIn_wide (P:=P)).2 st⟩
theorem wpIn_of {ro:Option Nat} {a:Act} {w:World} {K:Act -> World -> Prop} {Q:Exit -> Act -> World -> Prop} (hnd:∀ c,o.op ≠ .defer c) (h:o.wp P a w K Q):o.wpIn (FW ro) 0 P a w K Q:= by
 refine ⟨fun _ _=>trivial,?_⟩
 rw [Oper.semAt_eq _ _ _ hnd]
 unfold Oper.wp Oper.upon at h
 split at h
 ·rename_i e; rw [e]; exact h
 ·rename_i e; rw [e]; exact h
 ·rename_i e; rw [e]; exact h
 ·rename_i e; rw [e]; exact ⟨fun hd=>(by cases hd),callsIn_wide.2 h⟩
 ·rename_i e; rw [e]; exact ⟨fun hd=>(by cases hd),rowsIn_of h⟩
 ·rename_i e; rw [e]; exact h
 ·exact h.elim
def OpTo (P:Program) (nt:Nat) (o:Oper) (s s':ASt):Prop:=∀ ro W0 D0 D φ a w,Inv W0 D0 nt s D φ a w -> ∀ (K:Act -> World -> Prop) (Q:Exit -> Act -> World -> Prop),
 (∀ D' φ' a' w',Inv W0 D0 nt s' D' φ' a' w' -> K a' w') -> o.wpIn (FW ro) 0 P a w K Q
theorem AL_op {s':ASt} (hg:o.guard = none) (ho:OpTo P nt o s s') (h:AL P nt ops rest Q s'):AL P nt ops (o :: rest) Q s:= by
 intro ro W0 D0 D φ a w hr hI
 have:=ho ro W0 D0 D φ a w hI (wpListIn (FW ro) 0 P ops (Lift W0 D0 nt Q) rest) (Lift W0 D0 nt Q) fun D' φ' a' w' hI'=>h ro W0 D0 D' φ' a' w' hr hI'
 unfold wpListIn
 rw [if_pos (by simp [Region.wanted,hg])]
 exact this
theorem yielded_of {j d:Nat} {b:Bool} {W0:World} {D0:Bas} {D:Nat -> Prop} {φ:Nat -> Value} {a:Act} {w:World} (hI:Inv W0 D0 nt s D φ a w)
  (hj:(ops[j]?).bind (·.dst) = some d) (hd:s.get d = some (.pv (.bool b))):yielded ops a.tmps j = some b:= by
 obtain ⟨_,v,hv,hr⟩:=hI.env d _ hd
 cases hr with
 | pv v p hr =>
  cases hr
  simp [yielded,hj,hv]
theorem AL_guard_t {s':ASt} {j d:Nat} {b:Bool} (hg:o.guard = some (j,b)) (hj:(ops[j]?).bind (·.dst) = some d) (hd:s.get d = some (.pv (.bool b))) (ho:OpTo P nt o s s') (h:AL P nt ops rest Q s') :
  AL P nt ops (o :: rest) Q s:= by
 intro ro W0 D0 D φ a w hr hI
 have hy:=yielded_of hI hj hd
 unfold wpListIn
 rw [if_pos (by simp [Region.wanted,hg,hy])]
 exact ho ro W0 D0 D φ a w hI _ _ fun D' φ' a' w' hI'=>h ro W0 D0 D' φ' a' w' hr hI'
theorem AL_guard_f {j d:Nat} {b c:Bool} (hg:o.guard = some (j,c)) (hj:(ops[j]?).bind (·.dst) = some d) (hd:s.get d = some (.pv (.bool b))) (hne:(b == c) = false)
  (hlt:∀ d',o.dst = some d' -> d' < nt) (h:AL P nt ops rest Q (s.putO o.dst none)):AL P nt ops (o :: rest) Q s:= by
 intro ro W0 D0 D φ a w hr hI
 have hy:=yielded_of hI hj hd
 unfold wpListIn
 rw [if_neg (by simp only [Region.wanted,hg,hy]; simp at hne ⊢; exact hne)]
 exact ⟨fun _ _=>trivial,h ro W0 D0 D φ _ w hr (hI.put o.dst hlt undef none (fun _ h=>by cases h))⟩
theorem AL_cases {d:Nat} {b:Bool} (hd:s.get d = some (.pv (.bool b))) (h1:b = true -> AL P nt ops rest Q (s.put d (some (.pv (.bool true))))) (h2:b = false -> AL P nt ops rest Q (s.put d (some (.pv (.bool false))))) :
  AL P nt ops rest Q s:= by
 have key:∀ W0 D0 D φ a w,Inv W0 D0 nt s D φ a w -> Inv W0 D0 nt (s.put d (some (.pv (.bool b)))) D φ a w:= by
  intro W0 D0 D φ a w hI
  have hg:∀ t,(s.put d (some (.pv (.bool b)))).get t = s.get t:=fun t=>by
   rw [ASt.get_put]; by_cases h:d = t
   ·subst h; simp [hd]
   ·simp [h]
  exact hI.weaken (fun t x hx=>by rw [hg] at hx; exact hx) (fun _ _ h=>h) (fun t x hx=>by rw [hg] at hx; exact (hI.env t x hx).1) (fun id ob h=>⟨(hI.objs id ob h).1,(hI.objs id ob h).2.1⟩)
 intro ro W0 D0 D φ a w hr hI
 cases b with
 | true=>exact h1 rfl ro W0 D0 D φ a w hr (key _ _ _ _ _ _ hI)
 | false=>exact h2 rfl ro W0 D0 D φ a w hr (key _ _ _ _ _ _ hI)
end
end Go.Abs
