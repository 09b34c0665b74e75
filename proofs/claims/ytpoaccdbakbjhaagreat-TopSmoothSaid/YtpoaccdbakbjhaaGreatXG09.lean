/- One step by reckoning; steps of a region whose order is drawn. -/
import Derived.Test.YtpoaccdbakbjhaaGreatXG08
set_option linter.unusedVariables false
set_option linter.unusedSimpArgs false
namespace Go.Abs
open Go.RowKit
def cmpI (op:BinOp) (a b:Int):Option PV :=
 match op with
 | .eql=>some (.bool (decide (a = b)))
 | .neq=>some (.bool (decide (¬ a = b)))
 | .lss=>some (.bool (decide (a < b)))
 | .leq=>some (.bool (decide (a <= b)))
 | .gtr=>some (.bool (decide (a > b)))
 | .geq=>some (.bool (decide (a >= b)))
 | _=>none
def fieldOf (T:Nat -> Option TyI) (t f:Nat):Option (Nat × TyI):=match T t with
 | some i=>match i.kind with
  | .strct offs tys=>match offs[f]?,tys[f]? with
   | some off,some ft=>match T ft with
    | some fi=>match Nat.beq fi.size 0 with
     | false=>some (off,fi)
     | true=>none
    | none=>none
   | _,_=>none
  | _=>none
 | none=>none
def valF (T:Nat -> Option TyI) (s:ASt):Op -> Option (Option FV)
 | .move x=>some (s.ev x)
 | .assign x=>some (s.ev x)
 | .pick c a b=>match s.ev c with
  | some (.pv (.bool true))=>some (s.ev a)
  | some (.pv (.bool false))=>some (s.ev b)
  | _=>none
 | .binOp op t x y _=>match s.ev x,s.ev y with
  | some (.pv (.int k m)),some (.pv (.int k' n))=>match decide (k = k'),cmpI op m n with
   | true,some p=>some (some (.pv p))
   | _,_=>none
  | _,_=>none
 | .unOp .not _ x=>match s.ev x with
  | some (.pv (.bool b))=>some (some (.pv (.bool !b)))
  | _=>none
 | .load t x=>match T t,s.ev x with
  | some i,some (.box id off)=>match s.obj id with
   | some (.box cs)=>match loadF i.agg i.size (cs.drop off) with
    | some y=>some (some y)
    | none=>none
   | _=>none
  | some i,some (.pv (.ptr cs))=>match loadP i.agg i.size cs with
   | some p=>some (some (.pv p))
   | none=>none
  | _,_=>none
 | .fieldAddr t x f=>match fieldOf T t f,s.ev x with
  | some (off,_),some (.box id o0)=>some (some (.box id (o0 + off)))
  | some (off,_),some (.aptr id sz k o0)=>some (some (.aptr id sz k (o0 + off)))
  | some (off,_),some (.pv (.ptr cs))=>some (some (.pv (.ptr (cs.drop off))))
  | _,_=>none
 | .field t x f=>match fieldOf T t f,s.ev x with
  | some (off,fi),some (.pv (.agg cs))=>match loadP fi.agg fi.size (cs.drop off) with
   | some p=>some (some (.pv p))
   | none=>none
  | _,_=>none
 | .build t ps=>match T t with
  | some i=>match i.kind with
   | .strct offs tys=>match sizesT T tys,partsF s ps.toList with
    | some szs,some fps=>match fillF (fun j=>(offs.zip szs)[j]?) i.zero fps with
     | some cs=>some (some (.agg cs))
     | none=>none
    | _,_=>none
   | _=>none
  | none=>none
 | .extract x ix=>match s.ev x with
  | some (.tup cs)=>match cs[ix]? with
   | some y=>some (some y)
   | none=>none
  | _=>none
 | .makeFunc (.func f) first caps=>match first.toList,mapO s.ev caps.toList with
  | [],some ys=>some (some (.fn f ys))
  | _,_=>none
 | _=>none
def ridsF (s:ASt):Op -> List Nat
 | .load _ x=>match s.ev x with
  | some (.box id _)=>[id]
  | _=>[]
 | _=>[]
section
variable {P:Program} {T:Nat -> Option TyI} {nt:Nat} {s:ASt} {o:Oper} {ops:Array Oper} {rest:List Oper} {Q:Exit -> ASt -> Prop}
theorem op_move_any {x:Operand} (ho:o.op = .move x \/ o.op = .assign x) (hd:dstB nt o.dst = true):OpTo P nt o s (s.putO o.dst (s.ev x)) :=
 OpTo.value hd fun W0 D0 D φ a w hI=>⟨a.eval x,by rcases ho with ho|ho <;> simp [execOp,ho],fun x' h=>hI.ev h⟩
theorem op_pick_any_t {c x y:Operand} (ho:o.op = .pick c x y) (hd:dstB nt o.dst = true) (hc:s.ev c = some (.pv (.bool true))):OpTo P nt o s (s.putO o.dst (s.ev x)) :=
 OpTo.value hd fun W0 D0 D φ a w hI=>⟨a.eval x,by simp [execOp,ho,hI.ev_bool hc,asBool],fun x' h=>hI.ev h⟩
theorem op_pick_any_f {c x y:Operand} (ho:o.op = .pick c x y) (hd:dstB nt o.dst = true) (hc:s.ev c = some (.pv (.bool false))):OpTo P nt o s (s.putO o.dst (s.ev y)) :=
 OpTo.value hd fun W0 D0 D φ a w hI=>⟨a.eval y,by simp [execOp,ho,hI.ev_bool hc,asBool],fun x' h=>hI.ev h⟩
theorem fieldOf_spec {t f off:Nat} {fi:TyI} (h:fieldOf T t f = some (off,fi)):∃ i offs tys ft,T t = some i /\ i.kind = .strct offs tys /\ offs[f]? = some off /\ tys[f]? = some ft /\ T ft = some fi /\ Nat.beq fi.size 0 = false:= by
 unfold fieldOf at h
 split at h
 ·rename_i i hi
  split at h
  ·rename_i offs tys hk
   split at h
   ·rename_i off' ft h1 h2
    split at h
    ·rename_i fi' h3
     split at h
     ·rename_i h4
      cases h
      exact ⟨i,offs,tys,ft,hi,hk,h1,h2,h3,h4⟩
     ·cases h
    ·cases h
   ·cases h
  ·cases h
 ·cases h
theorem valF_ok {x:Option FV} (hT:TabOK P T) (hd:dstB nt o.dst = true) (h:valF T s o.op = some x):OpTo P nt o s (s.putO o.dst x):= by
 generalize hop:o.op = op at h
 cases op with
 | move y=>cases h; exact op_move_any (.inl hop) hd
 | assign y=>cases h; exact op_move_any (.inr hop) hd
 | pick c a b =>
  simp only [valF] at h
  split at h
  ·rename_i hc; cases h; exact op_pick_any_t hop hd hc
  ·rename_i hc; cases h; exact op_pick_any_f hop hd hc
  ·cases h
 | binOp bo t a b t' =>
  simp only [valF] at h
  split at h
  ·rename_i k m k' n hx hy
   split at h
   ·rename_i p hk hp
    cases h
    have hk':k = k':=of_decide_eq_true hk
    subst hk'
    refine op_bin hop hd hx hy ?_
    cases bo <;> simp only [cmpI,reduceCtorEq] at hp <;> exact hp
   ·cases h
  ·cases h
 | unOp uo t a =>
  cases uo <;> simp only [valF,reduceCtorEq] at h
  split at h
  ·rename_i b hb; cases h; exact op_not hop hd hb
  ·cases h
 | load t a =>
  simp only [valF] at h
  split at h
  ·rename_i i id off ht hx
   split at h
   ·rename_i cs hob
    split at h
    ·rename_i y hl; cases h; exact op_load_box hT hop hd ht hx hob hl
    ·cases h
   ·cases h
  ·rename_i i cs ht hx
   split at h
   ·rename_i p hl
    cases h
    exact op_load_ptr hT hop hd ht (by simp [ASt.evD,hx,ASt.pvOf]) hl
   ·cases h
  ·cases h
 | fieldAddr t a f =>
  simp only [valF] at h
  split at h
  ·rename_i off fi id o0 hf hx
   cases h
   obtain ⟨i,offs,tys,ft,h1,h2,h3,h4,h5,h6⟩:=fieldOf_spec hf
   exact op_fieldAddr_box hT hop hd h1 h2 h3 h4 h5 h6 hx
  ·rename_i off fi id sz k o0 hf hx
   cases h
   obtain ⟨i,offs,tys,ft,h1,h2,h3,h4,h5,h6⟩:=fieldOf_spec hf
   exact op_fieldAddr_aptr hT hop hd h1 h2 h3 h4 h5 h6 hx
  ·rename_i off fi cs hf hx
   cases h
   obtain ⟨i,offs,tys,ft,h1,h2,h3,h4,h5,h6⟩:=fieldOf_spec hf
   exact op_fieldAddr_ptr hT hop hd h1 h2 h3 h4 h5 h6 (by simp [ASt.evD,hx,ASt.pvOf])
  ·cases h
 | field t a f =>
  simp only [valF] at h
  split at h
  ·rename_i off fi cs hf hx
   split at h
   ·rename_i p hl
    cases h
    obtain ⟨i,offs,tys,ft,h1,h2,h3,h4,h5,h6⟩:=fieldOf_spec hf
    exact op_field hT hop hd h1 h2 h3 h4 h5 (by simp [ASt.evD,hx,ASt.pvOf]) hl
   ·cases h
  ·cases h
 | build t ps =>
  simp only [valF] at h
  split at h
  ·rename_i i ht
   split at h
   ·rename_i offs tys hk
    split at h
    ·rename_i szs fps hz hp
     split at h
     ·rename_i cs hf; cases h; exact op_build hT hop hd ht hk hz hp hf
     ·cases h
    ·cases h
   ·cases h
  ·cases h
 | extract a ix =>
  simp only [valF] at h
  split at h
  ·rename_i cs hx
   split at h
   ·rename_i y hy; cases h; exact op_extract hop hd hx hy
   ·cases h
  ·cases h
 | makeFunc fn first caps =>
  cases fn <;> simp only [valF,reduceCtorEq] at h
  split at h
  ·rename_i ys hf hc
   cases h
   have:first = #[]:=by cases first; simp at hf; simp [hf]
   subst this
   exact op_mkfunc hop hd hc
  ·cases h
 | _=>cases h
def guardT (ops:Array Oper) (s:ASt) (o:Oper):Bool:=match o.guard with
 | none=>true
 | some (j,b)=>match (ops[j]?).bind (·.dst) with
  | some d=>match s.get d with
   | some (.pv (.bool c))=>c == b
   | _=>false
  | none=>false
def guardF (ops:Array Oper) (s:ASt) (o:Oper):Bool:=match o.guard with
 | none=>false
 | some (j,b)=>match (ops[j]?).bind (·.dst) with
  | some d=>match s.get d with
   | some (.pv (.bool c))=>!(c == b)
   | _=>false
  | none=>false
theorem guardT_spec (h:guardT ops s o = true):o.guard = none \/ ∃ j b d,o.guard = some (j,b) /\ (ops[j]?).bind (·.dst) = some d /\ s.get d = some (.pv (.bool b)):= by
 unfold guardT at h
 split at h
 ·rename_i hg; exact .inl hg
 ·rename_i j b hg
  split at h
  ·rename_i d hd
   split at h
   ·rename_i c hc
    have:c = b:=by simpa using h
    subst this
    exact .inr ⟨j,c,d,hg,hd,hc⟩
   ·cases h
  ·cases h
theorem guardF_spec (h:guardF ops s o = true):∃ j b d c,o.guard = some (j,b) /\ (ops[j]?).bind (·.dst) = some d /\ s.get d = some (.pv (.bool c)) /\ (c == b) = false:= by
 unfold guardF at h
 split at h
 ·cases h
 ·rename_i j b hg
  split at h
  ·rename_i d hd
   split at h
   ·rename_i c hc
    exact ⟨j,b,d,c,hg,hd,hc,by simpa using h⟩
   ·cases h
  ·cases h
theorem AL_do {s':ASt} (hg:guardT ops s o = true) (ho:OpTo P nt o s s') (h:AL P nt ops rest Q s'):AL P nt ops (o :: rest) Q s:= by
 rcases guardT_spec hg with hg|⟨j,b,d,hg,hj,hd⟩
 ·exact AL_op hg ho h
 ·exact AL_guard_t hg hj hd ho h
theorem AL_doS {R:ASt -> Prop} (hg:guardT ops s o = true) (ho:OpToS P nt o s R) (h:∀ s',R s' -> AL P nt ops rest Q s'):AL P nt ops (o :: rest) Q s:= by
 rcases guardT_spec hg with hg|⟨j,b,d,hg,hj,hd⟩
 ·exact AL_opS hg ho h
 ·exact AL_guardS_t hg hj hd ho h
def stepG (T:Nat -> Option TyI) (nt:Nat) (ops:Array Oper) (s:ASt) (o:Oper):Option ASt :=
 match dstB nt o.dst with
 | true=>match guardF ops s o with
  | true=>some (s.putO o.dst none)
  | false=>match guardT ops s o with
   | true=>match valF T s o.op with
    | some x=>some (s.putO o.dst x)
    | none=>match o.op with
     | .alloc t=>match T t with
      | some i=>some ((s.newObj (.box i.zero)).putO o.dst (some (.box s.nxt 0)))
      | none=>none
     | .box _ x=>match s.ev x with
      | some y=>match leafL (cellsF y) with
       | true=>some ((s.newObj (.box (cellsF y))).putO o.dst (some (.box s.nxt 0)))
       | false=>none
      | none=>none
     | .store t x y=>match o.dst,T t,s.ev x,s.ev y with
      | none,some i,some (.box id off),some fy=>match s.obj id with
       | some (.box cs)=>match leafL (cellsF fy),Nat.beq (cellsF fy).length i.size,Nat.ble (off + (cellsF fy).length) cs.length with
        | true,true,true=>some (s.setObj id (some (.box (splice cs off (cellsF fy)))))
        | _,_,_=>none
       | _=>none
      | _,_,_,_=>none
     | .buildSlice t n ps=>match T t with
      | some ti=>match ti.kind with
       | .slice e=>match T e with
        | some ei=>match Nat.blt 0 ei.size,partsP s ei.size 0 ps.toList,Nat.beq ps.toList.length n,Nat.ble (n * ei.size) 100000 with
         | true,some es,true,true=>some ((s.newObj (.arr e ei.size es)).putO o.dst (some (.arr s.nxt)))
         | _,_,_,_=>none
        | none=>none
       | _=>none
      | none=>none
     | _=>none
   | false=>none
 | false=>none
theorem AL_step {s':ASt} (hT:TabOK P T) (hs:stepG T nt ops s o = some s') (h:AL P nt ops rest Q s'):AL P nt ops (o :: rest) Q s:= by
 unfold stepG at hs
 split at hs
 ·rename_i hd
  split at hs
  ·rename_i hg
   cases hs
   obtain ⟨j,b,d,c,h1,h2,h3,h4⟩:=guardF_spec hg
   exact AL_guard_f h1 h2 h3 h4 (dstB_lt hd) h
  ·split at hs
   ·rename_i hg
    split at hs
    ·rename_i x hx; cases hs; exact AL_do hg (valF_ok hT hd hx) h
    ·split at hs
     ·rename_i t hop
      split at hs
      ·rename_i i ht; cases hs; exact AL_do hg (op_alloc hT hop hd ht) h
      ·cases hs
     ·rename_i t x hop
      split at hs
      ·rename_i y hy
       split at hs
       ·rename_i hl; cases hs; exact AL_do hg (op_box hop hd hy hl) h
       ·cases hs
      ·cases hs
     ·rename_i t x y hop
      split at hs
      ·rename_i i id off fy hdn ht hx hy
       split at hs
       ·rename_i cs hob
        split at hs
        ·rename_i h1 h2 h3; cases hs; exact AL_do hg (op_store_box hT hop hdn ht hx hob hy h1 h2 h3) h
        ·cases hs
       ·cases hs
      ·cases hs
     ·rename_i t n ps hop
      split at hs
      ·rename_i ti ht
       split at hs
       ·rename_i e hk
        split at hs
        ·rename_i ei he
         split at hs
         ·rename_i es h1 h2 h3 h4; cases hs; exact AL_do hg (op_buildSlice hT hop hd ht hk he h1 h2 h3 h4) h
         ·cases hs
        ·cases hs
       ·cases hs
      ·cases hs
     ·cases hs
   ·cases hs
 ·cases hs
theorem putE_eq (s:ASt) (d:Option Nat) (x:Option FV):(⟨putE s.env d x,s.objs,s.nxt⟩:ASt) = s.putO d x:=by cases d <;> rfl
theorem ev_agree {s1:ASt} {x:Operand} {l:List Operand} (h:∀ t ∈ opTmps l,s1.get t = s.get t) (hx:x ∈ l):s1.ev x = s.ev x:= by
 cases x with
 | tmp t =>
  have:t ∈ opTmps l:= by
   clear h
   induction l with
   | nil=>cases hx
   | cons y l ih =>
    cases hx with
    | head=>exact List.mem_cons_self
    | tail _ hx =>
     cases y with
     | tmp t'=>exact List.mem_cons_of_mem _ (ih hx)
     | _=>exact ih hx
  exact h t this
 | _=>rfl
theorem mapO_congr {α β:Type} {f g:α -> Option β}:∀ {l:List α},(∀ x ∈ l,f x = g x) -> mapO f l = mapO g l
 | [],_=>rfl
 | x :: l,h=>by unfold mapO; rw [h x (by simp),mapO_congr (l:=l) fun y hy=>h y (by simp [hy])]
theorem partsF_congr {s1:ASt}:∀ {l:List (Nat × Operand)},(∀ p ∈ l,s1.ev p.2 = s.ev p.2) -> partsF s1 l = partsF s l
 | [],_=>rfl
 | (i,x) :: l,h=>by unfold partsF; rw [h (i,x) (by simp),partsF_congr (l:=l) fun p hp=>h p (by simp [hp])]
theorem valF_local {s1:ASt} {op:Op} (h:∀ t ∈ opTmps op.operands.toList,s1.get t = s.get t) (hr:∀ id ∈ ridsF s op,s1.obj id = s.obj id):valF T s1 op = valF T s op:= by
 have he:∀ x,x ∈ op.operands.toList -> s1.ev x = s.ev x:=fun x hx=>ev_agree h hx
 cases op with
 | move x=>simp only [valF,he x (by simp [Op.operands])]
 | assign x=>simp only [valF,he x (by simp [Op.operands])]
 | pick c a b=>simp only [valF,he c (by simp [Op.operands]),he a (by simp [Op.operands]),he b (by simp [Op.operands])]
 | binOp bo t x y t'=>simp only [valF,he x (by simp [Op.operands]),he y (by simp [Op.operands])]
 | unOp uo t x=>cases uo <;> simp only [valF,he x (by simp [Op.operands])]
 | load t x =>
  have hx:=he x (by simp [Op.operands])
  simp only [valF,hx]
  cases hT:T t with
  | none=>rfl
  | some i =>
   cases hev:s.ev x with
   | none=>rfl
   | some y =>
    cases y with
    | box id off=>simp only [hr id (by simp [ridsF,hev])]
    | pv p=>cases p <;> rfl
    | _=>rfl
 | fieldAddr t x f=>simp only [valF,he x (by simp [Op.operands])]
 | field t x f=>simp only [valF,he x (by simp [Op.operands])]
 | build t ps =>
  have:partsF s1 ps.toList = partsF s ps.toList:=partsF_congr fun p hp=>he p.2 (by simp [Op.operands]; exact ⟨p.1,by simpa using hp⟩)
  simp only [valF,this]
 | extract x ix=>simp only [valF,he x (by simp [Op.operands])]
 | makeFunc fn first caps =>
  have:mapO s1.ev caps.toList = mapO s.ev caps.toList:=mapO_congr fun x hx=>he x (by simp [Op.operands]; right; simpa using hx)
  cases fn <;> simp only [valF,this]
 | _=>rfl
theorem needs_op {t:Nat} (h:t ∈ opTmps o.op.operands.toList):t ∈ needs ops o:=List.mem_append_right _ h
theorem guardT_local {s1:ASt} (h:∀ t ∈ needs ops o,s1.get t = s.get t):guardT ops s1 o = guardT ops s o:= by
 unfold guardT
 split
 ·rfl
 ·rename_i j b hg
  split
  ·rename_i d hd
   rw [h d (List.mem_append_left _ (by simp [guardTmp,hg,hd]))]
  ·rfl
theorem guardF_local {s1:ASt} (h:∀ t ∈ needs ops o,s1.get t = s.get t):guardF ops s1 o = guardF ops s o:= by
 unfold guardF
 split
 ·rfl
 ·rename_i j b hg
  split
  ·rename_i d hd
   rw [h d (List.mem_append_left _ (by simp [guardTmp,hg,hd]))]
  ·rfl
theorem GOpTo.of {s':ASt} (hg:guardT ops s o = true) (ho:OpTo P nt o s s'):GOpTo P nt ops o s s':= by
 intro ro W0 D0 D φ a w hI K Q hK
 have hw:Region.wanted o (yielded ops a.tmps) = true:= by
  rcases guardT_spec hg with hg|⟨j,b,d,hg,hj,hd⟩
  ·simp [Region.wanted,hg]
  ·simp [Region.wanted,hg,yielded_of hI hj hd]
 rw [if_pos hw]
 exact ho ro W0 D0 D φ a w hI K Q hK
theorem GOpTo.skip (hd:dstB nt o.dst = true) (hg:guardF ops s o = true):GOpTo P nt ops o s (s.putO o.dst none):= by
 intro ro W0 D0 D φ a w hI K Q hK
 obtain ⟨j,b,d,c,h1,h2,h3,h4⟩:=guardF_spec hg
 have hw:¬ Region.wanted o (yielded ops a.tmps) = true:= by
  simp only [Region.wanted,h1,yielded_of hI h2 h3]
  simpa using h4
 rw [if_neg hw]
 exact hK D φ _ w (hI.put o.dst (dstB_lt hd) undef none (fun _ h=>by cases h))
theorem StepOK.mkP {x:Option FV} {rids:List Nat} (hg:guardT ops s o = true) (h:∀ s1,(∀ t ∈ opTmps o.op.operands.toList,s1.get t = s.get t) -> (∀ id ∈ rids,s1.obj id = s.obj id) -> OpTo P nt o s1 (s1.putO o.dst x)) :
  StepOK P nt ops o s ⟨x,false,rids,[]⟩ (s.putO o.dst x):= by
 refine ⟨by cases hd:o.dst <;> rfl,fun _=>by cases hd:o.dst <;> exact ⟨rfl,rfl⟩,fun h=>(by cases h),fun _ s1 h1 h2 _=>?_,fun h=>(by cases h)⟩
 show GOpTo P nt ops o s1 ⟨putE s1.env o.dst x,s1.objs,s1.nxt⟩
 rw [putE_eq]
 exact GOpTo.of (by rw [guardT_local h1]; exact hg) (h s1 (fun t ht=>h1 t (needs_op ht)) h2)
theorem StepOK.skip (hd:dstB nt o.dst = true) (hg:guardF ops s o = true):StepOK P nt ops o s ⟨none,false,[],[]⟩ (s.putO o.dst none):= by
 refine ⟨by cases hd:o.dst <;> rfl,fun _=>by cases hd:o.dst <;> exact ⟨rfl,rfl⟩,fun h=>(by cases h),fun _ s1 h1 h2 _=>?_,fun h=>(by cases h)⟩
 show GOpTo P nt ops o s1 ⟨putE s1.env o.dst none,s1.objs,s1.nxt⟩
 rw [putE_eq]
 exact GOpTo.skip hd (by rw [guardF_local h1]; exact hg)
theorem StepOK.val {x:Option FV} (hT:TabOK P T) (hd:dstB nt o.dst = true) (hg:guardT ops s o = true) (h:valF T s o.op = some x):StepOK P nt ops o s ⟨x,false,ridsF s o.op,[]⟩ (s.putO o.dst x) :=
 StepOK.mkP hg fun s1 h1 h2=>valF_ok hT hd (by rw [valF_local h1 h2]; exact h)
def DG (P:Program) (nt:Nat) (id:Nat) (opl:List Oper) (Q:Exit -> ASt -> Prop) (s0:ASt) (k:Nat) (rest:List Oper) (s:ASt) (l:List DEnt):Prop :=
 DRun P nt opl.toArray s0 k s l -> opl.drop k = rest -> AW P nt (.region id opl.toArray true) Q s0
theorem DG_start {id:Nat} {opl:List Oper} (h:DG P nt id opl Q s 0 opl s []):AW P nt (.region id opl.toArray true) Q s:=h DRun.nil rfl
theorem DG_next {id:Nat} {opl rest:List Oper} {s0 s s':ASt} {k:Nat} {l:List DEnt} {o:Oper} {e:DEnt} (hs:StepOK P nt opl.toArray o s e s') (h:DG P nt id opl Q s0 (k + 1) rest s' (l ++ [e])):DG P nt id opl Q s0 k (o :: rest) s l:= by
 intro hr hd
 have hk:opl[k]? = some o:= by
  have:(opl.drop k)[0]? = some o:=by rw [hd]; rfl
  simpa using this
 refine h (hr.snoc (by simpa using hk) hs) ?_
 have:opl.drop (k + 1) = (opl.drop k).drop 1:=by rw [List.drop_drop]
 rw [this,hd]; rfl
theorem DG_end {id:Nat} {opl rest:List Oper} {s0 s:ASt} {k:Nat} {l:List DEnt} (hm:P.follows .mixedOrders = true) (hok:drawOK opl.toArray k s0.nxt l = true) (ht:AL P nt opl.toArray rest Q s):DG P nt id opl Q s0 k rest s l :=
 fun hr hd=>AW_draw hm hr hok (by rw [hd]; exact ht)
def stepD (T:Nat -> Option TyI) (nt:Nat) (ops:Array Oper) (s:ASt) (o:Oper):Option (ASt × DEnt) :=
 match dstB nt o.dst with
 | true=>match guardF ops s o with
  | true=>some (s.putO o.dst none,⟨none,false,[],[]⟩)
  | false=>match guardT ops s o with
   | true=>match valF T s o.op with
    | some x=>some (s.putO o.dst x,⟨x,false,ridsF s o.op,[]⟩)
    | none=>none
   | false=>none
 | false=>none
theorem DG_step {id:Nat} {opl rest:List Oper} {s0 s s':ASt} {k:Nat} {l:List DEnt} {o:Oper} {e:DEnt} (hT:TabOK P T) (hs:stepD T nt opl.toArray s o = some (s',e)) (h:DG P nt id opl Q s0 (k + 1) rest s' (l ++ [e])):DG P nt id opl Q s0 k (o :: rest) s l:= by
 unfold stepD at hs
 split at hs
 ·rename_i hd
  split at hs
  ·rename_i hg; cases hs; exact DG_next (StepOK.skip hd hg) h
  ·split at hs
   ·rename_i hg
    split at hs
    ·rename_i x hx; cases hs; exact DG_next (StepOK.val hT hd hg hx) h
    ·cases hs
   ·cases hs
 ·cases hs
end
end Go.Abs
