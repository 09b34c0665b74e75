/- More steps: of drawn regions; loops under a condition; small lemmas on lists that are read. -/
import Derived.Test.YtkmclnjmabljdaaGreatDoorKNcD
import Derived.Lib.SliceRun
import Derived.Laws.Cover3
import Derived.Laws.StructEq
import Derived.Laws.Small
import Derived.Scope
set_option linter.unusedVariables false
set_option linter.unusedSimpArgs false
namespace Go.Abs
open Go.RowKit
set_option linter.unusedVariables false
section
variable {P : Program} {T : Nat -> Option TyI} {nt : Nat} {s : ASt} {o : Oper} {ops : Array Oper} {rest : List Oper} {Q : Exit -> ASt -> Prop}
theorem AW_loopC {c : Code} {ι : Type} (C : ι -> Prop) (I : ι -> ASt) (μ : ι -> Nat) (i0 : ι) (hC : C i0) (h0 : Le s (I i0)) (round : ∀ i,C i -> AW P nt c (Then (fun s' => ∃ j,C j /\ μ j < μ i /\ Le s' (I j)) Q) (I i)) : AW P nt (.loop c) Q s:= by
 have := AW_loop (P := P) (nt := nt) (Q := Q) (s := s) (c := c) (ι := {i // C i}) (fun i => I i.1) (fun i => μ i.1) ⟨i0,hC⟩ h0 (fun i => AW_mono (round i.1 i.2) fun e s' h => by
  cases e with
  | normal => obtain ⟨j,h1,h2,h3⟩ := h; exact ⟨⟨j,h1⟩,h2,h3⟩
  | _ => exact h)
 exact this
theorem len_map {α : Type} (l : List α) (f : α -> List PV) : ((l.map f).length : Int) = (l.length : Int) := by simp
theorem get_map {α : Type} {l : List α} {k : Nat} {x : α} (f : α -> List PV) (h : l[k]? = some x) : (l.map f)[(k : Int).toNat]? = some (f x) := by simp [h]
theorem get_map_i {α : Type} {l : List α} {i : Int} {x : α} (f : α -> List PV) (h : l[i.toNat]? = some x) : (l.map f)[i.toNat]? = some (f x) := by simp [h]
def pvS (x : FV) : Option PV := (⟨[],[],0⟩ : ASt).pvOf false 5 x
def ASt.evS (s : ASt) (o : Operand) : Option PV := match s.ev o with
 | some x => pvS x
 | none => none
theorem pvOf_up {s1 s2 : ASt} (h : ∀ id,s1.obj id = none) : ∀ (n : Nat) (x : FV) (p : PV),s1.pvOf false n x = some p -> s2.pvOf false n x = some p:= by
 intro n
 induction n with
 | zero => intro x p hp; simp [ASt.pvOf] at hp
 | succ n ih =>
  intro x p hp
  have hm : ∀ (l : List FV) (ps : List PV),mapO (s1.pvOf false n) l = some ps -> mapO (s2.pvOf false n) l = some ps:= by
   intro l
   induction l with
   | nil => intro ps hp; exact hp
   | cons y l ihl =>
    intro ps hp
    unfold mapO at hp ⊢
    split at hp
    ·rename_i a b h1 h2
     rw [ih y _ h1,ihl _ h2]; exact hp
    ·cases hp
  cases x with
  | arr id => simp only [ASt.pvOf,h id] at hp; cases hp
  | fn f caps =>
   simp only [ASt.pvOf] at hp ⊢
   split at hp
   ·rename_i ps h1; rw [hm _ _ h1]; exact hp
   ·cases hp
  | agg cs =>
   simp only [ASt.pvOf] at hp ⊢
   split at hp
   ·rename_i ps h1; rw [hm _ _ h1]; exact hp
   ·cases hp
  | pv q => exact hp
  | nils => exact hp
  | box id off => simp [ASt.pvOf] at hp
  | mp id => simp [ASt.pvOf] at hp
  | yld id => simp [ASt.pvOf] at hp
  | sub _ _ _ _ => simp [ASt.pvOf] at hp
  | aptr _ _ _ _ => simp [ASt.pvOf] at hp
  | tup _ => simp [ASt.pvOf] at hp
theorem evS_D {x : Operand} {p : PV} (h : s.evS x = some p) : s.evD x = some p:= by
 unfold ASt.evS at h
 unfold ASt.evD
 split at h
 ·rename_i y hy
  rw [hy]
  exact pvOf_up (fun id => rfl) 5 y p h
 ·cases h
theorem evS_local {s1 : ASt} {x : Operand} {l : List Operand} (h : ∀ t ∈ opTmps l,s1.get t = s.get t) (hx : x ∈ l) : s1.evS x = s.evS x:= by
 unfold ASt.evS; rw [ev_agree h hx]
theorem mapO_up {α β : Type} {f g : α -> Option β} : ∀ {l : List α} {ys : List β},(∀ x ∈ l,∀ y,f x = some y -> g x = some y) -> mapO f l = some ys -> mapO g l = some ys
 | [],_,_,h => h
 | x :: l,ys,hfg,h => by
  unfold mapO at h ⊢
  split at h
  ·rename_i a b h1 h2
   rw [hfg x (by simp) a h1,mapO_up (fun y hy => hfg y (by simp [hy])) h2]; exact h
  ·cases h
theorem D_indexAddr {t e : Nat} {x ix : Operand} {ti ei : TyI} {k : IntKind} {n : Int} {es : List (List PV)} {el : List PV} (hT : TabOK P T) (hg : guardT ops s o = true) (ho : o.op = .indexAddr t x ix) (hd : dstB nt o.dst = true) (ht : T t = some ti)
  (hk : ti.kind = .slice e) (he : T e = some ei) (hx : s.evS x = some (.sl es)) (hi : s.ev ix = some (.pv (.int k n))) (hn : 0 <= n) (hel : es[n.toNat]? = some el) (hsz : el.length = ei.size) (hpos : Nat.blt 0 ei.size = true) :
  StepOK P nt ops o s ⟨some (.pv (.ptr el)),false,[],[]⟩ (s.putO o.dst (some (.pv (.ptr el)))) :=
 StepOK.mkP hg fun s1 h1 _ => op_indexAddr_sl hT ho hd ht hk he (evS_D (by rw [evS_local h1 (by simp [ho,Op.operands])]; exact hx)) (by rw [ev_agree h1 (by simp [ho,Op.operands])]; exact hi) hn hel hsz hpos
theorem D_add {t t' : TypeId} {x y : Operand} {m n : Int} (hg : guardT ops s o = true) (ho : o.op = .binOp .add t x y t') (hd : dstB nt o.dst = true) (hx : s.ev x = some (.pv (.int .i64 m))) (hy : s.ev y = some (.pv (.int .i64 n)))
  (h : -9223372036854775808 <= m + n /\ m + n <= 9223372036854775807) : StepOK P nt ops o s ⟨some (.pv (.int .i64 (m + n))),false,[],[]⟩ (s.putO o.dst (some (.pv (.int .i64 (m + n))))) :=
 StepOK.mkP hg fun s1 h1 _ => op_add ho hd (by rw [ev_agree h1 (by simp [ho,Op.operands])]; exact hx) (by rw [ev_agree h1 (by simp [ho,Op.operands])]; exact hy) h
theorem D_sub {t t' : TypeId} {x y : Operand} {m n : Int} (hg : guardT ops s o = true) (ho : o.op = .binOp .sub t x y t') (hd : dstB nt o.dst = true) (hx : s.ev x = some (.pv (.int .i64 m))) (hy : s.ev y = some (.pv (.int .i64 n)))
  (h : -9223372036854775808 <= m - n /\ m - n <= 9223372036854775807) : StepOK P nt ops o s ⟨some (.pv (.int .i64 (m - n))),false,[],[]⟩ (s.putO o.dst (some (.pv (.int .i64 (m - n))))) :=
 StepOK.mkP hg fun s1 h1 _ => op_sub ho hd (by rw [ev_agree h1 (by simp [ho,Op.operands])]; exact hx) (by rw [ev_agree h1 (by simp [ho,Op.operands])]; exact hy) h
theorem D_mul {t t' : TypeId} {x y : Operand} {m n : Int} (hg : guardT ops s o = true) (ho : o.op = .binOp .mul t x y t') (hd : dstB nt o.dst = true) (hx : s.ev x = some (.pv (.int .i64 m))) (hy : s.ev y = some (.pv (.int .i64 n)))
  (h : -9223372036854775808 <= m * n /\ m * n <= 9223372036854775807) : StepOK P nt ops o s ⟨some (.pv (.int .i64 (m * n))),false,[],[]⟩ (s.putO o.dst (some (.pv (.int .i64 (m * n))))) :=
 StepOK.mkP hg fun s1 h1 _ => op_mul ho hd (by rw [ev_agree h1 (by simp [ho,Op.operands])]; exact hx) (by rw [ev_agree h1 (by simp [ho,Op.operands])]; exact hy) h
theorem D_len {t e : Nat} {x : Operand} {ti : TyI} {es : List (List PV)} {n : Int} (hT : TabOK P T) (hg : guardT ops s o = true) (ho : o.op = .call { callee := .builtin .len,args := #[x],argTypes := #[t] }) (hd : dstB nt o.dst = true) (ht : T t = some ti)
  (hk : ti.kind = .slice e) (hx : s.evS x = some (.sl es)) (hn : (es.length : Int) = n) : StepOK P nt ops o s ⟨some (.pv (.int .i64 n)),false,[],[]⟩ (s.putO o.dst (some (.pv (.int .i64 n)))) :=
 StepOK.mkP hg fun s1 h1 _ => op_len_sl hT ho hd ht hk (by
  have h2 := evS_local (s := s) h1 (x := x) (by simp [ho,Op.operands,Call.operands])
  rw [hx] at h2
  unfold ASt.evS at h2
  unfold ASt.evB
  split at h2
  ·rename_i y hy
   rw [hy]
   simp only []
   unfold pvS at h2
   cases y <;> simp [ASt.pvOf,ASt.obj,look] at h2 ⊢ <;> first | exact h2 | (split at h2 <;> cases h2)
  ·cases h2) hn
theorem D_min2 {x y : Operand} {ts : Array TypeId} {m n : Int} (hg : guardT ops s o = true) (ho : o.op = .call { callee := .builtin .min,args := #[x,y],argTypes := ts }) (hd : dstB nt o.dst = true) (hx : s.ev x = some (.pv (.int .i64 m))) (hy : s.ev y = some (.pv (.int .i64 n))) :
  StepOK P nt ops o s ⟨some (.pv (.int .i64 (min m n))),false,[],[]⟩ (s.putO o.dst (some (.pv (.int .i64 (min m n))))) :=
 StepOK.mkP hg fun s1 h1 _ => op_min2 ho hd (by rw [ev_agree h1 (by simp [ho,Op.operands,Call.operands])]; exact hx) (by rw [ev_agree h1 (by simp [ho,Op.operands,Call.operands])]; exact hy)
theorem D_max2 {x y : Operand} {ts : Array TypeId} {m n : Int} (hg : guardT ops s o = true) (ho : o.op = .call { callee := .builtin .max,args := #[x,y],argTypes := ts }) (hd : dstB nt o.dst = true) (hx : s.ev x = some (.pv (.int .i64 m))) (hy : s.ev y = some (.pv (.int .i64 n))) :
  StepOK P nt ops o s ⟨some (.pv (.int .i64 (max m n))),false,[],[]⟩ (s.putO o.dst (some (.pv (.int .i64 (max m n))))) :=
 StepOK.mkP hg fun s1 h1 _ => op_max2 ho hd (by rw [ev_agree h1 (by simp [ho,Op.operands,Call.operands])]; exact hx) (by rw [ev_agree h1 (by simp [ho,Op.operands,Call.operands])]; exact hy)
def ASt.calleeS (s : ASt) (f : Operand) : Option (FuncId × List PV) := match s.evS f with
 | some (.fn g caps) => some (g,caps)
 | _ => none
theorem OpToS.one {s' : ASt} (h : OpToS P nt o s (fun s2 => s2 = s')) : OpTo P nt o s s' := fun ro W0 D0 D φ a w hI hko K Q hK => h ro W0 D0 D φ a w hI hko K Q fun s2 D' φ' a' w' he hI' => by subst he; exact hK D' φ' a' w' hI'
theorem op_call1 {f : Operand} {args : Array Operand} {ts : Array TypeId} {g : FuncId} {caps ps : List PV} {r : RV} (ho : o.op = .call { callee := .value f,args,argTypes := ts }) (hd : dstB nt o.dst = true)
  (hf : s.calleeS f = some (g,caps)) (ha : mapO s.evS args.toList = some ps) (hc : ACalls P g (ps ++ caps) (fun r' => r' = r)) : OpTo P nt o s (s.bind o.dst r):= by
 have hf' : s.calleeD f = some (g,caps):= by
  unfold ASt.calleeS at hf
  unfold ASt.calleeD
  split at hf
  ·rename_i g' caps' he
   rw [evS_D he]; exact hf
  ·cases hf
 have := op_callD ho hd hf' (mapO_up (fun x _ y h => evS_D h) ha) hc
 exact OpToS.one fun ro W0 D0 D φ a w hI hko K Q hK => this ro W0 D0 D φ a w hI hko K Q fun s2 D' φ' a' w' ⟨r',e1,e2⟩ hI' => hK s2 D' φ' a' w' (by rw [e2,e1]) hI'
theorem call_local {s1 : ASt} {f : Operand} {args : Array Operand} {ts : Array TypeId} (ho : o.op = .call { callee := .value f,args,argTypes := ts }) (h1 : ∀ t ∈ opTmps o.op.operands.toList,s1.get t = s.get t) :
  s1.calleeS f = s.calleeS f /\ mapO s1.evS args.toList = mapO s.evS args.toList:= by
 refine ⟨?_,mapO_congr fun x hx => evS_local h1 (by simp [ho,Op.operands,Call.operands]; right; simpa using hx)⟩
 unfold ASt.calleeS
 rw [evS_local h1 (by simp [ho,Op.operands,Call.operands])]
theorem D_call {f : Operand} {args : Array Operand} {ts : Array TypeId} {g : FuncId} {caps ps : List PV} {p : PV} (hg : guardT ops s o = true) (ho : o.op = .call { callee := .value f,args,argTypes := ts }) (hd : dstB nt o.dst = true)
  (hf : s.calleeS f = some (g,caps)) (ha : mapO s.evS args.toList = some ps) (hc : ACalls P g (ps ++ caps) (fun r' => r' = .pv p)) : StepOK P nt ops o s ⟨some (.pv p),false,[],[]⟩ (s.putO o.dst (some (.pv p))) :=
 StepOK.mkP hg fun s1 h1 _ => op_call1 (r := .pv p) ho hd (by rw [(call_local ho h1).1]; exact hf) (by rw [(call_local ho h1).2]; exact ha) hc
theorem D_call_tup {f : Operand} {args : Array Operand} {ts : Array TypeId} {g : FuncId} {caps ps rs : List PV} (hg : guardT ops s o = true) (ho : o.op = .call { callee := .value f,args,argTypes := ts }) (hd : dstB nt o.dst = true)
  (hf : s.calleeS f = some (g,caps)) (ha : mapO s.evS args.toList = some ps) (hc : ACalls P g (ps ++ caps) (fun r' => r' = .tup rs)) : StepOK P nt ops o s ⟨some (.tup (rs.map .pv)),false,[],[]⟩ (s.putO o.dst (some (.tup (rs.map .pv)))) :=
 StepOK.mkP hg fun s1 h1 _ => op_call1 (r := .tup rs) ho hd (by rw [(call_local ho h1).1]; exact hf) (by rw [(call_local ho h1).2]; exact ha) hc
theorem ACalls.pure {f : FuncId} {ps : List PV} {e sz : Nat} {es : List (List PV)} (h : ACalls P f ps (fun r => r = .own e sz es)) : ACalls P f ps (fun r => r = .pv (.sl es)):= by
 refine ⟨h.1,fun W D vs hko hD hr => (h.2 W D vs hko hD hr).mono ?_⟩
 rintro en w' ⟨v,r,D',h1,h2,h3,h4,h5,h6,rfl⟩
 obtain ⟨xs,g1,g2,g3⟩ := h6
 have hlt : ∀ b,blk v = some b -> W.heap.size <= b /\ b < w'.heap.size:= by
  intro b hb
  rcases g1.2 with ⟨h,_⟩ | ⟨g,cap,cur,q1,q2,q3,_⟩
  ·rw [h] at hb; cases hb
  ·rw [q1] at hb; cases hb; exact ⟨q2,(Array.getElem?_eq_some_iff.1 q3).1⟩
 refine ⟨v,.pv (.sl es),fun b => D' b \/ blk v = some b,h1,h2,fun b hb => .inl (h3 b hb),fun b hb => ?_,fun b hb => ?_,(show Rep w' (fun b => D' b \/ blk v = some b) v (.sl es) from owns_rep g1 (g2.mono (fun _ _ => rfl) (fun _ h => .inl h)) (fun b hb => .inr hb)),rfl⟩
 ·rcases hb with hb | hb
  ·exact h4 b hb
  ·exact .inr (hlt b hb).1
 ·rcases hb with hb | hb
  ·exact h5 b hb
  ·exact (hlt b hb).2
theorem OpTo.ext {s1 sa sb : ASt} (h : OpTo P nt o s1 sa) (hg : ∀ t,sb.get t = sa.get t) (ho : ∀ id,sb.obj id = sa.obj id) (hn : sb.nxt = sa.nxt) : OpTo P nt o s1 sb :=
 fun ro W0 D0 D φ a w hI hko K Q hK => h ro W0 D0 D φ a w hI hko K Q fun D' φ' a' w' hI' => hK D' φ' a' w'
  (hI'.weaken (fun t x hx => by rw [<- hg]; exact hx) (fun id ob hob => by rw [<- ho]; exact hob) (fun t x hx => by rw [hn]; exact (hI'.env t x (by rw [<- hg]; exact hx)).1)
   (fun id ob hob => by rw [hn]; have := hI'.objs id ob (by rw [<- ho]; exact hob); exact ⟨this.1,this.2.1⟩))
theorem StepOK.mkE {s' : ASt} {x : Option FV} {mods : List Nat} (hg : guardT ops s o = true) (henv : s'.env = putE s.env o.dst x) (hn : s.nxt <= s'.nxt) (hm : ∀ id,id < s.nxt -> id ∉ mods -> s'.obj id = s.obj id)
  (h : ∀ (fr : List Nat) (s1 s2 : ASt),(∀ t ∈ opTmps o.op.operands.toList,s1.get t = s.get t) -> s1.nxt = s.nxt -> (∀ id ∈ fr,id < s.nxt /\ id ∉ mods) -> (∀ id,id ∉ fr -> s1.obj id = s.obj id) -> s2.env = putE s1.env o.dst x -> s2.nxt = s'.nxt →
   (∀ id,s2.obj id = if id ∈ fr then s1.obj id else s'.obj id) -> OpTo P nt o s1 s2) : StepOK P nt ops o s ⟨x,true,[],mods⟩ s' :=
 ⟨henv,fun h => (by cases h),fun _ => ⟨hn,hm⟩,fun h => (by cases h),fun _ fr s1 s2 h1 h2 h3 h4 h5 h6 h7 => GOpTo.of (by rw [guardT_local h1]; exact hg) (h fr s1 s2 (fun t ht => h1 t (needs_op ht)) h2 h3 h4 h5 h6 h7)⟩
theorem StepOK.mkL {s' : ASt} {x : Option FV} {mods : List Nat} (hg : guardT ops s o = true) (henv : s'.env = putE s.env o.dst x) (hn : s'.nxt = s.nxt) (hm : s'.objs = (mods.map fun id => (id,s'.obj id)) ++ s.objs)
  (h : ∀ (s1 : ASt),(∀ t ∈ opTmps o.op.operands.toList,s1.get t = s.get t) -> (∀ id ∈ mods,s1.obj id = s.obj id) -> OpTo P nt o s1 ⟨putE s1.env o.dst x,(mods.map fun id => (id,s'.obj id)) ++ s1.objs,s1.nxt⟩) : StepOK P nt ops o s ⟨x,false,[],mods⟩ s' :=
 ⟨henv,fun _ => ⟨hm,hn⟩,fun h => (by cases h),fun _ s1 h1 _ h3 => GOpTo.of (by rw [guardT_local h1]; exact hg) (h s1 (fun t ht => h1 t (needs_op ht)) h3),fun h => (by cases h)⟩
theorem D_call_own {f : Operand} {args : Array Operand} {ts : Array TypeId} {g : FuncId} {caps ps : List PV} {e sz : Nat} {es : List (List PV)} (hg : guardT ops s o = true) (ho : o.op = .call { callee := .value f,args,argTypes := ts }) (hd : dstB nt o.dst = true)
  (hf : s.calleeS f = some (g,caps)) (ha : mapO s.evS args.toList = some ps) (hc : ACalls P g (ps ++ caps) (fun r' => r' = .own e sz es)) :
  StepOK P nt ops o s ⟨some (.arr s.nxt),true,[],[]⟩ ((s.newObj (.arr e sz es)).putO o.dst (some (.arr s.nxt))):= by
 refine StepOK.mkE hg (by cases hd : o.dst <;> rfl) (by cases hd : o.dst <;> exact Nat.le_succ _) (fun id hid _ => ?_) fun fr s1 s2 h1 h2 h3 h4 h5 h6 h7 => ?_
 ·have : ((s.newObj (.arr e sz es)).putO o.dst (some (.arr s.nxt))).obj id = (s.newObj (.arr e sz es)).obj id := by cases hd : o.dst <;> rfl
  rw [this,ASt.obj_newObj,if_neg (by omega)]
 ·have h8 := op_call1 (r := .own e sz es) ho hd (by rw [(call_local ho h1).1]; exact hf) (by rw [(call_local ho h1).2]; exact ha) hc
  have e1 : s1.bind o.dst (.own e sz es) = (s1.newObj (.arr e sz es)).putO o.dst (some (.arr s1.nxt)) := rfl
  rw [e1] at h8
  refine h8.ext (fun t => ?_) (fun id => ?_) ?_
  ·show look s2.env t = look _ t
   rw [h5,<- h2]; cases hd : o.dst <;> rfl
  ·have q1 : ((s.newObj (.arr e sz es)).putO o.dst (some (.arr s.nxt))).obj id = (s.newObj (.arr e sz es)).obj id := by cases hd : o.dst <;> rfl
   have q2 : ((s1.newObj (.arr e sz es)).putO o.dst (some (.arr s1.nxt))).obj id = (s1.newObj (.arr e sz es)).obj id := by cases hd : o.dst <;> rfl
   rw [h7,q1,q2,ASt.obj_newObj,ASt.obj_newObj,h2]
   by_cases hid : id ∈ fr
   ·rw [if_pos hid,if_neg (by have := (h3 id hid).1; omega)]
   ·rw [if_neg hid,h4 id hid]
  ·rw [h6]; cases hd : o.dst <;> simp [ASt.putO,ASt.put,ASt.newObj,h2]
def ASt.srcS (s : ASt) (x : Operand) : Option (List (List PV)) := match s.ev x with
 | some (.pv (.sl ys)) => some ys
 | some .nils => some []
 | _ => none
theorem srcS_src {x : Operand} {ys : List (List PV)} (h : s.srcS x = some ys) : s.srcOf x = some ys:= by
 unfold ASt.srcS at h
 unfold ASt.srcOf
 split at h <;> simp_all
theorem D_append {t e id sz : Nat} {x0 x : Operand} {ti ei : TyI} {es ys : List (List PV)} (hT : TabOK P T) (hg : guardT ops s o = true) (ho : o.op = .call { callee := .builtin .append,args := #[x0,x],argTypes := #[t,t] }) (hd : dstB nt o.dst = true)
  (ht : T t = some ti) (hk : ti.kind = .slice e) (he : T e = some ei) (hpos : Nat.blt 0 ei.size = true) (hzl : Nat.beq ei.zero.length ei.size = true) (hx0 : s.ev x0 = some (.arr id)) (hob : s.obj id = some (.arr e sz es)) (hsz : Nat.beq sz ei.size = true)
  (hy : s.srcS x = some ys) (hyl : ∀ y ∈ ys,y.length = sz) (hmax : es.length + ys.length <= 1099511627776) (hby : Nat.ble ei.bytes 128 = true) :
  StepOK P nt ops o s ⟨some (.arr s.nxt),true,[],[id]⟩ (((s.setObj id none).newObj (.arr e sz (es ++ ys))).putO o.dst (some (.arr s.nxt))):= by
 refine StepOK.mkE hg (by cases hd : o.dst <;> rfl) (by cases hd : o.dst <;> exact Nat.le_succ _) (fun id' hid hm => ?_) fun fr s1 s2 h1 h2 h3 h4 h5 h6 h7 => ?_
 ·have : (((s.setObj id none).newObj (.arr e sz (es ++ ys))).putO o.dst (some (.arr s.nxt))).obj id' = ((s.setObj id none).newObj (.arr e sz (es ++ ys))).obj id' := by cases hd : o.dst <;> rfl
  rw [this,ASt.obj_newObj]
  have hn2 : (s.setObj id none).nxt = s.nxt := rfl
  rw [hn2,if_neg (by omega),ASt.obj_setObj,if_neg (fun e => hm (by simp [e]))]
 ·have hidf : id ∉ fr := fun hf => (h3 id hf).2 (by simp)
  have hob1 : s1.obj id = some (.arr e sz es) := by rw [h4 id hidf]; exact hob
  have hys : s1.srcS x = some ys := by unfold ASt.srcS; rw [ev_agree h1 (by simp [ho,Op.operands,Call.operands])]; exact hy
  have h8 := op_append (s := s1) hT ho hd ht hk he hpos hzl (by rw [ev_agree h1 (by simp [ho,Op.operands,Call.operands])]; exact hx0) hob1 hsz (srcS_src hys) hyl hmax hby
  refine h8.ext (fun t => ?_) (fun id' => ?_) ?_
  ·show look s2.env t = look _ t
   rw [h5,<- h2]; cases hd : o.dst <;> rfl
  ·have q1 : (((s.setObj id none).newObj (.arr e sz (es ++ ys))).putO o.dst (some (.arr s.nxt))).obj id' = ((s.setObj id none).newObj (.arr e sz (es ++ ys))).obj id' := by cases hd : o.dst <;> rfl
   have q2 : (((s1.setObj id none).newObj (.arr e sz (es ++ ys))).putO o.dst (some (.arr s1.nxt))).obj id' = ((s1.setObj id none).newObj (.arr e sz (es ++ ys))).obj id' := by cases hd : o.dst <;> rfl
   rw [h7,q1,q2,ASt.obj_newObj,ASt.obj_newObj,ASt.obj_setObj,ASt.obj_setObj]
   have n1 : (s.setObj id none).nxt = s.nxt := rfl
   have n2 : (s1.setObj id none).nxt = s.nxt := h2
   rw [n1,n2]
   by_cases hid : id' ∈ fr
   ·rw [if_pos hid,if_neg (by have := (h3 id' hid).1; omega),if_neg (fun e : id = id' => hidf (by rw [e]; exact hid))]
   ·rw [if_neg hid,h4 id' hid]
  ·rw [h6]; cases hd : o.dst <;> simp [ASt.putO,ASt.put,ASt.newObj,ASt.setObj,h2]
theorem op_buildSlice_p {t e n : Nat} {ps : Array (Nat × Operand)} {ti ei : TyI} {es : List (List PV)} (hT : TabOK P T) (ho : o.op = .buildSlice t n ps) (hd : dstB nt o.dst = true) (ht : T t = some ti) (hk : ti.kind = .slice e) (he : T e = some ei)
  (hpos : Nat.blt 0 ei.size = true) (hp : partsP s ei.size 0 ps.toList = some es) (hn : Nat.beq ps.toList.length n = true) (hmax : Nat.ble (n * ei.size) 100000 = true) : OpTo P nt o s (s.putO o.dst (some (.pv (.sl es)))):= by
 intro ro W0 D0 D φ a w hI hko K Q hK
 refine op_buildSlice hT ho hd ht hk he hpos hp hn hmax ro W0 D0 D φ a w hI hko K Q fun D' φ' a' w' hI' => ?_
 have hob : ((s.newObj (.arr e ei.size es)).putO o.dst (some (.arr s.nxt))).obj s.nxt = some (.arr e ei.size es):= by
  have : ((s.newObj (.arr e ei.size es)).putO o.dst (some (.arr s.nxt))).obj s.nxt = (s.newObj (.arr e ei.size es)).obj s.nxt := by cases hd : o.dst <;> rfl
  rw [this,ASt.obj_newObj,if_pos rfl]
 obtain ⟨D2,hF⟩ := hI'.freeze hob
 refine hK D2 φ' a' w' ?_
 have back : ∀ id ob,(s.putO o.dst (some (.pv (.sl es)))).obj id = some ob -> (((s.newObj (.arr e ei.size es)).putO o.dst (some (.arr s.nxt))).setObj s.nxt (some (.fro es))).obj id = some ob:= by
  intro id ob hob2
  have hob2' : s.obj id = some ob:= by
   have : (s.putO o.dst (some (.pv (.sl es)))).obj id = s.obj id := by cases hd : o.dst <;> rfl
   rw [<- this]; exact hob2
  have hlt := (hI.objs id ob hob2').1
  rw [ASt.obj_setObj,if_neg (by omega)]
  have : ((s.newObj (.arr e ei.size es)).putO o.dst (some (.arr s.nxt))).obj id = (s.newObj (.arr e ei.size es)).obj id := by cases hd : o.dst <;> rfl
  rw [this,ASt.obj_newObj,if_neg (by omega)]; exact hob2'
 refine ⟨hF.below,hF.size,hF.defers_of back,hF.dlt,hF.dof,hF.d0,?_,?_,?_,?_⟩
 ·intro tt x hx
  have old : s.get tt = some x -> x.lt s.nxt = true := fun h => (hI.env tt x h).1
  cases hdd : o.dst with
  | none =>
   rw [hdd] at hx hF
   exact ⟨old hx,(hF.env tt x hx).2⟩
  | some d =>
   rw [hdd] at hx hF
   simp only [ASt.putO,ASt.get_put] at hx
   by_cases htd : d = tt
   ·subst htd
    rw [if_pos rfl] at hx
    cases hx
    refine ⟨rfl,?_⟩
    obtain ⟨_,v,hv,hr⟩ := hF.env d (.arr s.nxt) (by show look _ _ = _; simp [ASt.putO,ASt.put,ASt.setObj,look_cons_eq])
    refine ⟨v,hv,?_⟩
    cases hr with
    | arr id m c ad hφ =>
     have : Rep w' D2 (φ' s.nxt) (.sl es) := (hF.objs s.nxt (.fro es) (by rw [ASt.obj_setObj,if_pos rfl])).2.2
     rw [hφ] at this
     exact .pv _ _ this
   ·rw [if_neg htd] at hx
    refine ⟨old hx,(hF.env tt x ?_).2⟩
    show look _ _ = _
    simp only [ASt.putO,ASt.put,ASt.setObj,ASt.newObj]
    rw [look_cons_ne _ _ htd]; exact hx
 ·intro id ob hob2
  have hob2' : s.obj id = some ob:= by
   have : (s.putO o.dst (some (.pv (.sl es)))).obj id = s.obj id := by cases hd : o.dst <;> rfl
   rw [<- this]; exact hob2
  have hlt := hI.objs id ob hob2'
  have hn2 : (s.putO o.dst (some (.pv (.sl es)))).nxt = s.nxt := by cases hd : o.dst <;> rfl
  rw [hn2]
  refine ⟨hlt.1,hlt.2.1,(hF.objs id ob ?_).2.2⟩
  rw [ASt.obj_setObj,if_neg (by omega)]
  have : ((s.newObj (.arr e ei.size es)).putO o.dst (some (.arr s.nxt))).obj id = (s.newObj (.arr e ei.size es)).obj id := by cases hd : o.dst <;> rfl
  rw [this,ASt.obj_newObj,if_neg (by omega)]; exact hob2'
 ·intro id ob b hob2
  have hob2' : s.obj id = some ob:= by
   have : (s.putO o.dst (some (.pv (.sl es)))).obj id = s.obj id := by cases hd : o.dst <;> rfl
   rw [<- this]; exact hob2
  have hlt := (hI.objs id ob hob2').1
  refine hF.own id ob b ?_
  rw [ASt.obj_setObj,if_neg (by omega)]
  have : ((s.newObj (.arr e ei.size es)).putO o.dst (some (.arr s.nxt))).obj id = (s.newObj (.arr e ei.size es)).obj id := by cases hd : o.dst <;> rfl
  rw [this,ASt.obj_newObj,if_neg (by omega)]; exact hob2'
 ·intro id ob id' ob' b h1 h2
  have back : ∀ id ob,(s.putO o.dst (some (.pv (.sl es)))).obj id = some ob -> (((s.newObj (.arr e ei.size es)).putO o.dst (some (.arr s.nxt))).setObj s.nxt (some (.fro es))).obj id = some ob:= by
   intro id ob hob2
   have hob2' : s.obj id = some ob:= by
    have : (s.putO o.dst (some (.pv (.sl es)))).obj id = s.obj id := by cases hd : o.dst <;> rfl
    rw [<- this]; exact hob2
   have hlt := (hI.objs id ob hob2').1
   rw [ASt.obj_setObj,if_neg (by omega)]
   have : ((s.newObj (.arr e ei.size es)).putO o.dst (some (.arr s.nxt))).obj id = (s.newObj (.arr e ei.size es)).obj id := by cases hd : o.dst <;> rfl
   rw [this,ASt.obj_newObj,if_neg (by omega)]; exact hob2'
  exact hF.sep id ob id' ob' b (back id ob h1) (back id' ob' h2)
def partsS (s : ASt) (sz : Nat) : Nat -> List (Nat × Operand) -> Option (List (List PV))
 | _,[] => some []
 | k,(i,x) :: r => match Nat.beq i k,s.evS x,partsS s sz (k + 1) r with
  | true,some p,some l => match Nat.beq (cellsP p).length sz,leafP (cellsP p) with
   | true,true => some (cellsP p :: l)
   | _,_ => none
  | _,_,_ => none
theorem partsS_P {sz : Nat} : ∀ {l : List (Nat × Operand)} {k : Nat} {es : List (List PV)},partsS s sz k l = some es -> partsP s sz k l = some es
 | [],_,_,h => h
 | (i,x) :: l,k,es,h => by
  unfold partsS at h
  unfold partsP
  split at h
  ·rename_i p l' h1 h2 h3
   rw [h1,evS_D h2,partsS_P h3]; exact h
  ·cases h
theorem partsS_local {s1 : ASt} {sz : Nat} {L : List Operand} (h : ∀ t ∈ opTmps L,s1.get t = s.get t) : ∀ {l : List (Nat × Operand)} {k : Nat},(∀ p ∈ l,p.2 ∈ L) -> partsS s1 sz k l = partsS s sz k l
 | [],_,_ => rfl
 | (i,x) :: l,k,hm => by
  unfold partsS
  rw [evS_local h (hm (i,x) (by simp)),partsS_local h (l := l) fun p hp => hm p (by simp [hp])]
theorem D_buildSlice {t e n : Nat} {ps : Array (Nat × Operand)} {ti ei : TyI} {es : List (List PV)} (hT : TabOK P T) (hg : guardT ops s o = true) (ho : o.op = .buildSlice t n ps) (hd : dstB nt o.dst = true) (ht : T t = some ti) (hk : ti.kind = .slice e) (he : T e = some ei)
  (hpos : Nat.blt 0 ei.size = true) (hp : partsS s ei.size 0 ps.toList = some es) (hn : Nat.beq ps.toList.length n = true) (hmax : Nat.ble (n * ei.size) 100000 = true) :
  StepOK P nt ops o s ⟨some (.pv (.sl es)),false,[],[]⟩ (s.putO o.dst (some (.pv (.sl es)))) :=
 StepOK.mkP hg fun s1 h1 _ => op_buildSlice_p hT ho hd ht hk he hpos (partsS_P (by rw [partsS_local h1 fun p hp => by simp [ho,Op.operands]; exact ⟨p.1,by simpa using hp⟩]; exact hp)) hn hmax
end
end Go.Abs
namespace Go.Abs
open Go.RowKit
set_option linter.unusedVariables false
section
variable {P : Program} {T : Nat -> Option TyI} {nt : Nat} {s : ASt} {o : Oper} {ops : Array Oper} {rest : List Oper} {Q : Exit -> ASt -> Prop}
theorem AL_gcases {j d : Nat} {b c : Bool} (hg : o.guard = some (j,b)) (hj : (ops[j]?).bind (·.dst) = some d) (hd : s.get d = some (.pv (.bool c))) (h1 : c = true -> AL P nt ops (o :: rest) Q (s.put d (some (.pv (.bool true)))))
  (h2 : c = false -> AL P nt ops (o :: rest) Q (s.put d (some (.pv (.bool false))))) : AL P nt ops (o :: rest) Q s := AL_cases hd h1 h2
theorem AL_gdec {j d : Nat} {b : Bool} {p : Prop} [Decidable p] (hg : o.guard = some (j,b)) (hj : (ops[j]?).bind (·.dst) = some d) (hd : s.get d = some (.pv (.bool (decide p)))) (h1 : p -> AL P nt ops (o :: rest) Q (s.put d (some (.pv (.bool true)))))
  (h2 : ¬ p -> AL P nt ops (o :: rest) Q (s.put d (some (.pv (.bool false))))) : AL P nt ops (o :: rest) Q s := AL_cases hd (fun h => h1 (of_decide_eq_true h)) (fun h => h2 (of_decide_eq_false h))
theorem AL_gnot {j d : Nat} {b : Bool} {p : Prop} [Decidable p] (hg : o.guard = some (j,b)) (hj : (ops[j]?).bind (·.dst) = some d) (hd : s.get d = some (.pv (.bool (!decide p)))) (h1 : ¬ p -> AL P nt ops (o :: rest) Q (s.put d (some (.pv (.bool true)))))
  (h2 : p -> AL P nt ops (o :: rest) Q (s.put d (some (.pv (.bool false))))) : AL P nt ops (o :: rest) Q s := AL_cases hd (fun h => h1 (by simpa using h)) (fun h => h2 (by simpa using h))
theorem AW_if {c : Nat} {x y : Code} {p : Prop} [Decidable p] (hc : s.get c = some (.pv (.bool (decide p)))) (h1 : p -> AW P nt x Q s) (h2 : ¬ p -> AW P nt y Q s) : AW P nt (.cond (.tmp c) x y) Q s :=
 AW_cond hc (fun h => h1 (of_decide_eq_true h)) (fun h => h2 (of_decide_eq_false h))
theorem op_callB {f : Operand} {args : Array Operand} {ts : Array TypeId} {g : FuncId} {caps ps : List PV} {r : RV} (ho : o.op = .call { callee := .value f,args,argTypes := ts }) (hd : dstB nt o.dst = true)
  (hf : s.callee f = some (g,caps)) (ha : mapO s.evB args.toList = some ps) (hc : ACalls P g (ps ++ caps) (fun r' => r' = r)) (hfl : r.flat = true) : OpTo P nt o s (s.bind o.dst r):= by
 have := op_call ho hd hf ha hc (fun r' hr' => by subst hr'; exact hfl)
 exact OpToS.one fun ro W0 D0 D φ a w hI hko K Q hK => this ro W0 D0 D φ a w hI hko K Q fun s2 D' φ' a' w' ⟨r',e1,e2⟩ hI' => hK s2 D' φ' a' w' (by rw [e2,e1]) hI'
end
end Go.Abs
namespace Go.Abs
open Go.RowKit
set_option linter.unusedVariables false
section
variable {P : Program} {T : Nat -> Option TyI} {nt : Nat} {s : ASt} {o : Oper} {ops : Array Oper} {rest : List Oper} {Q : Exit -> ASt -> Prop}
theorem TyOK.array {t : Nat} {i : TyI} (h : TyOK P t i) {e n : Nat} (hk : i.kind = .array e n) : P.underlying t = some (.array n e):= by
 obtain ⟨d,h1,h2,_⟩ := h.und
 rw [hk] at h2
 cases d <;> simp [kindB] at h2
 rw [h1,h2.1,h2.2]
theorem AL_do2 (hg : guardT ops s o = true) (h : ∃ s',OpTo P nt o s s' /\ AL P nt ops rest Q s') : AL P nt ops (o :: rest) Q s:= by
 obtain ⟨s',h1,h2⟩ := h
 exact AL_do hg h1 h2
theorem op_mkmeth {f : FuncId} {first : Array Operand} {ps : List PV} (ho : o.op = .makeFunc (.func f) first #[]) (hd : dstB nt o.dst = true) (hc : mapO s.evD first.toList = some ps) : OpTo P nt o s (s.putO o.dst (some (.pv (.meth f ps)))) :=
 OpTo.value hd fun W0 D0 D φ a w hI => by
  have h1 := evD_args hI hc
  refine ⟨.func (.func f) (first.map a.eval) #[],by simp [execOp,ho,Instr.makeFunc],fun x' hx' => ?_⟩
  cases hx'
  exact ⟨rfl,.pv _ _ (.meth f _ _ h1.1 h1.2)⟩
theorem op_callM {f : Operand} {args : Array Operand} {ts : Array TypeId} {g : FuncId} {first ps : List PV} {r : RV} (ho : o.op = .call { callee := .value f,args,argTypes := ts }) (hd : dstB nt o.dst = true)
  (hf : s.evD f = some (.meth g first)) (ha : mapO s.evD args.toList = some ps) (hc : ACalls P g (first ++ ps) (fun r' => r' = r)) : OpTo P nt o s (s.bind o.dst r):= by
 refine OpToS.one ?_
 intro ro W0 D0 D φ a w hI hko K Q hK
 have hfr : ∃ vs,a.eval f = .func (.func g) vs #[] /\ RepL w D vs first:= by
  have := hI.evD hf
  generalize a.eval f = v at this
  cases this with
  | meth f vs cs hl hr => exact ⟨vs,rfl,hl,hr⟩
 obtain ⟨vs,hv,hvr⟩ := hfr
 have hrun : (execOp a.eval o).run P w = .ok (.enter g (vs ++ args.map a.eval)) w:= by
  simp only [execOp,ho,resolve,hv,Deferred.ofValue,Sem.run_bind,Sem.run_pure,Result.andThen_ok,invoke,Array.append_empty]
  exact hc.1 _ _
 refine wpIn_of (by rw [ho]; intro c hc; cases hc) ?_
 unfold Oper.wp
 rw [hrun]
 refine (hc.2 w D _ (hI.kok hko (fun _ hb => hb) (fun _ _ h => h)) hI.dlt (hvr.append (evD_args hI ha))).mono ?_
 rintro e w' ⟨v,r',D',rfl,h2,h3,h4,h5,h6,rfl⟩
 obtain ⟨φ',hI'⟩ := hI.bind h2 h3 (fun b hb => by
  rcases h4 b hb with h | h
  ·exact .inl h
  ·exact .inr ⟨h5 b hb,h⟩) h6 o.dst hd
 exact hK _ _ _ _ _ rfl hI'
theorem op_build_arr {t e n : Nat} {ps : Array (Nat × Operand)} {i ei : TyI} {fps : List (Nat × FV)} {cs : List FV} (hT : TabOK P T) (ho : o.op = .build t ps) (hd : dstB nt o.dst = true) (ht : T t = some i)
  (hk : i.kind = .array e n) (he : T e = some ei) (hp : partsF s ps.toList = some fps) (hf : fillF (fun j => some (j * ei.size,ei.size)) i.zero fps = some cs) : OpTo P nt o s (s.putO o.dst (some (.agg cs))) :=
 OpTo.value hd fun W0 D0 D φ a w hI => by
  have u1 := (hT.ty ht).array hk
  obtain ⟨info,z,i1,i2,i3,i4,i5⟩ := (hT.ty ht).info
  obtain ⟨einfo,ez,j1,j2,j3,j4,j5⟩ := (hT.ty he).info
  obtain ⟨z1,z2,z3⟩ := zrepL_ok i5
  obtain ⟨p1,p2⟩ := partsF_ok hp
  obtain ⟨ca,g1,g2,g3,g4⟩ := fill_rep (w := w) (D := D) (φ := φ) (n := s.nxt) (fun j => some (j * ei.size,ei.size)) (ps.toList.map fun (i,x) => (i,a.eval x)) fps z.cells i.zero cs (by simpa using p1)
   (fun j i v i' x hv hx => by
    rw [List.getElem?_map,Option.map_eq_some_iff] at hv
    obtain ⟨⟨i2,x2⟩,h1,h2⟩ := hv
    simp only [Prod.mk.injEq] at h2
    obtain ⟨rfl,rfl⟩ := h2
    obtain ⟨h3,h4⟩ := p2 j _ _ _ _ h1 hx
    exact ⟨h3,(hI.ev h4).1,(hI.ev h4).2⟩)
   (by simpa using z1) (z2 _) (fun j u y hu hy => (z3 j u y (by simpa using hu) hy).2 w D φ) hf
  have hrun : (Instr.build t (ps.map fun (i,x) => (i,a.eval x))).run P w = .ok (.agg ca) w:= by
   refine run_build (P := P) w t _ ca ?_
   unfold Program.built
   simp only [i1,u1,i4,j1,j2,Array.toList_map]
   exact g1
  exact ⟨.agg ca,by simp only [execOp,ho,Sem.run_bind,hrun,Result.andThen_ok,Sem.run_pure],fun x' hx' => by cases hx'; exact ⟨by simpa [FV.lt] using g3,.agg ca cs g2 g4⟩⟩
theorem op_index_arr {t e n : Nat} {x ix : Operand} {i ei : TyI} {cs : List FV} {y : FV} {k : IntKind} {m : Int} (hT : TabOK P T) (ho : o.op = .index t x ix) (hd : dstB nt o.dst = true) (ht : T t = some i)
  (hk : i.kind = .array e n) (he : T e = some ei) (hag : ei.agg = false) (hone : Nat.beq ei.size 1 = true) (hx : s.ev x = some (.agg cs)) (hi : s.ev ix = some (.pv (.int k m))) (h0 : 0 <= m) (hn : m < n) (hy : cs[m.toNat]? = some y) : OpTo P nt o s (s.putO o.dst (some y)) :=
 OpTo.value hd fun W0 D0 D φ a w hI => by
  obtain ⟨hlt,hr⟩ := hI.ev hx
  generalize hv : a.eval x = v at hr
  cases hr with
  | agg vs cs hl hr =>
   have u1 := (hT.ty ht).array hk
   have hm : m.toNat < vs.size := by rw [hl]; exact (List.getElem?_eq_some_iff.1 hy).1
   have h1 := Nat.eq_of_beq_eq_true hone
   refine ⟨vs[m.toNat],?_,fun x' hx' => ?_⟩
   ·simp [execOp,ho,hv,hI.ev_int hi,Instr.index,asIntOf,underlying,u1,h0,hn,(hT.ty he).run_size w,part,(hT.ty he).run_agg w,hag,h1,hm]
   ·cases hx'
    exact ⟨FV.lt_mem (by simpa [FV.lt] using hlt) (List.mem_of_getElem? hy),hr m.toNat _ _ (by simp [hm]) hy⟩
theorem op_indexAddr_box {t e n id off : Nat} {x ix : Operand} {i ei : TyI} {k : IntKind} {m : Int} (hT : TabOK P T) (ho : o.op = .indexAddr t x ix) (hd : dstB nt o.dst = true) (ht : T t = some i)
  (hk : i.kind = .array e n) (he : T e = some ei) (hx : s.ev x = some (.box id off)) (hi : s.ev ix = some (.pv (.int k m))) (h0 : 0 <= m) (hn : m < n) : OpTo P nt o s (s.putO o.dst (some (.box id (off + m.toNat * ei.size)))) :=
 OpTo.value hd fun W0 D0 D φ a w hI => by
  obtain ⟨hlt,hr⟩ := hI.ev hx
  generalize hv : a.eval x = v at hr
  cases hr with
  | box id off b hφ =>
   have u1 := (hT.ty ht).array hk
   refine ⟨.pointer (some ((⟨b,off,none⟩ : Addr).add (m.toNat * ei.size))),?_,fun x' hx' => ?_⟩
   ·simp [execOp,ho,hv,hI.ev_int hi,Instr.indexAt,Instr.sureAddr,asIntOf,underlying,u1,h0,hn,(hT.ty he).run_size w]
   ·cases hx'
    refine ⟨by simpa [FV.lt] using hlt,?_⟩
    rw [addr_add]
    exact .box _ _ _ hφ
theorem leafP_mem : ∀ {cs : List PV} {x : PV},leafP cs = true -> x ∈ cs -> x.leaf = true
 | [],_,_,hp => by cases hp
 | _ :: _,_,h,hp => by
  simp only [leafP,Bool.and_eq_true] at h
  cases hp with
  | head => exact h.1
  | tail _ hp => exact leafP_mem h.2 hp
theorem op_store_aptr {t id e sz k off : Nat} {x y : Operand} {i : TyI} {es : List (List PV)} {el : List PV} {p : PV} (hT : TabOK P T) (ho : o.op = .store t x y) (hd : o.dst = none) (ht : T t = some i) (hx : s.ev x = some (.aptr id sz k off)) (hob : s.obj id = some (.arr e sz es))
  (hel : es[k]? = some el) (hy : s.evD y = some p) (hlf : leafP (cellsP p) = true) (hsz : Nat.beq (cellsP p).length i.size = true) (hfit : Nat.ble (off + (cellsP p).length) sz = true) : OpTo P nt o s (s.setObj id (some (.arr e sz (es.set k (splice el off (cellsP p)))))):= by
 intro ro W0 D0 D φ a w hI hko K Q hK
 obtain ⟨_,hrx⟩ := hI.ev hx
 have hry := hI.evD hy
 obtain ⟨c1,c2⟩ := cellsP_rep hry
 generalize hv : a.eval x = v at hrx
 cases hrx with
 | aptr id sz k off g n c hφ =>
  obtain ⟨hid,holt,xs,h1,h2⟩ := hI.objs id _ hob
  have hk : k < es.length := (List.getElem?_eq_some_iff.1 hel).1
  have hell : el.length = sz := h2.1 k el hel
  have hsz' := Nat.eq_of_beq_eq_true hsz
  have hfit' := Nat.le_of_ble_eq_true hfit
  rw [hφ] at h1
  obtain ⟨hxl,h1⟩ := h1
  rcases h1 with ⟨h,h0⟩ | ⟨g',cap,cur,h,hg,hh,hc,hm,hsc,htk⟩
  ·omega
  ·cases h
   have hle : es.length * sz <= c * sz := Nat.mul_le_mul_right _ hc
   have hks : k * sz + sz <= es.length * sz:= by
    have := Nat.mul_le_mul_right sz (Nat.succ_le_of_lt hk)
    rw [Nat.succ_mul] at this; exact this
   have hone : ∀ u ∈ (a.eval y).cells.toList,u.oneCell' = true:= by
    intro u hu
    obtain ⟨j,hj⟩ := List.mem_iff_getElem?.1 hu
    have hj' : (a.eval y).cells[j]? = some u := by simpa using hj
    have hjl : j < (cellsP p).length := by rw [<- c1]; exact (Array.getElem?_eq_some_iff.1 hj').1
    exact (c2 j u _ hj' (by simp [hjl])).oneCell (leafP_mem hlf (List.getElem_mem hjl))
   have hst := run_storeCells_at P g (k * sz + off) e (a.eval y).cells.toList 0 cur w hh (by simp; omega) hone
   simp only [Nat.add_zero] at hst
   have hrun : (execOp a.eval o).run P w = .ok .skip (w.setRow g (splice cur.toList (k * sz + off) (a.eval y).cells.toList).toArray):= by
    have hsize : ¬ (a.eval y).cells.size ≠ i.size := by omega
    simp only [execOp,ho,hv,Instr.storeAt,Instr.sureAddr,Sem.run_bind,Sem.run_pure,Result.andThen_ok,storeVar,(hT.ty ht).run_size w,if_neg hsize,hst]
    rfl
   refine wpIn_of (by rw [ho]; intro c hc; cases hc) ?_
   unfold Oper.wp
   rw [hrun]
   have hput : a.put o.dst undef = a := by rw [hd]; rfl
   show K (a.put o.dst undef) _
   rw [hput]
   have hok : ∀ e' sz' es',oblk φ id (.arr e' sz' es') g := by intros; simp [oblk,hφ,blk]
   have hDk : ∀ b',D b' -> (w.setRow g (splice cur.toList (k * sz + off) (a.eval y).cells.toList).toArray).heap[b']? = w.heap[b']?:= by
    intro b' hb'
    exact setRow_other _ _ _ _ (fun e => (hI.own id _ g hob (hok _ _ _)).1 (e ▸ hb'))
   refine hK D φ a _ (hI.chg id (fun j => j = id) ⟨rfl,rfl,rfl,by simp,fun k hk => absurd hk (Nat.not_lt_zero _)⟩ ?_ (fun _ h => h) (fun b' hb' => .inl hb') (fun _ _ => rfl) (Nat.le_refl _) (fun t x hx => hx) ?_ ?_)
   ·intro b' _ hne
    exact setRow_other _ _ _ _ (fun e => hne id _ rfl hob (by rw [e]; exact hok _ _ _))
   ·intro id' ob' hne ho'
    rw [ASt.obj_setObj,if_neg (fun e => hne e.symm)] at ho'
    exact ⟨hne,ho'⟩
   ·intro ob' ho'
    rw [ASt.obj_setObj,if_pos rfl] at ho'
    cases ho'
    have hsl : (splice cur.toList (k * sz + off) (a.eval y).cells.toList).length = cur.size:= by
     rw [splice_length _ _ _ (by simp; omega)]; simp
    have hset : ∀ i2,(es.set k (splice el off (cellsP p)))[i2]? = if k = i2 then some (splice el off (cellsP p)) else es[i2]? := fun i2 => by
     rw [List.getElem?_set]; split
     ·rename_i h; subst h; first | rfl | (rw [if_pos hk])
     ·rfl
    have hlen2 : ∀ (i2 : Nat) (e2 : List PV),(es.set k (splice el off (cellsP p)))[i2]? = some e2 -> e2.length = sz := fun i2 e2 he2 => by
     rw [hset] at he2
     split at he2
     ·cases he2; rw [splice_length _ _ _ (by omega)]; exact hell
     ·exact h2.1 i2 e2 he2
    have hcl : (a.eval y).cells.toList.length = (cellsP p).length := by simp [c1]
    refine ⟨hid,rfl,⟨(splice cur.toList (k * sz + off) (a.eval y).cells.toList).take (es.length * sz),⟨?_,.inr ⟨g,c,_,?_,hg,setRow_heap w g cur _ e _ hh,?_,hm,?_,?_⟩⟩,?_,?_⟩,?_⟩
    ·rw [List.length_take,hsl,hsc,List.length_set]; exact Nat.min_eq_left hle
    ·rw [hφ]; simp
    ·simpa using hc
    ·simp [hsl,hsc]
    ·simp
    ·intro i2 e2 he2
     exact hlen2 i2 e2 he2
    ·intro i2 j e2 q he2 hq
     have hil : i2 < es.length:= by
      have := (List.getElem?_eq_some_iff.1 he2).1; simpa using this
     have hjl : j < sz:= by
      rw [<- hlen2 i2 e2 he2]; exact (List.getElem?_eq_some_iff.1 hq).1
     have his : i2 * sz + sz <= es.length * sz:= by
      have := Nat.mul_le_mul_right sz (Nat.succ_le_of_lt hil)
      rw [Nat.succ_mul] at this; exact this
     have hget : ∀ (l : List Value),(l.take (es.length * sz))[i2 * sz + j]? = l[i2 * sz + j]? := fun l => by rw [List.getElem?_take,if_pos (by omega)]
     rw [hget,splice_get _ _ _ (by simp; omega),hcl]
     rw [hset] at he2
     split at he2
     ·rename_i hki
      subst hki
      ·cases he2
       rw [splice_get _ _ _ (by omega)] at hq
       by_cases hin : off <= j /\ j < off + (cellsP p).length
       ·rw [if_pos hin] at hq
        rw [if_pos (by omega)]
        have hj2 : j - off < (a.eval y).cells.size := by omega
        refine ⟨leafP_mem hlf (List.mem_of_getElem? hq),(a.eval y).cells[j - off],?_,?_⟩
        ·rw [show k * sz + j - (k * sz + off) = j - off by omega]; simp [hj2]
        ·exact (c2 (j - off) _ q (by simp [hj2]) hq).mono hDk (fun _ h => h)
       ·rw [if_neg hin] at hq
        rw [if_neg (by omega)]
        obtain ⟨r1,u,r2,r3⟩ := h2.2 k j el q hel hq
        refine ⟨r1,u,?_,r3.mono hDk (fun _ h => h)⟩
        rw [<- htk,hget] at r2; exact r2
     ·rename_i hki
      have hne : ¬ (k * sz + off <= i2 * sz + j /\ i2 * sz + j < k * sz + off + (cellsP p).length):= by
       rintro ⟨q1,q2⟩
       rcases Nat.lt_or_gt_of_ne hki with h | h
       ·have := Nat.mul_le_mul_right sz (Nat.succ_le_of_lt h)
        rw [Nat.succ_mul] at this; omega
       ·have := Nat.mul_le_mul_right sz (Nat.succ_le_of_lt h)
        rw [Nat.succ_mul] at this; omega
      rw [if_neg hne]
      obtain ⟨r1,u,r2,r3⟩ := h2.2 i2 j e2 q he2 hq
      refine ⟨r1,u,?_,r3.mono hDk (fun _ h => h)⟩
      rw [<- htk,hget] at r2; exact r2
    ·intro b' hb'
     have hb2 : oblk φ id (.arr e sz es) b' := hb'
     obtain ⟨g1,g2,g3⟩ := hI.own id _ b' hob hb2
     exact ⟨g1,by simpa using g3,.inr ⟨id,_,rfl,hob,hb2⟩⟩
theorem Inv.toPure {W0 : World} {D0 : Bas} {D : Nat -> Prop} {φ : Nat -> Value} {a : Act} {w : World} (hI : Inv W0 D0 nt s D φ a w) {t id e sz : Nat} {es : List (List PV)} (hx : s.get t = some (.arr id)) (hob : s.obj id = some (.arr e sz es)) :
  ∃ D',Inv W0 D0 nt ((s.setObj id none).put t (some (.pv (.sl es)))) D' φ a w:= by
 obtain ⟨D',hF⟩ := hI.freeze hob
 have back : ∀ id' ob',((s.setObj id none).put t (some (.pv (.sl es)))).obj id' = some ob' -> (s.setObj id (some (.fro es))).obj id' = some ob':= by
  intro id' ob' h
  have h2 : (s.setObj id none).obj id' = some ob' := h
  rw [ASt.obj_setObj] at h2 ⊢
  split at h2
  ·cases h2
  ·rename_i hne; rw [if_neg hne]; exact h2
 refine ⟨D',⟨hF.below,hF.size,hF.defers_of back,hF.dlt,hF.dof,hF.d0,?_,fun id' ob' h => hF.objs id' ob' (back _ _ h),fun id' ob' b h => hF.own id' ob' b (back _ _ h),
  fun id1 ob1 id2 ob2 b h1 h2 => hF.sep id1 ob1 id2 ob2 b (back _ _ h1) (back _ _ h2)⟩⟩
 ·intro t' x' hg
  rw [ASt.get_put] at hg
  by_cases ht : t = t'
  ·subst ht
   rw [if_pos rfl] at hg
   cases hg
   refine ⟨rfl,?_⟩
   obtain ⟨_,v,hv,hr⟩ := hF.env t (.arr id) hx
   refine ⟨v,hv,?_⟩
   cases hr with
   | arr id m c ad hφ =>
    have : Rep w D' (φ id) (.sl es) := (hF.objs id (.fro es) (by rw [ASt.obj_setObj,if_pos rfl])).2.2
    rw [hφ] at this
    exact .pv _ _ this
  ·rw [if_neg ht] at hg
   exact hF.env t' x' hg
theorem AL_pure {t id e sz : Nat} {es : List (List PV)} (hx : s.get t = some (.arr id)) (hob : s.obj id = some (.arr e sz es)) (h : AL P nt ops rest Q ((s.setObj id none).put t (some (.pv (.sl es))))) : AL P nt ops rest Q s:= by
 intro ro W0 D0 D φ a w hr hI
 obtain ⟨D',hI'⟩ := hI.toPure hx hob
 exact h ro W0 D0 D' φ a w hr hI'
theorem AW_pure {c : Code} {t id e sz : Nat} {es : List (List PV)} (hx : s.get t = some (.arr id)) (hob : s.obj id = some (.arr e sz es)) (h : AW P nt c Q ((s.setObj id none).put t (some (.pv (.sl es))))) : AW P nt c Q s:= by
 intro ro W0 D0 D φ a w hr hI
 obtain ⟨D',hI'⟩ := hI.toPure hx hob
 exact h ro W0 D0 D' φ a w hr hI'
theorem AW_res {c : Code} (h : AW P nt c Q (s.newObj .res)) : AW P nt c Q s:= by
 intro ro W0 D0 D φ a w hr hI
 refine h ro W0 D0 D (addH φ s.nxt (.bool false)) a w hr ?_
 exact hI.new (Below.refl _ _) (fun _ h => h) (fun _ h => .inl h) .res (.bool false) rfl (addH_new _ _ _) (by intro b hb; simp [blk] at hb)
theorem FRep.noRes {w : World} {D : Nat -> Prop} {φ : Nat -> Value} {F : Nat} (hF : φ F = .bool false) {ρ : Nat -> Nat} (hρ : ∀ n,n ≠ F -> ρ n = n) {v : Value} {x : FV} (h : FRep w D φ v x) : x.ren ρ = x:= by
 induction h with
 | pv v p h => rfl
 | box id off b h => simp only [FV.ren]; rw [hρ id (by rintro rfl; rw [hF] at h; cases h)]
 | nils => rfl
 | arr id n c a h => simp only [FV.ren]; rw [hρ id (by rintro rfl; rw [hF] at h; cases h)]
 | aptr id sz i off g n c h => simp only [FV.ren]; rw [hρ id (by rintro rfl; rw [hF] at h; cases h)]
 | mp id r h => simp only [FV.ren]; rw [hρ id (by rintro rfl; rw [hF] at h; cases h)]
 | yld id l h => simp only [FV.ren]; rw [hρ id (by rintro rfl; rw [hF] at h; cases h)]
 | sub id sz lo n g m c h hc => simp only [FV.ren]; rw [hρ id (by rintro rfl; rw [hF] at h; cases h)]
 | fn f vs cs hl hr ih =>
  simp only [FV.ren,FV.renL_eq]
  congr 1
  refine List.ext_getElem? fun j => ?_
  rw [List.getElem?_map]
  cases hj : cs[j]? with
  | none => rfl
  | some y =>
        have hv : j < vs.size := by rw [hl]; exact (List.getElem?_eq_some_iff.1 hj).1
        exact congrArg some (ih j vs[j] y (by simp [hv]) hj)
 | agg vs cs hl hr ih =>
  simp only [FV.ren,FV.renL_eq]
  congr 1
  refine List.ext_getElem? fun j => ?_
  rw [List.getElem?_map]
  cases hj : cs[j]? with
  | none => rfl
  | some y =>
        have hv : j < vs.size := by rw [hl]; exact (List.getElem?_eq_some_iff.1 hj).1
        exact congrArg some (ih j vs[j] y (by simp [hv]) hj)
 | tup vs cs hl hr ih =>
  simp only [FV.ren,FV.renL_eq]
  congr 1
  refine List.ext_getElem? fun j => ?_
  rw [List.getElem?_map]
  cases hj : cs[j]? with
  | none => rfl
  | some y =>
        have hv : j < vs.size := by rw [hl]; exact (List.getElem?_eq_some_iff.1 hj).1
        exact congrArg some (ih j vs[j] y (by simp [hv]) hj)
theorem op_alloc_res {t F : Nat} {i : TyI} (hT : TabOK P T) (ho : o.op = .alloc t) (hd : dstB nt o.dst = true) (ht : T t = some i) (hF : s.obj F = some .res) : OpTo P nt o s ((s.setObj F (some (.box i.zero))).putO o.dst (some (.box F 0))):= by
 intro ro W0 D0 D φ a w hI hko K Q hK
 refine op_alloc hT ho hd ht ro W0 D0 D φ a w hI hko K Q fun D' φ' a' w' hI' => ?_
 have hFφ : φ F = .bool false := (hI.objs F .res hF).2.2
 have hFn : F < s.nxt := (hI.objs F .res hF).1
 let ρ : Nat -> Nat := fun n => if n = F then s.nxt else n
 have hρ : ∀ n,n ≠ F -> ρ n = n := fun n hn => if_neg hn
 have hρF : ρ F = s.nxt := if_pos rfl
 obtain ⟨z1,z2,z3⟩ := zrepL_ok (hT.ty ht).info.choose_spec.choose_spec.2.2.2.2
 have hzr : FV.renL ρ i.zero = i.zero:= by
  rw [FV.renL_eq]
  refine List.ext_getElem? fun j => ?_
  rw [List.getElem?_map]
  cases hj : i.zero[j]? with
  | none => rfl
  | some y =>
   have hlt : j < (hT.ty ht).info.choose_spec.choose.cells.toList.length := by rw [z1]; exact (List.getElem?_eq_some_iff.1 hj).1
   exact congrArg some (((z3 j _ y (List.getElem?_eq_some_iff.2 ⟨hlt,rfl⟩) hj).2 w D φ).noRes hFφ hρ)
 have hle : LeR ρ ((s.newObj (.box i.zero)).putO o.dst (some (.box s.nxt 0))) ((s.setObj F (some (.box i.zero))).putO o.dst (some (.box F 0))):= by
  have hn1 : ((s.setObj F (some (.box i.zero))).putO o.dst (some (.box F 0))).nxt = s.nxt := by cases o.dst <;> rfl
  have ho1 : ∀ id,((s.setObj F (some (.box i.zero))).putO o.dst (some (.box F 0))).obj id = (s.setObj F (some (.box i.zero))).obj id := by intro id; cases o.dst <;> rfl
  have ho2 : ∀ id,((s.newObj (.box i.zero)).putO o.dst (some (.box s.nxt 0))).obj id = (s.newObj (.box i.zero)).obj id := by intro id; cases o.dst <;> rfl
  refine ⟨fun tt x hx => ?_,fun id ob hob => ?_,fun id1 ob1 id2 ob2 h1 h2 he => ?_⟩
  ·rw [hn1]
   have old : s.get tt = some x -> s.get tt = some (x.ren ρ) /\ x.lt s.nxt = true := fun h => by
    obtain ⟨g1,v,_,g3⟩ := hI.env tt x h
    exact ⟨by rw [g3.noRes hFφ hρ]; exact h,g1⟩
   cases hdd : o.dst with
   | none => rw [hdd] at hx; exact old hx
   | some d =>
    rw [hdd] at hx
    simp only [ASt.putO,ASt.get_put] at hx ⊢
    by_cases hdt : d = tt
    ·rw [if_pos hdt] at hx ⊢
     cases hx
     exact ⟨by simp [FV.ren,hρF],by simp [FV.lt]; exact hFn⟩
    ·rw [if_neg hdt] at hx ⊢; exact old hx
  ·rw [hn1,ho2]
   rw [ho1,ASt.obj_setObj] at hob
   rw [ASt.obj_newObj]
   by_cases hid : F = id
   ·subst hid
    rw [if_pos rfl] at hob
    cases hob
    rw [hρF,if_pos rfl]
    refine ⟨by simp only [AObj.ren,hzr],hFn,?_⟩
    exact z2 s.nxt
   ·rw [if_neg hid] at hob
    obtain ⟨g1,g2,g3⟩ := hI.objs id ob hob
    rw [hρ id (fun e => hid e.symm),if_neg (by omega)]
    refine ⟨?_,g1,g2⟩
    rw [hob]
    congr 1
    cases ob with
    | box cs =>
     obtain ⟨b,vs,e,h1,h2,h3,h4⟩ := g3
     simp only [AObj.ren,FV.renL_eq]
     congr 1
     refine List.ext_getElem? fun j => ?_
     rw [List.getElem?_map]
     cases hj : cs[j]? with
     | none => rfl
     | some y =>
      have hlt : j < vs.size := by rw [h3]; exact (List.getElem?_eq_some_iff.1 hj).1
      exact (congrArg some ((h4 j vs[j] y (by simp [hlt]) hj).2.noRes hFφ hρ)).symm
    | anc v x => exact congrArg (AObj.anc v) (FRep.noRes hFφ hρ g3).symm
    | lst e sz es x ps =>
     obtain ⟨_,xs,u,_,_,_,h4⟩ := g3
     exact congrArg (fun y => AObj.lst e sz es y ps) (FRep.noRes hFφ hρ h4).symm
    | _ => rfl
  ·rw [ho1,ASt.obj_setObj] at h1 h2
   have lt1 : id1 < s.nxt:= by
    by_cases h : F = id1
    ·omega
    ·rw [if_neg h] at h1; exact (hI.objs id1 ob1 h1).1
   have lt2 : id2 < s.nxt:= by
    by_cases h : F = id2
    ·omega
    ·rw [if_neg h] at h2; exact (hI.objs id2 ob2 h2).1
   simp only [ρ] at he
   split at he <;> split at he <;> omega
 obtain ⟨φ2,hI2⟩ := Le.inv ⟨ρ,hle⟩ hI'
 exact hK D' φ2 a' w' hI2
theorem D_alloc {t F : Nat} {i : TyI} (hT : TabOK P T) (hg : guardT ops s o = true) (ho : o.op = .alloc t) (hd : dstB nt o.dst = true) (ht : T t = some i) (hF : s.obj F = some .res) :
  StepOK P nt ops o s ⟨some (.box F 0),false,[],[F]⟩ ((s.setObj F (some (.box i.zero))).putO o.dst (some (.box F 0))):= by
 have hb : ((s.setObj F (some (.box i.zero))).putO o.dst (some (.box F 0))).obj F = some (.box i.zero):= by
  have : ((s.setObj F (some (.box i.zero))).putO o.dst (some (.box F 0))).obj F = (s.setObj F (some (.box i.zero))).obj F := by cases o.dst <;> rfl
  rw [this,ASt.obj_setObj,if_pos rfl]
 refine StepOK.mkL hg (by cases hd : o.dst <;> rfl) (by cases hd : o.dst <;> rfl) (by simp only [List.map_cons,List.map_nil,hb]; cases hd : o.dst <;> rfl) fun s1 h1 h2 => ?_
 have h8 := op_alloc_res (s := s1) hT ho hd ht (by rw [h2 F (by simp)]; exact hF)
 refine h8.ext (fun t => ?_) (fun id => ?_) ?_
 ·cases hd : o.dst <;> rfl
 ·simp only [List.map_cons,List.map_nil,hb]; cases hd : o.dst <;> rfl
 ·cases hd : o.dst <;> rfl
end
end Go.Abs
namespace Go
variable {P : Program}
theorem stepR_scope {b : Frame} {a : Act} {k : List Item} {cs : List Frame} {w : World} {c : Code} : step P (lone (b.atR a (.code (.scope c) :: k)) cs w) = .next (lone (b.atR a (.code c :: .inScope c :: k)) cs w) :=
 step_lone_go (by simp [stepG,stepG.exec,Frame.atR])
theorem stepR_inScope {b : Frame} {a : Act} {k : List Item} {cs : List Frame} {w : World} {c : Code} : step P (lone (b.atR a (.inScope c :: k)) cs w) = .next (lone (b.atR a k) cs w) :=
 step_lone_go (by simp [stepG,stepG.exec,Frame.atR])
theorem wpIn_scope_straight {F : Fence} {n : Nat} {Q : Exit -> Act -> World -> Prop} {a : Act} {w : World} {c : Code} (h : c.wpIn F n P (Exit.noGoto Q) a w) : (Code.scope c).wpIn F n P Q a w:= by
 intro b k cs hro hb hr
 have h0 : (lone (b.atR a (.code (.scope c) :: k)) cs w).fenced P F := fenced_calm hb hr rfl
 obtain ⟨e,a₁,w₁,hq,harr⟩ := h b (.inScope c :: k) cs hro hb hr
 cases e with
 | normal => exact ⟨.normal,a₁,w₁,hq,.head h0 stepR_scope (StepsIn.trans harr (.one (fenced_calm hb hr rfl) stepR_inScope))⟩
 | exit id =>
  have hx : exitTo id (.inScope c :: k) = exitTo id k := by simp [exitTo]
  exact ⟨.exit id,a₁,w₁,hq,fun k' hk => .head h0 stepR_scope (harr.1 k' (by rw [hx]; exact hk)),
   fun hr' hk => let ⟨k₁,h1,h2⟩ := harr.2 hr' (by rw [hx]; exact hk); ⟨k₁,h1,.head h0 stepR_scope h2⟩⟩
 | goto l => exact hq.elim
 | ret => exact ⟨_,a₁,w₁,hq,.of_steps (.one h0 stepR_scope) harr⟩
 | panic ch => exact ⟨_,a₁,w₁,hq,.of_steps (.one h0 stepR_scope) harr⟩
 | outgrown => exact ⟨_,a₁,w₁,hq,.of_steps (.one h0 stepR_scope) harr⟩
end Go
namespace Go.Abs
open Go.RowKit
set_option linter.unusedVariables false
section
variable {P : Program} {T : Nat -> Option TyI} {nt : Nat} {s : ASt} {o : Oper} {ops : Array Oper} {rest : List Oper} {Q : Exit -> ASt -> Prop}
theorem op_eql_slnil {t e t' : Nat} {x : Operand} {ti : TyI} {es : List (List PV)} (hT : TabOK P T) (ho : o.op = .binOp .eql t x (.const (.slice none 0 0)) t') (hd : dstB nt o.dst = true) (ht : T t = some ti) (hk : ti.kind = .slice e)
  (hx : s.evB x = some (.sl es)) (hpos : ∀ el ∈ es,0 < el.length) : OpToS P nt o s (fun s' => ∃ b : Bool,(b = true -> es = []) /\ s' = s.putO o.dst (some (.pv (.bool b)))):= by
 intro ro W0 D0 D φ a w hI hko K Q hK
 have hr := hI.evB hx
 generalize hv : a.eval x = v at hr
 cases hr with
 | sl ad m c sz es us hm hcap hmax hsz' ha hlf hr =>
  have hund := (hT.ty ht).slice hk
  have hrun : (execOp a.eval o).run P w = .ok (.value (.bool ad.isNone)) w:= by
   have e1 : a.eval (.const (.slice none 0 0)) = .slice none 0 0 := rfl
   simp only [execOp,ho,hv,e1,eqGuard]
   simp [binOp,run_equal_slice_nil w t e ad m c hund]
  refine wpIn_of (by rw [ho]; intro c hc; cases hc) ?_
  unfold Oper.wp
  rw [hrun]
  refine hK (s.putO o.dst (some (.pv (.bool ad.isNone)))) D φ _ w ⟨ad.isNone,fun hn => ?_,rfl⟩ (hI.put o.dst (dstB_lt hd) _ _ fun x' hx' => by cases hx'; exact ⟨rfl,.pv _ _ (.bool _)⟩)
  cases ad with
  | some ad => cases hn
  | none =>
   cases es with
   | nil => rfl
   | cons y ys =>
    have hs0 := hsz' 0 y rfl
    have hsz : 0 < sz := by rw [<- hs0]; exact hpos y (by simp)
    obtain ⟨b,hb,_⟩ := ha 0 0 (by simp [hm]) hsz
    cases hb
def NoGo (Q : Exit -> ASt -> Prop) : Exit -> ASt -> Prop
 | .goto _,_ => False
 | e,s => Q e s
theorem nogo_normal (h : Q .normal s) : NoGo Q .normal s := h
theorem nogo_ret (h : Q .ret s) : NoGo Q .ret s := h
theorem nogo_exit {id : Nat} (h : Q (.exit id) s) : NoGo Q (.exit id) s := h
theorem AW_scope {c : Code} (h : AW P nt c (NoGo Q) s) : AW P nt (.scope c) Q s:= by
 intro ro W0 D0 D φ a w hr hI
 refine wpIn_scope_straight (Go.wpIn_mono (h ro W0 D0 D φ a w hr hI) ?_)
 rintro e a' w' ⟨s',D',φ',hI',hq⟩
 cases e with
 | goto l => exact hq.elim
 | _ => exact ⟨s',D',φ',hI',hq⟩
theorem D_append_p {t e id sz d : Nat} {x0 x : Operand} {ti ei : TyI} {es ys : List (List PV)} (hT : TabOK P T) (hg : guardT ops s o = true) (ho : o.op = .call { callee := .builtin .append,args := #[x0,x],argTypes := #[t,t] }) (hdst : o.dst = some d) (hd : dstB nt o.dst = true)
  (ht : T t = some ti) (hk : ti.kind = .slice e) (he : T e = some ei) (hpos : Nat.blt 0 ei.size = true) (hzl : Nat.beq ei.zero.length ei.size = true) (hx0 : s.ev x0 = some (.arr id)) (hob : s.obj id = some (.arr e sz es)) (hsz : Nat.beq sz ei.size = true)
  (hy : s.srcS x = some ys) (hyl : ∀ y ∈ ys,y.length = sz) (hmax : es.length + ys.length <= 1099511627776) (hby : Nat.ble ei.bytes 128 = true) :
  StepOK P nt ops o s ⟨some (.pv (.sl (es ++ ys))),true,[],[id]⟩ ((s.setObj id none).putO o.dst (some (.pv (.sl (es ++ ys))))):= by
 refine StepOK.mkE hg (by cases hd : o.dst <;> rfl) (by cases hd : o.dst <;> exact Nat.le_refl _) (fun id' hid hm => ?_) fun fr s1 s2 h1 h2 h3 h4 h5 h6 h7 => ?_
 ·have : ((s.setObj id none).putO o.dst (some (.pv (.sl (es ++ ys))))).obj id' = (s.setObj id none).obj id' := by cases hd : o.dst <;> rfl
  rw [this,ASt.obj_setObj,if_neg (fun e => hm (by simp [e]))]
 ·have hidf : id ∉ fr := fun hf => (h3 id hf).2 (by simp)
  have hob1 : s1.obj id = some (.arr e sz es) := by rw [h4 id hidf]; exact hob
  have hys : s1.srcS x = some ys := by unfold ASt.srcS; rw [ev_agree h1 (by simp [ho,Op.operands,Call.operands])]; exact hy
  have h8 := op_append (s := s1) hT ho hd ht hk he hpos hzl (by rw [ev_agree h1 (by simp [ho,Op.operands,Call.operands])]; exact hx0) hob1 hsz (srcS_src hys) hyl hmax hby
  intro ro W0 D0 D φ a w hI hko K Q hK
  have hlt : ∀ id',s1.obj id' ≠ none -> id' < s1.nxt := fun id' hne => by
   cases hc : s1.obj id' with
   | none => exact absurd hc hne
   | some ob => exact (hI.objs id' ob hc).1
  refine h8 ro W0 D0 D φ a w hI hko K Q fun D' φ' a' w' hI' => ?_
  rw [hdst] at hI' h5
  have hp : ((s1.setObj id none).newObj (.arr e sz (es ++ ys))).obj s1.nxt = some (.arr e sz (es ++ ys)) := by rw [ASt.obj_newObj]; exact if_pos rfl
  obtain ⟨D2,hI2⟩ := hI'.toPure (t := d) (id := s1.nxt) (e := e) (sz := sz) (es := es ++ ys) (by simp [ASt.putO,ASt.get_put]) hp
  refine hK D2 φ' a' w' ?_
  have hget : ∀ tt,s2.get tt = if d = tt then some (.pv (.sl (es ++ ys))) else s1.get tt:= by
   intro tt
   show look s2.env tt = _
   rw [h5]
   show look ((d,_) :: s1.env) tt = _
   by_cases hdt : d = tt
   ·subst hdt; rw [look_cons_eq,if_pos rfl]
   ·rw [look_cons_ne _ _ hdt,if_neg hdt]; rfl
  have hobj : ∀ id' ob,s2.obj id' = some ob -> id' ≠ id /\ s1.obj id' = some ob:= by
   intro id' ob h
   rw [h7] at h
   have q1 : ((s.setObj id none).putO o.dst (some (.pv (.sl (es ++ ys))))).obj id' = (s.setObj id none).obj id' := by cases hd : o.dst <;> rfl
   rw [q1,ASt.obj_setObj] at h
   by_cases hid : id' ∈ fr
   ·rw [if_pos hid] at h
    exact ⟨fun e => hidf (e ▸ hid),h⟩
   ·rw [if_neg hid] at h
    split at h
    ·cases h
    ·rename_i hne; exact ⟨fun e => hne e.symm,by rw [h4 id' hid]; exact h⟩
  have hn2 : s2.nxt = s1.nxt:= by
   rw [h6,h2]; cases hd : o.dst <;> rfl
  refine hI2.weaken (fun tt x hx => ?_) (fun id' ob hob2 => ?_) (fun tt x hx => ?_) (fun id' ob hob2 => ?_)
  ·rw [hget] at hx
   rw [ASt.get_put]
   by_cases hdt : d = tt
   ·rw [if_pos hdt] at hx ⊢; exact hx
   ·rw [if_neg hdt] at hx ⊢
    show look ((d,_) :: s1.env) tt = _
    rw [look_cons_ne _ _ hdt]; exact hx
  ·obtain ⟨g1,g2⟩ := hobj id' ob hob2
   have g3 := (hI.objs id' ob g2).1
   show ((((s1.setObj id none).newObj (.arr e sz (es ++ ys))).put d _).setObj s1.nxt none).obj id' = some ob
   rw [ASt.obj_setObj,if_neg (by omega)]
   show ((s1.setObj id none).newObj (.arr e sz (es ++ ys))).obj id' = some ob
   rw [ASt.obj_newObj,if_neg (by show ¬ s1.nxt = id'; omega),ASt.obj_setObj,if_neg (fun e => g1 e.symm)]; exact g2
  ·rw [hget] at hx
   rw [hn2]
   by_cases hdt : d = tt
   ·rw [if_pos hdt] at hx; cases hx; rfl
   ·rw [if_neg hdt] at hx; exact (hI.env tt x hx).1
  ·obtain ⟨g1,g2⟩ := hobj id' ob hob2
   rw [hn2]
   exact ⟨(hI.objs id' ob g2).1,(hI.objs id' ob g2).2.1⟩
end
end Go.Abs
namespace Go.Abs
open Go.RowKit
set_option linter.unusedVariables false
theorem FRep.ren' {w : World} {D : Nat -> Prop} {φ : Nat -> Value} {ρ : Nat -> Nat} {v : Value} {x : FV} (h : FRep w D (fun id => φ (ρ id)) v x) : FRep w D φ v (x.ren ρ):= by
 induction h with
 | pv v p h => exact .pv v p h
 | box id off b h => exact .box _ off b h
 | nils => exact .nils
 | arr id n c a h => exact .arr _ n c a h
 | aptr id sz i off g n c h => exact .aptr _ sz i off g n c h
 | mp id r h => exact .mp _ r h
 | yld id l h => exact .yld _ l h
 | sub id sz lo n g m c h hc => exact .sub _ sz lo n g m c h hc
 | fn f vs cs hl hr ih =>
  simp only [FV.ren,FV.renL_eq]
  refine .fn f vs _ (by simpa using hl) fun j v p hv hp => ?_
  simp only [List.getElem?_map,Option.map_eq_some_iff] at hp
  obtain ⟨q,hq,rfl⟩ := hp
  exact ih j v q hv hq
 | agg vs cs hl hr ih =>
  simp only [FV.ren,FV.renL_eq]
  refine .agg vs _ (by simpa using hl) fun j v p hv hp => ?_
  simp only [List.getElem?_map,Option.map_eq_some_iff] at hp
  obtain ⟨q,hq,rfl⟩ := hp
  exact ih j v q hv hq
 | tup vs cs hl hr ih =>
  simp only [FV.ren,FV.renL_eq]
  refine .tup vs _ (by simpa using hl) fun j v p hv hp => ?_
  simp only [List.getElem?_map,Option.map_eq_some_iff] at hp
  obtain ⟨q,hq,rfl⟩ := hp
  exact ih j v q hv hq
theorem ORep.ren' {w : World} {D : Nat -> Prop} {φ : Nat -> Value} {base : Nat} {ρ : Nat -> Nat} {id : Nat} {ob : AObj} (h : ORep w D (fun id => φ (ρ id)) base id ob) : ORep w D φ base (ρ id) (ob.ren ρ):= by
 cases ob with
 | box cs =>
  obtain ⟨b,vs,e,h1,h2,h3,h4⟩ := h
  refine ⟨b,vs,e,h1,h2,by rw [FV.renL_eq]; simpa using h3,fun j v x hv hx => ?_⟩
  rw [FV.renL_eq,List.getElem?_map,Option.map_eq_some_iff] at hx
  obtain ⟨q,hq,rfl⟩ := hx
  obtain ⟨g1,g2⟩ := h4 j v q hv hq
  exact ⟨by rw [FV.ren_leaf]; exact g1,g2.ren'⟩
 | arr e sz es => exact h
 | imap ks => exact h
 | fro es => exact h
 | res => exact h
 | ext E k B => exact h
 | anc v x => exact FRep.ren' h
 | iter ks rem cur => exact h
 | siter x pos => exact h
 | lst e sz es x ps =>
  obtain ⟨h0,xs,u,h1,h2,h3,h4⟩ := h
  exact ⟨by rw [FV.ren_leaf]; exact h0,xs,u,h1,h2,h3,h4.ren'⟩
theorem ORep.base {w : World} {D : Nat -> Prop} {φ : Nat -> Value} {base base' id : Nat} {ob : AObj} (h : ORep w D φ base id ob) : ORep w D φ base' id ob := by cases ob <;> exact h
theorem FRep.handles {w : World} {D : Nat -> Prop} {φ φ' : Nat -> Value} {n : Nat} (hφ : ∀ id,id < n -> φ' id = φ id) {v : Value} {x : FV} (h : FRep w D φ v x) (hx : x.lt n = true) : FRep w D φ' v x := h.mono (fun _ _ => rfl) (fun _ h => h) hφ hx
theorem ORep.handles {w : World} {D : Nat -> Prop} {φ φ' : Nat -> Value} {n base id : Nat} {ob : AObj} (hφ : ∀ id,id < n -> φ' id = φ id) (h : ORep w D φ base id ob) (hx : ob.lt n = true) (hid : id < n) : ORep w D φ' base id ob :=
 h.keep hx hid (fun _ _ => rfl) (fun _ h => h) hφ (fun _ _ => rfl)
mutual
theorem FV.lt_ren {ρ : Nat -> Nat} {n m : Nat} (hρ : ∀ id,id < n -> ρ id < m) : ∀ (x : FV),x.lt n = true -> (x.ren ρ).lt m = true
 | .pv _,_ => rfl
 | .nils,_ => rfl
 | .box id _,h => by simp [FV.lt,FV.ren] at *; exact hρ id h
 | .arr id,h => by simp [FV.lt,FV.ren] at *; exact hρ id h
 | .aptr id _ _ _,h => by simp [FV.lt,FV.ren] at *; exact hρ id h
 | .mp id,h => by simp [FV.lt,FV.ren] at *; exact hρ id h
 | .yld id,h => by simp [FV.lt,FV.ren] at *; exact hρ id h
 | .sub id _ _ _,h => by simp [FV.lt,FV.ren] at *; exact hρ id h
 | .fn _ cs,h => by simp only [FV.lt,FV.ren] at *; exact FV.ltL_ren hρ cs h
 | .agg cs,h => by simp only [FV.lt,FV.ren] at *; exact FV.ltL_ren hρ cs h
 | .tup cs,h => by simp only [FV.lt,FV.ren] at *; exact FV.ltL_ren hρ cs h
theorem FV.ltL_ren {ρ : Nat -> Nat} {n m : Nat} (hρ : ∀ id,id < n -> ρ id < m) : ∀ (xs : List FV),FV.ltL n xs = true -> FV.ltL m (FV.renL ρ xs) = true
 | [],_ => rfl
 | x :: xs,h => by
  simp only [FV.ltL,FV.renL,Bool.and_eq_true] at *
  exact ⟨FV.lt_ren hρ x h.1,FV.ltL_ren hρ xs h.2⟩
end
theorem AObj.lt_ren {ρ : Nat -> Nat} {n m : Nat} (hρ : ∀ id,id < n -> ρ id < m) (ob : AObj) (h : ob.lt n = true) : (ob.ren ρ).lt m = true:= by
 cases ob with
 | box cs => exact FV.ltL_ren hρ cs h
 | anc v x => exact FV.lt_ren hρ x h
 | lst e sz es x ps => exact FV.lt_ren hρ x h
 | _ => rfl
structure Held (s : ASt) (D : Nat -> Prop) (φ : Nat -> Value) (w : World) : Prop where
 dlt : ∀ b,D b -> b < w.heap.size
 objs : ∀ id ob,s.obj id = some ob -> id < s.nxt /\ ob.lt s.nxt = true /\ ORep w D φ 0 id ob
 own : ∀ id ob b,s.obj id = some ob -> oblk φ id ob b -> ¬ D b /\ b < w.heap.size
 sep : ∀ id ob id' ob' b,s.obj id = some ob -> s.obj id' = some ob' -> oblk φ id ob b -> oblk φ id' ob' b -> id = id'
def ownS (s : ASt) (φ : Nat -> Value) (b : Nat) : Prop := ∃ id ob,s.obj id = some ob /\ oblk φ id ob b
theorem Inv.held {W0 : World} {D0 : Bas} {nt : Nat} {s : ASt} {D : Nat -> Prop} {φ : Nat -> Value} {a : Act} {w : World} (h : Inv W0 D0 nt s D φ a w) : Held s D φ w :=
 ⟨h.dlt,fun id ob ho => let ⟨h1,h2,h3⟩ := h.objs id ob ho; ⟨h1,h2,h3.base⟩,fun id ob b ho hb => let ⟨h1,_,h3⟩ := h.own id ob b ho hb; ⟨h1,h3⟩,h.sep⟩
theorem Held.le {s s' : ASt} {D : Nat -> Prop} {φ : Nat -> Value} {w : World} (h : Held s D φ w) (hle : Le s s') :
  ∃ φ',Held s' D φ' w /\ (∀ b,ownS s' φ' b -> ownS s φ b) /\ ∀ t x,s'.get t = some x -> x.lt s'.nxt = true /\ ∃ y,s.get t = some y /\ ∀ v,FRep w D φ v y -> FRep w D φ' v x:= by
 obtain ⟨ρ,h1,h2,h3⟩ := hle
 refine ⟨fun id => φ (ρ id),⟨h.dlt,fun id ob ho => ?_,fun id ob b ho hb => ?_,fun id ob id' ob' b ho ho' hb hb' => ?_⟩,?_,fun t x hx => ?_⟩
 ·obtain ⟨g1,g2,g3⟩ := h2 id ob ho
  exact ⟨g2,g3,(h.objs _ _ g1).2.2.ren⟩
 ·exact h.own _ _ b (h2 id ob ho).1 (by rw [AObj.ren_blk]; exact hb)
 ·exact h3 id ob id' ob' ho ho' (h.sep _ _ _ _ b (h2 id ob ho).1 (h2 id' ob' ho').1 (by rw [AObj.ren_blk]; exact hb) (by rw [AObj.ren_blk]; exact hb'))
 ·rintro b ⟨id,ob,ho,hb⟩
  exact ⟨_,_,(h2 id ob ho).1,by rw [AObj.ren_blk]; exact hb⟩
 ·obtain ⟨g1,g2⟩ := h1 t x hx
  exact ⟨g2,_,g1,fun v hv => hv.ren x rfl⟩
def entryF : Nat -> List FV -> List (Nat × Option FV)
 | _,[] => []
 | i,x :: xs => (i,some x) :: entryF (i + 1) xs
theorem entryF_get : ∀ (xs : List FV) (i t : Nat) (x : FV),look (entryF i xs) t = some x -> i <= t /\ xs[t - i]? = some x
 | [],i,t,x,h => by simp [entryF,look] at h
 | y :: xs,i,t,x,h => by
  by_cases hi : i = t
  ·subst hi
   rw [entryF,look_cons_eq] at h
   simpa using h
  ·rw [entryF,look_cons_ne _ _ hi] at h
   obtain ⟨h1,h2⟩ := entryF_get xs (i + 1) t x h
   refine ⟨by omega,?_⟩
   rw [show t - i = (t - (i + 1)) + 1 by omega,List.getElem?_cons_succ]; exact h2
def entryX (xs : List FV) (objs : List (Nat × AObj)) (n : Nat) : ASt := ⟨entryF 0 xs,objs.map fun (t,x) => (t,some x),n⟩
structure PostX (W : World) (X D : Nat -> Prop) (Q : ASt -> Prop) (QP : TypeId × Value -> ASt -> Prop) (e : Ending) (w' : World) : Prop where
 out : ∃ sf D' φ',BelowX X W w' /\ (∀ b,D b -> D' b) /\ (∀ b,D' b -> D b \/ X b \/ W.heap.size <= b) /\ Held sf D' φ' w' /\ (∀ b,ownS sf φ' b -> X b \/ W.heap.size <= b) /\
  ((∃ v,e = .returned v /\ (∀ x,sf.get 0 = some x -> x.lt sf.nxt = true /\ FRep w' D' φ' v x) /\ Q sf) \/ (∃ v t,e = .panicked [{ v := .iface t v,recovered := false }] /\ QP (t,v) sf))
def ACallsX (P : Program) (f : FuncId) (xs : List FV) (objs : List (Nat × AObj)) (n : Nat) (Q : ASt -> Prop) (QP : TypeId × Value -> ASt -> Prop) : Prop :=
 Enters P f /\ ∀ W D φ vs,KOK P W D (ownS (entryX xs objs n) φ) -> Held (entryX xs objs n) D φ W -> vs.size = xs.length -> (∀ (j : Nat) (v : Value) (x : FV),vs[j]? = some v -> xs[j]? = some x -> x.lt n = true /\ FRep W D φ v x) →
  Calls P f vs W (PostX W (ownS (entryX xs objs n) φ) D Q QP)
theorem entryX_inv {W : World} {D : Nat -> Prop} {φ : Nat -> Value} {vs : Array Value} {xs : List FV} {objs : List (Nat × AObj)} {n nt : Nat} (hH : Held (entryX xs objs n) D φ W) (hs : vs.size = xs.length)
  (hr : ∀ (j : Nat) (v : Value) (x : FV),vs[j]? = some v -> xs[j]? = some x -> x.lt n = true /\ FRep W D φ v x) (hn : vs.size <= nt) :
  Inv W ⟨D,ownS (entryX xs objs n) φ,none,false⟩ nt (entryX xs objs n) D φ { tmps := vs ++ Array.replicate (nt - vs.size) undef,defers := [] } W:= by
 refine ⟨BelowX.refl _ _,by simp; omega,⟨[],.nil,.nil,by simp⟩,hH.dlt,fun b hb => .inl hb,fun b hb => hb,?_,?_,?_,hH.sep⟩
 ·intro t x hx
  obtain ⟨_,hp⟩ := entryF_get xs 0 t x hx
  rw [Nat.sub_zero] at hp
  have ht : t < vs.size := by rw [hs]; exact (List.getElem?_eq_some_iff.1 hp).1
  obtain ⟨h1,h2⟩ := hr t vs[t] x (by simp [ht]) hp
  exact ⟨h1,vs[t],by rw [Array.getElem?_append_left ht]; simp [ht],h2⟩
 ·intro id ob ho
  obtain ⟨h1,h2,h3⟩ := hH.objs id ob ho
  exact ⟨h1,h2,h3.base⟩
 ·intro id ob b ho hb
  obtain ⟨h1,h2⟩ := hH.own id ob b ho hb
  exact ⟨h1,.inl ⟨id,ob,ho,hb⟩,h2⟩
def tupF : List FV -> FV
 | [x] => x
 | xs => .tup xs
theorem tup_rep {w : World} {D : Nat -> Prop} {φ : Nat -> Value} {vs : List Value} {xs : List FV} (hl : vs.length = xs.length) (hf : ∀ (j : Nat) (v : Value) (x : FV),vs[j]? = some v -> xs[j]? = some x -> FRep w D φ v x) : FRep w D φ (tupV vs) (tupF xs):= by
 match vs,xs,hl,hf with
 | [],[],hl,hf => exact .tup #[] [] rfl (by simp)
 | [v],[x],hl,hf => exact hf 0 v x rfl rfl
 | v :: v2 :: vs,x :: y :: xs,hl,hf =>
  show FRep w D φ (.tuple (v :: v2 :: vs).toArray) (.tup (x :: y :: xs))
  exact .tup _ _ (by simpa using hl) fun j u p hu hp => hf j u p (by simpa using hu) hp
def RetX (T : Nat -> Option TyI) (rs : List ResultVar) (Q : ASt -> Prop) (QP : TypeId × Value -> ASt -> Prop) : Exit -> ASt -> Prop
 | .normal,s => ∃ ys sf,mapO (resFV T s) rs = some ys /\ Le ⟨[(0,some (tupF ys))],s.objs,s.nxt⟩ sf /\ Q sf
 | .ret,s => ∃ ys sf,mapO (resFV T s) rs = some ys /\ Le ⟨[(0,some (tupF ys))],s.objs,s.nxt⟩ sf /\ Q sf
 | .panic ch,s => ∃ v t sf,ch = [{ v := .iface t v,recovered := false }] /\ Le ⟨[],s.objs,s.nxt⟩ sf /\ QP (t,v) sf
 | _,_ => False
section
variable {P : Program} {T : Nat -> Option TyI} {nt : Nat} {s : ASt} {o : Oper} {ops : Array Oper} {rest : List Oper} {Q : Exit -> ASt -> Prop}
theorem postX_of {W : World} {D0 : Bas} {D : Nat -> Prop} {φ : Nat -> Value} {a : Act} {w : World} (hI : Inv W D0 nt s D φ a w) {env : List (Nat × Option FV)} {sf : ASt} (hle : Le ⟨env,s.objs,s.nxt⟩ sf) :
  ∃ φ',BelowX D0.x W w /\ (∀ b,D0.d b -> D b) /\ (∀ b,D b -> D0.d b \/ D0.x b \/ W.heap.size <= b) /\ Held sf D φ' w /\ (∀ b,ownS sf φ' b -> D0.x b \/ W.heap.size <= b) /\
   ∀ t x,sf.get t = some x -> x.lt sf.nxt = true /\ ∃ y,look env t = some y /\ ∀ v,FRep w D φ v y -> FRep w D φ' v x:= by
 have hH : Held ⟨env,s.objs,s.nxt⟩ D φ w := ⟨hI.held.dlt,hI.held.objs,hI.held.own,hI.held.sep⟩
 obtain ⟨φ',h1,h2,h3⟩ := hH.le hle
 refine ⟨φ',hI.below,hI.d0,hI.dof,h1,fun b hb => ?_,h3⟩
 obtain ⟨id,ob,ho,hk⟩ := h2 b hb
 exact (hI.own id ob b ho hk).2.1
theorem ACallsX.of_body {f : FuncId} {fn : Func} {c : Code} {xs : List FV} {objs : List (Nat × AObj)} {n : Nat} {Q : ASt -> Prop} {QP : TypeId × Value -> ASt -> Prop} (hT : TabOK P T) (hf : P.funcs[f]? = some fn) (hb : fn.body = some c)
  (hname : (fn.name == "runtime.NumGoroutine") = false) (hn : Nat.ble xs.length fn.ntmps = true) (h : AW P fn.ntmps c (RetX T fn.results.toList Q QP) (entryX xs objs n)) : ACallsX P f xs objs n Q QP := by
 refine ⟨enters_of hf hb hname,fun W D φ vs hko hH hs hr => ?_⟩
 have hn' := Nat.le_of_ble_eq_true hn
 generalize hX : ownS (entryX xs objs n) φ = X
 have hE := entryX_inv (nt := fn.ntmps) hH hs hr (by rw [hs]; exact hn')
 rw [hX] at hE hko
 refine (callsIn_wide (n := 0)).1 (callsIn_of_wp_marks hf hb trivial ?_)
 refine Go.wpIn_mono (h none W ⟨D,X,none,false⟩ D φ _ W ⟨rfl,fun l hl => (by cases hl),hko⟩ hE) ?_
 have fin : ∀ (a : Act) (w : World) (s' : ASt) (D' : Nat -> Prop) (φ' : Nat -> Value),Inv W ⟨D,X,none,false⟩ fn.ntmps s' D' φ' a w →
   (∃ ys sf,mapO (resFV T s') fn.results.toList = some ys /\ Le ⟨[(0,some (tupF ys))],s'.objs,s'.nxt⟩ sf /\ Q sf) →
   LeavesInM Fence.wide 0 P fn a.tmps (PostX W X D Q QP) a.defers .returning w:= by
  rintro a w s' D' φ' hI ⟨ys,sf,h1,h2,h3⟩
  obtain ⟨tmps,dfs⟩ := a
  refine leaves_end (by simp) rfl hI fun w' hI' => ?_
  obtain ⟨us,r1,r2,r3⟩ := run_results hT hI' h1
  obtain ⟨φ2,g1,g2,g3,g4,g5,g6⟩ := postX_of hI' h2
  refine ⟨_,r1,⟨sf,D',φ2,g1,g2,g3,g4,g5,.inl ⟨_,rfl,fun x hx => ?_,h3⟩⟩⟩
  obtain ⟨k1,y,k2,k3⟩ := g6 0 x hx
  cases k2
  exact ⟨k1,k3 _ (tup_rep r2 r3)⟩
 rintro e a w ⟨s',D',φ',hI,hq⟩
 cases e with
 | normal => exact fin a w s' D' φ' hI hq
 | ret => exact fin a w s' D' φ' hI hq
 | panic ch =>
  obtain ⟨v,t,sf,rfl,h2,h3⟩ := hq
  obtain ⟨tmps,dfs⟩ := a
  show LeavesInM Fence.wide 0 P fn tmps (PostX W X D Q QP) dfs (.panicking _) w
  refine leaves_end (by simp) rfl hI fun w' hI' => ?_
  obtain ⟨φ2,g1,g2,g3,g4,g5,g6⟩ := postX_of hI' h2
  exact ⟨sf,D',φ2,g1,g2,g3,g4,g5,.inr ⟨v,t,rfl,h3⟩⟩
 | _ => exact hq.elim
def OpToP (P : Program) (nt : Nat) (o : Oper) (s : ASt) (R : ASt -> Prop) (RP : TypeId × Value -> ASt -> Prop) : Prop := ∀ ro W0 D0 D φ a w,Inv W0 D0 nt s D φ a w -> KOK P W0 D0.d D0.x -> ∀ (K : Act -> World -> Prop) (Q : Exit -> Act -> World -> Prop),
 (∀ s' D' φ' a' w',R s' -> Inv W0 D0 nt s' D' φ' a' w' -> K a' w') →
 (∀ s' D' φ' a' w' t v,RP (t,v) s' -> Inv W0 D0 nt s' D' φ' a' w' -> Q (.panic [{ v := .iface t v,recovered := false }]) a' w') -> o.wpIn (FW ro) 0 P a w K Q
theorem OpToP.calm {R : ASt -> Prop} (h : OpToP P nt o s R (fun _ _ => False)) : OpToS P nt o s R := fun ro W0 D0 D φ a w hI hko K Q hK => h ro W0 D0 D φ a w hI hko K Q hK (fun _ _ _ _ _ _ _ h => h.elim)
theorem AL_doP {R : ASt -> Prop} {RP : TypeId × Value -> ASt -> Prop} (hg : guardT ops s o = true) (ho : OpToP P nt o s R RP) (h : ∀ s',R s' -> AL P nt ops rest Q s') (hp : ∀ t s' v,RP (t,v) s' -> Q (.panic [{ v := .iface t v,recovered := false }]) s') : AL P nt ops (o :: rest) Q s:= by
 intro ro W0 D0 D φ a w hr hI
 have key := ho ro W0 D0 D φ a w hI hr.2.2 (wpListIn (FW ro) 0 P ops (Lift W0 D0 nt Q) rest) (Lift W0 D0 nt Q) (fun s' D' φ' a' w' hs' hI' => h s' hs' ro W0 D0 D' φ' a' w' hr hI')
  (fun s' D' φ' a' w' t v hs' hI' => ⟨s',D',φ',hI',hp t s' v hs'⟩)
 unfold wpListIn
 rcases guardT_spec hg with hg | ⟨j,b,d,hg,hj,hd⟩
 ·rw [if_pos (by simp [Region.wanted,hg])]; exact key
 ·rw [if_pos (by have hy := yielded_of hI hj hd; simp [Region.wanted,hg,hy])]; exact key
def argX (s : ASt) (m : List (Nat × Nat)) (y : FV) : FV -> Prop
 | .pv p => s.pvOf false 5 y = some p
 | x => y = x.ren (rho m)
def argsX (s : ASt) (m : List (Nat × Nat)) : List FV -> List FV -> Prop
 | [],[] => True
 | y :: ys,x :: xs => argX s m y x /\ argsX s m ys xs
 | _,_ => False
def evL (s : ASt) : List Operand -> Option (List FV)
 | [] => some []
 | x :: xs => match s.ev x,evL s xs with
  | some y,some ys => some (y :: ys)
  | _,_ => none
def ancL (av : Nat -> Value) (ancs : List (Nat × Nat)) : List (Nat × AObj) := ancs.map fun (a,k) => (a,.anc (av a) (.box k 0))
def handX (s : ASt) (m : List (Nat × Nat)) (n : Nat) : List (Nat × AObj) -> Prop
 | [] => True
 | (k,ob) :: r => s.obj (rho m k) = some (ob.ren (rho m)) /\ k < n /\ ob.lt n = true /\ handX s m n r
def rho2 (m : List (Nat × Nat)) (kp : List Nat) (b : Nat) (k : Nat) : Nat := match kp.contains k with
 | true => rho m k
 | false => b + k
def objBack (ρ : Nat -> Nat) : Option AObj -> Option AObj
 | some (.anc v (.pv p)) => some (.anc v (.pv p))
 | some (.anc _ _) => none
 | some ob => some (ob.ren ρ)
 | none => none
def afterX (s : ASt) (m : List (Nat × Nat)) (kp : List Nat) (ks : List Nat) (sf : ASt) : ASt :=
 ⟨s.env,(sf.objs.map fun (k,ob) => (rho2 m kp s.nxt k,objBack (rho2 m kp s.nxt) ob)) ++ (ks.map fun k => (rho m k,none)) ++ s.objs,s.nxt + sf.nxt⟩
def keptX (s : ASt) (m : List (Nat × Nat)) (ancs : List (Nat × Nat)) (av : Nat -> Value) (sf : ASt) : List Nat -> Prop
 | [] => True
 | k :: r => ((∃ a,(a,k) ∈ ancs /\ sf.obj a = some (.anc (av a) (.box k 0))) \/ (∃ E j B j' B',sf.obj k = some (.ext E j B) /\ s.obj (rho m k) = some (.ext E j' B'))) /\ keptX s m ancs av sf r
theorem keptX_mem {m : List (Nat × Nat)} {ancs : List (Nat × Nat)} {av : Nat -> Value} {sf : ASt} : ∀ {kp : List Nat},keptX s m ancs av sf kp -> ∀ k ∈ kp,(∃ a,(a,k) ∈ ancs /\ sf.obj a = some (.anc (av a) (.box k 0))) \/ (∃ E j B j' B',sf.obj k = some (.ext E j B) /\ s.obj (rho m k) = some (.ext E j' B'))
 | [],_,_,h => by cases h
 | k :: r,h,x,hx => by
  cases hx with
  | head => exact h.1
  | tail _ hx => exact keptX_mem h.2 x hx
theorem handX_mem {m : List (Nat × Nat)} {n : Nat} : ∀ {l : List (Nat × AObj)},handX s m n l -> ∀ k ob,(k,ob) ∈ l -> s.obj (rho m k) = some (ob.ren (rho m)) /\ k < n /\ ob.lt n = true
 | [],_,_,_,h => by cases h
 | (k',ob') :: r,h,k,ob,hm => by
  cases hm with
  | head => exact ⟨h.1,h.2.1,h.2.2.1⟩
  | tail _ hm => exact handX_mem h.2.2.2 k ob hm
theorem look_append {α : Type} : ∀ (l r : List (Nat × Option α)) (t : Nat),look (l ++ r) t = if t ∈ l.map (·.1) then look l t else look r t
 | [],r,t => by simp
 | (k,v) :: l,r,t => by
  by_cases hk : k = t
  ·subst hk; simp [look_cons_eq]
  ·rw [List.cons_append,look_cons_ne _ _ hk,look_append l r t,look_cons_ne _ _ hk]
   simp only [List.map_cons,List.mem_cons]
   by_cases ht : t ∈ l.map (·.1)
   ·rw [if_pos ht,if_pos (.inr ht)]
   ·rw [if_neg ht,if_neg (by rintro (h | h); exact hk h.symm; exact ht h)]
theorem look_renkeys {α β : Type} (f : Nat -> Nat) (g : Option α -> Option β) : ∀ (l : List (Nat × Option α)) (t : Nat),(∀ k ∈ l.map (·.1),f k = f t -> k = t) -> t ∈ l.map (·.1) -> look (l.map fun (k,x) => (f k,g x)) (f t) = g (look l t)
 | [],t,_,h => by simp at h
 | (k,v) :: l,t,hinj,ht => by
  simp only [List.map_cons]
  by_cases hk : k = t
  ·subst hk; rw [look_cons_eq,look_cons_eq]
  ·rw [look_cons_ne _ _ hk,look_cons_ne _ _ (fun e => hk (hinj k (by simp) e))]
   refine look_renkeys f g l t (fun k' h' => hinj k' (by simp [h'])) ?_
   simp only [List.map_cons,List.mem_cons] at ht
   exact ht.resolve_left (fun e => hk e.symm)
theorem rho2_inj {m : List (Nat × Nat)} {kp : List Nat} {b : Nat} (hlt : ∀ k ∈ kp,rho m k < b) (hinj : ∀ k ∈ kp,∀ k' ∈ kp,rho m k = rho m k' -> k = k') {k k' : Nat} (h : rho2 m kp b k = rho2 m kp b k') : k = k':= by
 unfold rho2 at h
 cases h1 : kp.contains k <;> cases h2 : kp.contains k' <;> rw [h1,h2] at h
 ·simp only at h; omega
 ·have := hlt k' (by simpa using h2); simp only at h; omega
 ·have := hlt k (by simpa using h1); simp only at h; omega
 ·exact hinj k (by simpa using h1) k' (by simpa using h2) h
theorem argsX_spec {m : List (Nat × Nat)} : ∀ {ys xs : List FV},argsX s m ys xs -> ys.length = xs.length /\ ∀ (j : Nat) (y x : FV),ys[j]? = some y -> xs[j]? = some x -> argX s m y x
 | [],[],_ => ⟨rfl,by simp⟩
 | y :: ys,x :: xs,h => by
  obtain ⟨h1,h2⟩ := argsX_spec h.2
  refine ⟨by simp [h1],fun j y' x' hy hx => ?_⟩
  cases j with
  | zero => simp at hy hx; subst hy; subst hx; exact h.1
  | succ j => exact h2 j y' x' (by simpa using hy) (by simpa using hx)
 | [],_ :: _,h => h.elim
 | _ :: _,[],h => h.elim
theorem evL_spec : ∀ {l : List Operand} {ys : List FV},evL s l = some ys -> l.length = ys.length /\ ∀ (j : Nat) (x : Operand) (y : FV),l[j]? = some x -> ys[j]? = some y -> s.ev x = some y
 | [],ys,h => by cases h; simp
 | x :: l,ys,h => by
  unfold evL at h
  split at h
  ·rename_i y ys' h1 h2
   cases h
   obtain ⟨g1,g2⟩ := evL_spec h2
   refine ⟨by simp [g1],fun j x' y' hx hy => ?_⟩
   cases j with
   | zero => simp at hx hy; subst hx; subst hy; exact h1
   | succ j => exact g2 j x' y' (by simpa using hx) (by simpa using hy)
  ·cases h
theorem argX_rep {W0 : World} {D0 : Bas} {D : Nat -> Prop} {φ : Nat -> Value} {a : Act} {w : World} (hI : Inv W0 D0 nt s D φ a w) {m : List (Nat × Nat)} {v : Value} {y x : FV} (hv : FRep w D φ v y) (h : argX s m y x) : FRep w D (fun id => φ (rho m id)) v x:= by
 have gen : y = x.ren (rho m) -> FRep w D (fun id => φ (rho m id)) v x := fun e => hv.ren x e.symm
 cases x with
 | pv p => exact .pv _ _ (by simpa using pvOf_rep hI false 5 y v p hv h)
 | _ => exact gen h
end
end Go.Abs
