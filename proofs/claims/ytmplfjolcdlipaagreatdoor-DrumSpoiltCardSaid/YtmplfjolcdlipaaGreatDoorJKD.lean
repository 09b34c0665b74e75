/- An own slice that grows by no zeros; what a slip says: the model of the program's reader. -/
import Derived.Test.YtmplfjolcdlipaaGreatDoorJKA
import Derived.Test.YtmplfjolcdlipaaGreatDoorJDrR
set_option linter.unusedVariables false
set_option linter.unusedSimpArgs false
namespace Go.Abs
open Go.Proofs Go.RowKit
set_option linter.unusedVariables false
set_option linter.unusedSimpArgs false
set_option maxRecDepth 100000
section
variable {P : Program}
theorem run_append_zero0 (w : World) {base : Nat} {t tn ty e : TypeId} {i : TypeInfo} {size : Nat} {k kn : IntKind} (ht : P.underlying t = some (.slice e)) (htn : P.underlying tn = some (.int kn)) (hi : P.info? e = some i)
  {v : Value} {n : Nat} {xs : List Value} (hown : w.ownsRow base e size v n xs) : (Builtin.append_ #[t,tn] ty #[v,.int k 0]).run P w = .ok v w:= by
 have hw : IntKind.i64.wrap (0 : Int) = 0 := by rw [IntKind.wrap_i64]; omega
 rcases hown.2 with ⟨rfl,rfl⟩ | ⟨g,cap,cur,rfl,hbg,hg,hnc,hcm,hcs,htake⟩
 ·simp [Builtin.append_,run_underlying ht,run_underlying htn,sizeOf,typeInfo,hi,asInt,asIntOf,hw]
 ·simp [Builtin.append_,run_underlying ht,run_underlying htn,sizeOf,typeInfo,hi,asInt,asIntOf,hw,hnc,storeCells]
variable {T : Nat -> Option TyI} {nt : Nat} {s : ASt} {o : Oper}
theorem op_appendZ0 {t tn e id sz : Nat} {x0 x : Operand} {ti ei : TyI} {es : List (List PV)} {k kn : IntKind} (hT : TabOK P T) (htn : P.underlying tn = some (.int kn)) (ho : o.op = .call { callee := .builtin .append,args := #[x0,x],argTypes := #[t,tn] }) (hd : dstB nt o.dst = true)
  (ht : T t = some ti) (hk : ti.kind = .slice e) (he : T e = some ei) (hx0 : s.ev x0 = some (.arr id)) (hob : s.obj id = some (.arr e sz es)) (hx : s.ev x = some (.pv (.int k 0))) : OpTo P nt o s (s.putO o.dst (some (.arr id))) :=
 OpTo.value hd fun W0 D0 D φ a w hI => ⟨a.eval x0,by
  obtain ⟨info,z,i1,i2,i3,i4,i5⟩ := (hT.ty he).info
  have hund := (hT.ty ht).slice hk
  obtain ⟨hid,_,xs,hown,hxr⟩ := hI.objs id _ hob
  have hv0 : a.eval x0 = φ id:= by
   have := (hI.ev hx0).2
   generalize a.eval x0 = v at this
   cases this with
   | arr id n c ad h => exact h.symm
  have hvx : a.eval x = .int k 0 := hI.ev_int hx
  have hr := run_append_zero0 (P := P) w (ty := o.type) (k := k) hund htn i1 hown
  simp only [execOp,ho,resolve,invoke,builtin,Sem.run_bind,Sem.run_pure,Result.andThen_ok,List.map_toArray,List.map_cons,List.map_nil,hv0,hvx,hr],fun x' hx' => by cases hx'; exact hI.ev hx0⟩
end
def wAcid : List UInt8 := [97,99,105,100]
def wAdd : List UInt8 := [97,100,100]
def wStrip : List UInt8 := [115,116,114,105,112]
def wBatch : List UInt8 := [98,97,116,99,104]
def fStrip : List (List UInt8) := [wStrip,[],[],[]]
def addF (l : List UInt8) : List (List UInt8) := wAdd :: List.replicate (Lib.countByte l 32) []
def stepM (d : Drum) (l : List UInt8) : Option Drum :=
 if (cutL 32 l).1 = wAcid then (match toldO (splitL 32 l) fAcid with | some [a,b,c,e] => some { d with acids := d.acids ++ [⟨⟨a,b⟩,⟨c,e⟩⟩] } | _ => none)
 else if (cutL 32 l).1 = wAdd then (match toldO (splitL 32 l) (addF l) with | some r => some { d with adds := r } | _ => none)
 else if (cutL 32 l).1 = wStrip then (match toldO (splitL 32 l) fStrip with | some [a,b,c] => some { d with strips := d.strips ++ [⟨a,b,c⟩] } | _ => none)
 else (match toldO (splitL 32 l) fBatch with | some [a,b,c,e,f,g] => some { d with batches := d.batches ++ [⟨a,b,c,e,f,g⟩] } | _ => none)
def stepsM : Drum -> List (List UInt8) -> Option Drum
 | d,[] => some d
 | d,l :: r => match stepM d l with | some d' => stepsM d' r | none => none
def headM (L : List (List UInt8)) : Option Drum :=
 match toldO (splitL 32 (L.headD [])) fDrum with | some [h,k] => some ⟨[],k,h,[],[],[]⟩ | _ => none
def readM (s : List UInt8) : Option Drum :=
 if (splitL 10 s).length < 3 then none else
 match headM (splitL 10 s) with
 | none => none
 | some d0 => match stepsM d0 (((splitL 10 s).drop 1).take ((splitL 10 s).length - 3)) with
  | none => none
  | some d => if textD d = bytesOf s then some d else none
theorem toldO_blank : ∀ {xs ws : List (List UInt8)} {r : List Int},toldO xs ws = some r -> r.length = ws.countP (· = []) /\ ∀ x ∈ r,0 <= x /\ x <= 9999
 | [],[],r,h => by
  simp only [toldO,Option.some.injEq] at h
  subst h
  exact ⟨rfl,fun x hx => by cases hx⟩
 | x :: xs,w :: ws,r,h => by
  rw [toldO] at h
  by_cases hw : w = []
  ·rw [if_pos hw] at h
   split at h
   ·rename_i n r' hn hr
    simp only [Option.some.injEq] at h
    subst h
    obtain ⟨h1,h2⟩ := toldO_blank hr
    refine ⟨by simp [h1,hw],fun y hy => ?_⟩
    rcases List.mem_cons.1 hy with rfl | hy
    ·unfold numO at hn
     split at hn
     ·rename_i hg
      simp only [Option.some.injEq] at hn
      have hw := numG_w hg
      have := numV_bd hw.dig hw.l4
      omega
     ·cases hn
    ·exact h2 y hy
   ·cases h
  ·rw [if_neg hw] at h
   split at h
   ·obtain ⟨h1,h2⟩ := toldO_blank h
    exact ⟨by simp [h1,hw],h2⟩
   ·cases h
 | [],_ :: _,r,h => by simp [toldO] at h
 | _ :: _,[],r,h => by simp [toldO] at h
theorem len2 {r : List Int} (h : r.length = 2) : ∃ a b,r = [a,b]:= by
 match r,h with | [a,b],_ => exact ⟨a,b,rfl⟩
theorem len3 {r : List Int} (h : r.length = 3) : ∃ a b c,r = [a,b,c]:= by
 match r,h with | [a,b,c],_ => exact ⟨a,b,c,rfl⟩
theorem len4 {r : List Int} (h : r.length = 4) : ∃ a b c e,r = [a,b,c,e]:= by
 match r,h with | [a,b,c,e],_ => exact ⟨a,b,c,e,rfl⟩
theorem len6 {r : List Int} (h : r.length = 6) : ∃ a b c e f g,r = [a,b,c,e,f,g]:= by
 match r,h with | [a,b,c,e,f,g],_ => exact ⟨a,b,c,e,f,g,rfl⟩
theorem stepsM_snoc : ∀ (L : List (List UInt8)) (d : Drum) (l : List UInt8),stepsM d (L ++ [l]) = match stepsM d L with | some d' => stepM d' l | none => none
 | [],d,l => by simp only [List.nil_append,stepsM]; cases stepM d l <;> rfl
 | x :: L,d,l => by
  simp only [List.cons_append,stepsM]
  cases stepM d x with
  | none => rfl
  | some d' => exact stepsM_snoc L d' l
theorem stepsM_bad : ∀ (L R : List (List UInt8)) (d d' : Drum) (l : List UInt8),stepsM d L = some d' -> stepM d' l = none -> stepsM d (L ++ l :: R) = none
 | [],R,d,d',l,h,h2 => by
  simp only [stepsM,Option.some.injEq] at h
  subst h
  simp only [List.nil_append,stepsM,h2]
 | x :: L,R,d,d',l,h,h2 => by
  simp only [List.cons_append,stepsM] at h ⊢
  cases hx : stepM d x with
  | none => rfl
  | some e => rw [hx] at h; exact stepsM_bad L R e d' l h h2
def SmallD (d : Drum) : Prop := ∀ x ∈ numsD d,0 <= x /\ x <= 9999
theorem SmallD.small {d : Drum} (h : SmallD d) : SmallL (numsD d) := fun x hx => by have := h x hx; omega
theorem stepM_ok {d d' : Drum} {l : List UInt8} (h : stepM d l = some d') (hs : SmallD d) (ha : d.adds.length <= 700) (hl : l.length <= 650) : SmallD d' /\ d'.acids.length + d'.strips.length + d'.batches.length <= d.acids.length + d.strips.length + d.batches.length + 1 /\ d'.adds.length <= 700:= by
 have hcl : Lib.countByte l 32 <= l.length := List.count_le_length
 unfold stepM at h
 split at h
 ·split at h
  ·rename_i a b c e ht
   simp only [Option.some.injEq] at h
   subst h
   have hb := (toldO_blank ht).2
   refine ⟨fun x hx => ?_,by simp; omega,ha⟩
   simp only [numsD,List.flatMap_append,List.flatMap_cons,List.flatMap_nil,List.append_nil,acN,faN,List.mem_cons,List.mem_append,List.not_mem_nil,or_false] at hx
   have hs' := hs x
   simp only [numsD,acN,faN,List.mem_cons,List.mem_append] at hs'
   have hb' := hb x
   simp only [List.mem_cons,List.not_mem_nil,or_false] at hb'
   grind
  ·cases h
 ·split at h
  ·split at h
   ·rename_i r ht
    simp only [Option.some.injEq] at h
    subst h
    obtain ⟨h1,h2⟩ := toldO_blank ht
    refine ⟨fun x hx => ?_,by simp,?_⟩
    ·simp only [numsD,List.mem_cons,List.mem_append] at hx
     have hs' := hs x
     simp only [numsD,List.mem_cons,List.mem_append] at hs'
     have hb' := h2 x
     grind
    ·show r.length <= 700
     rw [h1,addF,List.countP_cons_of_neg (by simp [wAdd]),List.countP_replicate]
     simp; omega
   ·cases h
  ·split at h
   ·split at h
    ·rename_i a b c ht
     simp only [Option.some.injEq] at h
     subst h
     have hb := (toldO_blank ht).2
     refine ⟨fun x hx => ?_,by simp; omega,ha⟩
     simp only [numsD,List.flatMap_append,List.flatMap_cons,List.flatMap_nil,List.append_nil,stN,List.mem_cons,List.mem_append,List.not_mem_nil,or_false] at hx
     have hs' := hs x
     simp only [numsD,stN,List.mem_cons,List.mem_append] at hs'
     have hb' := hb x
     simp only [List.mem_cons,List.not_mem_nil,or_false] at hb'
     grind
    ·cases h
   ·split at h
    ·rename_i a b c e f g ht
     simp only [Option.some.injEq] at h
     subst h
     have hb := (toldO_blank ht).2
     refine ⟨fun x hx => ?_,by simp; omega,ha⟩
     simp only [numsD,List.flatMap_append,List.flatMap_cons,List.flatMap_nil,List.append_nil,baN,List.mem_cons,List.mem_append,List.not_mem_nil,or_false] at hx
     have hs' := hs x
     simp only [numsD,baN,List.mem_cons,List.mem_append] at hs'
     have hb' := hb x
     simp only [List.mem_cons,List.not_mem_nil,or_false] at hb'
     grind
    ·cases h
theorem stepsM_ok : ∀ (L : List (List UInt8)) {d d' : Drum},stepsM d L = some d' -> SmallD d -> d.adds.length <= 700 -> (∀ l ∈ L,l.length <= 650) -> SmallD d' /\ d'.acids.length + d'.strips.length + d'.batches.length <= d.acids.length + d.strips.length + d.batches.length + L.length /\ d'.adds.length <= 700
 | [],d,d',h,hs,ha,hl => by
  simp only [stepsM,Option.some.injEq] at h
  subst h
  exact ⟨hs,by simp,ha⟩
 | x :: L,d,d',h,hs,ha,hl => by
  simp only [stepsM] at h
  cases hx : stepM d x with
  | none => rw [hx] at h; cases h
  | some e =>
   rw [hx] at h
   obtain ⟨h1,h2,h3⟩ := stepM_ok hx hs ha (hl x (by simp))
   obtain ⟨g1,g2,g3⟩ := stepsM_ok L h h1 h3 fun l hm => hl l (by simp [hm])
   exact ⟨g1,by simp only [List.length_cons]; omega,g3⟩
theorem headM_ok {L : List (List UInt8)} {d : Drum} (h : headM L = some d) : SmallD d /\ d.acids = [] /\ d.strips = [] /\ d.batches = [] /\ d.adds = []:= by
 unfold headM at h
 split at h
 ·rename_i a b ht
  simp only [Option.some.injEq] at h
  subst h
  have hb := (toldO_blank ht).2
  refine ⟨fun x hx => hb x ?_,rfl,rfl,rfl,rfl⟩
  simpa [numsD,or_comm] using hx
 ·cases h
end Go.Abs
namespace Go.Abs
open Go.Proofs Go.RowKit
set_option linter.unusedVariables false
set_option linter.unusedSimpArgs false
set_option maxRecDepth 100000
theorem splitF_each (c : UInt8) : ∀ (n : Nat) (l x : List UInt8),x ∈ splitF n c l -> x.length <= l.length
 | 0,l,x,h => by simp only [splitF,List.mem_singleton] at h; subst h; exact Nat.le_refl _
 | n + 1,l,x,h => by
  unfold splitF at h
  split at h
  ·simp only [List.mem_singleton] at h; subst h; exact Nat.le_refl _
  ·rcases List.mem_cons.1 h with rfl | h
   ·simp; omega
   ·have := splitF_each c n _ x h
    simp only [List.length_drop] at this; omega
theorem splitL_each {c : UInt8} {l x : List UInt8} (h : x ∈ splitL c l) : x.length <= l.length := splitF_each c _ l x h
theorem splitL_len (c : UInt8) (l : List UInt8) : 1 <= (splitL c l).length /\ (splitL c l).length <= l.length + 1:= by
 have := splitF_len c (splitN c l) l
 have h2 : splitN c l <= l.length := by unfold splitN; omega
 unfold splitL; omega
abbrev st110 (s : List UInt8) (M : List (List UInt8)) (k : Nat) (d : Drum) : ASt := mkSt [(0,.pv (.str (bytesOf s))),(2,.box 0 0),(5,.box 1 0),(6,.box 2 0),(40,.pv (.sl (M.map eStrL))),(41,.pv (vi M.length)),(42,.pv (vi k))]
 [(0,.box [.nils,.pv (vi 0),.pv (vi 0),.nils,.nils,.nils]),(1,.box [.arr 3,.pv (vi d.known),.pv (vi d.hours),.pv (eInts d.adds),.arr 4,.arr 5]),(2,wdO),(3,.arr 137 4 (d.acids.map eAcid)),(4,.arr 74 3 (d.strips.map eStrip)),(5,.arr 77 6 (d.batches.map eBatch))] 6
theorem eqw {a b : List UInt8} {ba : ByteArray} (hb : ba.data.toList = b) (r : Bool) (h : decide (a = b) = r) : ((bytesOf a).data.toList == ba.data.toList) = r:= by
 rw [hb,<- h]
 show (a == b) = decide (a = b)
 by_cases he : a = b
 ·simp [he]
 ·rw [decide_eq_false he,beq_eq_false_iff_ne.2 he]
theorem steps_at {D0 d : Drum} {M : List (List UInt8)} {k : Nat} {x : List UInt8} (hx : M[k]? = some x) (h : stepsM D0 (M.take k) = some d) : (stepM d x = none -> stepsM D0 M = none) /\ ∀ d',stepM d x = some d' -> stepsM D0 (M.take (k + 1)) = some d':= by
 refine ⟨fun hn => ?_,fun d' hd => ?_⟩
 ·have hk := (List.getElem?_eq_some_iff.1 hx).1
  have : M = M.take k ++ x :: M.drop (k + 1):= by
   have e := List.take_append_drop k M
   rw [List.drop_eq_getElem_cons hk] at e
   rw [(List.getElem?_eq_some_iff.1 hx).2] at e
   exact e.symm
  rw [this]
  exact stepsM_bad _ _ _ _ _ h hn
 ·rw [List.take_add_one,hx]
  show stepsM D0 (M.take k ++ [x]) = _
  rw [stepsM_snoc,h]
  exact hd
set_option maxHeartbeats 8000000 in
theorem f110g (s : List UInt8) (hs : s.length <= 600) : ACallsB Tryz.prog 110 [.str (bytesOf s)] (fun r => ∃ d,readM s = some d /\ r = .pv (eDrum d)) (fun c => readM s = none /\ panW c):= by
 have k159 := f159 s 10 (by omega)
 have k160 := f160t (bytesOf s)
 have k160f := f160f (bytesOf s)
 have hLl := splitL_len 10 s
 have hLe : ∀ x ∈ splitL 10 s,x.length <= 600 := fun x hx => Nat.le_trans (splitL_each hx) hs
 unfold readM
 generalize splitL 10 s = L at *
 obtain ⟨l0,hl0⟩ : ∃ l0,L[0]? = some l0 := ⟨L[0]'(by omega),by simp⟩
 have g0 : (L.map eStrL)[(0 : Int).toNat]? = some (eStrL l0) := by simp [hl0]
 have hl0l := hLe l0 (List.mem_of_getElem? hl0)
 have hhd : L.headD [] = l0:= by
  cases L with
  | nil => simp at hl0
  | cons x L => simpa using hl0
 refine ACallsB.of_body hT Tryz.func110 rfl (by kernel_rfl) rfl ?_
 (repeat (refine stq ?_))
 refine AL_do2 rfl ⟨_,op_call1 rfl rfl rfl rfl k159,?_⟩
 refine AL_pure (t := 17) rfl rfl ?_
 (repeat (refine stq ?_))
 by_cases h3 : L.length < 3
 ·rw [show decide (((L.length : Nat) : Int) >= 3) = false from decide_eq_false (by omega)]
  refine AL_callPn rfl rfl rfl rfl k160f ?_
  (repeat (first | refine then_panic ?_ | refine inblk_panic ?_))
  exact ⟨_,⟨by rw [if_pos h3],_,rfl⟩,rfl⟩
 ·rw [if_neg h3]
  rw [show decide (((L.length : Nat) : Int) >= 3) = true from decide_eq_true (by omega)]
  (repeat' (first | refine stq ?_ | (refine AL_do2 rfl ?_; first | refine ⟨_,op_call1 rfl rfl rfl rfl (k160),nrmA rfl ?_⟩) | (with_reducible refine AL_id ?_); (fail_if_success (refine AL_glit rfl rfl rfl (by first | exact .inl (by with_reducible rfl) | exact .inr (by with_reducible rfl)) ?_)); first | refine AL_gdec rfl rfl rfl (fun hg => ?_) (fun hg => ?_) | refine AL_gnot rfl rfl rfl (fun hg => ?_) (fun hg => ?_) | refine AL_gcases rfl rfl rfl (fun hg => ?_) (fun hg => ?_)))
  cases hto : toldO (splitL 32 l0) fDrum with
  | none =>
   have k161 := f161f l0 fDrum (by omega) (by decide) hto
   have hhm : headM L = none := by unfold headM; rw [hhd,hto]
   rw [hhm]
   refine AL_pure (t := 26) rfl rfl ?_
   refine AL_doP rfl (op_callBP rfl rfl rfl rfl k161) ?_ ?_
   ·rintro _ ⟨_,hf,_⟩
    exact False.elim hf
   rintro t s' v ⟨hp,rfl⟩
   (repeat (first | refine then_panic ?_ | refine inblk_panic ?_))
   exact ⟨_,⟨rfl,hp⟩,rfl⟩
  | some r =>
   have k161 := f161t (by omega) (by decide) hto
   obtain ⟨a,b,rfl⟩ := len2 (toldO_blank hto).1
   have hhm : headM L = some ⟨[],b,a,[],[],[]⟩ := by unfold headM; rw [hhd,hto]
   obtain ⟨hm1,_⟩ := headM_ok hhm
   rw [hhm]
   refine AL_do2 rfl ⟨_,op_callB rfl rfl rfl rfl k161 rfl,?_⟩
   refine AL_pure (t := 27) rfl rfl ?_
   have p0 : ([a,b].map eInt)[(0 : Int).toNat]? = some (eInt a) := rfl
   have p1 : ([a,b].map eInt)[(1 : Int).toNat]? = some (eInt b) := rfl
   (repeat (refine stq ?_))
   iterate 7 (refine sdq ?_)
   refine DG_next (D_allocE hT rfl rfl rfl rfl) ?_
   refine DG_next (D_storeE hT rfl rfl rfl rfl rfl rfl rfl rfl rfl rfl) ?_
   refine DG_end hM (by kernel_rfl) ?_
   (repeat' (first | refine stq ?_ | (refine AL_do2 rfl ?_; first | refine ⟨_,op_call1 rfl rfl rfl rfl (f154'),nrmA rfl ?_⟩) | (with_reducible refine AL_id ?_); (fail_if_success (refine AL_glit rfl rfl rfl (by first | exact .inl (by with_reducible rfl) | exact .inr (by with_reducible rfl)) ?_)); first | refine AL_gdec rfl rfl rfl (fun hg => ?_) (fun hg => ?_) | refine AL_gnot rfl rfl rfl (fun hg => ?_) (fun hg => ?_) | refine AL_gcases rfl rfl rfl (fun hg => ?_) (fun hg => ?_)))
   obtain ⟨n,hn⟩ : ∃ n : Nat,L.length = n + 3 := ⟨L.length - 3,by omega⟩
   (repeat (refine stq ?_))
   rw [show ((L.length : Nat) : Int) - 2 = ((n + 1 : Nat) : Int) by omega]
   refine AL_do2 rfl ⟨_,op_slice_sl (lo := 1) (hi := n + 1) hT rfl rfl rfl rfl rfl rfl (by intro y hy; obtain ⟨_,_,rfl⟩ := List.mem_map.1 hy; rfl) (.inr ⟨_,.i64,rfl,rfl⟩) (.inr ⟨_,.i64,rfl,rfl⟩) (by omega) (by simp; omega),?_⟩
   have hMM : ((L.map eStrL).take (n + 1)).drop 1 = ((L.drop 1).take (L.length - 3)).map eStrL:= by
    rw [<- List.map_take,<- List.map_drop,List.drop_take,hn]; rfl
   rw [hMM]
   have hML : ((L.drop 1).take (L.length - 3)).length <= 600 := by simp; omega
   have hMe : ∀ x ∈ (L.drop 1).take (L.length - 3),x.length <= 600 := fun x hx => hLe x (List.mem_of_mem_drop (List.mem_of_mem_take hx))
   generalize (L.drop 1).take (L.length - 3) = M at *
   (repeat (refine stq ?_))
   refine AW_nilBox 4 0 137 4 rfl rfl ?_
   refine AW_nilBox 4 4 74 3 rfl rfl ?_
   refine AW_nilBox 4 5 77 6 rfl rfl ?_
   refine AW_nilBox 4 3 3 1 rfl rfl ?_
   refine AW_arrBox (b := 4) 3 rfl rfl rfl rfl ?_
   refine AW_loopC (fun i : Nat × Drum => i.1 <= M.length /\ stepsM ⟨[],b,a,[],[],[]⟩ (M.take i.1) = some i.2) (fun i => st110 s M i.1 i.2) (fun i => M.length - i.1) (0,⟨[],b,a,[],[],[]⟩) ⟨Nat.zero_le _,rfl⟩ ?_ ?_
   ·(refine Le.mkR [(0,0),(1,4),(2,5),(3,6),(4,7),(5,8)] ?_ ?_ rfl; all_goals (repeat' (first | exact trivial | refine sle ?_ | refine ⟨?_,rfl,?_⟩ | refine ⟨?_,by decide,rfl,?_⟩ | fail)))
   ·rintro ⟨k,d⟩ ⟨hk,hst⟩
    dsimp only at hk hst ⊢
    obtain ⟨hsm,hcnt,hadd⟩ := stepsM_ok _ hst hm1 (by simp) (fun x hx => by have := hMe x (List.mem_of_mem_take hx); omega)
    simp only [List.length_nil,List.length_take,Nat.zero_add] at hcnt
    have hA : d.acids.length <= 600 := by omega
    have hS : d.strips.length <= 600 := by omega
    have hB : d.batches.length <= 600 := by omega
    by_cases hk3 : k = M.length
    ·subst hk3
     rw [List.take_length] at hst
     rw [hst]
     have k105 := f105w d (by omega) hadd (numsK hsm.small)
     (repeat (refine stq ?_))
     refine AW_if rfl (fun hc => absurd hc (by omega)) (fun _ => ?_)
     (repeat (refine stq ?_))
     refine AL_do2 rfl ⟨_,op_callB rfl rfl rfl rfl k105 rfl,?_⟩
     by_cases ht : textD d = bytesOf s
     ·(repeat (refine stq ?_))
      refine AL_do2 rfl ⟨_,op_streqB (b := true) (by rw [ht]; simp) rfl rfl rfl rfl,?_⟩
      (repeat (refine stq ?_))
      refine AL_do2 rfl ⟨_,op_call1 rfl rfl rfl rfl k160,?_⟩
      refine AL_arrBox (b := 1) 0 rfl rfl rfl rfl ?_
      refine AL_arrBox (b := 1) 4 rfl rfl rfl rfl ?_
      refine AL_arrBox (b := 1) 5 rfl rfl rfl rfl ?_
      (repeat (refine stq ?_))
      exact ⟨_,_,rfl,rfl,d,if_pos ht,rfl⟩
     ·(repeat (refine stq ?_))
      refine AL_do2 rfl ⟨_,op_streqB (b := false) (beq_eq_false_iff_ne.2 fun h => ht (bytes_ext h)) rfl rfl rfl rfl,?_⟩
      (repeat (refine stq ?_))
      refine AL_callPn rfl rfl rfl rfl k160f ?_
      (repeat (first | refine then_panic ?_ | refine inblk_panic ?_))
      exact ⟨_,⟨if_neg ht,_,rfl⟩,rfl⟩
    ·have hk' : k < M.length := by omega
     obtain ⟨x,hx⟩ : ∃ x,M[k]? = some x := ⟨M[k],by simp [hk']⟩
     have hxl := hMe x (List.mem_of_getElem? hx)
     have e1 : (M.map eStrL)[((k : Nat) : Int).toNat]? = some (eStrL x) := get_map eStrL hx
     obtain ⟨hbad,hgo⟩ := steps_at hx hst
     have k162 : ACalls Tryz.prog 162 [.str (bytesOf x),.str (byB 32)] (fun r => r = .tup [.str (bytesOf (cutL 32 x).1),.str (bytesOf (cutL 32 x).2.1),.bool (cutL 32 x).2.2]) := f162 x 32 (by omega)
     (repeat (refine stq ?_))
     refine AW_if rfl (fun _ => ?_) (fun hc => absurd (show ((k : Nat) : Int) < M.length by omega) hc)
     (repeat' (first | refine stq ?_ | (refine AL_do2 rfl ?_; first | refine ⟨_,op_call1 rfl rfl rfl rfl (k162),nrmA rfl ?_⟩) | (with_reducible refine AL_id ?_); (fail_if_success (refine AL_glit rfl rfl rfl (by first | exact .inl (by with_reducible rfl) | exact .inr (by with_reducible rfl)) ?_)); first | refine AL_gdec rfl rfl rfl (fun hg => ?_) (fun hg => ?_) | refine AL_gnot rfl rfl rfl (fun hg => ?_) (fun hg => ?_) | refine AL_gcases rfl rfl rfl (fun hg => ?_) (fun hg => ?_)))
     by_cases w1 : (cutL 32 x).1 = wAcid
     ·refine AL_do2 rfl ⟨_,op_streqB (b := true) (eqw (b := wAcid) rfl _ (decide_eq_true w1)) rfl rfl rfl rfl,?_⟩
      (repeat (refine stq ?_))
      cases hto1 : toldO (splitL 32 x) fAcid with
      | none =>
       have kf := f161f x fAcid (by omega) (by decide) hto1
       have hsn : stepM d x = none := by unfold stepM; rw [if_pos w1,hto1]
       refine AL_pure (t := 85) rfl rfl ?_
       refine AL_doP rfl (op_callBP rfl rfl rfl rfl kf) ?_ ?_
       ·rintro _ ⟨_,hf,_⟩
        exact False.elim hf
       rintro t s' v ⟨hp,rfl⟩
       (repeat (first | refine then_panic ?_ | refine inblk_panic ?_))
       exact ⟨_,⟨by rw [hbad hsn],hp⟩,rfl⟩
      | some r =>
       have kt := f161t (by omega) (by decide) hto1
       obtain ⟨a1,a2,a3,a4,rfl⟩ := len4 (toldO_blank hto1).1
       have hsn : stepM d x = some { d with acids := d.acids ++ [⟨⟨a1,a2⟩,⟨a3,a4⟩⟩] } := by unfold stepM; rw [if_pos w1,hto1]
       have hgo' := hgo _ hsn
       refine AL_do2 rfl ⟨_,op_callB rfl rfl rfl rfl kt rfl,?_⟩
       refine AL_pure (t := 86) rfl rfl ?_
       have p0 : ([a1,a2,a3,a4].map eInt)[(0 : Int).toNat]? = some (eInt a1) := rfl
       have p1 : ([a1,a2,a3,a4].map eInt)[(1 : Int).toNat]? = some (eInt a2) := rfl
       have p2 : ([a1,a2,a3,a4].map eInt)[(2 : Int).toNat]? = some (eInt a3) := rfl
       have p3 : ([a1,a2,a3,a4].map eInt)[(3 : Int).toNat]? = some (eInt a4) := rfl
       (repeat (refine stq ?_))
       (repeat (first | refine sdq ?_))
       refine DG_end hM (by kernel_rfl) ?_
       (repeat (refine stq ?_))
       refine ⟨(k + 1,_),⟨hk',hgo'⟩,by dsimp only; omega,?_⟩
       (refine Le.mkR [(0,0),(1,1),(2,2),(3,8),(4,4),(5,5)] ?_ ?_ rfl; all_goals (repeat' (first | exact trivial | refine sle ?_ | refine ⟨?_,rfl,?_⟩ | refine ⟨?_,by decide,rfl,?_⟩ | fail)))
       show some (AObj.arr 137 4 (d.acids.map eAcid ++ [eAcid ⟨⟨a1,a2⟩,⟨a3,a4⟩⟩])) = some (AObj.arr 137 4 ((d.acids ++ [(⟨⟨a1,a2⟩,⟨a3,a4⟩⟩ : Acid)]).map eAcid))
       rw [List.map_append]; rfl
     ·refine AL_do2 rfl ⟨_,op_streqB (b := false) (eqw (b := wAcid) rfl _ (decide_eq_false w1)) rfl rfl rfl rfl,?_⟩
      (repeat (refine stq ?_))
      by_cases w2 : (cutL 32 x).1 = wAdd
      ·refine AL_do2 rfl ⟨_,op_streqB (b := true) (eqw (b := wAdd) rfl _ (decide_eq_true w2)) rfl rfl rfl rfl,?_⟩
       (repeat (refine stq ?_))
       have k163 : ACalls Tryz.prog 163 [.str (bytesOf x),.str (byB 32)] (fun r => r = .pv (vi (Lib.countByte x 32))) := f163 (bytesOf x) 32
       have hcl : Lib.countByte x 32 <= x.length := List.count_le_length
       have hws : (addF x).map eStrL = [[PV.str (bytesOf wAdd)]] ++ List.replicate (Lib.countByte x 32) [PV.str ByteArray.empty]:= by
        simp only [addF,List.map_cons,List.map_replicate,List.singleton_append]; rfl
       have hwl : (addF x).length <= 601 := by simp [addF]; omega
       generalize hcc : Lib.countByte x 32 = c at *
       rcases Nat.eq_zero_or_pos c with rfl | hcp
       ·have hws : (addF x).map eStrL = [[PV.str (bytesOf wAdd)]] := hws
        (repeat' (first | refine stq ?_ | (refine AL_do2 rfl ?_; first | refine ⟨_,op_call1 rfl rfl rfl rfl (k163),nrmA rfl ?_⟩) | (with_reducible refine AL_id ?_); (fail_if_success (refine AL_glit rfl rfl rfl (by first | exact .inl (by with_reducible rfl) | exact .inr (by with_reducible rfl)) ?_)); first | refine AL_gdec rfl rfl rfl (fun hg => ?_) (fun hg => ?_) | refine AL_gnot rfl rfl rfl (fun hg => ?_) (fun hg => ?_) | refine AL_gcases rfl rfl rfl (fun hg => ?_) (fun hg => ?_)))
        refine AL_do2 rfl ⟨_,op_appendZ0 (k := .i64) hT und3 rfl rfl rfl rfl rfl rfl rfl rfl,?_⟩
        (repeat (refine stq ?_))
        cases hto1 : toldO (splitL 32 x) (addF x) with
        | none =>
         have kf := f161f x (addF x) (by omega) (by omega) hto1
         rw [hws] at kf
         have hsn : stepM d x = none := by unfold stepM; rw [if_neg w1,if_pos w2,hto1]
         refine AL_pure (t := 116) rfl rfl ?_
         refine AL_doP rfl (op_callBP rfl rfl rfl rfl kf) ?_ ?_
         ·rintro _ ⟨_,hf,_⟩
          exact False.elim hf
         rintro t s' v ⟨hp,rfl⟩
         (repeat (first | refine then_panic ?_ | refine inblk_panic ?_))
         exact ⟨_,⟨by rw [hbad hsn],hp⟩,rfl⟩
        | some r =>
         have kt := f161t (by omega) (by omega) hto1
         rw [hws] at kt
         have hsn : stepM d x = some { d with adds := r } := by unfold stepM; rw [if_neg w1,if_pos w2,hto1]
         have hgo' := hgo _ hsn
         refine AL_pure (t := 116) rfl rfl ?_
         refine AL_do2 rfl ⟨_,op_call1 rfl rfl rfl rfl kt,?_⟩
         refine AL_pure (t := 117) rfl rfl ?_
         (repeat (refine stq ?_))
         refine ⟨(k + 1,_),⟨hk',hgo'⟩,by dsimp only; omega,?_⟩
         (refine Le.mk ?_ ?_; all_goals (repeat' (first | exact trivial | refine sle ?_ | refine ⟨?_,rfl,?_⟩ | refine ⟨?_,by decide,rfl,?_⟩ | fail)))
       ·(repeat' (first | refine stq ?_ | (refine AL_do2 rfl ?_; first | refine ⟨_,op_call1 rfl rfl rfl rfl (k163),nrmA rfl ?_⟩) | (with_reducible refine AL_id ?_); (fail_if_success (refine AL_glit rfl rfl rfl (by first | exact .inl (by with_reducible rfl) | exact .inr (by with_reducible rfl)) ?_)); first | refine AL_gdec rfl rfl rfl (fun hg => ?_) (fun hg => ?_) | refine AL_gnot rfl rfl rfl (fun hg => ?_) (fun hg => ?_) | refine AL_gcases rfl rfl rfl (fun hg => ?_) (fun hg => ?_)))
        refine AL_do2 rfl ⟨_,op_appendZ (m := c) (zp := [.str ByteArray.empty]) hT und3 rfl rfl rfl rfl rfl rfl rfl rfl rfl rfl rfl rfl (by omega) (by simp; omega) rfl,?_⟩
        (repeat (refine stq ?_))
        cases hto1 : toldO (splitL 32 x) (addF x) with
        | none =>
         have kf := f161f x (addF x) (by omega) (by omega) hto1
         rw [hws] at kf
         have hsn : stepM d x = none := by unfold stepM; rw [if_neg w1,if_pos w2,hto1]
         refine AL_pure (t := 116) rfl rfl ?_
         refine AL_doP rfl (op_callBP rfl rfl rfl rfl kf) ?_ ?_
         ·rintro _ ⟨_,hf,_⟩
          exact False.elim hf
         rintro t s' v ⟨hp,rfl⟩
         (repeat (first | refine then_panic ?_ | refine inblk_panic ?_))
         exact ⟨_,⟨by rw [hbad hsn],hp⟩,rfl⟩
        | some r =>
         have kt := f161t (by omega) (by omega) hto1
         rw [hws] at kt
         have hsn : stepM d x = some { d with adds := r } := by unfold stepM; rw [if_neg w1,if_pos w2,hto1]
         have hgo' := hgo _ hsn
         refine AL_pure (t := 116) rfl rfl ?_
         refine AL_do2 rfl ⟨_,op_call1 rfl rfl rfl rfl kt,?_⟩
         refine AL_pure (t := 117) rfl rfl ?_
         (repeat (refine stq ?_))
         refine ⟨(k + 1,_),⟨hk',hgo'⟩,by dsimp only; omega,?_⟩
         (refine Le.mk ?_ ?_; all_goals (repeat' (first | exact trivial | refine sle ?_ | refine ⟨?_,rfl,?_⟩ | refine ⟨?_,by decide,rfl,?_⟩ | fail)))
      ·refine AL_do2 rfl ⟨_,op_streqB (b := false) (eqw (b := wAdd) rfl _ (decide_eq_false w2)) rfl rfl rfl rfl,?_⟩
       (repeat (refine stq ?_))
       by_cases w3 : (cutL 32 x).1 = wStrip
       ·refine AL_do2 rfl ⟨_,op_streqB (b := true) (eqw (b := wStrip) rfl _ (decide_eq_true w3)) rfl rfl rfl rfl,?_⟩
        (repeat (refine stq ?_))
        cases hto1 : toldO (splitL 32 x) fStrip with
        | none =>
         have kf := f161f x fStrip (by omega) (by decide) hto1
         have hsn : stepM d x = none := by unfold stepM; rw [if_neg w1,if_neg w2,if_pos w3,hto1]
         refine AL_pure (t := 124) rfl rfl ?_
         refine AL_doP rfl (op_callBP rfl rfl rfl rfl kf) ?_ ?_
         ·rintro _ ⟨_,hf,_⟩
          exact False.elim hf
         rintro t s' v ⟨hp,rfl⟩
         (repeat (first | refine then_panic ?_ | refine inblk_panic ?_))
         exact ⟨_,⟨by rw [hbad hsn],hp⟩,rfl⟩
        | some r =>
         have kt := f161t (by omega) (by decide) hto1
         obtain ⟨a1,a2,a3,rfl⟩ := len3 (toldO_blank hto1).1
         have hsn : stepM d x = some { d with strips := d.strips ++ [⟨a1,a2,a3⟩] } := by unfold stepM; rw [if_neg w1,if_neg w2,if_pos w3,hto1]
         have hgo' := hgo _ hsn
         refine AL_do2 rfl ⟨_,op_callB rfl rfl rfl rfl kt rfl,?_⟩
         refine AL_pure (t := 125) rfl rfl ?_
         have p0 : ([a1,a2,a3].map eInt)[(0 : Int).toNat]? = some (eInt a1) := rfl
         have p1 : ([a1,a2,a3].map eInt)[(1 : Int).toNat]? = some (eInt a2) := rfl
         have p2 : ([a1,a2,a3].map eInt)[(2 : Int).toNat]? = some (eInt a3) := rfl
         (repeat (refine stq ?_))
         (repeat (first | refine sdq ?_))
         refine DG_end hM (by kernel_rfl) ?_
         (repeat (refine stq ?_))
         refine ⟨(k + 1,_),⟨hk',hgo'⟩,by dsimp only; omega,?_⟩
         (refine Le.mkR [(0,0),(1,1),(2,2),(3,3),(4,8),(5,5)] ?_ ?_ rfl; all_goals (repeat' (first | exact trivial | refine sle ?_ | refine ⟨?_,rfl,?_⟩ | refine ⟨?_,by decide,rfl,?_⟩ | fail)))
         show some (AObj.arr 74 3 (d.strips.map eStrip ++ [eStrip ⟨a1,a2,a3⟩])) = some (AObj.arr 74 3 ((d.strips ++ [(⟨a1,a2,a3⟩ : Strip)]).map eStrip))
         rw [List.map_append]; rfl
       ·refine AL_do2 rfl ⟨_,op_streqB (b := false) (eqw (b := wStrip) rfl _ (decide_eq_false w3)) rfl rfl rfl rfl,?_⟩
        (repeat (refine stq ?_))
        cases hto1 : toldO (splitL 32 x) fBatch with
        | none =>
         have kf := f161f x fBatch (by omega) (by decide) hto1
         have hsn : stepM d x = none := by unfold stepM; rw [if_neg w1,if_neg w2,if_neg w3,hto1]
         refine AL_pure (t := 54) rfl rfl ?_
         refine AL_doP rfl (op_callBP rfl rfl rfl rfl kf) ?_ ?_
         ·rintro _ ⟨_,hf,_⟩
          exact False.elim hf
         rintro t s' v ⟨hp,rfl⟩
         (repeat (first | refine then_panic ?_ | refine inblk_panic ?_))
         exact ⟨_,⟨by rw [hbad hsn],hp⟩,rfl⟩
        | some r =>
         have kt := f161t (by omega) (by decide) hto1
         obtain ⟨a1,a2,a3,a4,a5,a6,rfl⟩ := len6 (toldO_blank hto1).1
         have hsn : stepM d x = some { d with batches := d.batches ++ [⟨a1,a2,a3,a4,a5,a6⟩] } := by unfold stepM; rw [if_neg w1,if_neg w2,if_neg w3,hto1]
         have hgo' := hgo _ hsn
         refine AL_do2 rfl ⟨_,op_callB rfl rfl rfl rfl kt rfl,?_⟩
         refine AL_pure (t := 55) rfl rfl ?_
         have p0 : ([a1,a2,a3,a4,a5,a6].map eInt)[(0 : Int).toNat]? = some (eInt a1) := rfl
         have p1 : ([a1,a2,a3,a4,a5,a6].map eInt)[(1 : Int).toNat]? = some (eInt a2) := rfl
         have p2 : ([a1,a2,a3,a4,a5,a6].map eInt)[(2 : Int).toNat]? = some (eInt a3) := rfl
         have p3 : ([a1,a2,a3,a4,a5,a6].map eInt)[(3 : Int).toNat]? = some (eInt a4) := rfl
         have p4 : ([a1,a2,a3,a4,a5,a6].map eInt)[(4 : Int).toNat]? = some (eInt a5) := rfl
         have p5 : ([a1,a2,a3,a4,a5,a6].map eInt)[(5 : Int).toNat]? = some (eInt a6) := rfl
         (repeat (refine stq ?_))
         (repeat (first | refine sdq ?_))
         refine DG_end hM (by kernel_rfl) ?_
         (repeat (refine stq ?_))
         refine ⟨(k + 1,_),⟨hk',hgo'⟩,by dsimp only; omega,?_⟩
         (refine Le.mkR [(0,0),(1,1),(2,2),(3,3),(4,4),(5,8)] ?_ ?_ rfl; all_goals (repeat' (first | exact trivial | refine sle ?_ | refine ⟨?_,rfl,?_⟩ | refine ⟨?_,by decide,rfl,?_⟩ | fail)))
         show some (AObj.arr 77 6 (d.batches.map eBatch ++ [eBatch ⟨a1,a2,a3,a4,a5,a6⟩])) = some (AObj.arr 77 6 ((d.batches ++ [(⟨a1,a2,a3,a4,a5,a6⟩ : Batch)]).map eBatch))
         rw [List.map_append]; rfl
end Go.Abs
namespace Go.Abs
open Go.Proofs Go.RowKit
set_option linter.unusedVariables false
set_option linter.unusedSimpArgs false
set_option maxRecDepth 100000
theorem f110t {s : List UInt8} {d : Drum} (hs : s.length <= 600) (h : readM s = some d) : ACalls Tryz.prog 110 [.str (bytesOf s)] (fun r => r = .pv (eDrum d)) :=
 (ACallsB.mono (f110g s hs) (fun r ⟨d',h1,h2⟩ => by rw [h] at h1; cases h1; exact h2) (fun c hc => by rw [h] at hc; exact absurd hc.1 (by simp))).calm
theorem f110n {s : List UInt8} (hs : s.length <= 600) (h : readM s = none) : ACallsB Tryz.prog 110 [.str (bytesOf s)] (fun _ => False) panW :=
 ACallsB.mono (f110g s hs) (fun r ⟨d',h1,h2⟩ => by rw [h] at h1; cases h1) (fun c hc => hc.2)
theorem readM_ok {s : List UInt8} {d : Drum} (hs : s.length <= 600) (h : readM s = some d) : SmallD d /\ d.acids.length + d.strips.length + d.batches.length <= 600 /\ d.adds.length <= 700 /\ textD d = bytesOf s:= by
 have hLl := splitL_len 10 s
 unfold readM at h
 split at h
 ·cases h
 ·split at h
  ·cases h
  ·rename_i d0 h0
   split at h
   ·cases h
   ·rename_i d1 h1
    split at h
    ·rename_i ht
     simp only [Option.some.injEq] at h
     subst h
     obtain ⟨g1,g2,g3,g4,g5⟩ := headM_ok h0
     obtain ⟨a1,a2,a3⟩ := stepsM_ok _ h1 g1 (by rw [g5]; simp) (fun x hx => by have := splitL_each (List.mem_of_mem_drop (List.mem_of_mem_take hx)); omega)
     rw [g2,g3,g4] at a2
     simp only [List.length_nil,List.length_take,List.length_drop] at a2
     exact ⟨a1,by omega,a3,ht⟩
    ·cases h
def zeroD : Drum := ⟨[],0,0,[],[],[]⟩
abbrev rdS (s : List UInt8) (f : List FV) : List (Nat × AObj) := [(0,.box [.pv (.str (bytesOf s))]),(1,.box f)]
abbrev drF (d : Drum) : List FV := (eDrumC d).map FV.pv
theorem f109t {s : List UInt8} {d : Drum} (hs : s.length <= 600) (h : readM s = some d) (av : Nat -> Value) : ACallsX Tryz.prog 109 [.box 0 0,.box 1 0] (rdS s zeroR ++ ancL av rdA) 4 (fun sf => sf = mkSt [(0,.tup [])] (rdS s (drF d) ++ ancL av rdA) 4) (fun _ _ => False):= by
 have k := f110t hs h
 refine ACallsX.of_body hT Tryz.func109 rfl (by kernel_rfl) rfl ?_
 (repeat' (first | refine stq ?_ | (refine AL_do2 rfl ?_; first | refine ⟨_,op_call1 rfl rfl rfl rfl (k),nrmA rfl ?_⟩) | (with_reducible refine AL_id ?_); (fail_if_success (refine AL_glit rfl rfl rfl (by first | exact .inl (by with_reducible rfl) | exact .inr (by with_reducible rfl)) ?_)); first | refine AL_gdec rfl rfl rfl (fun hg => ?_) (fun hg => ?_) | refine AL_gnot rfl rfl rfl (fun hg => ?_) (fun hg => ?_) | refine AL_gcases rfl rfl rfl (fun hg => ?_) (fun hg => ?_)))
 refine ⟨_,mkSt [(0,.tup [])] (rdS s (drF d) ++ ancL av rdA) 4,rfl,?_,rfl⟩
 (refine Le.mk ?_ ?_; all_goals (repeat' (first | exact trivial | refine sle ?_ | refine ⟨?_,rfl,?_⟩ | refine ⟨?_,by decide,rfl,?_⟩ | fail)))
theorem f109n {s : List UInt8} (hs : s.length <= 600) (h : readM s = none) (av : Nat -> Value) : ACallsX Tryz.prog 109 [.box 0 0,.box 1 0] (rdS s zeroR ++ ancL av rdA) 4 (fun _ => False) (fun c sf => panW c /\ sf = mkSt [] (rdS s zeroR ++ ancL av rdA) 4):= by
 have k := f110n hs h
 refine ACallsX.of_body hT Tryz.func109 rfl (by kernel_rfl) rfl ?_
 (repeat (refine stq ?_))
 refine AL_doP rfl (op_callBP rfl rfl rfl rfl k) ?_ ?_
 ·rintro s' ⟨r,hf,_⟩
  exact False.elim hf
 ·rintro t s' v ⟨hq,rfl⟩
  (repeat (first | refine then_panic ?_ | refine inblk_panic ?_))
  refine ⟨v,t,mkSt [] (rdS s zeroR ++ ancL av rdA) 4,rfl,?_,hq,rfl⟩
  (refine Le.mk ?_ ?_; all_goals (repeat' (first | exact trivial | refine sle ?_ | refine ⟨?_,rfl,?_⟩ | refine ⟨?_,by decide,rfl,?_⟩ | fail)))
abbrev tcS (s : List UInt8) (f : List FV) (e : Int) (av : Nat -> Value) (v : Value) : List (Nat × AObj) := rdS s f ++ ancL av rdA ++ [(4,.box [.pv (vi e)]),(5,.anc v (.fn 158 [.box 4 0]))]
def Q108t (s : List UInt8) (d : Drum) (av : Nat -> Value) (v : Value) : Exit -> ASt -> Prop
 | .ret,s' => Le s' (mkSt [(2,.box 4 0)] (tcS s (drF d) 0 av v) 6)
 | _,_ => False
def Q108n (s : List UInt8) (av : Nat -> Value) (v : Value) : Exit -> ASt -> Prop
 | .panic ch,s' => (∃ x : ByteArray,ch = panV (177,.agg #[.string x])) /\ Le s' (mkSt [(2,.box 4 0)] (tcS s zeroR 0 av v) 6)
 | _,_ => False
set_option maxHeartbeats 4000000 in
theorem f108t {s : List UInt8} {d : Drum} (hs : s.length <= 600) (h : readM s = some d) (av : Nat -> Value) : ACallsX Tryz.prog 108 [.fn 109 [.box 0 0,.box 1 0]] (rdS s zeroR ++ ancL av rdA) 4 (fun sf => sf = mkSt [(0,.pv (vi 0))] (rdS s (drF d) ++ ancL av rdA) 4) (fun _ _ => False):= by
 refine ACallsX.of_deferring (fn := Tryz.f108) rfl rfl (by kernel_rfl) rfl ?_
 refine AWR_seq (Qx := fun _ _ => False) ?_ (fun _ _ _ _ _ _ _ _ h => by obtain ⟨_,_,_,_,h⟩ := h; exact h.elim)
 (repeat (refine stq ?_))
 refine AWR_defer (f := .tmp 3) rfl (op_mkfunc rfl rfl rfl) rfl rfl rfl rfl fun v => ?_
 refine AWR_end (Qx := Q108t s d av v) ?_ ?_
 ·(repeat (refine stq ?_))
  refine AL_doS rfl (op_callXs (objs := rdS s zeroR) (n := 4) [(0,0),(1,1)] [0,1] rdA (fun av => f109t hs h av) rfl rfl rfl rfl (by (repeat' (first | exact trivial | refine And.intro ?_ ?_)); all_goals (first | rfl | decide)) rfl (by (repeat' (first | exact trivial | refine And.intro ?_ ?_)); all_goals (first | rfl | decide)) rfl ⟨⟨rfl,rfl,⟨_,.head _⟩,rfl⟩,⟨rfl,rfl,⟨_,.tail _ (.head _)⟩,rfl⟩,trivial⟩ (by simp) ?_) ?_
  ·rintro av' sf rfl
   exact ⟨.inl ⟨2,by simp,rfl⟩,.inl ⟨3,by simp,rfl⟩,trivial⟩
  ·rintro s' ⟨av',sf,rfl,rfl⟩
   (repeat (refine stq ?_))
   show Le _ _
   (refine Le.mk ?_ ?_; all_goals (repeat' (first | exact trivial | refine sle ?_ | refine ⟨?_,rfl,?_⟩ | refine ⟨?_,by decide,rfl,?_⟩ | fail)))
 ·rintro W0 D0 e a' w hr hp ⟨s',D',φ',hI,hq⟩
  have hen : Enters Tryz.prog 158 := enters_of (fn := Tryz.f158) rfl rfl (by kernel_rfl)
  cases e with
  | ret =>
   have hle : Le s' (mkSt [(2,.box 4 0)] (tcS s (drF d) 0 av v) 6) := hq
   obtain ⟨φ2,hI2⟩ := hle.inv hI
   refine leaves_deferred (A := 5) (u' := .returning) [(0,4)] [0] [(1,0)] (objs := [(0,.box [.pv (vi 0)])]) (fun av => d158r 0 av) hen rfl (by (repeat' (first | exact trivial | refine And.intro ?_ ?_)); all_goals (first | rfl | decide)) rfl (by (repeat' (first | exact trivial | refine And.intro ?_ ?_)); all_goals (first | rfl | decide)) rfl ⟨⟨rfl,rfl,⟨_,.head _⟩,rfl⟩,trivial⟩ (by simp) ?_ (by simp) rfl hp hr.2.2 hI2 ?_
   ·rintro av' sf rfl
    exact ⟨.inl ⟨1,by simp,rfl⟩,trivial⟩
   ·rintro av' sf D2 φ3 w' rfl hI3
    refine retX_post (fn := Tryz.f108) (D0 := { D0 with pd := none }) hT hI3 (sf := mkSt [(0,.pv (vi 0))] (rdS s (drF d) ++ ancL av rdA) 4) rfl ?_ rfl
    (refine Le.mk ?_ ?_; all_goals (repeat' (first | exact trivial | refine sle ?_ | refine ⟨?_,rfl,?_⟩ | refine ⟨?_,by decide,rfl,?_⟩ | fail)))
  | _ => exact hq.elim
set_option maxHeartbeats 4000000 in
theorem f108n {s : List UInt8} (hs : s.length <= 600) (h : readM s = none) (av : Nat -> Value) : ACallsX Tryz.prog 108 [.fn 109 [.box 0 0,.box 1 0]] (rdS s zeroR ++ ancL av rdA) 4 (fun sf => sf = mkSt [(0,.pv (vi 4))] (rdS s zeroR ++ ancL av rdA) 4) (fun _ _ => False):= by
 refine ACallsX.of_deferring (fn := Tryz.f108) rfl rfl (by kernel_rfl) rfl ?_
 refine AWR_seq (Qx := fun _ _ => False) ?_ (fun _ _ _ _ _ _ _ _ h => by obtain ⟨_,_,_,_,h⟩ := h; exact h.elim)
 (repeat (refine stq ?_))
 refine AWR_defer (f := .tmp 3) rfl (op_mkfunc rfl rfl rfl) rfl rfl rfl rfl fun v => ?_
 refine AWR_end (Qx := Q108n s av v) ?_ ?_
 ·(repeat (refine stq ?_))
  refine AL_doP rfl (op_callX (objs := rdS s zeroR) (n := 4) [(0,0),(1,1)] [0,1] rdA (fun av => f109n hs h av) rfl rfl rfl rfl (by (repeat' (first | exact trivial | refine And.intro ?_ ?_)); all_goals (first | rfl | decide)) rfl (by (repeat' (first | exact trivial | refine And.intro ?_ ?_)); all_goals (first | rfl | decide)) rfl ⟨⟨rfl,rfl,⟨_,.head _⟩,rfl⟩,⟨rfl,rfl,⟨_,.tail _ (.head _)⟩,rfl⟩,trivial⟩ (by simp) ?_ ?_) ?_ ?_
  ·rintro av' sf hf
   exact False.elim hf
  ·rintro av' t sf ⟨_,rfl⟩
   exact ⟨.inl ⟨2,by simp,rfl⟩,.inl ⟨3,by simp,rfl⟩,trivial⟩
  ·rintro s' ⟨av',sf,hf,_⟩
   exact False.elim hf
  ·rintro t s' x ⟨av',sf,⟨⟨y,hc⟩,rfl⟩,rfl⟩
   cases hc
   (repeat (first | refine then_panic ?_ | refine inblk_panic ?_))
   refine ⟨⟨y,rfl⟩,?_⟩
   (refine Le.mk ?_ ?_; all_goals (repeat' (first | exact trivial | refine sle ?_ | refine ⟨?_,rfl,?_⟩ | refine ⟨?_,by decide,rfl,?_⟩ | fail)))
 ·rintro W0 D0 e a' w hr hp ⟨s',D',φ',hI,hq⟩
  have hen : Enters Tryz.prog 158 := enters_of (fn := Tryz.f158) rfl rfl (by kernel_rfl)
  cases e with
  | panic ch =>
   obtain ⟨⟨y,rfl⟩,hle⟩ := hq
   obtain ⟨φ2,hI2⟩ := hle.inv hI
   refine leaves_deferred (A := 5) (u' := .panicking [{ v := .iface 177 (.agg #[.string y]),recovered := true }]) [(0,4)] [0] [(1,0)] (objs := [(0,.box [.pv (vi 0)])]) (fun av => d158n 0 y av) hen rfl (by (repeat' (first | exact trivial | refine And.intro ?_ ?_)); all_goals (first | rfl | decide)) rfl (by (repeat' (first | exact trivial | refine And.intro ?_ ?_)); all_goals (first | rfl | decide)) rfl ⟨⟨rfl,rfl,⟨_,.head _⟩,rfl⟩,trivial⟩ (by simp) ?_ (by simp) rfl hp hr.2.2 hI2 ?_
   ·rintro av' sf rfl
    exact ⟨.inl ⟨1,by simp,rfl⟩,trivial⟩
   ·rintro av' sf D2 φ3 w' rfl hI3
    refine retX_post (fn := Tryz.f108) (D0 := { D0 with pd := none }) hT hI3 (sf := mkSt [(0,.pv (vi 4))] (rdS s zeroR ++ ancL av rdA) 4) rfl ?_ rfl
    (refine Le.mk ?_ ?_; all_goals (repeat' (first | exact trivial | refine sle ?_ | refine ⟨?_,rfl,?_⟩ | refine ⟨?_,by decide,rfl,?_⟩ | fail)))
  | _ => exact hq.elim
def readE (s : List UInt8) : Drum × Int :=
 if s.length > 600 then (zeroD,3) else match readM s with
 | none => (zeroD,4)
 | some d => if drumB d = true then (d,0) else (zeroD,2)
set_option maxHeartbeats 4000000 in
theorem f40 (s : List UInt8) : ACalls Tryz.prog 40 [.str (bytesOf s)] (fun r => r = .tup [eDrum (readE s).1,vi (readE s).2]):= by
 have hsz := bytesOf_size s
 by_cases hs : s.length > 600
 ·rw [readE,if_pos hs]
  refine ACalls.of_body hT Tryz.func40 rfl (by kernel_rfl) rfl ?_
  (repeat' (first | refine stq ?_ | (refine AL_do2 rfl ?_; first | refine ⟨_,op_len_str hT rfl rfl rfl rfl rfl,?_⟩) | ((first | (with_reducible refine AL_id ?_); (fail_if_success (refine AL_glit rfl rfl rfl (by first | exact .inl (by with_reducible rfl) | exact .inr (by with_reducible rfl)) ?_)); first | refine AL_gdec rfl rfl rfl (fun hg => ?_) (fun hg => ?_) | refine AL_gnot rfl rfl rfl (fun hg => ?_) (fun hg => ?_) | refine AL_gcases rfl rfl rfl (fun hg => ?_) (fun hg => ?_)) <;> (try (exfalso; omega))) | refine AW_if rfl (fun hc => absurd hc (by omega)) (fun _ => ?_) | refine AW_if rfl (fun _ => ?_) (fun hc => absurd (by omega) hc)))
  exact ⟨_,_,rfl,rfl,rfl⟩
 ·rw [readE,if_neg hs]
  have hs' : s.length <= 600 := by omega
  cases hr : readM s with
  | none =>
   refine ACalls.of_body hT Tryz.func40 rfl (by kernel_rfl) rfl ?_
   (repeat' (first | refine stq ?_ | (refine AL_do2 rfl ?_; first | refine ⟨_,op_len_str hT rfl rfl rfl rfl rfl,?_⟩) | ((first | (with_reducible refine AL_id ?_); (fail_if_success (refine AL_glit rfl rfl rfl (by first | exact .inl (by with_reducible rfl) | exact .inr (by with_reducible rfl)) ?_)); first | refine AL_gdec rfl rfl rfl (fun hg => ?_) (fun hg => ?_) | refine AL_gnot rfl rfl rfl (fun hg => ?_) (fun hg => ?_) | refine AL_gcases rfl rfl rfl (fun hg => ?_) (fun hg => ?_)) <;> (try (exfalso; omega))) | refine AW_if rfl (fun hc => absurd hc (by omega)) (fun _ => ?_) | refine AW_if rfl (fun _ => ?_) (fun hc => absurd (by omega) hc)))
   refine AL_doS rfl (op_callXs (objs := rdS s zeroR) (n := 4) [(0,0),(1,2)] [0,1] rdA (fun av => f108n hs' hr av) rfl rfl rfl rfl (by (repeat' (first | exact trivial | refine And.intro ?_ ?_)); all_goals (first | rfl | decide)) rfl (by (repeat' (first | exact trivial | refine And.intro ?_ ?_)); all_goals (first | rfl | decide)) rfl ⟨⟨rfl,rfl,⟨_,.head _⟩,rfl⟩,⟨rfl,rfl,⟨_,.tail _ (.head _)⟩,rfl⟩,trivial⟩ (by simp) ?_) ?_
   ·rintro av' sf rfl
    exact ⟨.inl ⟨2,by simp,rfl⟩,.inl ⟨3,by simp,rfl⟩,trivial⟩
   ·rintro s' ⟨av',sf,rfl,rfl⟩
    (repeat (refine stq ?_))
    exact ⟨_,_,rfl,rfl,rfl⟩
  | some d =>
   obtain ⟨hsm,hcnt,hadd,htx⟩ := readM_ok hs' hr
   have k104 := f104 d ⟨by omega,by omega,by omega,by omega⟩
   cases hb : drumB d with
   | true =>
    rw [hb] at k104
    dsimp only
    rw [if_pos hb]
    refine ACalls.of_body hT Tryz.func40 rfl (by kernel_rfl) rfl ?_
    (repeat' (first | refine stq ?_ | (refine AL_do2 rfl ?_; first | refine ⟨_,op_len_str hT rfl rfl rfl rfl rfl,?_⟩) | ((first | (with_reducible refine AL_id ?_); (fail_if_success (refine AL_glit rfl rfl rfl (by first | exact .inl (by with_reducible rfl) | exact .inr (by with_reducible rfl)) ?_)); first | refine AL_gdec rfl rfl rfl (fun hg => ?_) (fun hg => ?_) | refine AL_gnot rfl rfl rfl (fun hg => ?_) (fun hg => ?_) | refine AL_gcases rfl rfl rfl (fun hg => ?_) (fun hg => ?_)) <;> (try (exfalso; omega))) | refine AW_if rfl (fun hc => absurd hc (by omega)) (fun _ => ?_) | refine AW_if rfl (fun _ => ?_) (fun hc => absurd (by omega) hc)))
    refine AL_doS rfl (op_callXs (objs := rdS s zeroR) (n := 4) [(0,0),(1,2)] [0,1] rdA (fun av => f108t hs' hr av) rfl rfl rfl rfl (by (repeat' (first | exact trivial | refine And.intro ?_ ?_)); all_goals (first | rfl | decide)) rfl (by (repeat' (first | exact trivial | refine And.intro ?_ ?_)); all_goals (first | rfl | decide)) rfl ⟨⟨rfl,rfl,⟨_,.head _⟩,rfl⟩,⟨rfl,rfl,⟨_,.tail _ (.head _)⟩,rfl⟩,trivial⟩ (by simp) ?_) ?_
    ·rintro av' sf rfl
     exact ⟨.inl ⟨2,by simp,rfl⟩,.inl ⟨3,by simp,rfl⟩,trivial⟩
    ·rintro s' ⟨av',sf,rfl,rfl⟩
     (repeat' (first | refine stq ?_ | (refine AL_do2 rfl ?_; first | refine ⟨_,op_call1 rfl rfl rfl rfl (k104),nrmA rfl ?_⟩) | (with_reducible refine AL_id ?_); (fail_if_success (refine AL_glit rfl rfl rfl (by first | exact .inl (by with_reducible rfl) | exact .inr (by with_reducible rfl)) ?_)); first | refine AL_gdec rfl rfl rfl (fun hg => ?_) (fun hg => ?_) | refine AL_gnot rfl rfl rfl (fun hg => ?_) (fun hg => ?_) | refine AL_gcases rfl rfl rfl (fun hg => ?_) (fun hg => ?_)))
     exact ⟨_,_,rfl,rfl,rfl⟩
   | false =>
    rw [hb] at k104
    dsimp only
    rw [if_neg (by rw [hb]; decide)]
    refine ACalls.of_body hT Tryz.func40 rfl (by kernel_rfl) rfl ?_
    (repeat' (first | refine stq ?_ | (refine AL_do2 rfl ?_; first | refine ⟨_,op_len_str hT rfl rfl rfl rfl rfl,?_⟩) | ((first | (with_reducible refine AL_id ?_); (fail_if_success (refine AL_glit rfl rfl rfl (by first | exact .inl (by with_reducible rfl) | exact .inr (by with_reducible rfl)) ?_)); first | refine AL_gdec rfl rfl rfl (fun hg => ?_) (fun hg => ?_) | refine AL_gnot rfl rfl rfl (fun hg => ?_) (fun hg => ?_) | refine AL_gcases rfl rfl rfl (fun hg => ?_) (fun hg => ?_)) <;> (try (exfalso; omega))) | refine AW_if rfl (fun hc => absurd hc (by omega)) (fun _ => ?_) | refine AW_if rfl (fun _ => ?_) (fun hc => absurd (by omega) hc)))
    refine AL_doS rfl (op_callXs (objs := rdS s zeroR) (n := 4) [(0,0),(1,2)] [0,1] rdA (fun av => f108t hs' hr av) rfl rfl rfl rfl (by (repeat' (first | exact trivial | refine And.intro ?_ ?_)); all_goals (first | rfl | decide)) rfl (by (repeat' (first | exact trivial | refine And.intro ?_ ?_)); all_goals (first | rfl | decide)) rfl ⟨⟨rfl,rfl,⟨_,.head _⟩,rfl⟩,⟨rfl,rfl,⟨_,.tail _ (.head _)⟩,rfl⟩,trivial⟩ (by simp) ?_) ?_
    ·rintro av' sf rfl
     exact ⟨.inl ⟨2,by simp,rfl⟩,.inl ⟨3,by simp,rfl⟩,trivial⟩
    ·rintro s' ⟨av',sf,rfl,rfl⟩
     (repeat' (first | refine stq ?_ | (refine AL_do2 rfl ?_; first | refine ⟨_,op_call1 rfl rfl rfl rfl (k104),nrmA rfl ?_⟩) | (with_reducible refine AL_id ?_); (fail_if_success (refine AL_glit rfl rfl rfl (by first | exact .inl (by with_reducible rfl) | exact .inr (by with_reducible rfl)) ?_)); first | refine AL_gdec rfl rfl rfl (fun hg => ?_) (fun hg => ?_) | refine AL_gnot rfl rfl rfl (fun hg => ?_) (fun hg => ?_) | refine AL_gcases rfl rfl rfl (fun hg => ?_) (fun hg => ?_)))
     exact ⟨_,_,rfl,rfl,rfl⟩
end Go.Abs
