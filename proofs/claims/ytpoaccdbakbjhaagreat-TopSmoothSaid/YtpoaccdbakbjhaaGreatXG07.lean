/- A region whose order is drawn: where the operations that are not ordered do not touch each other, every order comes to what the order of the text comes to. -/
import Derived.Test.YtpoaccdbakbjhaaGreatXG06
import Derived.Orders
set_option linter.unusedVariables false
set_option linter.unusedSimpArgs false
namespace Go.Abs
open Go.RowKit
def opTmps:List Operand -> List Nat
 | []=>[]
 | .tmp t :: r=>t :: opTmps r
 | _ :: r=>opTmps r
def guardTmp (ops:Array Oper) (o:Oper):List Nat:=match o.guard with
 | some (j,_)=>match (ops[j]?).bind (·.dst) with
  | some d=>[d]
  | none=>[]
 | none=>[]
def needs (ops:Array Oper) (o:Oper):List Nat:=guardTmp ops o ++ opTmps o.op.operands.toList
structure DEnt where
 x:Option FV
 eff:Bool
 rids:List Nat
 mods:List Nat
def putE (env:List (Nat × Option FV)) (d:Option Nat) (x:Option FV):List (Nat × Option FV):=match d with
 | some d=>(d,x) :: env
 | none=>env
def GOpTo (P:Program) (nt:Nat) (ops:Array Oper) (o:Oper) (s s':ASt):Prop:=∀ ro W0 D0 D φ a w,Inv W0 D0 nt s D φ a w -> ∀ (K:Act -> World -> Prop) (Q:Exit -> Act -> World -> Prop),
 (∀ D' φ' a' w',Inv W0 D0 nt s' D' φ' a' w' -> K a' w') -> if Region.wanted o (yielded ops a.tmps) then o.wpIn (FW ro) 0 P a w K Q else K (a.put o.dst undef) w
structure StepOK (P:Program) (nt:Nat) (ops:Array Oper) (o:Oper) (s:ASt) (e:DEnt) (s':ASt):Prop where
 env:s'.env = putE s.env o.dst e.x
 pure:e.eff = false -> s'.objs = (e.mods.map fun id=>(id,s'.obj id)) ++ s.objs /\ s'.nxt = s.nxt
 eff:e.eff = true -> s.nxt <= s'.nxt /\ ∀ id,id < s.nxt -> id ∉ e.mods -> s'.obj id = s.obj id
 evP:e.eff = false -> ∀ s1,(∀ t ∈ needs ops o,s1.get t = s.get t) -> (∀ id ∈ e.rids,s1.obj id = s.obj id) -> (∀ id ∈ e.mods,s1.obj id = s.obj id) -> GOpTo P nt ops o s1 ⟨putE s1.env o.dst e.x,(e.mods.map fun id=>(id,s'.obj id)) ++ s1.objs,s1.nxt⟩
 evE:e.eff = true -> ∀ (fr:List Nat) (s1 s2:ASt),(∀ t ∈ needs ops o,s1.get t = s.get t) -> s1.nxt = s.nxt -> (∀ id ∈ fr,id < s.nxt /\ id ∉ e.mods) -> (∀ id,id ∉ fr -> s1.obj id = s.obj id) →
  s2.env = putE s1.env o.dst e.x -> s2.nxt = s'.nxt -> (∀ id,s2.obj id = if id ∈ fr then s1.obj id else s'.obj id) -> GOpTo P nt ops o s1 s2
def DRun (P:Program) (nt:Nat) (ops:Array Oper) (s0:ASt) (k:Nat) (s:ASt) (l:List DEnt):Prop :=
 l.length = k /\ ∃ st:Nat -> ASt,st 0 = s0 /\ st k = s /\ ∀ i,i < k -> ∃ o e,ops[i]? = some o /\ l[i]? = some e /\ StepOK P nt ops o (st i) e (st (i + 1))
theorem DRun.nil {P:Program} {nt:Nat} {ops:Array Oper} {s0:ASt}:DRun P nt ops s0 0 s0 []:=⟨rfl,fun _=>s0,rfl,rfl,fun i hi=>absurd hi (Nat.not_lt_zero i)⟩
theorem DRun.snoc {P:Program} {nt:Nat} {ops:Array Oper} {s0:ASt} {k:Nat} {s s':ASt} {l:List DEnt} {o:Oper} {e:DEnt} (h:DRun P nt ops s0 k s l) (ho:ops[k]? = some o) (hs:StepOK P nt ops o s e s'):DRun P nt ops s0 (k + 1) s' (l ++ [e]):= by
 obtain ⟨h1,st,h2,h3,h4⟩:=h
 refine ⟨by simp [h1],fun i=>if i = k + 1 then s' else st i,by simp [h2],by simp,fun i hi=>?_⟩
 by_cases hk:i = k
 ·subst hk
  refine ⟨o,e,ho,by rw [List.getElem?_append_right (by omega)]; simp [h1],?_⟩
  simp only [if_true,if_neg (show ¬ i = i + 1 by omega)]
  rw [h3]; exact hs
 ·obtain ⟨o',e',g1,g2,g3⟩:=h4 i (by omega)
  refine ⟨o',e',g1,by rw [List.getElem?_append_left (by omega)]; exact g2,?_⟩
  show StepOK P nt ops o' (if i = k + 1 then s' else st i) e' (if i + 1 = k + 1 then s' else st (i + 1))
  rw [if_neg (by omega),if_neg (by omega)]
  exact g3
def anyB (e:Edge):Bool:=Region.binds .any e
def direct (o:Oper) (j:Nat):Bool:=o.after.toList.any fun e=>Nat.beq e.on j && anyB e
def waits (ops:Array Oper):Nat -> Nat -> Nat -> Bool
 | 0,_,_=>false
 | n + 1,i,j=>match ops[i]? with
  | some o=>direct o j || o.after.toList.any fun e=>anyB e && Nat.blt j e.on && waits ops n e.on j
  | none=>false
def acyc (ops:Array Oper):Nat -> Bool
 | 0=>true
 | n + 1=>(match ops[n]? with
  | some o=>o.after.toList.all fun e=>!anyB e || Nat.blt e.on n
  | none=>true) && acyc ops n
def ndst (ops:Array Oper) (j t:Nat):Bool:=match (ops[j]?).bind (·.dst) with
 | some d=>!Nat.beq d t
 | none=>true
def slotOK (ops:Array Oper) (i t:Nat) (oi:Oper):Nat -> Bool
 | 0=>true
 | j + 1=>(ndst ops j t || Nat.beq j i || (Nat.blt j i && direct oi j) || (Nat.blt i j && (match ops[j]? with
  | some oj=>direct oj i
  | none=>false))) && slotOK ops i t oi j
def dstOnce (ops:Array Oper) (i:Nat):Nat -> Bool
 | 0=>true
 | j + 1=>(match (ops[i]?).bind (·.dst) with
  | some d=>ndst ops j d
  | none=>true) && dstOnce ops i j
def headOK (ops:Array Oper) (h:Nat):Nat -> Bool
 | 0=>true
 | i + 1=>(match ops[i]? with
  | some o=>(needs ops o).all (fun t=>slotOK ops i t o h) && dstOnce ops i i
  | none=>false) && headOK ops h i
def effOK (ops:Array Oper) (l:List DEnt):Option Nat -> Nat -> List DEnt -> Bool
 | _,_,[]=>true
 | last,i,e :: r=>match e.eff with
  | true=>(match last with
   | some j=>waits ops ops.size i j
   | none=>true) && effOK ops l (some i) (i + 1) r
  | false=>effOK ops l last (i + 1) r
def ridsOK (n0:Nat) (l:List DEnt):Bool:=l.all fun e=>e.rids.all fun id=>Nat.blt id n0 && l.all fun e'=>e'.mods.all fun m=>!Nat.beq m id
def ridsOK2 (ops:Array Oper) (n0:Nat) (l:List DEnt):Bool:=(List.range l.length).all fun i=>match l[i]? with
 | some e=>e.rids.all fun id=>Nat.blt id n0 && (List.range l.length).all fun j=>match l[j]? with
  | some e'=>e'.mods.all (fun m=>!Nat.beq m id) || (!e'.eff && Nat.blt i j && waits ops ops.size j i)
  | none=>true
 | none=>true
theorem ridsOK_spec {ops:Array Oper} {n0:Nat} {l:List DEnt} (h:(ridsOK n0 l || ridsOK2 ops n0 l) = true) {i:Nat} {e:DEnt} (hi:l[i]? = some e) {id:Nat} (hid:id ∈ e.rids) :
  id < n0 /\ ∀ (j:Nat) (e':DEnt),l[j]? = some e' -> id ∈ e'.mods -> e'.eff = false /\ i < j /\ waits ops ops.size j i = true:= by
 rw [Bool.or_eq_true] at h
 rcases h with h|h
 ·simp only [ridsOK,List.all_eq_true,Bool.and_eq_true] at h
  obtain ⟨r1,r2⟩:=h e (List.mem_of_getElem? hi) id hid
  refine ⟨by simpa using r1,fun j e' hj hm=>?_⟩
  have:=r2 e' (List.mem_of_getElem? hj) id hm
  simp at this
 ·simp only [ridsOK2,List.all_eq_true,List.mem_range] at h
  have h1:=h i (List.getElem?_eq_some_iff.1 hi).1
  rw [hi] at h1
  simp only [List.all_eq_true,Bool.and_eq_true] at h1
  obtain ⟨r1,r2⟩:=h1 id hid
  refine ⟨by simpa using r1,fun j e' hj hm=>?_⟩
  have h2:=r2 j (by have:=(List.getElem?_eq_some_iff.1 hj).1; simpa using this)
  rw [hj] at h2
  simp only [Bool.or_eq_true,Bool.and_eq_true,List.all_eq_true] at h2
  rcases h2 with h2|⟨⟨h3,h4⟩,h5⟩
  ·have:=h2 id hm; simp at this
  ·exact ⟨by simpa using h3,by simpa using h4,h5⟩
def locOK (n0:Nat):List DEnt -> Bool
 | []=>true
 | e :: r=>(e.eff || e.mods.all (fun m=>Nat.blt m n0)) && r.all (fun e'=>(e.eff && e'.eff) || e.mods.all (fun m=>e'.mods.all fun m'=>!Nat.beq m m')) && locOK n0 r
def tailOK1 (ops:Array Oper) (k:Nat):Nat -> Bool
 | 0=>true
 | j + 1=>waits ops ops.size k j && tailOK1 ops k j
def tailOK (ops:Array Oper) (h:Nat):Nat -> Bool
 | 0=>true
 | d + 1=>tailOK1 ops (h + d) (h + d) && tailOK ops h d
def drawOK (ops:Array Oper) (h n0:Nat) (l:List DEnt):Bool :=
 Nat.ble h ops.size && acyc ops ops.size && headOK ops h h && effOK ops l none 0 l && (ridsOK n0 l || ridsOK2 ops n0 l) && locOK n0 l && tailOK ops h (ops.size - h)
section
variable {P:Program} {nt:Nat} {ops:Array Oper}
def lst (b:Array Bool) (i:Nat):Bool:=b.getD i false
def Closed (ops:Array Oper) (b:Array Bool):Prop:=∀ i o,ops[i]? = some o -> lst b i = true -> ∀ e ∈ o.after.toList,anyB e = true -> lst b e.on = true
theorem direct_mem {o:Oper} {j:Nat} (h:direct o j = true):∃ e ∈ o.after.toList,anyB e = true /\ e.on = j:= by
 unfold direct at h
 rw [List.any_eq_true] at h
 obtain ⟨e,he,h2⟩:=h
 simp only [Bool.and_eq_true] at h2
 exact ⟨e,he,h2.2,Nat.eq_of_beq_eq_true h2.1⟩
theorem waits_listed {b:Array Bool} (hc:Closed ops b):∀ (n i j:Nat) (o:Oper),ops[i]? = some o -> (∀ e ∈ o.after.toList,anyB e = true -> lst b e.on = true) -> waits ops n i j = true -> lst b j = true
 | 0,i,j,o,ho,hp,h=>by simp [waits] at h
 | n + 1,i,j,o,ho,hp,h=>by
  simp only [waits,ho,Bool.or_eq_true,List.any_eq_true,Bool.and_eq_true] at h
  rcases h with h|⟨e,he,⟨ha,_⟩,hw⟩
  ·obtain ⟨e,he,ha,rfl⟩:=direct_mem h; exact hp e he ha
  ·have hl:=hp e he ha
   cases n with
   | zero=>simp [waits] at hw
   | succ n =>
    cases hoe:ops[e.on]? with
    | none=>simp [waits,hoe] at hw
    | some oe=>exact waits_listed hc (n + 1) e.on j oe hoe (fun e' he' ha'=>hc e.on oe hoe hl e' he' ha') hw
def envX (ops:Array Oper) (l:List DEnt) (X:Nat -> Bool) (env:List (Nat × Option FV)):Nat -> List (Nat × Option FV)
 | 0=>env
 | i + 1=>match X i with
  | true=>putE (envX ops l X env i) ((ops[i]?).bind (·.dst)) ((l[i]?).bind (·.x))
  | false=>envX ops l X env i
def effX (l:List DEnt) (X:Nat -> Bool):Nat -> Nat
 | 0=>0
 | i + 1=>match X i,((l[i]?).map (·.eff)).getD false with
  | true,true=>i + 1
  | _,_=>effX l X i
theorem ndst_spec {j t:Nat} (h:ndst ops j t = true):(ops[j]?).bind (·.dst) ≠ some t:= by
 unfold ndst at h
 split at h
 ·rename_i d hd
  rw [hd]
  intro e
  cases e
  simp at h
 ·rename_i hd
  rw [hd]; simp
theorem look_putE (env:List (Nat × Option FV)) (d:Option Nat) (x:Option FV) (t:Nat):look (putE env d x) t = if d = some t then x else look env t:= by
 cases d with
 | none=>simp [putE]
 | some d =>
  by_cases h:d = t
  ·subst h; simp [putE,look_cons_eq]
  ·simp [putE,look_cons_ne _ _ h,h]
theorem envX_none {l:List DEnt} {X:Nat -> Bool} {env:List (Nat × Option FV)} {t:Nat}:∀ k,(∀ i,i < k -> X i = true -> (ops[i]?).bind (·.dst) ≠ some t) -> look (envX ops l X env k) t = look env t
 | 0,_=>rfl
 | i + 1,h=>by
  unfold envX
  split
  ·rename_i hx
   rw [look_putE,if_neg (h i (Nat.lt_succ_self i) hx)]
   exact envX_none i fun j hj=>h j (by omega)
  ·exact envX_none i fun j hj=>h j (by omega)
theorem envX_some {l:List DEnt} {X:Nat -> Bool} {env:List (Nat × Option FV)} {t:Nat}:∀ (k i:Nat),i < k -> X i = true -> (ops[i]?).bind (·.dst) = some t -> (∀ j,j < k -> j ≠ i -> (ops[j]?).bind (·.dst) ≠ some t) →
  look (envX ops l X env k) t = (l[i]?).bind (·.x)
 | 0,i,hi,_,_,_=>absurd hi (Nat.not_lt_zero i)
 | k + 1,i,hi,hx,hd,hu=>by
  unfold envX
  by_cases hik:i = k
  ·subst hik
   rw [hx]
   simp only []
   rw [look_putE,if_pos hd]
  ·have ih:=envX_some (l:=l) (env:=env) k i (by omega) hx hd fun j hj hne=>hu j (by omega) hne
   split
   ·rw [look_putE,if_neg (hu k (Nat.lt_succ_self k) (fun e=>hik e.symm))]; exact ih
   ·exact ih
theorem slotOK_spec {i t:Nat} {oi:Oper}:∀ {n:Nat},slotOK ops i t oi n = true -> ∀ j,j < n -> (ops[j]?).bind (·.dst) = some t -> j = i \/ (j < i /\ direct oi j = true) \/ (i < j /\ ∃ oj,ops[j]? = some oj /\ direct oj i = true)
 | 0,_,j,hj,_=>absurd hj (Nat.not_lt_zero j)
 | n + 1,h,j,hj,hd=>by
  simp only [slotOK,Bool.and_eq_true,Bool.or_eq_true] at h
  by_cases hjn:j = n
  ·subst hjn
   rcases h.1 with ((h1|h1)|h1)|h1
   ·exact absurd hd (ndst_spec h1)
   ·exact .inl (Nat.eq_of_beq_eq_true h1)
   ·exact .inr (.inl ⟨by simpa using h1.1,h1.2⟩)
   ·right; right
    refine ⟨by simpa using h1.1,?_⟩
    have:=h1.2
    split at this
    ·rename_i oj hoj; exact ⟨oj,hoj,this⟩
    ·cases this
  ·exact slotOK_spec h.2 j (by omega) hd
theorem dstOnce_spec {i:Nat}:∀ {n:Nat},dstOnce ops i n = true -> ∀ j,j < n -> ∀ t,(ops[i]?).bind (·.dst) = some t -> (ops[j]?).bind (·.dst) ≠ some t
 | 0,_,j,hj,_,_=>absurd hj (Nat.not_lt_zero j)
 | n + 1,h,j,hj,t,ht=>by
  simp only [dstOnce,Bool.and_eq_true] at h
  by_cases hjn:j = n
  ·subst hjn
   have:=h.1
   rw [ht] at this
   exact ndst_spec this
  ·exact dstOnce_spec h.2 j (by omega) t ht
theorem headOK_spec {h:Nat}:∀ {n:Nat},headOK ops h n = true -> ∀ i,i < n -> ∃ o,ops[i]? = some o /\ (∀ t ∈ needs ops o,slotOK ops i t o h = true) /\ dstOnce ops i i = true
 | 0,_,i,hi=>absurd hi (Nat.not_lt_zero i)
 | n + 1,hh,i,hi=>by
  simp only [headOK,Bool.and_eq_true] at hh
  by_cases hin:i = n
  ·subst hin
   have:=hh.1
   split at this
   ·rename_i o ho
    simp only [Bool.and_eq_true,List.all_eq_true] at this
    exact ⟨o,ho,this.1,this.2⟩
   ·cases this
  ·exact headOK_spec hh.2 i (by omega)
theorem tailOK1_spec {k:Nat}:∀ {n:Nat},tailOK1 ops k n = true -> ∀ j,j < n -> waits ops ops.size k j = true
 | 0,_,j,hj=>absurd hj (Nat.not_lt_zero j)
 | n + 1,h,j,hj=>by
  simp only [tailOK1,Bool.and_eq_true] at h
  by_cases hjn:j = n
  ·subst hjn; exact h.1
  ·exact tailOK1_spec h.2 j (by omega)
theorem tailOK_spec {h:Nat}:∀ {n:Nat},tailOK ops h n = true -> ∀ d,d < n -> ∀ j,j < h + d -> waits ops ops.size (h + d) j = true
 | 0,_,d,hd,_,_=>absurd hd (Nat.not_lt_zero d)
 | n + 1,hh,d,hd,j,hj=>by
  simp only [tailOK,Bool.and_eq_true] at hh
  by_cases hdn:d = n
  ·subst hdn; exact tailOK1_spec hh.1 j hj
  ·exact tailOK_spec hh.2 d (by omega) j hj
theorem effOK_spec {l0:List DEnt}:∀ {l:List DEnt} {last:Option Nat} {i:Nat},effOK ops l0 last i l = true -> ∀ j e,l[j]? = some e -> e.eff = true -> (∀ j',j' < j -> ∀ e',l[j']? = some e' -> e'.eff = false) -> ∀ m,last = some m -> waits ops ops.size (i + j) m = true
 | [],_,_,_,j,e,he,_,_,_,_=>by simp at he
 | e0 :: l,last,i,h,j,e,he,hef,hno,m,hm=>by
  subst hm
  unfold effOK at h
  cases j with
  | zero =>
   simp at he; subst he
   rw [hef] at h
   simp only [Bool.and_eq_true] at h
   exact h.1
  | succ j =>
   have h0:=hno 0 (Nat.succ_pos j) e0 rfl
   rw [h0] at h
   have:=effOK_spec (l:=l) h j e (by simpa using he) hef (fun j' hj' e' he'=>hno (j' + 1) (by omega) e' (by simpa using he')) m rfl
   rw [show i + (j + 1) = i + 1 + j by omega]; exact this
theorem effOK_pair {l0:List DEnt}:∀ {l:List DEnt} {last:Option Nat} {i:Nat},effOK ops l0 last i l = true -> ∀ j j' e e',j < j' -> l[j]? = some e -> l[j']? = some e' -> e.eff = true -> e'.eff = true →
  (∀ m,j < m -> m < j' -> ∀ em,l[m]? = some em -> em.eff = false) -> waits ops ops.size (i + j') (i + j) = true
 | [],_,_,_,j,_,e,_,_,he,_,_,_,_=>by simp at he
 | e0 :: l,last,i,h,j,j',e,e',hlt,he,he',hef,hef',hno=>by
  unfold effOK at h
  cases j with
  | zero =>
   simp at he; subst he
   rw [hef] at h
   simp only [Bool.and_eq_true] at h
   cases j' with
   | zero=>omega
   | succ j' =>
    have:=effOK_spec (l:=l) h.2 j' e' (by simpa using he') hef' (fun m hm em hem=>hno (m + 1) (by omega) (by omega) em (by simpa using hem)) i rfl
    rw [show i + (j' + 1) = i + 1 + j' by omega]; exact this
  | succ j =>
   cases j' with
   | zero=>omega
   | succ j' =>
    have hrest:∃ last',effOK ops l0 last' (i + 1) l = true:= by
     split at h
     ·simp only [Bool.and_eq_true] at h; exact ⟨_,h.2⟩
     ·exact ⟨_,h⟩
    obtain ⟨last',h'⟩:=hrest
    have:=effOK_pair (l:=l) h' j j' e e' (by omega) (by simpa using he) (by simpa using he') hef hef' (fun m h1 h2 em hem=>hno (m + 1) (by omega) (by omega) em (by simpa using hem))
    rw [show i + (j' + 1) = i + 1 + j' by omega,show i + (j + 1) = i + 1 + j by omega]; exact this
theorem locOK_spec {n0:Nat}:∀ {l:List DEnt},locOK n0 l = true -> (∀ (i:Nat) (e:DEnt),l[i]? = some e -> e.eff = false -> ∀ m ∈ e.mods,m < n0) /\
  ∀ (i j:Nat) (e e':DEnt),i < j -> l[i]? = some e -> l[j]? = some e' -> (e.eff = false \/ e'.eff = false) -> ∀ m ∈ e.mods,m ∉ e'.mods
 | [],_=>⟨fun _ _ h=>(by simp at h),fun _ _ _ _ _ h=>(by simp at h)⟩
 | a :: l,hl=>by
  simp only [locOK,Bool.and_eq_true] at hl
  obtain ⟨⟨h1,h2⟩,h3⟩:=hl
  obtain ⟨i1,i2⟩:=locOK_spec h3
  refine ⟨fun i e he hf m hm=>?_,fun i j e e' hij he he' hf m hm hm'=>?_⟩
  ·cases i with
   | zero =>
    simp at he; subst he
    simp only [hf,Bool.false_or,List.all_eq_true] at h1
    simpa using h1 m hm
   | succ i=>exact i1 i e (by simpa using he) hf m hm
  ·cases i with
   | zero =>
    simp at he; subst he
    have hmem:e' ∈ l:= by
     cases j with
     | zero=>omega
     | succ j=>exact List.mem_of_getElem? (by simpa using he')
    have h4:=List.all_eq_true.1 h2 e' hmem
    have h5:(a.eff && e'.eff) = false:=by rcases hf with hf|hf <;> simp [hf]
    simp only [h5,Bool.false_or,List.all_eq_true,Bool.not_eq_true'] at h4
    have:=h4 m hm m hm'
    simp at this
   | succ i =>
    cases j with
    | zero=>omega
    | succ j=>exact i2 i j e e' (by omega) (by simpa using he) (by simpa using he') hf m hm hm'
theorem acyc_spec:∀ {n:Nat},acyc ops n = true -> ∀ i o,i < n -> ops[i]? = some o -> ∀ e ∈ o.after.toList,anyB e = true -> e.on < i
 | 0,_,i,_,hi,_,_,_,_=>absurd hi (Nat.not_lt_zero i)
 | n + 1,h,i,o,hi,ho,e,he,ha=>by
  simp only [acyc,Bool.and_eq_true] at h
  by_cases hin:i = n
  ·subst hin
   have:=h.1
   rw [ho] at this
   simp only [List.all_eq_true] at this
   have:=this e he
   simpa [ha] using this
  ·exact acyc_spec h.2 i o (by omega) ho e he ha
end
end Go.Abs
