/- A region whose order is drawn: where the operations that are not ordered do not touch each other, every order comes to what the order of the text comes to. -/
import Derived.Test.YtkmclnjmabljdaaGreatDoorKNcC
import Derived.Orders
set_option linter.unusedVariables false
set_option linter.unusedSimpArgs false
namespace Go.Abs
open Go.RowKit
set_option linter.unusedVariables false
def opTmps : List Operand -> List Nat
 | [] => []
 | .tmp t :: r => t :: opTmps r
 | _ :: r => opTmps r
def guardTmp (ops : Array Oper) (o : Oper) : List Nat := match o.guard with
 | some (j,_) => match (ops[j]?).bind (·.dst) with
  | some d => [d]
  | none => []
 | none => []
def needs (ops : Array Oper) (o : Oper) : List Nat := guardTmp ops o ++ opTmps o.op.operands.toList
structure DEnt where
 x : Option FV
 eff : Bool
 rids : List Nat
 mods : List Nat
def putE (env : List (Nat × Option FV)) (d : Option Nat) (x : Option FV) : List (Nat × Option FV) := match d with
 | some d => (d,x) :: env
 | none => env
def GOpTo (P : Program) (nt : Nat) (ops : Array Oper) (o : Oper) (s s' : ASt) : Prop := ∀ ro W0 D0 D φ a w,Inv W0 D0 nt s D φ a w -> KOK P W0 D0.d D0.x -> ∀ (K : Act -> World -> Prop) (Q : Exit -> Act -> World -> Prop),
 (∀ D' φ' a' w',Inv W0 D0 nt s' D' φ' a' w' -> K a' w') -> if Region.wanted o (yielded ops a.tmps) then o.wpIn (FW ro) 0 P a w K Q else K (a.put o.dst undef) w
structure StepOK (P : Program) (nt : Nat) (ops : Array Oper) (o : Oper) (s : ASt) (e : DEnt) (s' : ASt) : Prop where
 env : s'.env = putE s.env o.dst e.x
 pure : e.eff = false -> s'.objs = (e.mods.map fun id => (id,s'.obj id)) ++ s.objs /\ s'.nxt = s.nxt
 eff : e.eff = true -> s.nxt <= s'.nxt /\ ∀ id,id < s.nxt -> id ∉ e.mods -> s'.obj id = s.obj id
 evP : e.eff = false -> ∀ s1,(∀ t ∈ needs ops o,s1.get t = s.get t) -> (∀ id ∈ e.rids,s1.obj id = s.obj id) -> (∀ id ∈ e.mods,s1.obj id = s.obj id) -> GOpTo P nt ops o s1 ⟨putE s1.env o.dst e.x,(e.mods.map fun id => (id,s'.obj id)) ++ s1.objs,s1.nxt⟩
 evE : e.eff = true -> ∀ (fr : List Nat) (s1 s2 : ASt),(∀ t ∈ needs ops o,s1.get t = s.get t) -> s1.nxt = s.nxt -> (∀ id ∈ fr,id < s.nxt /\ id ∉ e.mods) -> (∀ id,id ∉ fr -> s1.obj id = s.obj id) →
  s2.env = putE s1.env o.dst e.x -> s2.nxt = s'.nxt -> (∀ id,s2.obj id = if id ∈ fr then s1.obj id else s'.obj id) -> GOpTo P nt ops o s1 s2
def DRun (P : Program) (nt : Nat) (ops : Array Oper) (s0 : ASt) (k : Nat) (s : ASt) (l : List DEnt) : Prop :=
 l.length = k /\ ∃ st : Nat -> ASt,st 0 = s0 /\ st k = s /\ ∀ i,i < k -> ∃ o e,ops[i]? = some o /\ l[i]? = some e /\ StepOK P nt ops o (st i) e (st (i + 1))
theorem DRun.nil {P : Program} {nt : Nat} {ops : Array Oper} {s0 : ASt} : DRun P nt ops s0 0 s0 [] := ⟨rfl,fun _ => s0,rfl,rfl,fun i hi => absurd hi (Nat.not_lt_zero i)⟩
theorem DRun.snoc {P : Program} {nt : Nat} {ops : Array Oper} {s0 : ASt} {k : Nat} {s s' : ASt} {l : List DEnt} {o : Oper} {e : DEnt} (h : DRun P nt ops s0 k s l) (ho : ops[k]? = some o) (hs : StepOK P nt ops o s e s') : DRun P nt ops s0 (k + 1) s' (l ++ [e]):= by
 obtain ⟨h1,st,h2,h3,h4⟩ := h
 refine ⟨by simp [h1],fun i => if i = k + 1 then s' else st i,by simp [h2],by simp,fun i hi => ?_⟩
 by_cases hk : i = k
 ·subst hk
  refine ⟨o,e,ho,by rw [List.getElem?_append_right (by omega)]; simp [h1],?_⟩
  simp only [if_true,if_neg (show ¬ i = i + 1 by omega)]
  rw [h3]; exact hs
 ·obtain ⟨o',e',g1,g2,g3⟩ := h4 i (by omega)
  refine ⟨o',e',g1,by rw [List.getElem?_append_left (by omega)]; exact g2,?_⟩
  show StepOK P nt ops o' (if i = k + 1 then s' else st i) e' (if i + 1 = k + 1 then s' else st (i + 1))
  rw [if_neg (by omega),if_neg (by omega)]
  exact g3
def anyB (e : Edge) : Bool := Region.binds .any e
def direct (o : Oper) (j : Nat) : Bool := o.after.toList.any fun e => Nat.beq e.on j && anyB e
def waits (ops : Array Oper) : Nat -> Nat -> Nat -> Bool
 | 0,_,_ => false
 | n + 1,i,j => match ops[i]? with
  | some o => direct o j || o.after.toList.any fun e => anyB e && Nat.blt j e.on && waits ops n e.on j
  | none => false
def acyc (ops : Array Oper) : Nat -> Bool
 | 0 => true
 | n + 1 => (match ops[n]? with
  | some o => o.after.toList.all fun e => !anyB e || Nat.blt e.on n
  | none => true) && acyc ops n
def ndst (ops : Array Oper) (j t : Nat) : Bool := match (ops[j]?).bind (·.dst) with
 | some d => !Nat.beq d t
 | none => true
def slotOK (ops : Array Oper) (i t : Nat) (oi : Oper) : Nat -> Bool
 | 0 => true
 | j + 1 => (ndst ops j t || Nat.beq j i || (Nat.blt j i && direct oi j) || (Nat.blt i j && (match ops[j]? with
  | some oj => direct oj i
  | none => false))) && slotOK ops i t oi j
def dstOnce (ops : Array Oper) (i : Nat) : Nat -> Bool
 | 0 => true
 | j + 1 => (match (ops[i]?).bind (·.dst) with
  | some d => ndst ops j d
  | none => true) && dstOnce ops i j
def headOK (ops : Array Oper) (h : Nat) : Nat -> Bool
 | 0 => true
 | i + 1 => (match ops[i]? with
  | some o => (needs ops o).all (fun t => slotOK ops i t o h) && dstOnce ops i i
  | none => false) && headOK ops h i
def effOK (ops : Array Oper) (l : List DEnt) : Option Nat -> Nat -> List DEnt -> Bool
 | _,_,[] => true
 | last,i,e :: r => match e.eff with
  | true => (match last with
   | some j => waits ops ops.size i j
   | none => true) && effOK ops l (some i) (i + 1) r
  | false => effOK ops l last (i + 1) r
def ridsOK (n0 : Nat) (l : List DEnt) : Bool := l.all fun e => e.rids.all fun id => Nat.blt id n0 && l.all fun e' => e'.mods.all fun m => !Nat.beq m id
def locOK (n0 : Nat) : List DEnt -> Bool
 | [] => true
 | e :: r => (e.eff || e.mods.all (fun m => Nat.blt m n0)) && r.all (fun e' => (e.eff && e'.eff) || e.mods.all (fun m => e'.mods.all fun m' => !Nat.beq m m')) && locOK n0 r
def tailOK1 (ops : Array Oper) (k : Nat) : Nat -> Bool
 | 0 => true
 | j + 1 => waits ops ops.size k j && tailOK1 ops k j
def tailOK (ops : Array Oper) (h : Nat) : Nat -> Bool
 | 0 => true
 | d + 1 => tailOK1 ops (h + d) (h + d) && tailOK ops h d
def drawOK (ops : Array Oper) (h n0 : Nat) (l : List DEnt) : Bool :=
 Nat.ble h ops.size && acyc ops ops.size && headOK ops h h && effOK ops l none 0 l && ridsOK n0 l && locOK n0 l && tailOK ops h (ops.size - h)
section
variable {P : Program} {nt : Nat} {ops : Array Oper}
def lst (b : Array Bool) (i : Nat) : Bool := b.getD i false
def Closed (ops : Array Oper) (b : Array Bool) : Prop := ∀ i o,ops[i]? = some o -> lst b i = true -> ∀ e ∈ o.after.toList,anyB e = true -> lst b e.on = true
theorem direct_mem {o : Oper} {j : Nat} (h : direct o j = true) : ∃ e ∈ o.after.toList,anyB e = true /\ e.on = j:= by
 unfold direct at h
 rw [List.any_eq_true] at h
 obtain ⟨e,he,h2⟩ := h
 simp only [Bool.and_eq_true] at h2
 exact ⟨e,he,h2.2,Nat.eq_of_beq_eq_true h2.1⟩
theorem waits_listed {b : Array Bool} (hc : Closed ops b) : ∀ (n i j : Nat) (o : Oper),ops[i]? = some o -> (∀ e ∈ o.after.toList,anyB e = true -> lst b e.on = true) -> waits ops n i j = true -> lst b j = true
 | 0,i,j,o,ho,hp,h => by simp [waits] at h
 | n + 1,i,j,o,ho,hp,h => by
  simp only [waits,ho,Bool.or_eq_true,List.any_eq_true,Bool.and_eq_true] at h
  rcases h with h | ⟨e,he,⟨ha,_⟩,hw⟩
  ·obtain ⟨e,he,ha,rfl⟩ := direct_mem h; exact hp e he ha
  ·have hl := hp e he ha
   cases n with
   | zero => simp [waits] at hw
   | succ n =>
    cases hoe : ops[e.on]? with
    | none => simp [waits,hoe] at hw
    | some oe => exact waits_listed hc (n + 1) e.on j oe hoe (fun e' he' ha' => hc e.on oe hoe hl e' he' ha') hw
def envX (ops : Array Oper) (l : List DEnt) (X : Nat -> Bool) (env : List (Nat × Option FV)) : Nat -> List (Nat × Option FV)
 | 0 => env
 | i + 1 => match X i with
  | true => putE (envX ops l X env i) ((ops[i]?).bind (·.dst)) ((l[i]?).bind (·.x))
  | false => envX ops l X env i
def effX (l : List DEnt) (X : Nat -> Bool) : Nat -> Nat
 | 0 => 0
 | i + 1 => match X i,((l[i]?).map (·.eff)).getD false with
  | true,true => i + 1
  | _,_ => effX l X i
theorem ndst_spec {j t : Nat} (h : ndst ops j t = true) : (ops[j]?).bind (·.dst) ≠ some t:= by
 unfold ndst at h
 split at h
 ·rename_i d hd
  rw [hd]
  intro e
  cases e
  simp at h
 ·rename_i hd
  rw [hd]; simp
theorem look_putE (env : List (Nat × Option FV)) (d : Option Nat) (x : Option FV) (t : Nat) : look (putE env d x) t = if d = some t then x else look env t:= by
 cases d with
 | none => simp [putE]
 | some d =>
  by_cases h : d = t
  ·subst h; simp [putE,look_cons_eq]
  ·simp [putE,look_cons_ne _ _ h,h]
theorem envX_none {l : List DEnt} {X : Nat -> Bool} {env : List (Nat × Option FV)} {t : Nat} : ∀ k,(∀ i,i < k -> X i = true -> (ops[i]?).bind (·.dst) ≠ some t) -> look (envX ops l X env k) t = look env t
 | 0,_ => rfl
 | i + 1,h => by
  unfold envX
  split
  ·rename_i hx
   rw [look_putE,if_neg (h i (Nat.lt_succ_self i) hx)]
   exact envX_none i fun j hj => h j (by omega)
  ·exact envX_none i fun j hj => h j (by omega)
theorem envX_some {l : List DEnt} {X : Nat -> Bool} {env : List (Nat × Option FV)} {t : Nat} : ∀ (k i : Nat),i < k -> X i = true -> (ops[i]?).bind (·.dst) = some t -> (∀ j,j < k -> j ≠ i -> (ops[j]?).bind (·.dst) ≠ some t) →
  look (envX ops l X env k) t = (l[i]?).bind (·.x)
 | 0,i,hi,_,_,_ => absurd hi (Nat.not_lt_zero i)
 | k + 1,i,hi,hx,hd,hu => by
  unfold envX
  by_cases hik : i = k
  ·subst hik
   rw [hx]
   simp only []
   rw [look_putE,if_pos hd]
  ·have ih := envX_some (l := l) (env := env) k i (by omega) hx hd fun j hj hne => hu j (by omega) hne
   split
   ·rw [look_putE,if_neg (hu k (Nat.lt_succ_self k) (fun e => hik e.symm))]; exact ih
   ·exact ih
theorem slotOK_spec {i t : Nat} {oi : Oper} : ∀ {n : Nat},slotOK ops i t oi n = true -> ∀ j,j < n -> (ops[j]?).bind (·.dst) = some t -> j = i \/ (j < i /\ direct oi j = true) \/ (i < j /\ ∃ oj,ops[j]? = some oj /\ direct oj i = true)
 | 0,_,j,hj,_ => absurd hj (Nat.not_lt_zero j)
 | n + 1,h,j,hj,hd => by
  simp only [slotOK,Bool.and_eq_true,Bool.or_eq_true] at h
  by_cases hjn : j = n
  ·subst hjn
   rcases h.1 with ((h1 | h1) | h1) | h1
   ·exact absurd hd (ndst_spec h1)
   ·exact .inl (Nat.eq_of_beq_eq_true h1)
   ·exact .inr (.inl ⟨by simpa using h1.1,h1.2⟩)
   ·right; right
    refine ⟨by simpa using h1.1,?_⟩
    have := h1.2
    split at this
    ·rename_i oj hoj; exact ⟨oj,hoj,this⟩
    ·cases this
  ·exact slotOK_spec h.2 j (by omega) hd
theorem dstOnce_spec {i : Nat} : ∀ {n : Nat},dstOnce ops i n = true -> ∀ j,j < n -> ∀ t,(ops[i]?).bind (·.dst) = some t -> (ops[j]?).bind (·.dst) ≠ some t
 | 0,_,j,hj,_,_ => absurd hj (Nat.not_lt_zero j)
 | n + 1,h,j,hj,t,ht => by
  simp only [dstOnce,Bool.and_eq_true] at h
  by_cases hjn : j = n
  ·subst hjn
   have := h.1
   rw [ht] at this
   exact ndst_spec this
  ·exact dstOnce_spec h.2 j (by omega) t ht
theorem headOK_spec {h : Nat} : ∀ {n : Nat},headOK ops h n = true -> ∀ i,i < n -> ∃ o,ops[i]? = some o /\ (∀ t ∈ needs ops o,slotOK ops i t o h = true) /\ dstOnce ops i i = true
 | 0,_,i,hi => absurd hi (Nat.not_lt_zero i)
 | n + 1,hh,i,hi => by
  simp only [headOK,Bool.and_eq_true] at hh
  by_cases hin : i = n
  ·subst hin
   have := hh.1
   split at this
   ·rename_i o ho
    simp only [Bool.and_eq_true,List.all_eq_true] at this
    exact ⟨o,ho,this.1,this.2⟩
   ·cases this
  ·exact headOK_spec hh.2 i (by omega)
theorem tailOK1_spec {k : Nat} : ∀ {n : Nat},tailOK1 ops k n = true -> ∀ j,j < n -> waits ops ops.size k j = true
 | 0,_,j,hj => absurd hj (Nat.not_lt_zero j)
 | n + 1,h,j,hj => by
  simp only [tailOK1,Bool.and_eq_true] at h
  by_cases hjn : j = n
  ·subst hjn; exact h.1
  ·exact tailOK1_spec h.2 j (by omega)
theorem tailOK_spec {h : Nat} : ∀ {n : Nat},tailOK ops h n = true -> ∀ d,d < n -> ∀ j,j < h + d -> waits ops ops.size (h + d) j = true
 | 0,_,d,hd,_,_ => absurd hd (Nat.not_lt_zero d)
 | n + 1,hh,d,hd,j,hj => by
  simp only [tailOK,Bool.and_eq_true] at hh
  by_cases hdn : d = n
  ·subst hdn; exact tailOK1_spec hh.1 j hj
  ·exact tailOK_spec hh.2 d (by omega) j hj
theorem effOK_spec {l0 : List DEnt} : ∀ {l : List DEnt} {last : Option Nat} {i : Nat},effOK ops l0 last i l = true -> ∀ j e,l[j]? = some e -> e.eff = true -> (∀ j',j' < j -> ∀ e',l[j']? = some e' -> e'.eff = false) -> ∀ m,last = some m -> waits ops ops.size (i + j) m = true
 | [],_,_,_,j,e,he,_,_,_,_ => by simp at he
 | e0 :: l,last,i,h,j,e,he,hef,hno,m,hm => by
  subst hm
  unfold effOK at h
  cases j with
  | zero =>
   simp at he; subst he
   rw [hef] at h
   simp only [Bool.and_eq_true] at h
   exact h.1
  | succ j =>
   have h0 := hno 0 (Nat.succ_pos j) e0 rfl
   rw [h0] at h
   have := effOK_spec (l := l) h j e (by simpa using he) hef (fun j' hj' e' he' => hno (j' + 1) (by omega) e' (by simpa using he')) m rfl
   rw [show i + (j + 1) = i + 1 + j by omega]; exact this
theorem effOK_pair {l0 : List DEnt} : ∀ {l : List DEnt} {last : Option Nat} {i : Nat},effOK ops l0 last i l = true -> ∀ j j' e e',j < j' -> l[j]? = some e -> l[j']? = some e' -> e.eff = true -> e'.eff = true →
  (∀ m,j < m -> m < j' -> ∀ em,l[m]? = some em -> em.eff = false) -> waits ops ops.size (i + j') (i + j) = true
 | [],_,_,_,j,_,e,_,_,he,_,_,_,_ => by simp at he
 | e0 :: l,last,i,h,j,j',e,e',hlt,he,he',hef,hef',hno => by
  unfold effOK at h
  cases j with
  | zero =>
   simp at he; subst he
   rw [hef] at h
   simp only [Bool.and_eq_true] at h
   cases j' with
   | zero => omega
   | succ j' =>
    have := effOK_spec (l := l) h.2 j' e' (by simpa using he') hef' (fun m hm em hem => hno (m + 1) (by omega) (by omega) em (by simpa using hem)) i rfl
    rw [show i + (j' + 1) = i + 1 + j' by omega]; exact this
  | succ j =>
   cases j' with
   | zero => omega
   | succ j' =>
    have hrest : ∃ last',effOK ops l0 last' (i + 1) l = true:= by
     split at h
     ·simp only [Bool.and_eq_true] at h; exact ⟨_,h.2⟩
     ·exact ⟨_,h⟩
    obtain ⟨last',h'⟩ := hrest
    have := effOK_pair (l := l) h' j j' e e' (by omega) (by simpa using he) (by simpa using he') hef hef' (fun m h1 h2 em hem => hno (m + 1) (by omega) (by omega) em (by simpa using hem))
    rw [show i + (j' + 1) = i + 1 + j' by omega,show i + (j + 1) = i + 1 + j by omega]; exact this
theorem locOK_spec {n0 : Nat} : ∀ {l : List DEnt},locOK n0 l = true -> (∀ (i : Nat) (e : DEnt),l[i]? = some e -> e.eff = false -> ∀ m ∈ e.mods,m < n0) /\
  ∀ (i j : Nat) (e e' : DEnt),i < j -> l[i]? = some e -> l[j]? = some e' -> (e.eff = false \/ e'.eff = false) -> ∀ m ∈ e.mods,m ∉ e'.mods
 | [],_ => ⟨fun _ _ h => (by simp at h),fun _ _ _ _ _ h => (by simp at h)⟩
 | a :: l,hl => by
  simp only [locOK,Bool.and_eq_true] at hl
  obtain ⟨⟨h1,h2⟩,h3⟩ := hl
  obtain ⟨i1,i2⟩ := locOK_spec h3
  refine ⟨fun i e he hf m hm => ?_,fun i j e e' hij he he' hf m hm hm' => ?_⟩
  ·cases i with
   | zero =>
    simp at he; subst he
    simp only [hf,Bool.false_or,List.all_eq_true] at h1
    simpa using h1 m hm
   | succ i => exact i1 i e (by simpa using he) hf m hm
  ·cases i with
   | zero =>
    simp at he; subst he
    have hmem : e' ∈ l:= by
     cases j with
     | zero => omega
     | succ j => exact List.mem_of_getElem? (by simpa using he')
    have h4 := List.all_eq_true.1 h2 e' hmem
    have h5 : (a.eff && e'.eff) = false := by rcases hf with hf | hf <;> simp [hf]
    simp only [h5,Bool.false_or,List.all_eq_true,Bool.not_eq_true'] at h4
    have := h4 m hm m hm'
    simp at this
   | succ i =>
    cases j with
    | zero => omega
    | succ j => exact i2 i j e e' (by omega) (by simpa using he) (by simpa using he') hf m hm hm'
theorem acyc_spec : ∀ {n : Nat},acyc ops n = true -> ∀ i o,i < n -> ops[i]? = some o -> ∀ e ∈ o.after.toList,anyB e = true -> e.on < i
 | 0,_,i,_,hi,_,_,_,_ => absurd hi (Nat.not_lt_zero i)
 | n + 1,h,i,o,hi,ho,e,he,ha => by
  simp only [acyc,Bool.and_eq_true] at h
  by_cases hin : i = n
  ·subst hin
   have := h.1
   rw [ho] at this
   simp only [List.all_eq_true] at this
   have := this e he
   simpa [ha] using this
  ·exact acyc_spec h.2 i o (by omega) ho e he ha
end
end Go.Abs
namespace Go.Abs
open Go.RowKit
set_option linter.unusedVariables false
section
variable {P : Program} {nt : Nat} {ops : Array Oper}
def unl (b : Array Bool) (n : Nat) : Nat := (List.range n).countP fun i => !lst b i
theorem lst_set {b : Array Bool} {i j : Nat} (hi : i < b.size) : lst (b.setIfInBounds i true) j = if i = j then true else lst b j:= by
 unfold lst
 by_cases h : i = j
 ·subst h; simp [Array.getD_eq_getD_getElem?,hi]
 ·simp [Array.getD_eq_getD_getElem?,h]
theorem unl_set {b : Array Bool} {n i : Nat} (hn : b.size = n) (hi : i < n) (hu : lst b i = false) : unl (b.setIfInBounds i true) n + 1 = unl b n:= by
 have key : ∀ (l : List Nat),l.Nodup -> i ∈ l -> (l.countP fun j => !lst (b.setIfInBounds i true) j) + 1 = l.countP fun j => !lst b j:= by
  intro l
  induction l with
  | nil => intro _ h; cases h
  | cons j l ih =>
   intro hnd hm
   simp only [List.nodup_cons] at hnd
   rw [List.countP_cons,List.countP_cons,lst_set (by omega)]
   by_cases hij : i = j
   ·subst hij
    have hrest : (l.countP fun j => !lst (b.setIfInBounds i true) j) = l.countP fun j => !lst b j:= by
     refine List.countP_congr fun j hj => ?_
     have hne : i ≠ j := fun e => hnd.1 (by rw [e]; exact hj)
     rw [lst_set (by omega),if_neg hne]
    rw [hrest]
    simp [hu]
   ·have hm' : i ∈ l:= by
     cases hm with
     | head => exact absurd rfl hij
     | tail _ hm => exact hm
    have := ih hnd.2 hm'
    rw [if_neg hij]
    omega
 exact key _ List.nodup_range (List.mem_range.2 hi)
theorem unl_zero {b : Array Bool} {n : Nat} (h : unl b n = 0) : ∀ i,i < n -> lst b i = true:= by
 intro i hi
 have := (List.countP_eq_zero.1 h) i (List.mem_range.2 hi)
 simpa using this
theorem ready_spec {b : Array Bool} {i : Nat} (hs : b.size = ops.size) (h : i ∈ Region.ready .any ops b) : i < ops.size /\ lst b i = false /\ ∃ o,ops[i]? = some o /\ ∀ e ∈ o.after.toList,anyB e = true -> lst b e.on = true:= by
 simp only [Region.ready,List.mem_filter,List.mem_range,Bool.and_eq_true,Bool.not_eq_true'] at h
 obtain ⟨h1,h2,h3⟩ := h
 have hb : lst b i = false:= by
  unfold lst
  rw [Array.getD_eq_getD_getElem?] at h2 ⊢
  have : i < b.size := by omega
  simp only [this,Array.getElem?_eq_getElem,Option.getD_some] at h2 ⊢
  exact h2
 have ho : ops[i]? = some ops[i] := by simp [h1]
 refine ⟨h1,hb,ops[i],ho,fun e he ha => ?_⟩
 rw [ho] at h3
 simp only [Option.map_some,Option.getD_some,Array.all_eq_true'] at h3
 have := h3 e (Array.mem_toList_iff.1 he)
 simp only [Bool.or_eq_true,Bool.not_eq_true'] at this
 rcases this with h4 | h4
 ·unfold anyB at ha; rw [h4] at ha; cases ha
 ·exact h4
theorem ready_mem {b : Array Bool} {i : Nat} {o : Oper} (hs : b.size = ops.size) (hi : i < ops.size) (hu : lst b i = false) (ho : ops[i]? = some o) (hd : ∀ e ∈ o.after.toList,anyB e = true -> lst b e.on = true) : i ∈ Region.ready .any ops b:= by
 simp only [Region.ready,List.mem_filter,List.mem_range,Bool.and_eq_true,Bool.not_eq_true']
 refine ⟨hi,?_,?_⟩
 ·unfold lst at hu
  rw [Array.getD_eq_getD_getElem?] at hu ⊢
  have : i < b.size := by omega
  simp only [this,Array.getElem?_eq_getElem,Option.getD_some] at hu ⊢
  exact hu
 ·rw [ho]
  simp only [Option.map_some,Option.getD_some,Array.all_eq_true']
  intro e he
  by_cases ha : Region.binds .any e = true
  ·have := hd e (Array.mem_toList_iff.2 he) ha
   simp only [Bool.or_eq_true]; right; exact this
  ·simp [ha]
theorem ready_some {b : Array Bool} (hs : b.size = ops.size) (hac : acyc ops ops.size = true) : ∀ (n i : Nat),i < n -> i < ops.size -> lst b i = false -> ∃ j,j ∈ Region.ready .any ops b
 | 0,i,hi,_,_ => absurd hi (Nat.not_lt_zero i)
 | n + 1,i,hi,hio,hu => by
  have ho : ops[i]? = some ops[i] := by simp [hio]
  by_cases hd : ∀ e ∈ (ops[i]).after.toList,anyB e = true -> lst b e.on = true
  ·exact ⟨i,ready_mem hs hio hu ho hd⟩
  ·simp only [Classical.not_forall] at hd
   obtain ⟨e,he,ha,hl⟩ := hd
   have hlt := acyc_spec hac i _ hio ho e he ha
   exact ready_some hs hac n e.on (by omega) (by omega) (by simpa using hl)
theorem draw_tail {ro : Option Nat} {Q : Exit -> Act -> World -> Prop} {h : Nat} (hac : acyc ops ops.size = true) (htl : ∀ d,d < ops.size - h -> ∀ j,j < h + d -> waits ops ops.size (h + d) j = true) : ∀ (d fuel : Nat) (b : Array Bool) (a : Act) (w : World),d <= ops.size - h -> d <= fuel -> b.size = ops.size →
  Closed ops b -> (∀ i,i < ops.size -> (lst b i = true ↔ i < ops.size - d)) -> h <= ops.size -> wpListIn (FW ro) 0 P ops Q (ops.toList.drop (ops.size - d)) a w -> wpAnyIn (FW ro) 0 P .any ops Q fuel b a w
 | 0,fuel,b,a,w,_,_,hs,hc,hl,hh,hw => by
  have hd : ops.toList.drop (ops.size - 0) = [] := by simp
  rw [hd] at hw
  refine wpAnyIn_done ?_ hw fuel
  apply List.eq_nil_iff_forall_not_mem.2
  intro i hi
  obtain ⟨h1,h2,_⟩ := ready_spec hs hi
  have := (hl i h1).2 (by omega)
  rw [h2] at this; cases this
 | d + 1,0,b,a,w,_,hf,_,_,_,_,_ => by omega
 | d + 1,fuel + 1,b,a,w,hdn,hf,hs,hc,hl,hh,hw => by
  have hk : ops.size - (d + 1) < ops.size := by omega
  generalize hkk : ops.size - (d + 1) = k at *
  have ho : ops[k]? = some ops[k] := by simp [hk]
  have honly : ∀ i ∈ Region.ready .any ops b,i = k:= by
   intro i hi
   obtain ⟨h1,h2,o,ho',hd⟩ := ready_spec hs hi
   by_cases hik : i = k
   ·exact hik
   ·exfalso
    have hge : ¬ i < k := fun hlt => by
     have := (hl i h1).2 hlt
     rw [h2] at this; cases this
    have hw' := htl (i - h) (by omega) k (by omega)
    rw [show h + (i - h) = i by omega] at hw'
    have hlk := waits_listed hc ops.size i k o ho' hd hw'
    have := (hl k hk).1 hlk
    omega
  have huk : lst b k = false:= by
   cases hb : lst b k
   ·rfl
   ·have := (hl k hk).1 hb; omega
  obtain ⟨j,hj⟩ := ready_some hs hac ops.size k hk hk huk
  have hjk := honly j hj
  subst hjk
  refine ⟨fun h0 => absurd (h0 ▸ hj) (by simp),fun i hi => ?_⟩
  rw [honly i hi]
  have hdrop : ops.toList.drop j = ops[j] :: ops.toList.drop (j + 1):= by
   rw [List.drop_eq_getElem_cons (by simpa using hk)]; simp
  rw [hdrop] at hw
  obtain ⟨_,_,o,ho',hd⟩ := ready_spec hs hj
  have hoo : o = ops[j] := by rw [ho] at ho'; cases ho'; rfl
  have hwp : wpOpIn (FW ro) 0 P ops Q j (wpListIn (FW ro) 0 P ops Q (ops.toList.drop (j + 1))) a w:= by
   unfold wpOpIn
   rw [ho]
   exact hw
  refine wpOpIn_mono (fun a' w' hw' => ?_) hwp
  refine draw_tail hac htl d fuel _ a' w' (by omega) (by omega) (by simp [hs]) ?_ ?_ hh (by rw [show ops.size - d = j + 1 by omega]; exact hw')
  ·intro i' o' hi' hl' e he ha
   rw [lst_set (by omega)] at hl' ⊢
   by_cases h1 : j = e.on
   ·rw [if_pos h1]
   ·rw [if_neg h1]
    by_cases h2 : j = i'
    ·subst h2
     rw [ho'] at hi'; cases hi'
     exact hd e he ha
    ·rw [if_neg h2] at hl'
     exact hc i' o' hi' hl' e he ha
  ·intro i' hi'
   rw [lst_set (by omega)]
   by_cases h1 : j = i'
   ·subst h1; rw [if_pos rfl]; constructor
    ·intro _; omega
    ·intro _; rfl
   ·rw [if_neg h1,hl i' hi']; omega
theorem envX_congr {l : List DEnt} {X Y : Nat -> Bool} {env : List (Nat × Option FV)} : ∀ k,(∀ i,i < k -> X i = Y i) -> envX ops l X env k = envX ops l Y env k
 | 0,_ => rfl
 | i + 1,h => by
  unfold envX
  rw [h i (Nat.lt_succ_self i),envX_congr i fun j hj => h j (by omega)]
theorem effX_congr {l : List DEnt} {X Y : Nat -> Bool} : ∀ k,(∀ i,i < k -> X i = Y i) -> effX l X k = effX l Y k
 | 0,_ => rfl
 | i + 1,h => by
  unfold effX
  rw [h i (Nat.lt_succ_self i),effX_congr i fun j hj => h j (by omega)]
theorem effX_spec {l : List DEnt} {X : Nat -> Bool} : ∀ k,(effX l X k = 0 /\ ∀ j,j < k -> X j = true -> ((l[j]?).map (·.eff)).getD false = false) \/
  ∃ j,effX l X k = j + 1 /\ j < k /\ X j = true /\ ((l[j]?).map (·.eff)).getD false = true /\ ∀ m,j < m -> m < k -> X m = true -> ((l[m]?).map (·.eff)).getD false = false
 | 0 => .inl ⟨rfl,fun j hj => absurd hj (Nat.not_lt_zero j)⟩
 | i + 1 => by
  unfold effX
  cases hx : X i with
  | true =>
   cases he : ((l[i]?).map (·.eff)).getD false with
   | true => exact .inr ⟨i,rfl,Nat.lt_succ_self i,hx,he,fun m h1 h2 => by omega⟩
   | false =>
    simp only []
    rcases effX_spec (l := l) (X := X) i with ⟨h1,h2⟩ | ⟨j,h1,h2,h3,h4,h5⟩
    ·refine .inl ⟨h1,fun j hj hxj => ?_⟩
     by_cases hji : j = i
     ·subst hji; exact he
     ·exact h2 j (by omega) hxj
    ·refine .inr ⟨j,h1,by omega,h3,h4,fun m hm1 hm2 hxm => ?_⟩
     by_cases hmi : m = i
     ·subst hmi; exact he
     ·exact h5 m hm1 (by omega) hxm
  | false =>
   simp only []
   rcases effX_spec (l := l) (X := X) i with ⟨h1,h2⟩ | ⟨j,h1,h2,h3,h4,h5⟩
   ·refine .inl ⟨h1,fun j hj hxj => ?_⟩
    by_cases hji : j = i
    ·subst hji; rw [hx] at hxj; cases hxj
    ·exact h2 j (by omega) hxj
   ·refine .inr ⟨j,h1,by omega,h3,h4,fun m hm1 hm2 hxm => ?_⟩
    by_cases hmi : m = i
    ·subst hmi; rw [hx] at hxm; cases hxm
    ·exact h5 m hm1 (by omega) hxm
def locX (st : Nat -> ASt) (s0 : ASt) (l : List DEnt) (X : Nat -> Bool) : Nat -> List (Nat × Option AObj)
 | 0 => []
 | i + 1 => match l[i]? with
  | some e => match e.eff with
   | true => locX st s0 l X i
   | false => (e.mods.map fun m => (m,match X i with | true => (st (i + 1)).obj m | false => s0.obj m)) ++ locX st s0 l X i
  | none => locX st s0 l X i
theorem look_app_map {α : Type} (f : Nat -> Option α) : ∀ (ms : List Nat) (o : List (Nat × Option α)) (id : Nat),look ((ms.map fun m => (m,f m)) ++ o) id = if id ∈ ms then f id else look o id
 | [],o,id => by simp
 | m :: ms,o,id => by
  by_cases h : m = id
  ·subst h; simp [look_cons_eq]
  ·rw [List.map_cons,List.cons_append,look_cons_ne _ _ h,look_app_map f ms o id]
   have : id ≠ m := fun e => h e.symm
   simp [this]
theorem locX_out {st : Nat -> ASt} {s0 : ASt} {l : List DEnt} {X : Nat -> Bool} {o : List (Nat × Option AObj)} {id : Nat} : ∀ k,(∀ i e,i < k -> l[i]? = some e -> e.eff = false -> id ∉ e.mods) -> look (locX st s0 l X k ++ o) id = look o id
 | 0,_ => rfl
 | k + 1,h => by
  have ih := locX_out (st := st) (s0 := s0) (X := X) (o := o) k fun i e hi => h i e (by omega)
  unfold locX
  cases hl : l[k]? with
  | none => exact ih
  | some e =>
   simp only []
   cases he : e.eff with
   | true => exact ih
   | false =>
    simp only []
    rw [List.append_assoc,look_app_map (fun m => match X k with | true => (st (k + 1)).obj m | false => s0.obj m),if_neg (h k e (by omega) hl he)]
    exact ih
theorem locX_in {st : Nat -> ASt} {s0 : ASt} {l : List DEnt} {X : Nat -> Bool} {o : List (Nat × Option AObj)} {id i : Nat} {e : DEnt} (hl : l[i]? = some e) (he : e.eff = false) (hm : id ∈ e.mods) : ∀ k,i < k -> (∀ j e',j ≠ i -> l[j]? = some e' -> e'.eff = false -> id ∉ e'.mods) →
  look (locX st s0 l X k ++ o) id = match X i with | true => (st (i + 1)).obj id | false => s0.obj id
 | 0,h,_ => by omega
 | k + 1,h,hu => by
  unfold locX
  by_cases hk : i = k
  ·subst hk
   rw [hl]
   simp only [he]
   rw [List.append_assoc,look_app_map (fun m => match X i with | true => (st (i + 1)).obj m | false => s0.obj m),if_pos hm]
  ·have ih := locX_in (st := st) (s0 := s0) (X := X) (o := o) hl he hm k (by omega) hu
   cases hlk : l[k]? with
   | none => exact ih
   | some e2 =>
    simp only []
    cases he2 : e2.eff with
    | true => exact ih
    | false =>
     simp only []
     rw [List.append_assoc,look_app_map (fun m => match X k with | true => (st (k + 1)).obj m | false => s0.obj m),if_neg (hu k e2 (fun e => hk e.symm) hlk he2)]
     exact ih
theorem AW_draw {id h : Nat} {l : List DEnt} {s0 s : ASt} {opl : List Oper} {Q : Exit -> ASt -> Prop} (hm : P.follows .mixedOrders = true) (hr : DRun P nt opl.toArray s0 h s l) (hok : drawOK opl.toArray h s0.nxt l = true)
  (htail : AL P nt opl.toArray (opl.drop h) Q s) : AW P nt (.region id opl.toArray true) Q s0:= by
 generalize hops : opl.toArray = ops at *
 have hopl : opl = ops.toList := by rw [<- hops]
 subst hopl
 clear hops
 intro ro W0 D0 D φ a w hRo hI
 simp only [drawOK,Bool.and_eq_true] at hok
 obtain ⟨⟨⟨⟨⟨⟨k1,k2⟩,k3⟩,k4⟩,k5⟩,k7⟩,k6⟩ := hok
 obtain ⟨loc1,loc2⟩ := locOK_spec k7
 have hh := Nat.le_of_ble_eq_true k1
 have hhead := headOK_spec k3
 have htl := tailOK_spec k6
 obtain ⟨hlen,st,st0,sth,hst⟩ := hr
 have henv : ∀ k,k <= h -> (st k).env = envX ops l (fun _ => true) s0.env k:= by
  intro k
  induction k with
  | zero => intro _; rw [st0]; rfl
  | succ k ih =>
   intro hk
   obtain ⟨o,e,g1,g2,g3⟩ := hst k (by omega)
   rw [g3.env,ih (by omega)]
   simp [envX,g1,g2]
 let fr : List Nat := l.flatMap fun e => match e.eff with | true => [] | false => e.mods
 have hfr : ∀ id,id ∈ fr ↔ ∃ (i : Nat) (e : DEnt),i < h /\ l[i]? = some e /\ e.eff = false /\ id ∈ e.mods:= by
  intro id
  simp only [fr,List.mem_flatMap]
  constructor
  ·rintro ⟨e,he,hm⟩
   obtain ⟨i,hi⟩ := List.mem_iff_getElem?.1 he
   cases hef : e.eff with
   | true => rw [hef] at hm; cases hm
   | false => rw [hef] at hm; exact ⟨i,e,by rw [<- hlen]; exact (List.getElem?_eq_some_iff.1 hi).1,hi,hef,hm⟩
  ·rintro ⟨i,e,_,hi,hef,hm⟩
   exact ⟨e,List.mem_of_getElem? hi,by rw [hef]; exact hm⟩
 have hobjs : ∀ k,k <= h -> (∀ id,id ∉ fr -> (st k).obj id = (st (effX l (fun _ => true) k)).obj id) /\ (st k).nxt = (st (effX l (fun _ => true) k)).nxt:= by
  intro k
  induction k with
  | zero => intro _; exact ⟨fun _ _ => rfl,rfl⟩
  | succ k ih =>
   intro hk
   obtain ⟨o,e,g1,g2,g3⟩ := hst k (by omega)
   unfold effX
   cases he : e.eff with
   | true => simp [g2,he]
   | false =>
    simp only [g2,Option.map_some,Option.getD_some,he]
    obtain ⟨q1,q2⟩ := g3.pure he
    refine ⟨fun id hid => ?_,by rw [q2]; exact (ih (by omega)).2⟩
    rw [<- (ih (by omega)).1 id hid]
    show look (st (k + 1)).objs id = look (st k).objs id
    rw [q1,look_app_map (fun id => (st (k + 1)).obj id),if_neg fun hm => hid ((hfr id).2 ⟨k,e,by omega,g2,he,hm⟩)]
 have hnxt : ∀ k,k <= h -> s0.nxt <= (st k).nxt:= by
  intro k
  induction k with
  | zero => intro _; rw [st0]; exact Nat.le_refl _
  | succ k ih =>
   intro hk
   obtain ⟨o,e,g1,g2,g3⟩ := hst k (by omega)
   have := ih (by omega)
   cases he : e.eff with
   | true => have := (g3.eff he).1; omega
   | false => rw [(g3.pure he).2]; exact this
 have hkeep : ∀ id,id < s0.nxt -> (∀ e ∈ l,id ∉ e.mods) -> ∀ k,k <= h -> (st k).obj id = s0.obj id:= by
  intro id hid hno k
  induction k with
  | zero => intro _; rw [st0]
  | succ k ih =>
   intro hk
   obtain ⟨o,e,g1,g2,g3⟩ := hst k (by omega)
   rw [<- ih (by omega)]
   cases he : e.eff with
   | true => exact (g3.eff he).2 id (Nat.lt_of_lt_of_le hid (hnxt k (by omega))) (hno e (List.mem_of_getElem? g2))
   | false =>
    show look _ _ = look _ _
    rw [(g3.pure he).1,look_app_map (fun id => (st (k + 1)).obj id),if_neg (hno e (List.mem_of_getElem? g2))]
 have hloc : ∀ i e id,l[i]? = some e -> e.eff = false -> id ∈ e.mods -> i < h -> ∀ k,k <= h -> (st k).obj id = if i < k then (st (i + 1)).obj id else s0.obj id:= by
  intro i e id hi hef hm hih k
  have hidn : id < s0.nxt := loc1 i e hi hef id hm
  have hoth : ∀ j e',j ≠ i -> l[j]? = some e' -> id ∉ e'.mods:= by
   intro j e' hne hj hm'
   rcases Nat.lt_or_gt_of_ne hne with hlt | hgt
   ·exact loc2 j i e' e hlt hj hi (.inr hef) id hm' hm
   ·exact loc2 i j e e' hgt hi hj (.inl hef) id hm hm'
  induction k with
  | zero => intro _; rw [if_neg (by omega),st0]
  | succ k ih =>
   intro hk
   by_cases hki : k = i
   ·subst hki; rw [if_pos (by omega)]
   ·obtain ⟨o,e',g1,g2,g3⟩ := hst k (by omega)
    have hno := hoth k e' hki g2
    have step : (st (k + 1)).obj id = (st k).obj id:= by
     cases he : e'.eff with
     | true => exact (g3.eff he).2 id (Nat.lt_of_lt_of_le hidn (hnxt k (by omega))) hno
     | false =>
      show look _ _ = look _ _
      rw [(g3.pure he).1,look_app_map (fun id => (st (k + 1)).obj id),if_neg hno]
    rw [step,ih (by omega)]
    by_cases hik : i < k
    ·rw [if_pos hik,if_pos (by omega)]
    ·rw [if_neg hik,if_neg (by omega)]
 have hdst : ∀ i j t,i < h -> j < h -> i ≠ j -> (ops[i]?).bind (·.dst) = some t -> (ops[j]?).bind (·.dst) ≠ some t:= by
  intro i j t hi hj hne hd hd'
  rcases Nat.lt_or_ge i j with hlt | hge
  ·obtain ⟨o,g1,g2,g3⟩ := hhead j hj
   exact dstOnce_spec g3 i hlt t hd' hd
  ·obtain ⟨o,g1,g2,g3⟩ := hhead i hi
   exact dstOnce_spec g3 j (by omega) t hd hd'
 let SX : (Nat -> Bool) -> ASt := fun X => ⟨envX ops l X s0.env h,locX st s0 l X h ++ (st (effX l X h)).objs,(st (effX l X h)).nxt⟩
 have hSXo : ∀ X id,id ∉ fr -> (SX X).obj id = (st (effX l X h)).obj id:= by
  intro X id hid
  exact locX_out h fun i e hi hl he hm => hid ((hfr id).2 ⟨i,e,hi,hl,he,hm⟩)
 have hSXi : ∀ X i e id,l[i]? = some e -> e.eff = false -> id ∈ e.mods -> i < h -> (SX X).obj id = match X i with | true => (st (i + 1)).obj id | false => s0.obj id:= by
  intro X i e id hi hef hm hih
  refine locX_in hi hef hm h hih fun j e' hne hj hef' hm' => ?_
  rcases Nat.lt_or_gt_of_ne hne with hlt | hgt
  ·exact loc2 j i e' e hlt hj hi (.inr hef) id hm' hm
  ·exact loc2 i j e e' hgt hi hj (.inl hef) id hm hm'
 have hend : ∀ X,(∀ i,i < h -> X i = true) -> ∀ D φ a w,Inv W0 D0 nt (SX X) D φ a w -> Inv W0 D0 nt (st h) D φ a w:= by
  intro X hX D φ a w hI
  have e1 : envX ops l X s0.env h = (st h).env := by rw [henv h (Nat.le_refl h)]; exact envX_congr h fun i hi => hX i (by omega)
  have e2 : effX l X h = effX l (fun _ => true) h := effX_congr h fun i hi => hX i (by omega)
  have hg : ∀ t,(st h).get t = (SX X).get t := fun t => by show look _ _ = look (envX ops l X s0.env h) t; rw [e1]
  have ho : ∀ id,(st h).obj id = (SX X).obj id:= by
   intro id
   by_cases hid : id ∈ fr
   ·obtain ⟨i,e,hi,hl,he,hm⟩ := (hfr id).1 hid
    rw [hSXi X i e id hl he hm hi,hX i hi,hloc i e id hl he hm hi h (Nat.le_refl h),if_pos hi]
   ·rw [hSXo X id hid,e2]; exact (hobjs h (Nat.le_refl h)).1 id hid
  have hn : (st h).nxt = (SX X).nxt := by show _ = (st (effX l X h)).nxt; rw [e2]; exact (hobjs h (Nat.le_refl h)).2
  refine hI.weaken (fun t x hx => by rw [<- hg]; exact hx) (fun id ob hob => by rw [<- ho]; exact hob) (fun t x hx => by rw [hn]; exact (hI.env t x (by rw [<- hg]; exact hx)).1)
   (fun id ob hob => by rw [hn]; have := hI.objs id ob (by rw [<- ho]; exact hob); exact ⟨this.1,this.2.1⟩)
 have hgo : ∀ (fuel : Nat) (b : Array Bool) (D : Nat -> Prop) (φ : Nat -> Value) (a : Act) (w : World),b.size = ops.size -> unl b ops.size <= fuel -> Closed ops b -> (∀ i,h <= i -> lst b i = false) -> Inv W0 D0 nt (SX (lst b)) D φ a w →
   wpAnyIn (FW ro) 0 P .any ops (Lift W0 D0 nt Q) fuel b a w:= by
  intro fuel
  induction fuel with
  | zero =>
   intro b D φ a w hs hu hc hb hI
   have hall := unl_zero (Nat.le_zero.1 hu)
   have hn : ops.size = h:= by
    rcases Nat.lt_or_ge h ops.size with hlt | hge
    ·have := hall h hlt; rw [hb h (Nat.le_refl h)] at this; cases this
    ·omega
   have hI := hend (lst b) (fun i hi => hall i (by omega)) D φ a w hI
   rw [sth] at hI
   refine draw_tail k2 htl 0 0 b a w (Nat.zero_le _) (Nat.le_refl _) hs hc (fun i hi => ⟨fun _ => by omega,fun _ => hall i hi⟩) hh ?_
   rw [Nat.sub_zero,hn]
   exact htail ro W0 D0 D φ a w hRo hI
  | succ fuel ih =>
   intro b D φ a w hs hu hc hb hI
   by_cases hall : ∀ i,i < h -> lst b i = true
   ·have hI := hend (lst b) hall D φ a w hI
    rw [sth] at hI
    have hunl : ops.size - h <= unl b ops.size:= by
     have : ∀ n,h <= n -> n - h <= unl b n:= by
      intro n
      induction n with
      | zero => intro h0; omega
      | succ n ihn =>
       intro h0
       by_cases hle : h <= n
       ·have := ihn hle
        have hbn := hb n hle
        simp only [unl,List.range_succ,List.countP_append,List.countP_cons,List.countP_nil] at this ⊢
        simp [hbn]
        omega
       ·have : n + 1 = h := by omega
        omega
     exact this _ hh
    refine draw_tail k2 htl (ops.size - h) (fuel + 1) b a w (Nat.le_refl _) (by omega) hs hc (fun i hi => ⟨fun hl => ?_,fun hlt => hall i (by omega)⟩) hh ?_
    ·rcases Nat.lt_or_ge i h with hlt | hge
     ·omega
     ·rw [hb i hge] at hl; cases hl
    ·rw [show ops.size - (ops.size - h) = h by omega]
     exact htail ro W0 D0 D φ a w hRo hI
   ·simp only [Classical.not_forall] at hall
    obtain ⟨i0,hi0,hu0⟩ := hall
    have hu0' : lst b i0 = false := by simpa using hu0
    obtain ⟨j0,hj0⟩ := ready_some hs k2 ops.size i0 (by omega) (by omega) hu0'
    refine ⟨fun h0 => absurd (h0 ▸ hj0) (by simp),fun i hi => ?_⟩
    obtain ⟨h1,h2,o,ho,hd⟩ := ready_spec hs hi
    have hih : i < h:= by
     rcases Nat.lt_or_ge i h with hlt | hge
     ·exact hlt
     ·exfalso
      have hw' := htl (i - h) (by omega) i0 (by omega)
      rw [show h + (i - h) = i by omega] at hw'
      have := waits_listed hc ops.size i i0 o ho hd hw'
      rw [hu0'] at this; cases this
    obtain ⟨o',e,g1,g2,g3⟩ := hst i hih
    rw [ho] at g1; cases g1
    obtain ⟨o',q1,q2,q3⟩ := hhead i hih
    rw [ho] at q1; cases q1
    have hneeds : ∀ t ∈ needs ops o,(SX (lst b)).get t = (st i).get t:= by
     intro t ht
     have hsl := slotOK_spec (q2 t ht)
     show look (envX ops l (lst b) s0.env h) t = look (st i).env t
     rw [henv i (by omega)]
     by_cases hex : ∃ j,j < h /\ (ops[j]?).bind (·.dst) = some t
     ·obtain ⟨j,hj,hdj⟩ := hex
      have huniq : ∀ j',j' < h -> j' ≠ j -> (ops[j']?).bind (·.dst) ≠ some t := fun j' hj' hne => hdst j j' t hj hj' (fun e => hne e.symm) hdj
      rcases hsl j hj hdj with rfl | ⟨hlt,hdr⟩ | ⟨hlt,oj,hoj,hdr⟩
      ·rw [envX_none h fun i' hi' hx => ?_,envX_none j fun i' hi' _ => huniq i' (by omega) (by omega)]
       by_cases he : i' = j
       ·subst he; rw [h2] at hx; cases hx
       ·exact huniq i' hi' he
      ·obtain ⟨ed,hed,had,hon⟩ := direct_mem hdr
       have hlj : lst b j = true := by rw [<- hon]; exact hd ed hed had
       rw [envX_some h j hj hlj hdj huniq,envX_some i j hlt rfl hdj fun j' hj' hne => huniq j' (by omega) hne]
      ·obtain ⟨ed,hed,had,hon⟩ := direct_mem hdr
       have hlj : lst b j = false:= by
        cases hbj : lst b j
        ·rfl
        ·have := hc j oj hoj hbj ed hed had
         rw [hon,h2] at this; cases this
       rw [envX_none h fun i' hi' hx => ?_,envX_none i fun i' hi' _ => huniq i' (by omega) (by omega)]
       by_cases he : i' = j
       ·subst he; rw [hlj] at hx; cases hx
       ·exact huniq i' hi' he
     ·have hno : ∀ j,j < h -> (ops[j]?).bind (·.dst) ≠ some t := fun j hj hdj => hex ⟨j,hj,hdj⟩
      rw [envX_none h fun i' hi' _ => hno i' hi',envX_none i fun i' hi' _ => hno i' (by omega)]
    have hXset : ∀ j,lst (b.setIfInBounds i true) j = if i = j then true else lst b j := fun j => lst_set (by omega)
    have hrest : ∀ D' φ' a' w',Inv W0 D0 nt (SX (lst (b.setIfInBounds i true))) D' φ' a' w' -> wpAnyIn (FW ro) 0 P .any ops (Lift W0 D0 nt Q) fuel (b.setIfInBounds i true) a' w':= by
     intro D' φ' a' w' hI'
     refine ih _ D' φ' a' w' (by simp [hs]) ?_ ?_ ?_ hI'
     ·have := unl_set hs h1 h2; omega
     ·intro i' o' hi' hl' ed he ha
      rw [hXset] at hl' ⊢
      by_cases e1 : i = ed.on
      ·rw [if_pos e1]
      ·rw [if_neg e1]
       by_cases e2 : i = i'
       ·subst e2
        rw [ho] at hi'; cases hi'
        exact hd ed he ha
       ·rw [if_neg e2] at hl'
        exact hc i' o' hi' hl' ed he ha
     ·intro j hj
      rw [hXset,if_neg (by omega)]; exact hb j hj
    have henv' : ∀ t,look (putE (SX (lst b)).env o.dst e.x) t = look (envX ops l (lst (b.setIfInBounds i true)) s0.env h) t:= by
     intro t
     rw [look_putE]
     have hod : (ops[i]?).bind (·.dst) = o.dst := by rw [ho]; rfl
     by_cases hdt : o.dst = some t
     ·rw [if_pos hdt,envX_some h i hih (by rw [hXset,if_pos rfl]) (by rw [hod]; exact hdt) fun j hj hne => hdst i j t hih hj (fun e => hne e.symm) (by rw [hod]; exact hdt)]
      rw [g2]; rfl
     ·rw [if_neg hdt]
      show look (envX ops l (lst b) s0.env h) t = _
      by_cases hex : ∃ j,j < h /\ lst b j = true /\ (ops[j]?).bind (·.dst) = some t
      ·obtain ⟨j,hj,hlj,hdj⟩ := hex
       have huniq : ∀ j',j' < h -> j' ≠ j -> (ops[j']?).bind (·.dst) ≠ some t := fun j' hj' hne => hdst j j' t hj hj' (fun e => hne e.symm) hdj
       rw [envX_some h j hj hlj hdj huniq,envX_some h j hj (by rw [hXset]; split <;> simp_all) hdj huniq]
      ·rw [envX_none h fun j hj hx hdj => hex ⟨j,hj,hx,hdj⟩,envX_none h fun j hj hx hdj => ?_]
       rw [hXset] at hx
       by_cases e1 : i = j
       ·subst e1; rw [hod] at hdj; exact hdt hdj
       ·rw [if_neg e1] at hx; exact hex ⟨j,hj,hx,hdj⟩
    have fin : ∀ (objs : List (Nat × Option AObj)) (n : Nat),(∀ id,look objs id = (SX (lst (b.setIfInBounds i true))).obj id) -> n = (SX (lst (b.setIfInBounds i true))).nxt →
      ∀ D' φ' a' w',Inv W0 D0 nt ⟨putE (SX (lst b)).env o.dst e.x,objs,n⟩ D' φ' a' w' -> Inv W0 D0 nt (SX (lst (b.setIfInBounds i true))) D' φ' a' w':= by
     rintro objs n hob rfl D' φ' a' w' hI'
     refine hI'.weaken (fun t x hx => ?_) (fun id ob ho => by show look objs id = _; rw [hob]; exact ho) (fun t x hx => ?_) (fun id ob ho => ?_)
     ·show look _ t = _; rw [henv' t]; exact hx
     ·refine (hI'.env t x ?_).1
      show look _ t = _; rw [henv' t]; exact hx
     ·have := hI'.objs id ob (by show look objs id = _; rw [hob]; exact ho)
      exact ⟨this.1,this.2.1⟩
    have hstep : ∀ (s' : ASt),GOpTo P nt ops o (SX (lst b)) s' -> (∀ D' φ' a' w',Inv W0 D0 nt s' D' φ' a' w' -> Inv W0 D0 nt (SX (lst (b.setIfInBounds i true))) D' φ' a' w') →
      wpOpIn (FW ro) 0 P ops (Lift W0 D0 nt Q) i (wpAnyIn (FW ro) 0 P .any ops (Lift W0 D0 nt Q) fuel (b.setIfInBounds i true)) a w:= by
     intro s' hg hf
     unfold wpOpIn
     rw [ho]
     have := hg ro W0 D0 D φ a w hI hRo.2.2 (wpAnyIn (FW ro) 0 P .any ops (Lift W0 D0 nt Q) fuel (b.setIfInBounds i true)) (Lift W0 D0 nt Q) (fun D' φ' a' w' hI' => hrest D' φ' a' w' (hf D' φ' a' w' hI'))
     simp only []
     split
     ·rename_i hw; rw [if_pos hw] at this; exact this
     ·rename_i hw; rw [if_neg hw] at this; exact ⟨fun _ _ => trivial,this⟩
    cases hef : e.eff with
    | false =>
     have heff : effX l (lst (b.setIfInBounds i true)) h = effX l (lst b) h:= by
      have : ∀ k,effX l (lst (b.setIfInBounds i true)) k = effX l (lst b) k:= by
       intro k
       induction k with
       | zero => rfl
       | succ k ihk =>
        unfold effX
        rw [hXset,ihk]
        by_cases e1 : i = k
        ·subst e1
         simp only [g2,Option.map_some,Option.getD_some,hef,if_true]
         cases lst b i <;> rfl
        ·rw [if_neg e1]
      exact this h
     have hle : effX l (lst b) h <= h:= by
      rcases effX_spec (l := l) (X := lst b) h with ⟨z,_⟩ | ⟨j,z,hj,_⟩ <;> omega
     refine hstep _ (g3.evP hef (SX (lst b)) hneeds (fun id hid => ?_) (fun id hid => ?_)) (fin _ _ (fun id => ?_) (by show (st _).nxt = (st _).nxt; rw [heff]))
     rotate_left
     ·rw [hSXi (lst b) i e id g2 hef hid hih,h2,hloc i e id g2 hef hid hih i (by omega),if_neg (by omega)]
     ·rw [look_app_map (fun id => (st (i + 1)).obj id)]
      by_cases hm : id ∈ e.mods
      ·rw [if_pos hm,hSXi (lst (b.setIfInBounds i true)) i e id g2 hef hm hih,hXset,if_pos rfl]
      ·rw [if_neg hm]
       show (SX (lst b)).obj id = _
       by_cases hid : id ∈ fr
       ·obtain ⟨j,ej,hj,hlj,hej,hmj⟩ := (hfr id).1 hid
        have hij : i ≠ j := by rintro rfl; rw [g2] at hlj; cases hlj; exact hm hmj
        rw [hSXi (lst b) j ej id hlj hej hmj hj,hSXi (lst (b.setIfInBounds i true)) j ej id hlj hej hmj hj,hXset,if_neg hij]
       ·rw [hSXo _ id hid,hSXo _ id hid,heff]
     have hr := k5
     simp only [ridsOK,List.all_eq_true,Bool.and_eq_true] at hr
     obtain ⟨r1,r2⟩ := hr e (List.mem_of_getElem? g2) id hid
     have hidlt : id < s0.nxt := by simpa using r1
     have hno : ∀ e' ∈ l,id ∉ e'.mods := fun e' he' hm => by
      have := r2 e' he' id hm
      simp at this
     have hidf : id ∉ fr := fun hf => by
      obtain ⟨j,ej,hj,hlj,hej,hmj⟩ := (hfr id).1 hf
      exact hno ej (List.mem_of_getElem? hlj) hmj
     rw [hSXo _ id hidf,hkeep id hidlt hno i (by omega)]
     exact hkeep id hidlt hno _ hle
    | true =>
     have before : ∀ j ej,j < i -> l[j]? = some ej -> ej.eff = true -> lst b j = true:= by
      have : ∀ d j ej,i - j <= d -> j < i -> l[j]? = some ej -> ej.eff = true -> lst b j = true:= by
       intro d
       induction d with
       | zero => intro j ej h0 hj _ _; omega
       | succ d ihd =>
        intro j ej h0 hj hej heff
        by_cases hmid : ∃ m em,j < m /\ m < i /\ l[m]? = some em /\ em.eff = true
        ·obtain ⟨m,em,hm1,hm2,hem,hme⟩ := hmid
         have hlm := ihd m em (by omega) hm2 hem hme
         have : ∃ m em,j < m /\ m < i /\ l[m]? = some em /\ em.eff = true /\ ∀ q,j < q -> q < m -> ∀ eq,l[q]? = some eq -> eq.eff = false:= by
          have hfind : ∀ c m em,m - j <= c -> j < m -> m < i -> l[m]? = some em -> em.eff = true -> ∃ m em,j < m /\ m < i /\ l[m]? = some em /\ em.eff = true /\ ∀ q,j < q -> q < m -> ∀ eq,l[q]? = some eq -> eq.eff = false:= by
           intro c
           induction c with
           | zero => intro m em h0 h1; omega
           | succ c ihc =>
            intro m em h0 h1 h2' h3 h4
            by_cases hq : ∃ q eq,j < q /\ q < m /\ l[q]? = some eq /\ eq.eff = true
            ·obtain ⟨q,eq,a1,a2,a3,a4⟩ := hq
             exact ihc q eq (by omega) a1 (by omega) a3 a4
            ·refine ⟨m,em,h1,h2',h3,h4,fun q a1 a2 eq a3 => ?_⟩
             cases hqe : eq.eff
             ·rfl
             ·exact absurd ⟨q,eq,a1,a2,a3,hqe⟩ hq
          exact hfind _ m em (Nat.le_refl _) hm1 hm2 hem hme
         obtain ⟨m',em',a1,a2,a3,a4,a5⟩ := this
         have hlm' := ihd m' em' (by omega) a2 a3 a4
         have hw' := effOK_pair k4 j m' ej em' a1 hej a3 heff a4 a5
         simp only [Nat.zero_add] at hw'
         obtain ⟨om,gm,_⟩ := hhead m' (by omega)
         exact waits_listed hc ops.size m' j om gm (fun ed hed had => hc m' om gm hlm' ed hed had) hw'
        ·have hw' := effOK_pair k4 j i ej e hj hej g2 heff hef (fun m a1 a2 em hem => by
          cases hme : em.eff
          ·rfl
          ·exact absurd ⟨m,em,a1,a2,hem,hme⟩ hmid)
         simp only [Nat.zero_add] at hw'
         exact waits_listed hc ops.size i j o ho hd hw'
      exact fun j ej hj => this i j ej (by omega) hj
     have behind : ∀ j ej,i < j -> j < h -> l[j]? = some ej -> ej.eff = true -> lst b j = false:= by
      have : ∀ d j ej,j - i <= d -> i < j -> j < h -> l[j]? = some ej -> ej.eff = true -> lst b j = false:= by
       intro d
       induction d with
       | zero => intro j ej h0 h1; omega
       | succ d ihd =>
        intro j ej h0 hij hjh hej heff
        cases hb' : lst b j with
        | false => rfl
        | true =>
         exfalso
         have : ∃ m em,i <= m /\ m < j /\ l[m]? = some em /\ em.eff = true /\ ∀ q,m < q -> q < j -> ∀ eq,l[q]? = some eq -> eq.eff = false:= by
          have hfind : ∀ c m em,j - m <= c -> i <= m -> m < j -> l[m]? = some em -> em.eff = true -> ∃ m em,i <= m /\ m < j /\ l[m]? = some em /\ em.eff = true /\ ∀ q,m < q -> q < j -> ∀ eq,l[q]? = some eq -> eq.eff = false:= by
           intro c
           induction c with
           | zero => intro m em h0 h1 h2'; omega
           | succ c ihc =>
            intro m em h0 h1 h2' h3 h4
            by_cases hq : ∃ q eq,m < q /\ q < j /\ l[q]? = some eq /\ eq.eff = true
            ·obtain ⟨q,eq,a1,a2,a3,a4⟩ := hq
             exact ihc q eq (by omega) (by omega) a2 a3 a4
            ·refine ⟨m,em,h1,h2',h3,h4,fun q a1 a2 eq a3 => ?_⟩
             cases hqe : eq.eff
             ·rfl
             ·exact absurd ⟨q,eq,a1,a2,a3,hqe⟩ hq
          exact hfind _ i e (Nat.le_refl _) (Nat.le_refl _) hij g2 hef
         obtain ⟨m,em,a1,a2,a3,a4,a5⟩ := this
         have hw' := effOK_pair k4 m j em ej a2 a3 hej a4 heff a5
         simp only [Nat.zero_add] at hw'
         obtain ⟨oj,gj,_⟩ := hhead j hjh
         have hlm := waits_listed hc ops.size j m oj gj (fun ed hed had => hc j oj gj hb' ed hed had) hw'
         by_cases hmi : m = i
         ·subst hmi; rw [h2] at hlm; cases hlm
         ·have := ihd m em (by omega) (by omega) (by omega) a3 a4
          rw [this] at hlm; cases hlm
      exact fun j ej h1 h2 => this j j ej (by omega) h1 h2
     have heq1 : (∀ id,id ∉ fr -> (SX (lst b)).obj id = (st i).obj id) /\ (SX (lst b)).nxt = (st i).nxt:= by
      have : effX l (lst b) h = effX l (fun _ => true) i:= by
       have hgen : ∀ E,E = effX l (fun _ => true) i -> ∀ k,i <= k -> k <= h -> effX l (lst b) k = E:= by
        intro E hE k hk
        induction k with
        | zero =>
         intro _
         have : i = 0 := by omega
         subst this; rw [hE]; rfl
        | succ k ihk =>
         intro hkh
         by_cases hki : i = k + 1
         ·have : ∀ m,m <= i -> effX l (lst b) m = effX l (fun _ => true) m:= by
           intro m
           induction m with
           | zero => intro _; rfl
           | succ m ihm =>
            intro hm
            unfold effX
            rw [ihm (by omega)]
            cases hme : ((l[m]?).map (·.eff)).getD false with
            | false => cases lst b m <;> rfl
            | true =>
             have : ∃ em,l[m]? = some em /\ em.eff = true:= by
              cases hlm : l[m]? with
              | none => rw [hlm] at hme; cases hme
              | some em => rw [hlm] at hme; exact ⟨em,rfl,hme⟩
             obtain ⟨em,z1,z2⟩ := this
             rw [before m em (by omega) z1 z2]
          rw [hE,<- hki]
          exact this i (Nat.le_refl _)
         ·have ih' := ihk (by omega) (by omega)
          unfold effX
          rw [ih']
          cases hbk : lst b k with
          | false => rfl
          | true =>
           cases hme : ((l[k]?).map (·.eff)).getD false with
           | false => rfl
           | true =>
            exfalso
            have : ∃ em,l[k]? = some em /\ em.eff = true:= by
             cases hlm : l[k]? with
             | none => rw [hlm] at hme; cases hme
             | some em => rw [hlm] at hme; exact ⟨em,rfl,hme⟩
            obtain ⟨em,z1,z2⟩ := this
            by_cases hik : i = k
            ·subst hik; rw [h2] at hbk; cases hbk
            ·rw [behind k em (by omega) (by omega) z1 z2] at hbk; cases hbk
       exact hgen _ rfl h (by omega) (Nat.le_refl _)
      constructor
      ·intro id hid; rw [hSXo _ id hid,this]; exact ((hobjs i (by omega)).1 id hid).symm
      ·show (st (effX l (lst b) h)).nxt = _; rw [this]; exact ((hobjs i (by omega)).2).symm
     have heq2 : effX l (lst (b.setIfInBounds i true)) h = i + 1:= by
      have hgen : ∀ k,i < k -> k <= h -> effX l (lst (b.setIfInBounds i true)) k = i + 1:= by
       intro k
       induction k with
       | zero => intro h0; omega
       | succ k ihk =>
        intro hik hkh
        unfold effX
        rw [hXset]
        by_cases e1 : i = k
        ·subst e1
         simp [g2,hef]
        ·rw [if_neg e1,ihk (by omega) (by omega)]
         cases hbk : lst b k with
         | false => rfl
         | true =>
          cases hme : ((l[k]?).map (·.eff)).getD false with
          | false => rfl
          | true =>
           exfalso
           have : ∃ em,l[k]? = some em /\ em.eff = true:= by
            cases hlm : l[k]? with
            | none => rw [hlm] at hme; cases hme
            | some em => rw [hlm] at hme; exact ⟨em,rfl,hme⟩
           obtain ⟨em,z1,z2⟩ := this
           rw [behind k em (by omega) (by omega) z1 z2] at hbk; cases hbk
      exact hgen h hih (Nat.le_refl _)
     refine hstep ⟨putE (SX (lst b)).env o.dst e.x,(SX (lst (b.setIfInBounds i true))).objs,(SX (lst (b.setIfInBounds i true))).nxt⟩
      (g3.evE hef fr (SX (lst b)) _ hneeds heq1.2 (fun id hid => ?_) heq1.1 rfl (by show (st _).nxt = _; rw [heq2]) (fun id => ?_)) (fin _ _ (fun _ => rfl) rfl)
     ·obtain ⟨j,ej,hj,hlj,hej,hmj⟩ := (hfr id).1 hid
      refine ⟨Nat.lt_of_lt_of_le (loc1 j ej hlj hej id hmj) (hnxt i (by omega)),fun hm => ?_⟩
      have hij : i ≠ j := by rintro rfl; rw [g2] at hlj; cases hlj; rw [hef] at hej; cases hej
      rcases Nat.lt_or_gt_of_ne hij with hlt | hgt
      ·exact loc2 i j e ej hlt g2 hlj (.inr hej) id hm hmj
      ·exact loc2 j i ej e hgt hlj g2 (.inl hej) id hmj hm
     ·show (SX (lst (b.setIfInBounds i true))).obj id = _
      by_cases hid : id ∈ fr
      ·rw [if_pos hid]
       obtain ⟨j,ej,hj,hlj,hej,hmj⟩ := (hfr id).1 hid
       have hij : i ≠ j := by rintro rfl; rw [g2] at hlj; cases hlj; rw [hef] at hej; cases hej
       rw [hSXi (lst b) j ej id hlj hej hmj hj,hSXi (lst (b.setIfInBounds i true)) j ej id hlj hej hmj hj,hXset,if_neg hij]
      ·rw [if_neg hid,hSXo _ id hid,heq2]
 refine wpIn_region_any hm (hgo ops.size _ D φ a _ (by simp) ?_ ?_ ?_ ?_)
 ·have : unl (Array.replicate ops.size false) ops.size <= (List.range ops.size).length := List.countP_le_length
  simpa using this
 ·intro i o hi hl
  simp only [lst,Array.getD_eq_getD_getElem?,Array.getElem?_replicate] at hl
  split at hl <;> simp at hl
 ·intro i _
  simp only [lst,Array.getD_eq_getD_getElem?,Array.getElem?_replicate]
  split <;> rfl
 ·have hX : ∀ i,lst (Array.replicate ops.size false) i = false:= by
   intro i
   simp only [lst,Array.getD_eq_getD_getElem?,Array.getElem?_replicate]
   split <;> rfl
  have e1 : envX ops l (lst (Array.replicate ops.size false)) s0.env h = s0.env:= by
   have : ∀ k,envX ops l (lst (Array.replicate ops.size false)) s0.env k = s0.env:= by
    intro k; induction k with
    | zero => rfl
    | succ k ih => unfold envX; rw [hX k]; exact ih
   exact this h
  have e2 : effX l (lst (Array.replicate ops.size false)) h = 0:= by
   have : ∀ k,effX l (lst (Array.replicate ops.size false)) k = 0:= by
    intro k; induction k with
    | zero => rfl
    | succ k ih => unfold effX; rw [hX k]; exact ih
   exact this h
  have hg : ∀ t,(SX (lst (Array.replicate ops.size false))).get t = s0.get t := fun t => by show look (envX _ _ _ _ _) t = _; rw [e1]; rfl
  have ho : ∀ id,(SX (lst (Array.replicate ops.size false))).obj id = s0.obj id:= by
   intro id
   by_cases hid : id ∈ fr
   ·obtain ⟨j,ej,hj,hlj,hej,hmj⟩ := (hfr id).1 hid
    rw [hSXi _ j ej id hlj hej hmj hj,hX j]
   ·rw [hSXo _ id hid,e2,st0]
  have hn : (SX (lst (Array.replicate ops.size false))).nxt = s0.nxt := by show (st _).nxt = _; rw [e2,st0]
  refine Inv.weaken (s := s0) ?_ (fun t x hx => by rw [<- hg]; exact hx) (fun id ob hob => by rw [<- ho]; exact hob) (fun t x hx => by rw [hn]; exact (hI.env t x (by rw [<- hg]; exact hx)).1)
   (fun id ob hob => by rw [hn]; have := hI.objs id ob (by rw [<- ho]; exact hob); exact ⟨this.1,this.2.1⟩)
  exact ⟨hI.below.drew,hI.size,hI.defers.imp fun ms hms => ⟨hms.1,hms.2.1,fun d hd => hms.2.2 d hd⟩,hI.dlt,hI.dof,hI.d0,fun t x hx => ⟨(hI.env t x hx).1,(hI.env t x hx).2.choose,(hI.env t x hx).2.choose_spec.1,(hI.env t x hx).2.choose_spec.2.mono (fun _ _ => rfl) (fun _ h => h) (fun _ _ => rfl) (hI.env t x hx).1⟩,
   fun id ob ho => ⟨(hI.objs id ob ho).1,(hI.objs id ob ho).2.1,(hI.objs id ob ho).2.2.keep (hI.objs id ob ho).2.1 (hI.objs id ob ho).1 (fun _ _ => rfl) (fun _ h => h) (fun _ _ => rfl) (fun _ _ => rfl)⟩,hI.own,hI.sep⟩
end
end Go.Abs
namespace Go.Abs
open Go.RowKit
set_option linter.unusedVariables false
def cmpI (op : BinOp) (a b : Int) : Option PV :=
 match op with
 | .eql => some (.bool (decide (a = b)))
 | .neq => some (.bool (decide (¬ a = b)))
 | .lss => some (.bool (decide (a < b)))
 | .leq => some (.bool (decide (a <= b)))
 | .gtr => some (.bool (decide (a > b)))
 | .geq => some (.bool (decide (a >= b)))
 | _ => none
def fieldOf (T : Nat -> Option TyI) (t f : Nat) : Option (Nat × TyI) := match T t with
 | some i => match i.kind with
  | .strct offs tys => match offs[f]?,tys[f]? with
   | some off,some ft => match T ft with
    | some fi => match Nat.beq fi.size 0 with
     | false => some (off,fi)
     | true => none
    | none => none
   | _,_ => none
  | _ => none
 | none => none
def valF (T : Nat -> Option TyI) (s : ASt) : Op -> Option (Option FV)
 | .move x => some (s.ev x)
 | .assign x => some (s.ev x)
 | .pick c a b => match s.ev c with
  | some (.pv (.bool true)) => some (s.ev a)
  | some (.pv (.bool false)) => some (s.ev b)
  | _ => none
 | .binOp op t x y _ => match s.ev x,s.ev y with
  | some (.pv (.int k m)),some (.pv (.int k' n)) => match decide (k = k'),cmpI op m n with
   | true,some p => some (some (.pv p))
   | _,_ => none
  | _,_ => none
 | .unOp .not _ x => match s.ev x with
  | some (.pv (.bool b)) => some (some (.pv (.bool !b)))
  | _ => none
 | .load t x => match T t,s.ev x with
  | some i,some (.box id off) => match s.obj id with
   | some (.box cs) => match loadF i.agg i.size (cs.drop off) with
    | some y => some (some y)
    | none => none
   | _ => none
  | some i,some (.pv (.ptr cs)) => match loadP i.agg i.size cs with
   | some p => some (some (.pv p))
   | none => none
  | _,_ => none
 | .fieldAddr t x f => match fieldOf T t f,s.ev x with
  | some (off,_),some (.box id o0) => some (some (.box id (o0 + off)))
  | some (off,_),some (.aptr id sz k o0) => some (some (.aptr id sz k (o0 + off)))
  | some (off,_),some (.pv (.ptr cs)) => some (some (.pv (.ptr (cs.drop off))))
  | _,_ => none
 | .field t x f => match fieldOf T t f,s.ev x with
  | some (off,fi),some (.pv (.agg cs)) => match loadP fi.agg fi.size (cs.drop off) with
   | some p => some (some (.pv p))
   | none => none
  | _,_ => none
 | .build t ps => match T t with
  | some i => match i.kind with
   | .strct offs tys => match sizesT T tys,partsF s ps.toList with
    | some szs,some fps => match fillF (fun j => (offs.zip szs)[j]?) i.zero fps with
     | some cs => some (some (.agg cs))
     | none => none
    | _,_ => none
   | _ => none
  | none => none
 | .extract x ix => match s.ev x with
  | some (.tup cs) => match cs[ix]? with
   | some y => some (some y)
   | none => none
  | _ => none
 | .makeFunc (.func f) first caps => match first.toList,mapO s.ev caps.toList with
  | [],some ys => some (some (.fn f ys))
  | _,_ => none
 | _ => none
def ridsF (s : ASt) : Op -> List Nat
 | .load _ x => match s.ev x with
  | some (.box id _) => [id]
  | _ => []
 | _ => []
section
variable {P : Program} {T : Nat -> Option TyI} {nt : Nat} {s : ASt} {o : Oper} {ops : Array Oper} {rest : List Oper} {Q : Exit -> ASt -> Prop}
theorem op_move_any {x : Operand} (ho : o.op = .move x \/ o.op = .assign x) (hd : dstB nt o.dst = true) : OpTo P nt o s (s.putO o.dst (s.ev x)) :=
 OpTo.value hd fun W0 D0 D φ a w hI => ⟨a.eval x,by rcases ho with ho | ho <;> simp [execOp,ho],fun x' h => hI.ev h⟩
theorem op_pick_any_t {c x y : Operand} (ho : o.op = .pick c x y) (hd : dstB nt o.dst = true) (hc : s.ev c = some (.pv (.bool true))) : OpTo P nt o s (s.putO o.dst (s.ev x)) :=
 OpTo.value hd fun W0 D0 D φ a w hI => ⟨a.eval x,by simp [execOp,ho,hI.ev_bool hc,asBool],fun x' h => hI.ev h⟩
theorem op_pick_any_f {c x y : Operand} (ho : o.op = .pick c x y) (hd : dstB nt o.dst = true) (hc : s.ev c = some (.pv (.bool false))) : OpTo P nt o s (s.putO o.dst (s.ev y)) :=
 OpTo.value hd fun W0 D0 D φ a w hI => ⟨a.eval y,by simp [execOp,ho,hI.ev_bool hc,asBool],fun x' h => hI.ev h⟩
theorem fieldOf_spec {t f off : Nat} {fi : TyI} (h : fieldOf T t f = some (off,fi)) : ∃ i offs tys ft,T t = some i /\ i.kind = .strct offs tys /\ offs[f]? = some off /\ tys[f]? = some ft /\ T ft = some fi /\ Nat.beq fi.size 0 = false:= by
 unfold fieldOf at h
 split at h
 ·rename_i i hi
  split at h
  ·rename_i offs tys hk
   split at h
   ·rename_i off' ft h1 h2
    split at h
    ·rename_i fi' h3
     split at h
     ·rename_i h4
      cases h
      exact ⟨i,offs,tys,ft,hi,hk,h1,h2,h3,h4⟩
     ·cases h
    ·cases h
   ·cases h
  ·cases h
 ·cases h
theorem valF_ok {x : Option FV} (hT : TabOK P T) (hd : dstB nt o.dst = true) (h : valF T s o.op = some x) : OpTo P nt o s (s.putO o.dst x):= by
 generalize hop : o.op = op at h
 cases op with
 | move y => cases h; exact op_move_any (.inl hop) hd
 | assign y => cases h; exact op_move_any (.inr hop) hd
 | pick c a b =>
  simp only [valF] at h
  split at h
  ·rename_i hc; cases h; exact op_pick_any_t hop hd hc
  ·rename_i hc; cases h; exact op_pick_any_f hop hd hc
  ·cases h
 | binOp bo t a b t' =>
  simp only [valF] at h
  split at h
  ·rename_i k m k' n hx hy
   split at h
   ·rename_i p hk hp
    cases h
    have hk' : k = k' := of_decide_eq_true hk
    subst hk'
    refine op_bin hop hd hx hy ?_
    cases bo <;> simp only [cmpI,reduceCtorEq] at hp <;> exact hp
   ·cases h
  ·cases h
 | unOp uo t a =>
  cases uo <;> simp only [valF,reduceCtorEq] at h
  split at h
  ·rename_i b hb; cases h; exact op_not hop hd hb
  ·cases h
 | load t a =>
  simp only [valF] at h
  split at h
  ·rename_i i id off ht hx
   split at h
   ·rename_i cs hob
    split at h
    ·rename_i y hl; cases h; exact op_load_box hT hop hd ht hx hob hl
    ·cases h
   ·cases h
  ·rename_i i cs ht hx
   split at h
   ·rename_i p hl
    cases h
    exact op_load_ptr hT hop hd ht (by simp [ASt.evD,hx,ASt.pvOf]) hl
   ·cases h
  ·cases h
 | fieldAddr t a f =>
  simp only [valF] at h
  split at h
  ·rename_i off fi id o0 hf hx
   cases h
   obtain ⟨i,offs,tys,ft,h1,h2,h3,h4,h5,h6⟩ := fieldOf_spec hf
   exact op_fieldAddr_box hT hop hd h1 h2 h3 h4 h5 h6 hx
  ·rename_i off fi id sz k o0 hf hx
   cases h
   obtain ⟨i,offs,tys,ft,h1,h2,h3,h4,h5,h6⟩ := fieldOf_spec hf
   exact op_fieldAddr_aptr hT hop hd h1 h2 h3 h4 h5 h6 hx
  ·rename_i off fi cs hf hx
   cases h
   obtain ⟨i,offs,tys,ft,h1,h2,h3,h4,h5,h6⟩ := fieldOf_spec hf
   exact op_fieldAddr_ptr hT hop hd h1 h2 h3 h4 h5 h6 (by simp [ASt.evD,hx,ASt.pvOf])
  ·cases h
 | field t a f =>
  simp only [valF] at h
  split at h
  ·rename_i off fi cs hf hx
   split at h
   ·rename_i p hl
    cases h
    obtain ⟨i,offs,tys,ft,h1,h2,h3,h4,h5,h6⟩ := fieldOf_spec hf
    exact op_field hT hop hd h1 h2 h3 h4 h5 (by simp [ASt.evD,hx,ASt.pvOf]) hl
   ·cases h
  ·cases h
 | build t ps =>
  simp only [valF] at h
  split at h
  ·rename_i i ht
   split at h
   ·rename_i offs tys hk
    split at h
    ·rename_i szs fps hz hp
     split at h
     ·rename_i cs hf; cases h; exact op_build hT hop hd ht hk hz hp hf
     ·cases h
    ·cases h
   ·cases h
  ·cases h
 | extract a ix =>
  simp only [valF] at h
  split at h
  ·rename_i cs hx
   split at h
   ·rename_i y hy; cases h; exact op_extract hop hd hx hy
   ·cases h
  ·cases h
 | makeFunc fn first caps =>
  cases fn <;> simp only [valF,reduceCtorEq] at h
  split at h
  ·rename_i ys hf hc
   cases h
   have : first = #[] := by cases first; simp at hf; simp [hf]
   subst this
   exact op_mkfunc hop hd hc
  ·cases h
 | _ => cases h
def guardT (ops : Array Oper) (s : ASt) (o : Oper) : Bool := match o.guard with
 | none => true
 | some (j,b) => match (ops[j]?).bind (·.dst) with
  | some d => match s.get d with
   | some (.pv (.bool c)) => c == b
   | _ => false
  | none => false
def guardF (ops : Array Oper) (s : ASt) (o : Oper) : Bool := match o.guard with
 | none => false
 | some (j,b) => match (ops[j]?).bind (·.dst) with
  | some d => match s.get d with
   | some (.pv (.bool c)) => !(c == b)
   | _ => false
  | none => false
theorem guardT_spec (h : guardT ops s o = true) : o.guard = none \/ ∃ j b d,o.guard = some (j,b) /\ (ops[j]?).bind (·.dst) = some d /\ s.get d = some (.pv (.bool b)):= by
 unfold guardT at h
 split at h
 ·rename_i hg; exact .inl hg
 ·rename_i j b hg
  split at h
  ·rename_i d hd
   split at h
   ·rename_i c hc
    have : c = b := by simpa using h
    subst this
    exact .inr ⟨j,c,d,hg,hd,hc⟩
   ·cases h
  ·cases h
theorem guardF_spec (h : guardF ops s o = true) : ∃ j b d c,o.guard = some (j,b) /\ (ops[j]?).bind (·.dst) = some d /\ s.get d = some (.pv (.bool c)) /\ (c == b) = false:= by
 unfold guardF at h
 split at h
 ·cases h
 ·rename_i j b hg
  split at h
  ·rename_i d hd
   split at h
   ·rename_i c hc
    exact ⟨j,b,d,c,hg,hd,hc,by simpa using h⟩
   ·cases h
  ·cases h
theorem AL_do {s' : ASt} (hg : guardT ops s o = true) (ho : OpTo P nt o s s') (h : AL P nt ops rest Q s') : AL P nt ops (o :: rest) Q s:= by
 rcases guardT_spec hg with hg | ⟨j,b,d,hg,hj,hd⟩
 ·exact AL_op hg ho h
 ·exact AL_guard_t hg hj hd ho h
theorem AL_doS {R : ASt -> Prop} (hg : guardT ops s o = true) (ho : OpToS P nt o s R) (h : ∀ s',R s' -> AL P nt ops rest Q s') : AL P nt ops (o :: rest) Q s:= by
 rcases guardT_spec hg with hg | ⟨j,b,d,hg,hj,hd⟩
 ·exact AL_opS hg ho h
 ·exact AL_guardS_t hg hj hd ho h
def stepG (T : Nat -> Option TyI) (nt : Nat) (ops : Array Oper) (s : ASt) (o : Oper) : Option ASt :=
 match dstB nt o.dst with
 | true => match guardF ops s o with
  | true => some (s.putO o.dst none)
  | false => match guardT ops s o with
   | true => match valF T s o.op with
    | some x => some (s.putO o.dst x)
    | none => match o.op with
     | .alloc t => match T t with
      | some i => some ((s.newObj (.box i.zero)).putO o.dst (some (.box s.nxt 0)))
      | none => none
     | .box _ x => match s.ev x with
      | some y => match leafL (cellsF y) with
       | true => some ((s.newObj (.box (cellsF y))).putO o.dst (some (.box s.nxt 0)))
       | false => none
      | none => none
     | .store t x y => match o.dst,T t,s.ev x,s.ev y with
      | none,some i,some (.box id off),some fy => match s.obj id with
       | some (.box cs) => match leafL (cellsF fy),Nat.beq (cellsF fy).length i.size,Nat.ble (off + (cellsF fy).length) cs.length with
        | true,true,true => some (s.setObj id (some (.box (splice cs off (cellsF fy)))))
        | _,_,_ => none
       | _ => none
      | _,_,_,_ => none
     | .buildSlice t n ps => match T t with
      | some ti => match ti.kind with
       | .slice e => match T e with
        | some ei => match Nat.blt 0 ei.size,partsP s ei.size 0 ps.toList,Nat.beq ps.toList.length n,Nat.ble (n * ei.size) 100000 with
         | true,some es,true,true => some ((s.newObj (.arr e ei.size es)).putO o.dst (some (.arr s.nxt)))
         | _,_,_,_ => none
        | none => none
       | _ => none
      | none => none
     | _ => none
   | false => none
 | false => none
theorem AL_step {s' : ASt} (hT : TabOK P T) (hs : stepG T nt ops s o = some s') (h : AL P nt ops rest Q s') : AL P nt ops (o :: rest) Q s:= by
 unfold stepG at hs
 split at hs
 ·rename_i hd
  split at hs
  ·rename_i hg
   cases hs
   obtain ⟨j,b,d,c,h1,h2,h3,h4⟩ := guardF_spec hg
   exact AL_guard_f h1 h2 h3 h4 (dstB_lt hd) h
  ·split at hs
   ·rename_i hg
    split at hs
    ·rename_i x hx; cases hs; exact AL_do hg (valF_ok hT hd hx) h
    ·split at hs
     ·rename_i t hop
      split at hs
      ·rename_i i ht; cases hs; exact AL_do hg (op_alloc hT hop hd ht) h
      ·cases hs
     ·rename_i t x hop
      split at hs
      ·rename_i y hy
       split at hs
       ·rename_i hl; cases hs; exact AL_do hg (op_box hop hd hy hl) h
       ·cases hs
      ·cases hs
     ·rename_i t x y hop
      split at hs
      ·rename_i i id off fy hdn ht hx hy
       split at hs
       ·rename_i cs hob
        split at hs
        ·rename_i h1 h2 h3; cases hs; exact AL_do hg (op_store_box hT hop hdn ht hx hob hy h1 h2 h3) h
        ·cases hs
       ·cases hs
      ·cases hs
     ·rename_i t n ps hop
      split at hs
      ·rename_i ti ht
       split at hs
       ·rename_i e hk
        split at hs
        ·rename_i ei he
         split at hs
         ·rename_i es h1 h2 h3 h4; cases hs; exact AL_do hg (op_buildSlice hT hop hd ht hk he h1 h2 h3 h4) h
         ·cases hs
        ·cases hs
       ·cases hs
      ·cases hs
     ·cases hs
   ·cases hs
 ·cases hs
theorem putE_eq (s : ASt) (d : Option Nat) (x : Option FV) : (⟨putE s.env d x,s.objs,s.nxt⟩ : ASt) = s.putO d x := by cases d <;> rfl
theorem ev_agree {s1 : ASt} {x : Operand} {l : List Operand} (h : ∀ t ∈ opTmps l,s1.get t = s.get t) (hx : x ∈ l) : s1.ev x = s.ev x:= by
 cases x with
 | tmp t =>
  have : t ∈ opTmps l:= by
   clear h
   induction l with
   | nil => cases hx
   | cons y l ih =>
    cases hx with
    | head => exact List.mem_cons_self
    | tail _ hx =>
     cases y with
     | tmp t' => exact List.mem_cons_of_mem _ (ih hx)
     | _ => exact ih hx
  exact h t this
 | _ => rfl
theorem mapO_congr {α β : Type} {f g : α -> Option β} : ∀ {l : List α},(∀ x ∈ l,f x = g x) -> mapO f l = mapO g l
 | [],_ => rfl
 | x :: l,h => by unfold mapO; rw [h x (by simp),mapO_congr (l := l) fun y hy => h y (by simp [hy])]
theorem partsF_congr {s1 : ASt} : ∀ {l : List (Nat × Operand)},(∀ p ∈ l,s1.ev p.2 = s.ev p.2) -> partsF s1 l = partsF s l
 | [],_ => rfl
 | (i,x) :: l,h => by unfold partsF; rw [h (i,x) (by simp),partsF_congr (l := l) fun p hp => h p (by simp [hp])]
theorem valF_local {s1 : ASt} {op : Op} (h : ∀ t ∈ opTmps op.operands.toList,s1.get t = s.get t) (hr : ∀ id ∈ ridsF s op,s1.obj id = s.obj id) : valF T s1 op = valF T s op:= by
 have he : ∀ x,x ∈ op.operands.toList -> s1.ev x = s.ev x := fun x hx => ev_agree h hx
 cases op with
 | move x => simp only [valF,he x (by simp [Op.operands])]
 | assign x => simp only [valF,he x (by simp [Op.operands])]
 | pick c a b => simp only [valF,he c (by simp [Op.operands]),he a (by simp [Op.operands]),he b (by simp [Op.operands])]
 | binOp bo t x y t' => simp only [valF,he x (by simp [Op.operands]),he y (by simp [Op.operands])]
 | unOp uo t x => cases uo <;> simp only [valF,he x (by simp [Op.operands])]
 | load t x =>
  have hx := he x (by simp [Op.operands])
  simp only [valF,hx]
  cases hT : T t with
  | none => rfl
  | some i =>
   cases hev : s.ev x with
   | none => rfl
   | some y =>
    cases y with
    | box id off => simp only [hr id (by simp [ridsF,hev])]
    | pv p => cases p <;> rfl
    | _ => rfl
 | fieldAddr t x f => simp only [valF,he x (by simp [Op.operands])]
 | field t x f => simp only [valF,he x (by simp [Op.operands])]
 | build t ps =>
  have : partsF s1 ps.toList = partsF s ps.toList := partsF_congr fun p hp => he p.2 (by simp [Op.operands]; exact ⟨p.1,by simpa using hp⟩)
  simp only [valF,this]
 | extract x ix => simp only [valF,he x (by simp [Op.operands])]
 | makeFunc fn first caps =>
  have : mapO s1.ev caps.toList = mapO s.ev caps.toList := mapO_congr fun x hx => he x (by simp [Op.operands]; right; simpa using hx)
  cases fn <;> simp only [valF,this]
 | _ => rfl
theorem needs_op {t : Nat} (h : t ∈ opTmps o.op.operands.toList) : t ∈ needs ops o := List.mem_append_right _ h
theorem guardT_local {s1 : ASt} (h : ∀ t ∈ needs ops o,s1.get t = s.get t) : guardT ops s1 o = guardT ops s o:= by
 unfold guardT
 split
 ·rfl
 ·rename_i j b hg
  split
  ·rename_i d hd
   rw [h d (List.mem_append_left _ (by simp [guardTmp,hg,hd]))]
  ·rfl
theorem guardF_local {s1 : ASt} (h : ∀ t ∈ needs ops o,s1.get t = s.get t) : guardF ops s1 o = guardF ops s o:= by
 unfold guardF
 split
 ·rfl
 ·rename_i j b hg
  split
  ·rename_i d hd
   rw [h d (List.mem_append_left _ (by simp [guardTmp,hg,hd]))]
  ·rfl
theorem GOpTo.of {s' : ASt} (hg : guardT ops s o = true) (ho : OpTo P nt o s s') : GOpTo P nt ops o s s':= by
 intro ro W0 D0 D φ a w hI hko K Q hK
 have hw : Region.wanted o (yielded ops a.tmps) = true:= by
  rcases guardT_spec hg with hg | ⟨j,b,d,hg,hj,hd⟩
  ·simp [Region.wanted,hg]
  ·simp [Region.wanted,hg,yielded_of hI hj hd]
 rw [if_pos hw]
 exact ho ro W0 D0 D φ a w hI hko K Q hK
theorem GOpTo.skip (hd : dstB nt o.dst = true) (hg : guardF ops s o = true) : GOpTo P nt ops o s (s.putO o.dst none):= by
 intro ro W0 D0 D φ a w hI hko K Q hK
 obtain ⟨j,b,d,c,h1,h2,h3,h4⟩ := guardF_spec hg
 have hw : ¬ Region.wanted o (yielded ops a.tmps) = true:= by
  simp only [Region.wanted,h1,yielded_of hI h2 h3]
  simpa using h4
 rw [if_neg hw]
 exact hK D φ _ w (hI.put o.dst (dstB_lt hd) undef none (fun _ h => by cases h))
theorem StepOK.mkP {x : Option FV} {rids : List Nat} (hg : guardT ops s o = true) (h : ∀ s1,(∀ t ∈ opTmps o.op.operands.toList,s1.get t = s.get t) -> (∀ id ∈ rids,s1.obj id = s.obj id) -> OpTo P nt o s1 (s1.putO o.dst x)) :
  StepOK P nt ops o s ⟨x,false,rids,[]⟩ (s.putO o.dst x):= by
 refine ⟨by cases hd : o.dst <;> rfl,fun _ => by cases hd : o.dst <;> exact ⟨rfl,rfl⟩,fun h => (by cases h),fun _ s1 h1 h2 _ => ?_,fun h => (by cases h)⟩
 show GOpTo P nt ops o s1 ⟨putE s1.env o.dst x,s1.objs,s1.nxt⟩
 rw [putE_eq]
 exact GOpTo.of (by rw [guardT_local h1]; exact hg) (h s1 (fun t ht => h1 t (needs_op ht)) h2)
theorem StepOK.skip (hd : dstB nt o.dst = true) (hg : guardF ops s o = true) : StepOK P nt ops o s ⟨none,false,[],[]⟩ (s.putO o.dst none):= by
 refine ⟨by cases hd : o.dst <;> rfl,fun _ => by cases hd : o.dst <;> exact ⟨rfl,rfl⟩,fun h => (by cases h),fun _ s1 h1 h2 _ => ?_,fun h => (by cases h)⟩
 show GOpTo P nt ops o s1 ⟨putE s1.env o.dst none,s1.objs,s1.nxt⟩
 rw [putE_eq]
 exact GOpTo.skip hd (by rw [guardF_local h1]; exact hg)
theorem StepOK.val {x : Option FV} (hT : TabOK P T) (hd : dstB nt o.dst = true) (hg : guardT ops s o = true) (h : valF T s o.op = some x) : StepOK P nt ops o s ⟨x,false,ridsF s o.op,[]⟩ (s.putO o.dst x) :=
 StepOK.mkP hg fun s1 h1 h2 => valF_ok hT hd (by rw [valF_local h1 h2]; exact h)
def DG (P : Program) (nt : Nat) (id : Nat) (opl : List Oper) (Q : Exit -> ASt -> Prop) (s0 : ASt) (k : Nat) (rest : List Oper) (s : ASt) (l : List DEnt) : Prop :=
 DRun P nt opl.toArray s0 k s l -> opl.drop k = rest -> AW P nt (.region id opl.toArray true) Q s0
theorem DG_start {id : Nat} {opl : List Oper} (h : DG P nt id opl Q s 0 opl s []) : AW P nt (.region id opl.toArray true) Q s := h DRun.nil rfl
theorem DG_next {id : Nat} {opl rest : List Oper} {s0 s s' : ASt} {k : Nat} {l : List DEnt} {o : Oper} {e : DEnt} (hs : StepOK P nt opl.toArray o s e s') (h : DG P nt id opl Q s0 (k + 1) rest s' (l ++ [e])) : DG P nt id opl Q s0 k (o :: rest) s l:= by
 intro hr hd
 have hk : opl[k]? = some o:= by
  have : (opl.drop k)[0]? = some o := by rw [hd]; rfl
  simpa using this
 refine h (hr.snoc (by simpa using hk) hs) ?_
 have : opl.drop (k + 1) = (opl.drop k).drop 1 := by rw [List.drop_drop]
 rw [this,hd]; rfl
theorem DG_end {id : Nat} {opl rest : List Oper} {s0 s : ASt} {k : Nat} {l : List DEnt} (hm : P.follows .mixedOrders = true) (hok : drawOK opl.toArray k s0.nxt l = true) (ht : AL P nt opl.toArray rest Q s) : DG P nt id opl Q s0 k rest s l :=
 fun hr hd => AW_draw hm hr hok (by rw [hd]; exact ht)
def stepD (T : Nat -> Option TyI) (nt : Nat) (ops : Array Oper) (s : ASt) (o : Oper) : Option (ASt × DEnt) :=
 match dstB nt o.dst with
 | true => match guardF ops s o with
  | true => some (s.putO o.dst none,⟨none,false,[],[]⟩)
  | false => match guardT ops s o with
   | true => match valF T s o.op with
    | some x => some (s.putO o.dst x,⟨x,false,ridsF s o.op,[]⟩)
    | none => none
   | false => none
 | false => none
theorem DG_step {id : Nat} {opl rest : List Oper} {s0 s s' : ASt} {k : Nat} {l : List DEnt} {o : Oper} {e : DEnt} (hT : TabOK P T) (hs : stepD T nt opl.toArray s o = some (s',e)) (h : DG P nt id opl Q s0 (k + 1) rest s' (l ++ [e])) : DG P nt id opl Q s0 k (o :: rest) s l:= by
 unfold stepD at hs
 split at hs
 ·rename_i hd
  split at hs
  ·rename_i hg; cases hs; exact DG_next (StepOK.skip hd hg) h
  ·split at hs
   ·rename_i hg
    split at hs
    ·rename_i x hx; cases hs; exact DG_next (StepOK.val hT hd hg hx) h
    ·cases hs
   ·cases hs
 ·cases hs
theorem DG_split {id : Nat} {opl rest : List Oper} {s0 s : ASt} {k : Nat} {l : List DEnt} {o : Oper} {b : Bool} {rids : List Nat} (hs : StepOK P nt opl.toArray o s ⟨some (.pv (.bool b)),false,rids,[]⟩ (s.putO o.dst (some (.pv (.bool b)))))
  (h1 : b = true -> DG P nt id opl Q s0 (k + 1) rest (s.putO o.dst (some (.pv (.bool true)))) (l ++ [⟨some (.pv (.bool true)),false,rids,[]⟩]))
  (h2 : b = false -> DG P nt id opl Q s0 (k + 1) rest (s.putO o.dst (some (.pv (.bool false)))) (l ++ [⟨some (.pv (.bool false)),false,rids,[]⟩])) : DG P nt id opl Q s0 k (o :: rest) s l:= by
 cases b with
 | true => exact DG_next hs (h1 rfl)
 | false => exact DG_next hs (h2 rfl)
end
end Go.Abs
