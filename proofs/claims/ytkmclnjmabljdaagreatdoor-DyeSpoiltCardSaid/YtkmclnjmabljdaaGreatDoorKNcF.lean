/- A call that is handed what the caller owns. -/
import Derived.Test.YtkmclnjmabljdaaGreatDoorKNcE
import Derived.Laws.MakeOwn
import Derived.Maps.RangeRun
import Derived.MapKept
set_option linter.unusedVariables false
set_option linter.unusedSimpArgs false
namespace Go.Abs
open Go.RowKit
set_option linter.unusedVariables false
section
variable {P : Program} {T : Nat -> Option TyI} {nt : Nat} {s : ASt} {o : Oper} {ops : Array Oper} {rest : List Oper} {Q : Exit -> ASt -> Prop}
theorem FRep.inv_box {w : World} {D : Nat -> Prop} {φ : Nat -> Value} {v : Value} {id off : Nat} (h : FRep w D φ v (.box id off)) : ∃ b,φ id = .pointer (some ⟨b,0,none⟩) /\ v = .pointer (some ⟨b,off,none⟩):= by
 cases h with
 | box _ _ b h => exact ⟨b,h,rfl⟩
def lookN : List (Nat × Nat) -> Nat -> Option Nat
 | [],_ => none
 | (a,k) :: r,t => match Nat.beq a t with
  | true => some k
  | false => lookN r t
def ancOK (n : Nat) (objs : List (Nat × AObj)) (ancs : List (Nat × Nat)) : List (Nat × Nat) -> Prop
 | [] => True
 | (a,k) :: r => (Nat.blt a n = true /\ Nat.blt k n = true /\ (∃ cs,(k,AObj.box cs) ∈ objs) /\ lookN ancs a = some k) /\ ancOK n objs ancs r
theorem ancOK_mem {n : Nat} {objs : List (Nat × AObj)} {ancs : List (Nat × Nat)} : ∀ {l : List (Nat × Nat)},ancOK n objs ancs l -> ∀ a k,(a,k) ∈ l -> a < n /\ k < n /\ (∃ cs,(k,AObj.box cs) ∈ objs) /\ lookN ancs a = some k
 | [],_,_,_,h => by cases h
 | (a',k') :: r,h,a,k,hm => by
  cases hm with
  | head => exact ⟨by simpa using h.1.1,by simpa using h.1.2.1,h.1.2.2⟩
  | tail _ hm => exact ancOK_mem h.2 a k hm
theorem look_nones (f : Nat -> Nat) : ∀ (l : List Nat) (t : Nat),look (l.map fun k => (f k,(none : Option AObj))) t = none
 | [],_ => rfl
 | k :: l,t => by
  by_cases hk : f k = t
  ·rw [List.map_cons,hk,look_cons_eq]
  ·rw [List.map_cons,look_cons_ne _ _ hk]; exact look_nones f l t
theorem objBack_some {ρ : Nat -> Nat} {x : Option AObj} {ob : AObj} (h : objBack ρ x = some ob) : ∃ ob',x = some ob' /\ ob = ob'.ren ρ:= by
 unfold objBack at h
 split at h
 ·cases h; exact ⟨_,rfl,rfl⟩
 ·cases h
 ·cases h; exact ⟨_,rfl,rfl⟩
 ·cases h
def ASt.calleeX (s : ASt) (f : Operand) : Option (FuncId × List FV) := match s.ev f with
 | some (.fn g caps) => some (g,caps)
 | some (.pv (.fn g ps)) => some (g,ps.map .pv)
 | _ => none
theorem calleeX_rep {W0 : World} {D0 : Bas} {D : Nat -> Prop} {φ : Nat -> Value} {a : Act} {w : World} (hI : Inv W0 D0 nt s D φ a w) {f : Operand} {g : FuncId} {caps : List FV} (hf : s.calleeX f = some (g,caps)) :
  ∃ vs,a.eval f = .func (.func g) #[] vs /\ vs.size = caps.length /\ ∀ (j : Nat) (v : Value) (p : FV),vs[j]? = some v -> caps[j]? = some p -> FRep w D φ v p:= by
 unfold ASt.calleeX at hf
 split at hf
 ·rename_i g' caps' he
  cases hf
  have := (hI.ev he).2
  generalize a.eval f = v at this
  cases this with
  | fn _ vs _ hl hr => exact ⟨vs,rfl,hl,hr⟩
 ·rename_i g' ps he
  cases hf
  have := (hI.ev he).2.inv_pv
  generalize a.eval f = v at this
  cases this with
  | fn _ vs _ hl hr =>
   refine ⟨vs,rfl,by simpa using hl,fun j v p hv hp => ?_⟩
   rw [List.getElem?_map,Option.map_eq_some_iff] at hp
   obtain ⟨q,hq,rfl⟩ := hp
   exact .pv _ _ (hr j v q hv hq)
 ·cases hf
theorem callX_core {ys xs : List FV} {objs : List (Nat × AObj)} {n : Nat} (m : List (Nat × Nat)) (kp : List Nat) (ancs : List (Nat × Nat)) (hx : argsX s m ys xs) (hxl : FV.ltL n xs = true)
  (hobj : handX s m n objs) (hinj : injB m (objs.map (·.1)) = true) (hanc : ancOK n objs ancs ancs) (hkp : ∀ k ∈ kp,k ∈ objs.map (·.1))
  {W0 : World} {D0 : Bas} {D : Nat -> Prop} {φ : Nat -> Value} {a : Act} {w : World} (hI : Inv W0 D0 nt s D φ a w) (all : Array Value) (hall : all.size = ys.length) (hrall : ∀ (j : Nat) (v : Value) (y : FV),all[j]? = some v -> ys[j]? = some y -> FRep w D φ v y) :
  ∃ (av : Nat -> Value) (φc : Nat -> Value),Held (entryX xs (objs ++ ancL av ancs) n) D φc w /\ all.size = xs.length /\ (∀ (j : Nat) (v : Value) (x : FV),all[j]? = some v -> xs[j]? = some x -> x.lt n = true /\ FRep w D φc v x) /\
   ∀ (Qc : ASt -> Prop) (QPc : TypeId × Value -> ASt -> Prop) (e : Ending) (w' : World),(∀ sf,Qc sf -> keptX s m ancs av sf kp) -> (∀ t sf,QPc t sf -> keptX s m ancs av sf kp) -> PostX w (ownS (entryX xs (objs ++ ancL av ancs) n) φc) D Qc QPc e w' →
    (∃ v sf D' φ2,e = .returned v /\ Qc sf /\ Inv W0 D0 nt (afterX s m kp (objs.map (·.1)) sf) D' φ2 a w' /\ ∀ x,sf.get 0 = some x -> (x.ren (rho2 m kp s.nxt)).lt (s.nxt + sf.nxt) = true /\ FRep w' D' φ2 v (x.ren (rho2 m kp s.nxt))) \/
    (∃ v t sf D' φ2,e = .panicked [{ v := .iface t v,recovered := false }] /\ QPc (t,v) sf /\ Inv W0 D0 nt (afterX s m kp (objs.map (·.1)) sf) D' φ2 a w'):= by
 obtain ⟨av,hav⟩ : ∃ av : Nat -> Value,∀ a k,(a,k) ∈ ancs -> av a = φ (rho m k) :=
  ⟨fun a => match lookN ancs a with | some k => φ (rho m k) | none => undef,fun a k hm => by simp only [(ancOK_mem hanc a k hm).2.2.2]⟩
 generalize hφc : (fun id => φ (rho m id)) = φc
 have hmem : ∀ id ob,(entryX xs (objs ++ ancL av ancs) n).obj id = some ob -> (id,ob) ∈ objs \/ ∃ k,(id,k) ∈ ancs /\ ob = .anc (av id) (.box k 0):= by
  intro id ob h
  have := look_map (objs ++ ancL av ancs) id ob h
  rcases List.mem_append.1 this with h | h
  ·exact .inl h
  ·obtain ⟨⟨a',k'⟩,h1,h2⟩ := List.mem_map.1 h
   cases h2; exact .inr ⟨k',h1,rfl⟩
 have hE : Held (entryX xs (objs ++ ancL av ancs) n) D φc w:= by
  subst hφc
  refine ⟨hI.dlt,fun id ob h => ?_,fun id ob b h hb => ?_,fun id ob id' ob' b h h' hb hb' => ?_⟩
  ·rcases hmem id ob h with h | ⟨k,h0,rfl⟩
   ·obtain ⟨g1,g2,g3⟩ := handX_mem hobj id ob h
    exact ⟨g2,g3,(hI.objs _ _ g1).2.2.base.ren⟩
   ·clear h
    have h := h0
    obtain ⟨g1,g2,⟨cs,g3⟩,_⟩ := ancOK_mem hanc id k h
    refine ⟨g1,by simp [AObj.lt,FV.lt]; exact g2,?_⟩
    obtain ⟨q1,_,_⟩ := handX_mem hobj k _ g3
    obtain ⟨b,vs,e,r1,_⟩ := (hI.objs _ _ q1).2.2
    show FRep w D _ (av id) (.box k 0)
    rw [hav id k h,r1]
    exact .box k 0 b r1
  ·rcases hmem id ob h with h | ⟨k,h,rfl⟩
   ·obtain ⟨g1,g2,g3⟩ := hI.own _ _ b (handX_mem hobj id ob h).1 (by rw [AObj.ren_blk]; exact hb)
    exact ⟨g1,g3⟩
   ·exact hb.elim
  ·rcases hmem id ob h with h | ⟨k,h,rfl⟩
   ·rcases hmem id' ob' h' with h' | ⟨k',h',rfl⟩
    ·exact injB_spec hinj id (List.mem_map.2 ⟨_,h,rfl⟩) id' (List.mem_map.2 ⟨_,h',rfl⟩) (hI.sep _ _ _ _ b (handX_mem hobj id ob h).1 (handX_mem hobj id' ob' h').1 (by rw [AObj.ren_blk]; exact hb) (by rw [AObj.ren_blk]; exact hb'))
    ·exact hb'.elim
   ·exact hb.elim
 generalize hX : ownS (entryX xs (objs ++ ancL av ancs) n) φc = X
 have hXs : ∀ b,X b -> ∃ k ∈ objs.map (·.1),∃ ob,s.obj (rho m k) = some ob /\ oblk φ (rho m k) ob b:= by
  intro b hb
  rw [<- hX] at hb
  obtain ⟨id,ob,h,hb⟩ := hb
  rcases hmem id ob h with h | ⟨k,h,rfl⟩
  ·exact ⟨id,List.mem_map.2 ⟨_,h,rfl⟩,_,(handX_mem hobj id ob h).1,by rw [AObj.ren_blk,hφc]; exact hb⟩
  ·exact hb.elim
 have hXD : ∀ b,X b -> ¬ D b /\ (D0.x b \/ W0.heap.size <= b) /\ b < w.heap.size := fun b hb => let ⟨k,_,ob,h1,h2⟩ := hXs b hb; hI.own _ _ b h1 h2
 obtain ⟨a1,a2⟩ := argsX_spec hx
 have hsz : all.size = xs.length := by rw [hall,a1]
 have hargs : ∀ (j : Nat) (v : Value) (x : FV),all[j]? = some v -> xs[j]? = some x -> x.lt n = true /\ FRep w D φc v x:= by
  intro j v x hv' hx'
  refine ⟨FV.lt_mem hxl (List.mem_of_getElem? hx'),?_⟩
  have hjl : j < ys.length := by rw [a1]; exact (List.getElem?_eq_some_iff.1 hx').1
  have hy : ys[j]? = some ys[j] := by simp [hjl]
  have hry : FRep w D φ v ys[j] := hrall j v _ hv' hy
  subst hφc
  exact argX_rep hI hry (a2 j _ x hy hx')
 refine ⟨av,φc,hE,hsz,hargs,?_⟩
 rw [hX]
 rintro Qc QPc e w' hk hkP ⟨sf,D',φ',h1,h2,h3,h4,h5,h6⟩
 have key : keptX s m ancs av sf kp -> ∃ φ2,Inv W0 D0 nt (afterX s m kp (objs.map (·.1)) sf) D' φ2 a w' /\ ∀ v x,x.lt sf.nxt = true -> FRep w' D' φ' v x -> (x.ren (rho2 m kp s.nxt)).lt (s.nxt + sf.nxt) = true /\ FRep w' D' φ2 v (x.ren (rho2 m kp s.nxt)):= by
  intro hkept
  have hkb : ∀ k ∈ kp,rho m k < s.nxt := fun k hk => by
   obtain ⟨⟨k',ob⟩,hm,rfl⟩ := List.mem_map.1 (hkp k hk)
   exact (hI.objs _ _ (handX_mem hobj _ _ hm).1).1
  have hki : ∀ k ∈ kp,∀ k' ∈ kp,rho m k = rho m k' -> k = k' := fun k hk k' hk' he => injB_spec hinj k (hkp k hk) k' (hkp k' hk') he
  generalize hρ2 : rho2 m kp s.nxt = ρ2
  have hinj2 : ∀ k k',ρ2 k = ρ2 k' -> k = k' := fun k k' he => by rw [<- hρ2] at he; exact rho2_inj hkb hki he
  obtain ⟨φ2,hφ2⟩ : ∃ φ2 : Nat -> Value,φ2 = fun id => if id < s.nxt then φ id else φ' (id - s.nxt) := ⟨_,rfl⟩
  have hold : ∀ id,id < s.nxt -> φ2 id = φ id := fun id hid => by rw [hφ2]; simp [hid]
  have hnew : ∀ k,φ2 (ρ2 k) = φ' k:= by
   intro k
   rw [<- hρ2]
   unfold rho2
   cases hck : kp.contains k
   ·simp only; rw [hφ2]; simp only; rw [if_neg (by omega)]; congr 1; omega
   ·have hkm : k ∈ kp := by simpa using hck
    simp only
    rw [hold _ (hkb k hkm)]
    rcases keptX_mem hkept k hkm with ⟨a',q1,q2⟩ | ⟨E,j,B,j',B',q1,q2⟩
    ·have := (h4.objs a' _ q2).2.2
     obtain ⟨b,r1,r2⟩ := FRep.inv_box (show FRep w' D' φ' (av a') (.box k 0) from this)
     rw [<- hav a' k q1,r2,r1]
    ·rw [(hI.objs _ _ q2).2.2.2.1,(h4.objs _ _ q1).2.2.2.1]
  have hcomp : (fun id => φ2 (ρ2 id)) = φ' := funext hnew
  have hlt2 : ∀ k,k < sf.nxt -> ρ2 k < s.nxt + sf.nxt:= by
   intro k hk
   rw [<- hρ2]; unfold rho2
   cases hck : kp.contains k
   ·simp only; omega
   ·have := hkb k (by simpa using hck); simp only; omega
  have hcase : ∀ id ob,(afterX s m kp (objs.map (·.1)) sf).obj id = some ob -> (∃ k ob',id = ρ2 k /\ sf.obj k = some ob' /\ ob = ob'.ren ρ2) \/ (s.obj id = some ob /\ ∀ k ∈ objs.map (·.1),id ≠ rho m k):= by
   intro id ob h
   have h' : look ((sf.objs.map fun (k,ob) => (ρ2 k,objBack ρ2 ob)) ++ ((objs.map (·.1)).map fun k => (rho m k,none)) ++ s.objs) id = some ob := by rw [<- hρ2]; exact h
   rw [List.append_assoc,look_append] at h'
   split at h'
   ·rename_i hk
    rw [List.map_map] at hk
    obtain ⟨⟨k,x⟩,hk1,hk2⟩ := List.mem_map.1 hk
    have hk2 : ρ2 k = id := hk2
    subst hk2
    rw [look_renkeys ρ2 (objBack ρ2) sf.objs k (fun k' _ he => hinj2 _ _ he) (List.mem_map.2 ⟨_,hk1,rfl⟩)] at h'
    obtain ⟨ob',q1,q2⟩ := objBack_some h'
    exact .inl ⟨k,ob',rfl,q1,q2⟩
   ·rw [look_append] at h'
    split at h'
    ·rw [look_nones (rho m)] at h'; cases h'
    ·rename_i hk
     refine .inr ⟨h',fun k hkm he => hk ?_⟩
     rw [List.map_map]
     exact List.mem_map.2 ⟨k,hkm,he.symm⟩
  have hDs : ∀ b,D b -> w'.heap[b]? = w.heap[b]? := fun b hb => h1.block b (hI.dlt b hb) fun hx => (hXD b hx).1 hb
  have hoX : ∀ id ob b,s.obj id = some ob -> (∀ k ∈ objs.map (·.1),id ≠ rho m k) -> oblk φ id ob b -> ¬ X b:= by
   intro id ob b ho hne hb hxb
   obtain ⟨k,hk1,ob',hk2,hk3⟩ := hXs b hxb
   exact hne k hk1 (hI.sep _ _ _ _ b ho hk2 hb hk3)
  have hD3 : ∀ b,b < w.heap.size -> ¬ D b -> ¬ X b -> ¬ D' b := fun b hb hd hx hd' => by
   rcases h3 b hd' with q | q | q
   ·exact hd q
   ·exact hx q
   ·omega
  have hrep : ∀ v x,x.lt sf.nxt = true -> FRep w' D' φ' v x -> (x.ren ρ2).lt (s.nxt + sf.nxt) = true /\ FRep w' D' φ2 v (x.ren ρ2) := fun v x hx hr => ⟨FV.lt_ren hlt2 x hx,FRep.ren' (by rw [hcomp]; exact hr)⟩
  have hblk : ∀ k ob b,oblk φ2 (ρ2 k) (ob.ren ρ2) b ↔ oblk φ' k ob b := fun k ob b => by rw [AObj.ren_blk,hcomp]
  refine ⟨φ2,⟨⟨h1.os.trans hI.below.os,h1.tape.trans hI.below.tape,h1.output.trans hI.below.output,Nat.le_trans hI.below.size h1.size,fun k hk hx => ?_⟩,hI.size,?_,h4.dlt,fun b hb => ?_,fun b hb => h2 b (hI.d0 b hb),fun t x hx => ?_,fun id ob ho => ?_,
   fun id ob b ho hb => ?_,fun id ob id' ob' b ho ho' hb hb' => ?_⟩,hrep⟩
  ·refine (h1.block k (Nat.lt_of_lt_of_le hk hI.below.size) fun hxk => ?_).trans (hI.below.block k hk hx)
   rcases (hXD k hxk).2.1 with q | q
   ·exact hx q
   ·omega
  ·obtain ⟨ms,q1,q2,q3⟩ := hI.defers
   refine ⟨ms,q1,q2,fun d hd => ?_⟩
   obtain ⟨mk,r1,r2,r3,r4,r5⟩ := q3 d hd
   have hmw : mk < w.heap.size := (Array.getElem?_eq_some_iff.1 r2).1
   have hmx : ¬ X mk := fun hx => let ⟨k,_,ob,z1,z2⟩ := hXs mk hx; r5 _ _ z1 z2
   refine ⟨mk,r1,(h1.block mk hmw hmx).trans r2,r3,hD3 mk hmw r4 hmx,fun id ob ho hb => ?_⟩
   rcases hcase id ob ho with ⟨k,ob',rfl,z1,rfl⟩ | ⟨z1,z2⟩
   ·rcases h5 mk ⟨k,ob',z1,(hblk k ob' mk).1 hb⟩ with y | y
    ·exact hmx y
    ·omega
   ·exact r5 id ob z1 ((oblk_congr (hold id (hI.objs id ob z1).1) ob mk).1 hb)
  ·rcases h3 b hb with q | q | q
   ·exact hI.dof b q
   ·exact .inr (hXD b q).2.1
   ·exact .inr (.inr (Nat.le_trans hI.below.size q))
  ·obtain ⟨q1,v,q2,q3⟩ := hI.env t x hx
   exact ⟨FV.lt_mono (Nat.le_add_right _ _) x q1,v,q2,q3.mono hDs h2 hold q1⟩
  ·rcases hcase id ob ho with ⟨k,ob',rfl,z1,rfl⟩ | ⟨z1,z2⟩
   ·obtain ⟨r1,r2,r3⟩ := h4.objs k ob' z1
    exact ⟨hlt2 k r1,AObj.lt_ren hlt2 ob' r2,(ORep.ren' (ρ := ρ2) (φ := φ2) (by rw [hcomp]; exact r3)).base⟩
   ·obtain ⟨r1,r2,r3⟩ := hI.objs id ob z1
    exact ⟨Nat.lt_of_lt_of_le r1 (Nat.le_add_right _ _),AObj.lt_mono (Nat.le_add_right _ _) ob r2,r3.keep r2 r1 hDs h2 hold fun b hb => h1.block b (hI.own id ob b z1 hb).2.2 (hoX id ob b z1 z2 hb)⟩
  ·rcases hcase id ob ho with ⟨k,ob',rfl,z1,rfl⟩ | ⟨z1,z2⟩
   ·have hb' := (hblk k ob' b).1 hb
    obtain ⟨r1,r2⟩ := h4.own k ob' b z1 hb'
    refine ⟨r1,?_,r2⟩
    rcases h5 b ⟨k,ob',z1,hb'⟩ with q | q
    ·exact (hXD b q).2.1
    ·exact .inr (Nat.le_trans hI.below.size q)
   ·have hb' := (oblk_congr (hold id (hI.objs id ob z1).1) ob b).1 hb
    obtain ⟨r1,r2,r3⟩ := hI.own id ob b z1 hb'
    exact ⟨hD3 b r3 r1 (hoX id ob b z1 z2 hb'),r2,Nat.lt_of_lt_of_le r3 h1.size⟩
  ·have hmix : ∀ k ob1 id2 ob2,sf.obj k = some ob1 -> s.obj id2 = some ob2 -> (∀ k ∈ objs.map (·.1),id2 ≠ rho m k) -> oblk φ' k ob1 b -> oblk φ2 id2 ob2 b -> False:= by
    intro k ob1 id2 ob2 z1 z2 z3 z4 z5
    have z5 := (oblk_congr (hold id2 (hI.objs id2 ob2 z2).1) ob2 b).1 z5
    rcases h5 b ⟨k,ob1,z1,z4⟩ with q | q
    ·exact hoX id2 ob2 b z2 z3 z5 q
    ·have := (hI.own id2 ob2 b z2 z5).2.2; omega
   rcases hcase id ob ho with ⟨k,ob1,rfl,z1,rfl⟩ | ⟨z1,z2⟩ <;> rcases hcase id' ob' ho' with ⟨k',ob2,rfl,z3,rfl⟩ | ⟨z3,z4⟩
   ·rw [h4.sep k ob1 k' ob2 b z1 z3 ((hblk _ _ _).1 hb) ((hblk _ _ _).1 hb')]
   ·exact (hmix k ob1 id' ob' z1 z3 z4 ((hblk _ _ _).1 hb) hb').elim
   ·exact (hmix k' ob2 id ob z3 z1 z2 ((hblk _ _ _).1 hb') hb).elim
   ·exact hI.sep id ob id' ob' b z1 z3 ((oblk_congr (hold id (hI.objs id ob z1).1) ob b).1 hb) ((oblk_congr (hold id' (hI.objs id' ob' z3).1) ob' b).1 hb')
 rcases h6 with ⟨v,rfl,hx',hq⟩ | ⟨v,t,rfl,hq⟩
 ·obtain ⟨φ2,hI',hr'⟩ := key (hk sf hq)
  exact .inl ⟨v,sf,D',φ2,rfl,hq,hI',fun x hx => hr' v x (hx' x hx).1 (hx' x hx).2⟩
 ·obtain ⟨φ2,hI',_⟩ := key (hkP (t,v) sf hq)
  exact .inr ⟨v,t,sf,D',φ2,rfl,hq,hI'⟩
theorem op_callX {f : Operand} {args : Array Operand} {ts : Array TypeId} {g : FuncId} {caps ys xs : List FV} {objs : List (Nat × AObj)} {n : Nat} {Qc : (Nat -> Value) -> ASt -> Prop} {QPc : (Nat -> Value) -> TypeId × Value -> ASt -> Prop}
  (m : List (Nat × Nat)) (kp : List Nat) (ancs : List (Nat × Nat)) (hc : ∀ av,ACallsX P g xs (objs ++ ancL av ancs) n (Qc av) (QPc av))
  (ho : o.op = .call { callee := .value f,args,argTypes := ts }) (hd : dstB nt o.dst = true) (hf : s.calleeX f = some (g,caps)) (ha : evL s args.toList = some ys) (hx : argsX s m (ys ++ caps) xs) (hxl : FV.ltL n xs = true)
  (hobj : handX s m n objs) (hinj : injB m (objs.map (·.1)) = true) (hanc : ancOK n objs ancs ancs) (hkp : ∀ k ∈ kp,k ∈ objs.map (·.1))
  (hk : ∀ av sf,Qc av sf -> keptX s m ancs av sf kp) (hkP : ∀ av t sf,QPc av t sf -> keptX s m ancs av sf kp) :
  OpToP P nt o s (fun s' => ∃ av sf,Qc av sf /\ s' = (afterX s m kp (objs.map (·.1)) sf).putO o.dst ((sf.get 0).map (·.ren (rho2 m kp s.nxt)))) (fun t s' => ∃ av sf,QPc av t sf /\ s' = afterX s m kp (objs.map (·.1)) sf):= by
 intro ro W0 D0 D φ a w hI hko K Q hK hKP
 obtain ⟨vs,hv,hl,hr⟩ := calleeX_rep hI hf
 obtain ⟨e1,e2⟩ := evL_spec ha
 have hls : args.size = ys.length := by simpa using e1
 obtain ⟨av,φc,hE,hsz,hargs,key⟩ := callX_core m kp ancs hx hxl hobj hinj hanc hkp hI (args.map a.eval ++ vs) (by simp [hl,hls]) (by
  intro j v y hv' hy
  by_cases hj : j < ys.length
  ·rw [Array.getElem?_append_left (by simp; omega)] at hv'
   simp only [Array.getElem?_map,Option.map_eq_some_iff] at hv'
   obtain ⟨op,hop,rfl⟩ := hv'
   rw [List.getElem?_append_left hj] at hy
   exact (hI.ev (e2 j op y (by simpa using hop) hy)).2
  ·rw [Array.getElem?_append_right (by simp; omega)] at hv'
   rw [List.getElem?_append_right (by omega)] at hy
   refine hr _ v _ (by simpa [hls] using hv') hy)
 refine wpIn_of (by rw [ho]; intro c hc; cases hc) ?_
 unfold Oper.wp
 rw [call_run ho hv (hc av).1]
 refine Calls.mono ((hc av).2 w D φc _ (hI.kok hko (fun _ hb => hb) (fun b hb ⟨id,ob,h1,h2⟩ => (hE.own id ob b h1 h2).1 hb)) hE hsz hargs) ?_
 intro e w' hP
 rcases key _ _ e w' (hk av) (hkP av) hP with ⟨v,sf,D',φ2,rfl,hq,hI',hx'⟩ | ⟨v,t,sf,D',φ2,rfl,hq,hI'⟩
 ·refine hK _ D' φ2 _ w' ⟨av,sf,hq,rfl⟩ (hI'.put o.dst (dstB_lt hd) v _ fun x' he => ?_)
  rw [Option.map_eq_some_iff] at he
  obtain ⟨x,he1,rfl⟩ := he
  exact hx' x he1
 ·exact hKP _ D' φ2 a w' t v ⟨av,sf,hq,rfl⟩ hI'
end
end Go.Abs
namespace Go.Abs
open Go.RowKit
set_option linter.unusedVariables false
def Ext.Round (P : Program) (E : Ext) : Prop := ∀ (k : Nat) (x : List PV) (B D : Nat -> Prop) (w : World) (vs : Array Value),E.J k B D w -> B E.l -> E.L[k]? = some x -> KOK P w D (fun _ => False) -> RepL w D vs x -> (∀ b,D b -> b < w.heap.size) →
 (∀ b,B b -> b < w.heap.size /\ ¬ D b) -> ∃ f tmps assign body,(Instr.yield E.l vs).run P w = .ok (.round E.l f tmps assign body) w /\
  RoundIn Fence.wide 0 P E.l f tmps assign body w (fun e w' => ∃ B' D',e = .returned (.bool true) /\ BelowX B w w' /\ (∀ c,D c -> D' c) /\ (∀ c,D' c -> D c \/ B c \/ w.heap.size <= c) /\ (∀ c,D' c -> c < w'.heap.size) /\ B' E.l /\
   (∀ c,B' c -> (B c \/ w.heap.size <= c) /\ c < w'.heap.size /\ ¬ D' c) /\ E.J (k + 1) B' D' w')
section
variable {P : Program} {T : Nat -> Option TyI} {nt : Nat} {s : ASt} {o : Oper} {ops : Array Oper} {rest : List Oper} {Q : Exit -> ASt -> Prop}
theorem op_callXs {f : Operand} {args : Array Operand} {ts : Array TypeId} {g : FuncId} {caps ys xs : List FV} {objs : List (Nat × AObj)} {n : Nat} {Qc : (Nat -> Value) -> ASt -> Prop}
  (m : List (Nat × Nat)) (kp : List Nat) (ancs : List (Nat × Nat)) (hc : ∀ av,ACallsX P g xs (objs ++ ancL av ancs) n (Qc av) (fun _ _ => False))
  (ho : o.op = .call { callee := .value f,args,argTypes := ts }) (hd : dstB nt o.dst = true) (hf : s.calleeX f = some (g,caps)) (ha : evL s args.toList = some ys) (hx : argsX s m (ys ++ caps) xs) (hxl : FV.ltL n xs = true)
  (hobj : handX s m n objs) (hinj : injB m (objs.map (·.1)) = true) (hanc : ancOK n objs ancs ancs) (hkp : ∀ k ∈ kp,k ∈ objs.map (·.1)) (hk : ∀ av sf,Qc av sf -> keptX s m ancs av sf kp) :
  OpToS P nt o s (fun s' => ∃ av sf,Qc av sf /\ s' = (afterX s m kp (objs.map (·.1)) sf).putO o.dst ((sf.get 0).map (·.ren (rho2 m kp s.nxt)))) :=
 fun ro W0 D0 D φ a w hI hko K Q hK => op_callX (QPc := fun _ _ _ => False) m kp ancs hc ho hd hf ha hx hxl hobj hinj hanc hkp hk (fun _ _ _ h => h.elim) ro W0 D0 D φ a w hI hko K Q hK (fun _ _ _ _ _ _ _ h => let ⟨_,_,h,_⟩ := h; h.elim)
theorem FRep.inv_yld {w : World} {D : Nat -> Prop} {φ : Nat -> Value} {v : Value} {id : Nat} (h : FRep w D φ v (.yld id)) : ∃ l,φ id = .map (some l) /\ v = .func (.yield l) #[] #[]:= by
 cases h with
 | yld _ l h => exact ⟨l,h,rfl⟩
theorem op_yield {f : Operand} {args : Array Operand} {ts : Array TypeId} {id k : Nat} {E : Ext} {B : Nat -> Prop} {x : List PV} (hE : E.Round P) (ho : o.op = .call { callee := .value f,args,argTypes := ts }) (hd : dstB nt o.dst = true)
  (hf : s.ev f = some (.yld id)) (hob : s.obj id = some (.ext E k B)) (ha : mapO s.evD args.toList = some x) (hx : E.L[k]? = some x) :
  OpToS P nt o s (fun s' => ∃ B',s' = (s.setObj id (some (.ext E (k + 1) B'))).putO o.dst (some (.pv (.bool true)))):= by
 intro ro W0 D0 D φ a w hI hko K Q hK
 obtain ⟨l,hl1,hv⟩ := FRep.inv_yld (hI.ev hf).2
 obtain ⟨hid,_,hm,hl2,hBl,hJ⟩ := hI.objs id _ hob
 have hll : l = E.l := by rw [hl1] at hl2; cases hl2; rfl
 subst hll
 have hargs := evD_args hI ha
 obtain ⟨f',tmps,assign,body,hy,hround⟩ := hE k x B D w (args.map a.eval) hJ hBl hx (hI.kok hko (fun _ hb => hb) (fun _ _ h => h)) hargs hI.dlt fun b hb => ⟨(hI.own id _ b hob hb).2.2,(hI.own id _ b hob hb).1⟩
 have hrun : (execOp a.eval o).run P w = .ok (.round E.l f' tmps assign body) w:= by
  simp only [execOp,ho,resolve,hv,Deferred.ofValue,Sem.run_bind,Sem.run_pure,Result.andThen_ok,invoke,Array.empty_append]
  exact hy
 refine ⟨fun _ _ => trivial,?_⟩
 rw [Oper.semAt_eq _ _ _ (by rw [ho]; intro c hc; cases hc),hrun]
 refine ⟨fun hd => (by cases hd),RoundIn.mono (F := Fence.wide) hround ?_⟩
 rintro e w' ⟨B',D',rfl,h1,h2,h3,h4,h5,h6,h7⟩
 refine hK _ D' φ _ w' ⟨B',rfl⟩ ?_
 refine Inv.put (s := s.setObj id (some (.ext E (k + 1) B'))) (hI.chg (s' := s.setObj id (some (.ext E (k + 1) B'))) id (fun j => j = id) ⟨h1.os,h1.tape,h1.output,h1.size,fun k hk => absurd hk (Nat.not_lt_zero _)⟩ ?_ h2 ?_ (fun _ _ => rfl) (Nat.le_refl _) (fun t x hx => hx) ?_ ?_) o.dst (dstB_lt hd) _ (some (.pv (.bool true))) fun x' hx' => by cases hx'; exact ⟨rfl,.pv _ _ (.bool _)⟩
 ·intro b hb hne
  exact h1.block b hb fun hB => hne id _ rfl hob hB
 ·intro b hb
  rcases h3 b hb with q | q | q
  ·exact .inl q
  ·exact .inr ⟨h4 b hb,.inr ⟨id,_,rfl,hob,q⟩⟩
  ·exact .inr ⟨h4 b hb,.inl q⟩
 ·intro id' ob' hne ho'
  rw [ASt.obj_setObj,if_neg (fun e => hne e.symm)] at ho'
  exact ⟨hne,ho'⟩
 ·intro ob' ho'
  rw [ASt.obj_setObj,if_pos rfl] at ho'
  cases ho'
  refine ⟨hid,rfl,⟨hm,hl2,h5,h7⟩,fun b hb => ?_⟩
  obtain ⟨q1,q2,q3⟩ := h6 b hb
  refine ⟨q3,q2,?_⟩
  rcases q1 with q | q
  ·exact .inr ⟨id,_,rfl,hob,q⟩
  ·exact .inl q
def anchS (av : Nat -> Value) (s : ASt) : List Nat -> ASt
 | [] => s
 | t :: r => match s.get t with
  | some x => anchS av (s.newObj (.anc (av t) x)) r
  | none => anchS av s r
theorem Inv.anch {W0 : World} {D0 : Bas} {D : Nat -> Prop} {a : Act} {w : World} {av : Nat -> Value} (hav : ∀ t,av t = a.tmps.getD t undef) : ∀ (ts : List Nat) (s : ASt) (φ : Nat -> Value),Inv W0 D0 nt s D φ a w -> ∃ φ',Inv W0 D0 nt (anchS av s ts) D φ' a w
 | [],s,φ,h => ⟨φ,h⟩
 | t :: r,s,φ,h => by
  unfold anchS
  split
  ·rename_i x hx
   refine Inv.anch hav r _ (addH φ s.nxt undef) ?_
   obtain ⟨h1,v,h2,h3⟩ := h.env t x hx
   have hv : av t = v := by rw [hav]; simp [Array.getD_eq_getD_getElem?,h2]
   refine h.new (Below.refl _ _) (fun _ h => h) (fun _ h => .inl h) _ undef h1 ?_ (by intro b hb; cases hb)
   show FRep w D (addH φ s.nxt undef) (av t) x
   rw [hv]
   exact h3.handles (n := s.nxt) (fun id hid => addH_old _ _ hid) h1
  ·exact Inv.anch hav r s φ h
def putPs (s : ASt) : List Nat -> List PV -> ASt
 | p :: ps,x :: xs => putPs (s.put p (some (.pv x))) ps xs
 | _,_ => s
def EnvOK (s : ASt) (D : Nat -> Prop) (φ : Nat -> Value) (tmps : Array Value) (w : World) : Prop := ∀ t x,s.get t = some x -> x.lt s.nxt = true /\ ∃ v,tmps[t]? = some v /\ FRep w D φ v x
theorem putPs_objs : ∀ (ps : List Nat) (xs : List PV) (s : ASt),(putPs s ps xs).objs = s.objs /\ (putPs s ps xs).nxt = s.nxt
 | [],_,_ => ⟨rfl,rfl⟩
 | _ :: _,[],_ => ⟨rfl,rfl⟩
 | p :: ps,x :: xs,s => putPs_objs ps xs (s.put p (some (.pv x)))
theorem putPs_ok {D : Nat -> Prop} {φ : Nat -> Value} {w : World} : ∀ (ps : List Nat) (vs : List Value) (xs : List PV) (s : ASt) (tmps : Array Value),EnvOK s D φ tmps w -> (∀ p ∈ ps,p < tmps.size) -> vs.length = xs.length →
  (∀ (j : Nat) (v : Value) (x : PV),vs[j]? = some v -> xs[j]? = some x -> Rep w D v x) →
  EnvOK (putPs s ps xs) D φ ((ps.zip vs).foldl (fun t (p,v) => t.setIfInBounds p v) tmps) w /\ ((ps.zip vs).foldl (fun t (p,v) => t.setIfInBounds p v) tmps).size = tmps.size
 | [],vs,xs,s,tmps,h,_,_,_ => by simpa [putPs] using h
 | p :: ps,[],[],s,tmps,h,_,_,_ => by simpa [putPs] using h
 | p :: ps,[],_ :: _,s,tmps,h,_,hl,_ => by simp at hl
 | p :: ps,_ :: _,[],s,tmps,h,_,hl,_ => by simp at hl
 | p :: ps,v :: vs,x :: xs,s,tmps,h,hp,hl,hr => by
  have he : EnvOK (s.put p (some (.pv x))) D φ (tmps.setIfInBounds p v) w:= by
   intro t y hy
   rw [ASt.get_put] at hy
   by_cases hpt : p = t
   ·subst hpt
    rw [if_pos rfl] at hy
    cases hy
    have := hp p (by simp)
    exact ⟨rfl,v,by simp [this],.pv _ _ (hr 0 v x rfl rfl)⟩
   ·rw [if_neg hpt] at hy
    obtain ⟨h1,u,h2,h3⟩ := h t y hy
    refine ⟨h1,u,?_,h3⟩
    rw [Array.getElem?_setIfInBounds,if_neg hpt]; exact h2
  have := putPs_ok ps vs xs (s.put p (some (.pv x))) (tmps.setIfInBounds p v) he (fun q hq => by simpa using hp q (by simp [hq])) (by simpa using hl) (fun j u y hu hy => hr (j + 1) u y (by simpa using hu) (by simpa using hy))
  simpa [putPs] using this
theorem Held.mono {s : ASt} {D D' : Nat -> Prop} {φ : Nat -> Value} {w w' : World} (h : Held s D φ w) (hD : ∀ b,D b -> w'.heap[b]? = w.heap[b]?) (ho : ∀ b,ownS s φ b -> w'.heap[b]? = w.heap[b]?) : Held s D φ w':= by
 have keep : ∀ b,b < w.heap.size -> w'.heap[b]? = w.heap[b]? -> b < w'.heap.size := fun b hb he => by
  rw [Array.getElem?_eq_getElem hb] at he
  exact (Array.getElem?_eq_some_iff.1 he).1
 refine ⟨fun b hb => keep b (h.dlt b hb) (hD b hb),fun id ob hi => ?_,fun id ob b hi hb => ?_,h.sep⟩
 ·obtain ⟨h1,h2,h3⟩ := h.objs id ob hi
  exact ⟨h1,h2,h3.keep h2 h1 hD (fun _ h => h) (fun _ _ => rfl) fun b hb => ho b ⟨id,ob,hi,hb⟩⟩
 ·obtain ⟨h1,h2⟩ := h.own id ob b hi hb
  exact ⟨h1,keep b h2 (ho b ⟨id,ob,hi,hb⟩)⟩
theorem Held.wider {s : ASt} {D D' : Nat -> Prop} {φ : Nat -> Value} {w : World} (h : Held s D φ w) (hD : ∀ b,D b -> D' b) (hlt : ∀ b,D' b -> b < w.heap.size) (ho : ∀ b,ownS s φ b -> ¬ D' b) : Held s D' φ w :=
 ⟨hlt,fun id ob hi => let ⟨h1,h2,h3⟩ := h.objs id ob hi; ⟨h1,h2,h3.keep h2 h1 (fun _ _ => rfl) hD (fun _ _ => rfl) (fun _ _ => rfl)⟩,fun id ob b hi hb => ⟨ho b ⟨id,ob,hi,hb⟩,(h.own id ob b hi hb).2⟩,h.sep⟩
def ASt.bare (s : ASt) : ASt := ⟨[],s.objs,s.nxt⟩
theorem Held.bare {s : ASt} {D : Nat -> Prop} {φ : Nat -> Value} {w : World} : Held s.bare D φ w ↔ Held s D φ w := ⟨fun h => ⟨h.dlt,h.objs,h.own,h.sep⟩,fun h => ⟨h.dlt,h.objs,h.own,h.sep⟩⟩
def loopJ {ι : Type} (I : Nat -> ι -> ASt) (J : Nat -> ι -> Prop) (l : Nat) (mk : Option Nat) (rec : Loop) (k : Nat) (B D : Nat -> Prop) (w : World) : Prop :=
 ∃ i D1 φ1,J k i /\ Held (I k i) D1 φ1 w /\ (∀ b,D1 b -> D b) /\ w.heap[l]? = some (.loop rec) /\ (∀ m,mk = some m -> w.heap[m]? = some (.deferred (some [])) /\ m ≠ l /\ ¬ ownS (I k i) φ1 m) /\
  (∀ b,B b ↔ b = l \/ some b = mk \/ ownS (I k i) φ1 b) /\ ¬ ownS (I k i) φ1 l
def loopE {ι : Type} (L : List (List PV)) (I : Nat -> ι -> ASt) (J : Nat -> ι -> Prop) (l : Nat) (mk : Option Nat) (rec : Loop) : Ext := ⟨L,l,loopJ I J l mk rec⟩
theorem loopE_mono {ι : Type} {L : List (List PV)} {I : Nat -> ι -> ASt} {J : Nat -> ι -> Prop} {l : Nat} {mk : Option Nat} {rec : Loop} : (loopE L I J l mk rec).Mono:= by
 rintro k B D D' w w' ⟨i,D1,φ1,hJi,h1,h2,h3,h4,h5,h6⟩ hD hs hB
 refine ⟨i,D1,φ1,hJi,h1.mono (D' := D) (fun b hb => hs b (h2 b hb)) (fun b hb => hB b ((h5 b).2 (.inr (.inr hb)))),fun b hb => hD b (h2 b hb),(hB l ((h5 l).2 (.inl rfl))).trans h3,fun m hm => ?_,h5,h6⟩
 obtain ⟨q1,q2⟩ := h4 m hm
 exact ⟨(hB m ((h5 m).2 (.inr (.inl hm.symm)))).trans q1,q2⟩
def RoundQ {ι : Type} (I : Nat -> ι -> ASt) (J : Nat -> ι -> Prop) (k : Nat) : Exit -> ASt -> Prop
 | .normal,s => ∃ j,J k j /\ Le s.bare (I k j).bare
 | _,_ => False
def EnvAnc (nt : Nat) (av : Nat -> Value) (s : ASt) : Prop := ∀ t x,s.get t = some x -> t < nt /\ ∃ a,s.obj a = some (.anc (av t) x)
theorem loopE_round {ι : Type} {L : List (List PV)} {I : Nat -> ι -> ASt} {J : Nat -> ι -> Prop} {l : Nat} {mk : Option Nat} {rec : Loop} {av : Nat -> Value} (hst : rec.state = .ready) (hpe : rec.pending = none) (hnt : rec.tmps.size = nt) (hav : ∀ t,av t = rec.tmps.getD t undef)
  (hps : ∀ p ∈ rec.params.toList,p < nt) (hxl : ∀ x ∈ L,x.length = rec.params.size) (hanc : ∀ k i,EnvAnc nt av (I k i))
  (hround : ∀ k i x,J k i -> L[k]? = some x -> AW P nt rec.assign (Then (fun s2 => AW P nt rec.body (RoundQ I J (k + 1)) s2) (fun _ _ => False)) (putPs (I k i) rec.params.toList x)) : (loopE L I J l mk rec).Round P:= by
 intro k x B D w vs hJ hBl hx hko hvs hDlt hBok
 obtain ⟨i,D1,φ1,hJi,h1,h2,h3,h4,h5,h6⟩ := hJ
 have hvl : vs.size = rec.params.size := by rw [hvs.1]; exact hxl x (List.mem_of_getElem? hx)
 have h3' : w.heap[l]? = some (.loop rec) := h3
 have hlw : l < w.heap.size := (Array.getElem?_eq_some_iff.1 h3').1
 have hlD : ¬ D l := (hBok l ((h5 l).2 (.inl rfl))).2
 show ∃ f tmps assign body,(Instr.yield l vs).run P w = .ok (.round l f tmps assign body) w /\ RoundIn Fence.wide 0 P l f tmps assign body w _
 refine ⟨rec.fn,_,rec.assign,rec.body,run_yield h3' hvl,roundIn_of_wpIn trivial ?_⟩
 have hH : Held (I k i) D φ1 w := h1.wider h2 hDlt fun b hb => (hBok b ((h5 b).2 (.inr (.inr hb)))).2
 have hE0 : EnvOK (I k i) D φ1 rec.tmps w:= by
  intro t y hy
  obtain ⟨q1,a',q2⟩ := hanc k i t y hy
  obtain ⟨_,q3,q4⟩ := hH.objs a' _ q2
  refine ⟨q3,av t,?_,q4⟩
  have ht : t < rec.tmps.size := by omega
  rw [hav,Array.getD_eq_getD_getElem?,Array.getElem?_eq_getElem ht]; rfl
 obtain ⟨g1,g2⟩ := putPs_ok rec.params.toList vs.toList x (I k i) rec.tmps hE0 (fun p hp => by rw [hnt]; exact hps p hp) (by simpa using hvs.1) (fun j v y hv hy => hvs.2 j v y (by simpa using hv) hy)
 have hzip : (rec.params.zip vs).foldl (fun t (p,v) => t.setIfInBounds p v) rec.tmps = (rec.params.toList.zip vs.toList).foldl (fun t (p,v) => t.setIfInBounds p v) rec.tmps:= by
  rw [<- Array.foldl_toList]; simp
 obtain ⟨o1,o2⟩ := putPs_objs rec.params.toList x (I k i)
 have hob : ∀ id,(putPs (I k i) rec.params.toList x).obj id = (I k i).obj id := fun id => by unfold ASt.obj; rw [o1]
 generalize hS : putPs (I k i) rec.params.toList x = S at *
 have hX : ∀ b,ownS S φ1 b ↔ ownS (I k i) φ1 b := fun b => by unfold ownS; simp only [hob]
 have hI : Inv w ⟨D,ownS S φ1,none,true⟩ nt S D φ1 { tmps := (rec.params.toList.zip vs.toList).foldl (fun t (p,v) => t.setIfInBounds p v) rec.tmps,defers := [] } w:= by
  refine ⟨BelowX.refl _ _,by rw [<- hnt]; exact g2,⟨[],.nil,.nil,by simp⟩,hDlt,fun b hb => .inl hb,fun b hb => hb,g1,fun id ob ho => ?_,fun id ob b ho hb => ?_,fun id ob id' ob' b ho ho' => ?_⟩
  ·rw [hob] at ho
   obtain ⟨q1,q2,q3⟩ := hH.objs id ob ho
   rw [o2]; exact ⟨q1,q2,q3.base⟩
  ·have ho2 := ho
   rw [hob] at ho
   obtain ⟨q1,q2⟩ := hH.own id ob b ho hb
   exact ⟨q1,.inl ⟨id,ob,ho2,hb⟩,q2⟩
  ·rw [hob] at ho ho'
   exact hH.sep id ob id' ob' b ho ho'
 have hXl : ¬ ownS S φ1 l := fun h => h6 ((hX l).1 h)
 have hkoS : KOK P w D (ownS S φ1) := hko.at (fun _ h => h) (fun b hb _ ⟨id,ob,ho,hq⟩ => (hI.own id ob b ho hq).1 hb) (Nat.le_refl _) (fun _ _ _ _ => rfl)
 rw [hzip]
 refine Go.wpIn_mono (F := FW (some l)) ((hS ▸ hround k i x hJi hx) (some l) w ⟨D,ownS S φ1,none,true⟩ D φ1 _ w ⟨rfl,fun l' hl' => (by cases hl'; exact ⟨⟨rec,h3'⟩,hXl⟩),hkoS⟩ hI) ?_
 rintro e a1 w1 ⟨s2,D2,φ2,hI2,hq⟩
 cases e with
 | normal =>
  have hX2 : ∀ b,ownS s2 φ2 b -> ownS S φ1 b \/ w.heap.size <= b := fun b ⟨id,ob,ho,hb⟩ => (hI2.own id ob b ho hb).2.1
  have hl2 : ¬ ownS s2 φ2 l := fun h => by
   rcases hX2 l h with q | q
   ·exact hXl q
   ·omega
  have hD2 : ∀ b,b < w.heap.size -> ¬ D b -> ¬ ownS S φ1 b -> ¬ D2 b := fun b hb hd hx h => by
   rcases hI2.dof b h with q | q | q
   ·exact hd q
   ·exact hx q
   ·exact absurd hb (Nat.not_lt.2 q)
  have hl1 : w1.heap[l]? = some (.loop rec) := (hI2.below.block l hlw hXl).trans h3'
  have hlw1 : l < w1.heap.size := (Array.getElem?_eq_some_iff.1 hl1).1
  refine ⟨_,run_beginRound hl1 hst,?_⟩
  generalize hw2 : w1.putObj l (.loop { rec with state := .busy }) = w2
  have e2l : w2.heap[l]? = some (.loop { rec with state := .busy }) := by rw [<- hw2]; exact World.putObj_heap_same hlw1
  have e2o : ∀ b,b ≠ l -> w2.heap[b]? = w1.heap[b]? := fun b hb => by rw [<- hw2]; exact World.putObj_heap_other hb
  have e2s : w2.heap.size = w1.heap.size := by rw [<- hw2]; simp
  have hI3 : Inv w2 ⟨D2,ownS s2 φ2,none,true⟩ nt s2 D2 φ2 a1 w2:= by
   have hms : a1.defers = []:= by
    obtain ⟨ms,q1,q2,q3⟩ := hI2.defers
    cases ms with
    | nil => exact q1.of_none
    | cons d ms => obtain ⟨_,_,_,q,_⟩ := q3 d (by simp); cases q.1
   have hDs : ∀ b,D2 b -> w2.heap[b]? = w1.heap[b]? := fun b hb => e2o b (by rintro rfl; exact hD2 _ hlw hlD hXl hb)
   refine ⟨BelowX.refl _ _,hI2.size,⟨[],by rw [hms]; exact .nil,.nil,by simp⟩,fun b hb => by rw [e2s]; exact hI2.dlt b hb,fun b hb => .inl hb,fun b hb => hb,fun t y hy => ?_,fun id ob ho => ?_,fun id ob b ho hb => ?_,hI2.sep⟩
   ·obtain ⟨q1,v,q2,q3⟩ := hI2.env t y hy
    exact ⟨q1,v,q2,q3.mono hDs (fun _ h => h) (fun _ _ => rfl) q1⟩
   ·obtain ⟨q1,q2,q3⟩ := hI2.objs id ob ho
    exact ⟨q1,q2,(q3.keep q2 q1 hDs (fun _ h => h) (fun _ _ => rfl) fun b hb => e2o b (by rintro rfl; exact hl2 ⟨id,ob,ho,hb⟩)).base⟩
   ·obtain ⟨q1,q2,q3⟩ := hI2.own id ob b ho hb
    exact ⟨q1,.inl ⟨id,ob,ho,hb⟩,by rw [e2s]; exact q3⟩
  have hq : AW P nt rec.body (RoundQ I J (k + 1)) s2 := hq
  refine Go.wpIn_mono (F := FW (some l)) (hq (some l) w2 ⟨D2,ownS s2 φ2,none,true⟩ D2 φ2 a1 w2 ⟨rfl,fun l' hl' => (by cases hl'; exact ⟨⟨_,e2l⟩,hl2⟩),(hI2.kok hkoS (X' := ownS s2 φ2) (fun _ h => h) (fun b hb ⟨id,ob,ho,hq⟩ => (hI2.own id ob b ho hq).1 hb)).at (fun _ h => h) (fun _ _ h => h) (by rw [e2s]; exact Nat.le_refl _) (fun b hb _ _ => e2o b (by rintro rfl; exact hD2 _ hlw hlD hXl hb))⟩ hI3) ?_
  rintro e3 a3 w3 ⟨s3,D3,φ3,hI4,hq3⟩
  cases e3 with
  | normal =>
   obtain ⟨j,hJj,hle⟩ := hq3
   have e3l : w3.heap[l]? = some (.loop { rec with state := .busy }) := (hI4.below.block l (by rw [e2s]; exact hlw1) hl2).trans e2l
   have hl3s : l < w3.heap.size := (Array.getElem?_eq_some_iff.1 e3l).1
   obtain ⟨φ4,k1,k2,_⟩ := (Held.bare.2 hI4.held).le hle
   have k1 := Held.bare.1 k1
   have k2 : ∀ b,ownS (I (k + 1) j) φ4 b -> ownS s3 φ3 b := k2
   have k3 : ∀ b,ownS (I (k + 1) j) φ4 b -> ownS (I k i) φ1 b \/ w.heap.size <= b := fun b hb => by
    obtain ⟨id,ob,ho,hb'⟩ := k2 b hb
    rcases (hI4.own id ob b ho hb').2.1 with q | q
    ·exact (hX2 b q).imp (hX b).1 (fun h => h)
    ·exact .inr (Nat.le_trans hI2.below.size (by rw [<- e2s]; exact q))
   have k4 : ∀ b,D3 b -> D b \/ B b \/ w.heap.size <= b := fun b hb => by
    rcases hI4.dof b hb with q | q | q
    ·rcases hI2.dof b q with q | q | q
     ·exact .inl q
     ·exact .inr (.inl ((h5 b).2 (.inr (.inr ((hX b).1 q)))))
     ·exact .inr (.inr q)
    ·rcases hX2 b q with q | q
     ·exact .inr (.inl ((h5 b).2 (.inr (.inr ((hX b).1 q)))))
     ·exact .inr (.inr q)
    ·exact .inr (.inr (Nat.le_trans hI2.below.size (by rw [<- e2s]; exact q)))
   have k5 : ∀ b,b < w.heap.size -> ¬ D b -> ¬ ownS (I k i) φ1 b -> ¬ D3 b := fun b hb hd hx h => by
    rcases hI4.dof b h with q | q | q
    ·exact hD2 b hb hd (fun h => hx ((hX b).1 h)) q
    ·rcases hX2 b q with q | q
     ·exact hx ((hX b).1 q)
     ·omega
    ·have : w2.heap.size <= b := q
     have := hI2.below.size; omega
   have k6 : ∀ b,b < w.heap.size -> ¬ ownS (I k i) φ1 b -> ¬ ownS s3 φ3 b := fun b hb hx ⟨id,ob,ho,hb'⟩ => by
    rcases (hI4.own id ob b ho hb').2.1 with q | q
    ·rcases hX2 b q with q | q
     ·exact hx ((hX b).1 q)
     ·omega
    ·have : w2.heap.size <= b := q
     have := hI2.below.size; omega
   have hres := run_endRound (P := P) none e3l
   refine ⟨_,_,hres,?_⟩
   have hrec : ({ ({ rec with state := LoopState.busy } : Loop) with state := if (none : Option Code).isNone then LoopState.ready else LoopState.done,pending := none } : Loop) = rec:= by
    cases rec; simp_all
   rw [hrec]
   generalize hw4 : w3.putObj l (.loop rec) = w4
   have e4l : w4.heap[l]? = some (.loop rec) := by rw [<- hw4]; exact World.putObj_heap_same hl3s
   have e4o : ∀ b,b ≠ l -> w4.heap[b]? = w3.heap[b]? := fun b hb => by rw [<- hw4]; exact World.putObj_heap_other hb
   have e4s : w4.heap.size = w3.heap.size := by rw [<- hw4]; simp
   have o4 : w4.os = w3.os /\ w4.tape = w3.tape /\ w4.output = w3.output := by rw [<- hw4]; exact ⟨rfl,rfl,rfl⟩
   have o2 : w2.os = w1.os /\ w2.tape = w1.tape /\ w2.output = w1.output := by rw [<- hw2]; exact ⟨rfl,rfl,rfl⟩
   have same : ∀ b,b < w.heap.size -> b ≠ l -> ¬ ownS (I k i) φ1 b -> w4.heap[b]? = w.heap[b]? := fun b hb hne hx => by
    rw [e4o b hne,hI4.below.block b (by rw [e2s]; exact Nat.lt_of_lt_of_le hb hI2.below.size) (fun h => by
     rcases hX2 b h with q | q
     ·exact hx ((hX b).1 q)
     ·omega),e2o b hne,hI2.below.block b hb (fun h => hx ((hX b).1 h))]
   have hl3D : ¬ D3 l := k5 l hlw hlD h6
   refine ⟨fun b => b = l \/ some b = mk \/ ownS (I (k + 1) j) φ4 b,D3,rfl,⟨o4.1.trans (hI4.below.os.trans (o2.1.trans hI2.below.os)),o4.2.1.trans (hI4.below.tape.trans (o2.2.1.trans hI2.below.tape)),o4.2.2.trans (hI4.below.output.trans (o2.2.2.trans hI2.below.output)),?_,?_⟩,
    fun c hc => hI4.d0 c (hI2.d0 c hc),k4,fun c hc => by rw [e4s]; exact hI4.dlt c hc,.inl rfl,fun c hc => ?_,⟨j,D3,φ4,hJj,?_,fun _ h => h,e4l,fun m hm => ?_,fun b => Iff.rfl,fun h => ?_⟩⟩
   ·rw [e4s]; exact Nat.le_trans hI2.below.size (by rw [<- e2s]; exact hI4.below.size)
   ·intro c hc hnB
    exact same c hc (fun e => hnB ((h5 c).2 (.inl e))) fun h => hnB ((h5 c).2 (.inr (.inr h)))
   ·rcases hc with rfl | hc | hc
    ·exact ⟨.inl ((h5 _).2 (.inl rfl)),by rw [e4s]; exact hl3s,hl3D⟩
    ·have hBc := (h5 c).2 (.inr (.inl hc))
     obtain ⟨z1,z2⟩ := hBok c hBc
     refine ⟨.inl hBc,?_,k5 c z1 z2 (h4 c hc.symm).2.2⟩
     rw [e4s]; exact Nat.lt_of_lt_of_le z1 (Nat.le_trans hI2.below.size (by rw [<- e2s]; exact hI4.below.size))
    ·obtain ⟨id,ob,ho,hb'⟩ := k2 c hc
     obtain ⟨z1,_,z3⟩ := hI4.own id ob c ho hb'
     refine ⟨?_,by rw [e4s]; exact z3,z1⟩
     exact (k3 c hc).imp (fun q => (h5 c).2 (.inr (.inr q))) (fun h => h)
   ·refine k1.mono (D' := D3) (fun b hb => e4o b (by rintro rfl; exact hl3D hb)) fun b hb => e4o b ?_
    rintro rfl
    exact k6 _ hlw h6 (k2 _ hb)
   ·obtain ⟨z1,z2,z3⟩ := h4 m hm
    have hmw : m < w.heap.size := (Array.getElem?_eq_some_iff.1 z1).1
    refine ⟨(same m hmw z2 z3).trans z1,z2,fun h => k6 m hmw z3 (k2 m h)⟩
   ·exact k6 l hlw h6 (k2 l h)
  | _ => exact hq3.elim
 | _ => exact hq.elim
def IterOK (P : Program) (g : FuncId) (caps : List PV) (L : List (List PV)) : Prop := ∀ E B,E.L = L -> E.Round P →
 ACallsX P g (.yld 0 :: caps.map .pv) [(0,.ext E 0 B)] 1 (fun sf => ∃ B',sf.obj 0 = some (.ext E L.length B')) (fun _ _ => False)
def marksOf : Option Nat -> List Deferred
 | some m => [{ target := .collected m,args := #[] }]
 | none => []
theorem loop_end {ι : Type} {L : List (List PV)} {I : Nat -> ι -> ASt} {J : Nat -> ι -> Prop} {l : Nat} {mk : Option Nat} {rec : Loop} {av : Nat -> Value} (hanc : ∀ k i,EnvAnc nt av (I k i)) {ro : Option Nat} {W0 : World} {D0 : Bas} {D : Nat -> Prop} {φ : Nat -> Value} {a : Act} {w W1 w3 : World}
  (hI : Inv W0 D0 nt s D φ a w) (hav : ∀ t,av t = a.tmps.getD t undef) (hro : mk.isSome = true -> D0.rnd = false) (hlw : w.heap.size <= l) (hmw : ∀ m,mk = some m -> w.heap.size <= m /\ m ≠ l) (hW1 : ∀ b,b < w.heap.size -> W1.heap[b]? = w.heap[b]?) (hW1s : w.heap.size <= W1.heap.size)
  (hW1o : W1.os = w.os /\ W1.tape = w.tape /\ W1.output = w.output) {B0 : Nat -> Prop} (hB0 : ∀ b,B0 b -> b = l \/ some b = mk \/ ownS s φ b) {D' B' : Nat -> Prop} (hbel : BelowX B0 W1 w3) (hD : ∀ b,D b -> D' b) (hDn : ∀ b,D' b -> D b \/ B0 b \/ W1.heap.size <= b) (hDlt : ∀ b,D' b -> b < w3.heap.size)
  (hB' : ∀ b,B' b -> (B0 b \/ W1.heap.size <= b) /\ ¬ D' b) (hJ : loopJ I J l mk rec L.length B' D' w3) {fin : Loop} :
  ∃ i φ1,J L.length i /\ Inv W0 D0 nt (I L.length i) D' φ1 { a with defers := marksOf mk ++ a.defers } (w3.putObj l (.loop fin)):= by
 obtain ⟨i,D1,φ1,hJi,h1,h2,h3,h4,h5,h6⟩ := hJ
 have hl3 : l < w3.heap.size := (Array.getElem?_eq_some_iff.1 h3).1
 have hoB : ∀ b,ownS (I L.length i) φ1 b -> B' b := fun b hb => (h5 b).2 (.inr (.inr hb))
 have hlD : ¬ D' l := (hB' l ((h5 l).2 (.inl rfl))).2
 generalize hw4 : w3.putObj l (.loop fin) = w4
 have e4o : ∀ b,b ≠ l -> w4.heap[b]? = w3.heap[b]? := fun b hb => by rw [<- hw4]; exact World.putObj_heap_other hb
 have e4s : w4.heap.size = w3.heap.size := by rw [<- hw4]; simp
 have o4 : w4.os = w3.os /\ w4.tape = w3.tape /\ w4.output = w3.output := by rw [<- hw4]; exact ⟨rfl,rfl,rfl⟩
 have hs0 := hI.below.size
 have hB0x : ∀ b,B0 b -> D0.x b \/ W0.heap.size <= b := fun b hb => by
  rcases hB0 b hb with rfl | q | ⟨id,ob,ho,hb'⟩
  ·exact .inr (by omega)
  ·have := (hmw b q.symm).1; exact .inr (by omega)
  ·exact (hI.own id ob b ho hb').2.1
 have hH : Held (I L.length i) D' φ1 w3 := h1.wider h2 hDlt fun b hb => (hB' b (hoB b hb)).2
 have hH4 : Held (I L.length i) D' φ1 w4 := hH.mono (D' := D') (fun b hb => e4o b (by rintro rfl; exact hlD hb)) fun b hb => e4o b (by rintro rfl; exact h6 hb)
 have hsame : ∀ b,b < w.heap.size -> ¬ B0 b -> w4.heap[b]? = w.heap[b]? := fun b hb hx => by
  rw [e4o b (by omega),hbel.block b (by omega) hx,hW1 b hb]
 refine ⟨i,φ1,hJi,⟨o4.1.trans (hbel.os.trans (hW1o.1.trans hI.below.os)),o4.2.1.trans (hbel.tape.trans (hW1o.2.1.trans hI.below.tape)),o4.2.2.trans (hbel.output.trans (hW1o.2.2.trans hI.below.output)),by rw [e4s]; exact Nat.le_trans hs0 (Nat.le_trans hW1s hbel.size),fun k hk hx => ?_⟩,hI.size,?_,hH4.dlt,
  fun b hb => ?_,fun b hb => hD b (hI.d0 b hb),fun t y hy => ?_,fun id ob ho => let ⟨q1,q2,q3⟩ := hH4.objs id ob ho; ⟨q1,q2,q3.base⟩,fun id ob b ho hb => ?_,hH4.sep⟩
 ·refine (hsame k (by omega) fun hB => ?_).trans (hI.below.block k hk hx)
  rcases hB0x k hB with q | q
  ·exact hx q
  ·omega
 ·obtain ⟨ms,q1,q2,q3⟩ := hI.defers
  have old : ∀ d ∈ ms,Marked w4 D' (I L.length i) φ1 (mbase W0 D0) d := fun d hd => by
   obtain ⟨m,r1,r2,r3,r4,r5⟩ := q3 d hd
   have hmw' : m < w.heap.size := (Array.getElem?_eq_some_iff.1 r2).1
   have hnB : ¬ B0 m := fun hB => by
    rcases hB0 m hB with rfl | q | ⟨id,ob,ho,hb'⟩
    ·omega
    ·have := (hmw m q.symm).1; omega
    ·exact r5 id ob ho hb'
   refine ⟨m,r1,(hsame m hmw' hnB).trans r2,r3,fun h => ?_,fun id ob ho hb => ?_⟩
   ·rcases hDn m h with q | q | q
    ·exact r4 q
    ·exact hnB q
    ·omega
   ·rcases (hB' m (hoB m ⟨id,ob,ho,hb⟩)).1 with q | q
    ·exact hnB q
    ·omega
  cases hmk : mk with
  | none => exact ⟨ms,by simpa [marksOf] using q1,q2,old⟩
  | some m =>
   obtain ⟨z1,z2,z3⟩ := h4 m hmk
   refine ⟨{ target := .collected m,args := #[] } :: ms,by simpa [marksOf] using q1.cons _,List.nodup_cons.2 ⟨fun hin => ?_,q2⟩,fun d hd => ?_⟩
   ·obtain ⟨m',r1,r2,_⟩ := q3 _ hin
    cases r1
    have := (hmw m hmk).1
    have := (Array.getElem?_eq_some_iff.1 r2).1; omega
   ·rcases List.mem_cons.1 hd with rfl | hd
    ·have := (hmw m hmk).1
     exact ⟨m,rfl,(e4o m z2).trans z1,⟨hro (by rw [hmk]; rfl),by omega⟩,(hB' m ((h5 m).2 (.inr (.inl hmk.symm)))).2,fun id ob ho hb => z3 ⟨id,ob,ho,hb⟩⟩
    ·exact old d hd
 ·rcases hDn b hb with q | q | q
  ·exact hI.dof b q
  ·exact .inr (hB0x b q)
  ·exact .inr (.inr (by omega))
 ·obtain ⟨q1,a',q2⟩ := hanc _ i t y hy
  obtain ⟨_,q3,q4⟩ := hH4.objs a' _ q2
  refine ⟨q3,av t,?_,q4⟩
  have ht : t < a.tmps.size := by rw [hI.size]; exact q1
  rw [hav,Array.getD_eq_getD_getElem?,Array.getElem?_eq_getElem ht]; rfl
 ·obtain ⟨z1,z2⟩ := hH4.own id ob b ho hb
  refine ⟨z1,?_,z2⟩
  rcases (hB' b (hoB b ⟨id,ob,ho,hb⟩)).1 with q | q
  ·exact hB0x b q
  ·exact .inr (by omega)
set_option maxHeartbeats 1000000 in
theorem AW_rangeFunc {g : Operand} {ps : Array Nat} {assign body : Code} {ι : Type} {gf : FuncId} {caps : List PV} {L : List (List PV)} (ts : List Nat) (I : (Nat -> Value) -> Nat -> ι -> ASt) (J : Nat -> ι -> Prop) (i0 : ι) (hJ0 : J 0 i0) (hg : s.evD g = some (.fn gf caps)) (hit : IterOK P gf caps L)
  (hps : ∀ p ∈ ps.toList,Nat.blt p nt = true) (hxl : ∀ x ∈ L,x.length = ps.size) (hanc : ∀ av k i,EnvAnc nt av (I av k i)) (h0 : ∀ av,Le (anchS av s ts).bare (I av 0 i0).bare)
  (hround : ∀ av k i x,J k i -> L[k]? = some x -> AW P nt assign (Then (fun s2 => AW P nt body (RoundQ (I av) J (k + 1)) s2) (fun _ _ => False)) (putPs (I av k i) ps.toList x))
  (hdone : ∀ av i,J L.length i -> Q .normal (I av L.length i)) : AW P nt (.rangeFunc g ps assign body) Q s:= by
 intro ro W0 D0 D φ a w hr hI
 obtain ⟨av,hav⟩ : ∃ av : Nat -> Value,∀ t,av t = a.tmps.getD t undef := ⟨fun t => a.tmps.getD t undef,fun _ => rfl⟩
 obtain ⟨φa,hIa⟩ := hI.anch hav ts
 obtain ⟨φ0,k1,k2,_⟩ := (Held.bare.2 hIa.held).le (h0 av)
 have k1 := Held.bare.1 k1
 have k2 : ∀ b,ownS (I av 0 i0) φ0 b -> ownS (anchS av s ts) φa b := k2
 have hfn := hI.evD hg
 generalize hv : a.eval g = v at hfn
 cases hfn with
 | fn _ vs _ hl hrr =>
 refine wpIn_rangeFunc fun fn _ => ?_
 have go : ∀ (l : Nat) (mk : Option Nat) (W1 : World) (dfs : Nat),(mk.isSome = true -> D0.rnd = false) -> w.heap.size <= l -> (∀ m,mk = some m -> w.heap.size <= m /\ m ≠ l /\ W1.heap[m]? = some (.deferred (some []))) -> (∀ b,b < w.heap.size -> W1.heap[b]? = w.heap[b]?) -> w.heap.size <= W1.heap.size →
   (W1.os = w.os /\ W1.tape = w.tape /\ W1.output = w.output) -> W1.heap[l]? = some (.loop { state := .ready,pending := none,fn,tmps := a.tmps,params := ps,assign,body,defers := dfs }) →
   Enters P gf /\ CallsIn (FW ro) 0 P gf (#[.func (.yield l) #[] #[]] ++ vs) W1 (rangePost (FW ro) 0 P l (Lift W0 D0 nt Q) { a with defers := marksOf mk ++ a.defers }):= by
  intro l mk W1 dfs hmr hlw hmw hW1 hW1s hW1o hW1l
  generalize hrec : ({ state := .ready,pending := none,fn,tmps := a.tmps,params := ps,assign,body,defers := dfs } : Loop) = rec at hW1l
  have hround' : (loopE L (I av) J l mk rec).Round P:= by
   subst hrec
   exact loopE_round rfl rfl hI.size hav (fun p hp => by simpa using hps p hp) hxl (hanc av) (hround av)
  have hlt1 : l < W1.heap.size := (Array.getElem?_eq_some_iff.1 hW1l).1
  have own0 : ∀ b,ownS (I av 0 i0) φ0 b -> ¬ D b /\ b < w.heap.size := fun b hb => by
   obtain ⟨id,ob,ho,hb'⟩ := k2 b hb
   exact hIa.held.own id ob b ho hb'
  have hHW : Held (I av 0 i0) D φ0 W1 := k1.mono (D' := D) (fun b hb => hW1 b (hI.dlt b hb)) fun b hb => hW1 b (own0 b hb).2
  obtain ⟨B0,hB0⟩ : ∃ B0 : Nat -> Prop,∀ b,B0 b ↔ b = l \/ some b = mk \/ ownS (I av 0 i0) φ0 b := ⟨_,fun b => Iff.rfl⟩
  have hB0n : ∀ b,B0 b -> ¬ D b /\ b < W1.heap.size := fun b hb => by
   rcases (hB0 b).1 hb with rfl | q | q
   ·exact ⟨fun h => by have := hI.dlt _ h; omega,hlt1⟩
   ·obtain ⟨z1,_,z3⟩ := hmw b q.symm
    exact ⟨fun h => by have := hI.dlt _ h; omega,(Array.getElem?_eq_some_iff.1 z3).1⟩
   ·obtain ⟨z1,z2⟩ := own0 b q; exact ⟨z1,by omega⟩
  have hJ0 : loopJ (I av) J l mk rec 0 B0 D W1 := ⟨i0,D,φ0,hJ0,hHW,fun _ h => h,hW1l,fun m hm => ⟨(hmw m hm).2.2,(hmw m hm).2.1,fun h => by have := (own0 m h).2; have := (hmw m hm).1; omega⟩,hB0,fun h => by have := (own0 l h).2; omega⟩
  have hc := hit (loopE L (I av) J l mk rec) B0 rfl hround'
  refine ⟨hc.1,?_⟩
  have hobE : ∀ id ob,(entryX (.yld 0 :: caps.map .pv) [(0,.ext (loopE L (I av) J l mk rec) 0 B0)] 1).obj id = some ob -> id = 0 /\ ob = .ext (loopE L (I av) J l mk rec) 0 B0 := fun id ob h => by
   have := look_map [(0,AObj.ext (loopE L (I av) J l mk rec) 0 B0)] id ob h
   simp at this; exact this
  have hown : ∀ b,ownS (entryX (.yld 0 :: caps.map .pv) [(0,.ext (loopE L (I av) J l mk rec) 0 B0)] 1) (fun _ => .map (some l)) b -> B0 b := fun b ⟨id,ob,ho,hb⟩ => by
   obtain ⟨rfl,rfl⟩ := hobE id ob ho; exact hb
  have hcall := hc.2 W1 D (fun _ => .map (some l)) (#[.func (.yield l) #[] #[]] ++ vs) ((hI.kok (X' := fun b => ¬ D b) hr.2.2 (fun _ h => h) (fun _ hb h => h hb)).at (fun _ h => h) (fun b hb _ hx => (hB0n b (hown b hx)).1 hb) hW1s (fun b hb _ _ => hW1 b (hI.dlt b hb))) ⟨fun b hb => by have := hI.dlt b hb; omega,fun id ob ho => by
    obtain ⟨rfl,rfl⟩ := hobE id ob ho
    exact ⟨Nat.lt_succ_self 0,rfl,loopE_mono,rfl,(hB0 l).2 (.inl rfl),hJ0⟩,fun id ob b ho hb => by
    obtain ⟨rfl,rfl⟩ := hobE id ob ho; exact hB0n b hb,fun id ob id' ob' b ho ho' _ _ => by rw [(hobE id ob ho).1,(hobE id' ob' ho').1]⟩ (by simp [hl]; omega)
   (fun j v x hv hx => by
    cases j with
    | zero =>
     have hv2 : v = .func (.yield l) #[] #[] := by rw [Array.getElem?_append_left (by simp)] at hv; simpa using hv.symm
     simp at hx; subst hv2; subst hx; exact ⟨rfl,.yld 0 l rfl⟩
    | succ j =>
     simp only [List.getElem?_cons_succ,List.getElem?_map,Option.map_eq_some_iff] at hx
     obtain ⟨p,hp,rfl⟩ := hx
     rw [Array.getElem?_append_right (by simp)] at hv
     exact ⟨rfl,.pv _ _ ((hrr j v p (by simpa using hv) hp).mono (fun b hb => hW1 b (hI.dlt b hb)) (fun _ h => h))⟩)
  refine (callsIn_wide (n := 0)).2 (Calls.mono hcall ?_)
  rintro e w3 ⟨sf,D',φ',p1,p2,p3,p4,p5,p6⟩
  rcases p6 with ⟨v',rfl,_,B',hsf⟩ | ⟨_,_,_,hf⟩
  ·obtain ⟨_,_,_,q1,q2,q3⟩ := p4.objs 0 _ hsf
   have q3 : loopJ (I av) J l mk rec L.length B' D' w3 := q3
   have hl3 := q3
   obtain ⟨_,_,_,_,_,_,hl3,_⟩ := hl3
   have hX : ∀ b,ownS (entryX (.yld 0 :: caps.map .pv) [(0,.ext (loopE L (I av) J l mk rec) 0 B0)] 1) (fun _ => .map (some l)) b -> B0 b := hown
   have hX' : ∀ b,B0 b -> ownS (entryX (.yld 0 :: caps.map .pv) [(0,.ext (loopE L (I av) J l mk rec) 0 B0)] 1) (fun _ => .map (some l)) b := fun b hb => ⟨0,_,rfl,hb⟩
   obtain ⟨i,φ1,hJi,hI'⟩ := loop_end (fin := { rec with state := .exhausted }) (ro := ro) (hanc av) hIa hav hmr hlw (fun m hm => ⟨(hmw m hm).1,(hmw m hm).2.1⟩) hW1 hW1s hW1o (B0 := B0) (fun b hb => by
     rcases (hB0 b).1 hb with q | q | q
     ·exact .inl q
     ·exact .inr (.inl q)
     ·exact .inr (.inr (k2 b q))) ⟨p1.os,p1.tape,p1.output,p1.size,fun k hk hx => p1.block k hk fun h => hx (hX k h)⟩ p2 (fun b hb => (p3 b hb).imp (fun h => h) (fun h => h.imp (hX b) (fun h => h))) p4.dlt
     (fun b hb => ⟨(p5 b ⟨0,_,hsf,hb⟩).imp (hX b) (fun h => h),(p4.own 0 _ b hsf hb).1⟩) q3
   refine ⟨none,_,?_,⟨I av L.length i,D',φ1,hI',hdone av i hJi⟩⟩
   have := run_endLoop (P := P) hl3 (by rw [<- hrec]; simp)
   rw [this]; rw [<- hrec]
  ·exact hf.elim
 have fin : ∀ (l : Nat) (mk : Option Nat) (W1 : World),(Instr.enterLoop fn a.tmps ps assign body ro).run P w = .ok (l,marksOf mk) W1 →
   (Enters P gf /\ CallsIn (FW ro) 0 P gf (#[.func (.yield l) #[] #[]] ++ vs) W1 (rangePost (FW ro) 0 P l (Lift W0 D0 nt Q) { a with defers := marksOf mk ++ a.defers })) →
   ∃ (l : Nat) (mark : List Deferred) (w₁ : World) (d : Deferred) (w₁' : World) (f : FuncId) (args : Array Value) (w₂ : World),(Instr.enterLoop fn a.tmps ps assign body ro).run P w = .ok (l,mark) w₁ /\ (resolve a.eval (rangeCall g l) 0).run P w₁ = .ok d w₁' /\
    (∀ f',Target.leads P w₁' d.target d.args = some f' -> (FW ro).fn f') /\ (invoke d.target d.args).run P w₁' = .ok (.enter f args) w₂ /\ ((FW ro).depth.isSome = true -> 1 <= 0) /\ CallsIn (FW ro) (0 - 1) P f args w₂ (rangePost (FW ro) 0 P l (Lift W0 D0 nt Q) { a with defers := mark ++ a.defers }):= by
  rintro l mk W1 hent ⟨hen,hcall⟩
  refine ⟨l,marksOf mk,W1,{ target := .fn (.func gf) vs,args := #[.func (.yield l) #[] #[]] },W1,gf,#[.func (.yield l) #[] #[]] ++ vs,W1,hent,?_,fun _ _ => trivial,?_,fun h => (by cases h),?_⟩
  rotate_right
  ·exact hcall
  ·simp only [resolve,hv]; simp [go_sem]
  ·simp [invoke,go_sem,hen _ _]
 cases ro with
 | none =>
  refine fin (w.heap.size + 1) (some w.heap.size) _ (run_enterLoop_outer _ _ _ _ _) (go _ _ _ w.heap.size (fun _ => hr.1) (by omega) (fun m hm => ?_) (fun b hb => ?_) (by simp; omega) ⟨rfl,rfl,rfl⟩ ?_)
  ·cases hm
   refine ⟨Nat.le_refl _,by omega,?_⟩
   exact (Below.heap_alloc _ _ _ (by simp)).trans (World.alloc_heap_new w _)
  ·exact (Below.heap_alloc _ _ _ (by simp; omega)).trans (Below.heap_alloc _ _ _ hb)
  ·have := World.alloc_heap_new (w.alloc (.deferred (some []))) (.loop { state := .ready,pending := none,fn,tmps := a.tmps,params := ps,assign,body,defers := w.heap.size })
   rwa [World.size_alloc] at this
 | some l0 =>
  obtain ⟨⟨r0,hr0⟩,hx0⟩ := hr.2.1 l0 rfl
  have hl0 : w.heap[l0]? = some (.loop r0) := (hI.below.block l0 (Array.getElem?_eq_some_iff.1 hr0).1 hx0).trans hr0
  refine fin w.heap.size none _ (run_enterLoop_inner hl0 _ _ _ _ _) (go _ _ _ r0.defers (fun h => by cases h) (Nat.le_refl _) (fun m hm => by cases hm) (fun b hb => Below.heap_alloc _ _ _ hb) (by simp) ⟨rfl,rfl,rfl⟩ ?_)
  exact World.alloc_heap_new w _
end
end Go.Abs
namespace Go.Abs
open Go.RowKit
set_option linter.unusedVariables false
section
variable {P : Program} {T : Nat -> Option TyI} {nt : Nat} {s : ASt} {o : Oper} {ops : Array Oper} {rest : List Oper} {Q : Exit -> ASt -> Prop}
theorem addr_add_add (b : Addr) (q j : Nat) : (b.add q).add j = b.add (q + j):= by
 unfold Addr.add
 by_cases h0 : q = 0
 ·subst h0; simp
 ·by_cases hj : j = 0
  ·subst hj; simp [h0]
  ·simp [h0,hj,Nat.add_assoc]
theorem addr_add_block (b : Addr) (q : Nat) : (b.add q).block = b.block := by unfold Addr.add; split <;> rfl
theorem run_sliceAt {t e : Nat} {ti ei : TyI} (hT : TabOK P T) (ht : T t = some ti) (hk : ti.kind = .slice e) (he : T e = some ei) (w : World) (ad : Option Addr) (n c lo hi : Nat) (h1 : lo <= hi) (h2 : hi <= c) (vlo vhi : Option Value)
  (hlo : (vlo = none /\ lo = 0) \/ ∃ k,vlo = some (.int k (lo : Int))) (hhi : (vhi = none /\ hi = n) \/ ∃ k,vhi = some (.int k (hi : Int))) :
  (Instr.sliceAt t (.slice ad n c) vlo vhi none).run P w = .ok (.slice (if c = lo then ad else ad.map (·.add (lo * ei.size))) (hi - lo) (c - lo)) w:= by
 have hund := (hT.ty ht).slice hk
 have hsz := (hT.ty he).run_size w
 have b1 : (Instr.sliceBounds true n c vlo vhi none).run P w = .ok (lo,hi,c) w:= by
  rcases hhi with ⟨rfl,rfl⟩ | ⟨k,rfl⟩ <;> rcases hlo with ⟨rfl,rfl⟩ | ⟨k',rfl⟩ <;> simp [Instr.sliceBounds,Instr.sliceBound,asIntOf] <;> (try omega) <;> simp [h1,h2]
 simp only [Instr.sliceAt,underlying,Sem.run_bind,hund,Result.andThen_ok,Instr.slice,b1,hsz,Sem.run_pure]
 simp [underlying,hund,b1,hsz]
theorem op_slice_sl {t e lo hi : Nat} {x : Operand} {olo ohi : Option Operand} {ti ei : TyI} {es : List (List PV)} (hT : TabOK P T) (ho : o.op = .slice t x olo ohi none) (hd : dstB nt o.dst = true) (ht : T t = some ti) (hk : ti.kind = .slice e) (he : T e = some ei)
  (hx : s.evD x = some (.sl es)) (hel : ∀ el ∈ es,el.length = ei.size) (hlo : (olo = none /\ lo = 0) \/ ∃ y k,olo = some y /\ s.ev y = some (.pv (.int k (lo : Int)))) (hhi : (ohi = none /\ hi = es.length) \/ ∃ y k,ohi = some y /\ s.ev y = some (.pv (.int k (hi : Int))))
  (h1 : lo <= hi) (h2 : hi <= es.length) : OpTo P nt o s (s.putO o.dst (some (.pv (.sl ((es.take hi).drop lo))))) :=
 OpTo.value hd fun W0 D0 D φ a w hI => by
  have hr := hI.evD hx
  generalize hv : a.eval x = v at hr
  cases hr with
  | sl ad m c sz es us hm hcap hmax hsz' ha hlf hr =>
   subst hm
   have hrun := run_sliceAt hT ht hk he w ad es.length c lo hi h1 (by omega) (olo.map a.eval) (ohi.map a.eval)
    (by
      rcases hlo with ⟨rfl,h⟩ | ⟨y,k,rfl,h⟩
      ·exact .inl ⟨rfl,h⟩
      ·exact .inr ⟨k,by simp [hI.ev_int h]⟩)
    (by
      rcases hhi with ⟨rfl,h⟩ | ⟨y,k,rfl,h⟩
      ·exact .inl ⟨rfl,h⟩
      ·exact .inr ⟨k,by simp [hI.ev_int h]⟩)
   refine ⟨_,by simp only [execOp,ho,hv,Option.map_none,Sem.run_bind,hrun,Result.andThen_ok,Sem.run_pure]; rfl,fun x' hx' => ?_⟩
   cases hx'
   refine ⟨rfl,.pv _ _ ?_⟩
   have hlen : ((es.take hi).drop lo).length = hi - lo := by simp; omega
   have hget : ∀ i,i < hi - lo -> ((es.take hi).drop lo)[i]? = es[lo + i]? := fun i hi' => by rw [List.getElem?_drop,List.getElem?_take,if_pos (by omega)]
   have hlt : ∀ i el,((es.take hi).drop lo)[i]? = some el -> i < hi - lo /\ es[lo + i]? = some el := fun i el h => by
    have := (List.getElem?_eq_some_iff.1 h).1
    rw [hlen] at this
    exact ⟨this,by rw [<- hget i this]; exact h⟩
   refine .sl _ _ _ sz _ (fun i j => us (lo + i) j) hlen.symm (by omega) (by omega) (fun i el h => hsz' _ el (hlt i el h).2) (fun i j hi' hj => ?_) (fun i j el p h hp => hlf _ j el p (hlt i el h).2 hp) (fun i j el p h hp => hr _ j el p (hlt i el h).2 hp)
   obtain ⟨b,rfl,hD,hc⟩ := ha (lo + i) j (by omega) hj
   have hss : sz = ei.size:= by
    have hi2 : lo + i < es.length := by omega
    rw [<- hsz' (lo + i) es[lo + i] (by simp [hi2])]; exact hel _ (List.getElem_mem hi2)
   rw [if_neg (by omega)]
   refine ⟨b.add (lo * ei.size),rfl,by rw [addr_add_block]; exact hD,?_⟩
   rw [addr_add_add,<- hss,show lo * sz + (i * sz + j) = (lo + i) * sz + j by rw [Nat.add_mul]; omega]
   exact hc
theorem op_slice_own {t e id sz hi : Nat} {x y : Operand} {k : IntKind} {ti ei : TyI} {es : List (List PV)} (hT : TabOK P T) (ho : o.op = .slice t x none (some y) none) (hd : dstB nt o.dst = true) (ht : T t = some ti) (hk : ti.kind = .slice e) (he : T e = some ei)
  (hx : s.ev x = some (.arr id)) (hob : s.obj id = some (.arr e sz es)) (hy : s.ev y = some (.pv (.int k (hi : Int)))) (h2 : hi <= es.length) :
  OpTo P nt o s (((s.setObj id none).newObj (.arr e sz (es.take hi))).putO o.dst (some (.arr s.nxt))):= by
 intro ro W0 D0 D φ a w hI hko K Q hK
 obtain ⟨hid,_,xs,hown,hxr⟩ := hI.objs id _ hob
 have hv0 : a.eval x = φ id:= by
  have := (hI.ev hx).2
  generalize a.eval x = v at this
  cases this with
  | arr id n c ad h => exact h.symm
 obtain ⟨ad,c,hv,hnc⟩ := ownsRow_slice hown
 have hrun0 := run_sliceAt hT ht hk he w ad es.length c 0 hi (Nat.zero_le _) (by omega) none (some (a.eval y)) (.inl ⟨rfl,rfl⟩) (.inr ⟨k,by rw [hI.ev_int hy]⟩)
 have hval : (Value.slice (if c = 0 then ad else ad.map (·.add (0 * ei.size))) (hi - 0) (c - 0)) = .slice ad hi c:= by
  have : ad.map (·.add (0 * ei.size)) = ad := by cases ad <;> simp [Addr.add]
  rw [this]; simp
 rw [hval] at hrun0
 have hrun : (execOp a.eval o).run P w = .ok (.value (.slice ad hi c)) w:= by
  simp only [execOp,ho,hv0,hv,Option.map_none,Option.map_some,Sem.run_bind,hrun0,Result.andThen_ok,Sem.run_pure]
 refine wpIn_of (by rw [ho]; intro c hc; cases hc) ?_
 unfold Oper.wp
 rw [hrun]
 have hl : (es.take hi).length = hi := by simp; omega
 have hN : Inv W0 D0 nt ((s.setObj id none).newObj (.arr e sz (es.take hi))) D (addH φ s.nxt (.slice ad hi c)) a w:= by
  refine hI.chg s.nxt (fun j => j = id) (Below.refl _ _) (fun _ _ _ => rfl) (fun _ h => h) (fun b hb => .inl hb) (fun j hj => addH_old _ _ hj) (Nat.le_succ _) (fun t x hx => hx) ?_ ?_
  ·intro id' ob' hne ho'
   rw [ASt.obj_newObj] at ho'
   have hn2 : (s.setObj id none).nxt = s.nxt := rfl
   rw [hn2,if_neg (fun e => hne e.symm),ASt.obj_setObj] at ho'
   by_cases h2 : id = id'
   ·rw [if_pos h2] at ho'; cases ho'
   ·rw [if_neg h2] at ho'; exact ⟨fun e => h2 e.symm,ho'⟩
  ·intro ob' ho'
   rw [ASt.obj_newObj] at ho'
   have hn2 : (s.setObj id none).nxt = s.nxt := rfl
   rw [hn2,if_pos rfl] at ho'
   cases ho'
   refine ⟨Nat.lt_succ_self _,rfl,⟨xs.take (hi * sz),?_,?_,?_⟩,?_⟩
   ·rw [addH_new,hl]
    refine ⟨?_,?_⟩
    ·rw [List.length_take,hown.1]; exact Nat.min_eq_left (Nat.mul_le_mul_right _ h2)
    ·rcases hown.2 with ⟨q1,q2⟩ | ⟨g,cap,cur,q1,q2,q3,q4,q5,q6,q7⟩
     ·rw [hv] at q1
      simp only [Value.slice.injEq] at q1
      obtain ⟨rfl,_,rfl⟩ := q1
      exact .inl ⟨by rw [show hi = 0 by omega],by omega⟩
     ·rw [hv] at q1
      simp only [Value.slice.injEq] at q1
      obtain ⟨rfl,_,rfl⟩ := q1
      refine .inr ⟨g,c,cur,rfl,q2,q3,by omega,q5,q6,?_⟩
      rw [<- q7,List.take_take,Nat.min_eq_left (Nat.mul_le_mul_right _ h2)]
   ·intro i el hi'
    exact hxr.1 i el (List.mem_of_getElem? hi' |> fun _ => by rw [List.getElem?_take] at hi'; split at hi'; exact hi'; cases hi')
   ·intro i j el p hi' hp
    rw [List.getElem?_take] at hi'
    split at hi'
    ·rename_i hlt
     obtain ⟨r1,u,r2,r3⟩ := hxr.2 i j el p hi' hp
     refine ⟨r1,u,?_,r3⟩
     have hj : j < sz := by rw [<- hxr.1 i el hi']; exact (List.getElem?_eq_some_iff.1 hp).1
     have : i * sz + sz <= hi * sz := by have := Nat.mul_le_mul_right sz (Nat.succ_le_of_lt hlt); rwa [Nat.succ_mul] at this
     rw [List.getElem?_take,if_pos (by omega)]; exact r2
    ·cases hi'
   ·intro b hb
    have hb2 : blk (.slice ad hi c) = some b := by simpa [oblk,addH_new] using hb
    have hob2 : oblk φ id (.arr e sz es) b:= by
     show blk (φ id) = some b
     rw [hv]; cases ad <;> exact hb2
    obtain ⟨g1,g2,g3⟩ := hI.own id _ b hob hob2
    exact ⟨g1,g3,.inr ⟨id,_,rfl,hob,hob2⟩⟩
 refine hK D _ _ _ (hN.put o.dst (dstB_lt hd) _ _ fun x' hx' => ?_)
 cases hx'
 exact ⟨by simp [FV.lt,ASt.newObj,ASt.setObj],.arr _ _ _ _ (addH_new _ _ _)⟩
theorem AL_slice_clear {o2 : Oper} {t e id sz lo d : Nat} {x y : Operand} {k : IntKind} {ti ei : TyI} {es : List (List PV)} {zp : List PV} (hT : TabOK P T) (hg : o.guard = none) (hg2 : o2.guard = none) (ho : o.op = .slice t x (some y) none none) (hdst : o.dst = some d) (hd : Nat.blt d nt = true)
  (ho2 : o2.op = .call { callee := .builtin .clear,args := #[.tmp d],argTypes := #[t] }) (hd2 : o2.dst = none) (ht : T t = some ti) (hk : ti.kind = .slice e) (he : T e = some ei) (hzl : Nat.beq zp.length ei.size = true) (hz : ei.zero = zp.map .pv)
  (hx : s.ev x = some (.arr id)) (hob : s.obj id = some (.arr e sz es)) (hsz : Nat.beq sz ei.size = true) (hy : s.ev y = some (.pv (.int k (lo : Int)))) (h1 : lo <= es.length)
  (h : AL P nt ops rest Q ((s.put d none).setObj id (some (.arr e sz (es.take lo ++ List.replicate (es.length - lo) zp))))) : AL P nt ops (o :: o2 :: rest) Q s:= by
 intro ro W0 D0 D φ a w hr hI
 have hdl : d < nt := by simpa using hd
 have hzl' := Nat.eq_of_beq_eq_true hzl
 have hss := Nat.eq_of_beq_eq_true hsz
 obtain ⟨hid,_,xs,hown,hxr⟩ := hI.objs id _ hob
 have hv0 : a.eval x = φ id:= by
  have := (hI.ev hx).2
  generalize a.eval x = v at this
  cases this with
  | arr id n c ad h => exact h.symm
 obtain ⟨ad,c,hv,hnc⟩ := ownsRow_slice hown
 have hrun0 := run_sliceAt hT ht hk he w ad es.length c lo es.length h1 hnc (some (a.eval y)) none (.inr ⟨k,by rw [hI.ev_int hy]⟩) (.inl ⟨rfl,rfl⟩)
 generalize hval : (Value.slice (if c = lo then ad else ad.map (·.add (lo * ei.size))) (es.length - lo) (c - lo)) = val at hrun0
 have hrun : (execOp a.eval o).run P w = .ok (.value val) w:= by
  simp only [execOp,ho,hv0,hv,Option.map_none,Option.map_some,Sem.run_bind,hrun0,Result.andThen_ok,Sem.run_pure]
 have hI1 := hI.put (some d) (fun d' hd' => by cases hd'; exact hdl) val none (fun _ h => by cases h)
 have hval1 : (a.put (some d) val).eval (.tmp d) = val:= by
  simp [Act.eval,Act.put,Array.getD_eq_getD_getElem?,hI.size,hdl]
 have hund := (hT.ty ht).slice hk
 obtain ⟨info,z,i1,i2,i3,i4,i5⟩ := (hT.ty he).info
 obtain ⟨z1,z2,z3⟩ := zrepL_ok i5
 have hzc : z.cells.size = ei.size := by simp [hz] at z1; omega
 have hrepl : (es.take lo ++ List.replicate (es.length - lo) zp).length = es.length := by simp; omega
 have hlenE : ∀ (i : Nat) (el : List PV),(es.take lo ++ List.replicate (es.length - lo) zp)[i]? = some el -> el.length = sz:= by
  intro i el hi
  by_cases hil : i < lo
  ·rw [List.getElem?_append_left (by simp; omega),List.getElem?_take,if_pos hil] at hi
   exact hxr.1 i el hi
  ·rw [List.getElem?_append_right (by simp; omega),List.getElem?_replicate] at hi
   split at hi <;> cases hi
   omega
 have key : ∃ w2,(execOp (a.put (some d) val).eval o2).run P w = .ok (.value (.tuple #[])) w2 /\ Inv W0 D0 nt ((s.put d none).setObj id (some (.arr e sz (es.take lo ++ List.replicate (es.length - lo) zp)))) D φ (a.put (some d) val) w2:= by
  by_cases hlast : es.length - lo = 0
  ·refine ⟨w,?_,?_⟩
   ·obtain ⟨q,hq⟩ : ∃ q,val = .slice q 0 (c - lo) := ⟨_,by rw [<- hval,hlast]⟩
    have hval2 := hval1
    generalize (a.put (some d) val).eval = ρ at hval2
    rw [hq] at hval2
    cases q <;> simp [execOp,ho2,resolve,invoke,builtin,hval2,Builtin.clear_,underlying,hund]
   ·have : es.take lo ++ List.replicate (es.length - lo) zp = es := by rw [hlast]; simp; rw [List.take_of_length_le (by omega)]
    rw [this]
    refine hI1.weaken (fun t x hx => hx) (fun id' ob' ho' => ?_) (fun t x hx => (hI1.env t x hx).1) (fun id' ob' ho' => ?_)
    all_goals
     rw [ASt.obj_setObj] at ho'
     split at ho'
     ·rename_i he; subst he; cases ho'; first | exact hob | exact ⟨hid,rfl⟩
     ·first | exact ho' | exact ⟨(hI1.objs id' ob' ho').1,(hI1.objs id' ob' ho').2.1⟩
  ·rcases hown.2 with ⟨q1,q2⟩ | ⟨g,cap,cur,q1,q2,q3,q4,q5,q6,q7⟩
   ·omega
   ·rw [hv] at q1
    simp only [Value.slice.injEq] at q1
    obtain ⟨rfl,_,rfl⟩ := q1
    have hvv : val = .slice (some ⟨g,lo * ei.size,none⟩) (es.length - lo) (c - lo):= by
     rw [<- hval,if_neg (by omega)]
     simp only [Option.map_some,addr_add,Nat.zero_add]
    have hzcl : (Builtin.zeroCells z.cells (es.length - lo)).size = (es.length - lo) * ei.size := by simp [Builtin.zeroCells,hzc]
    have hzget : ∀ j,j < (es.length - lo) * ei.size -> (Builtin.zeroCells z.cells (es.length - lo)).toList[j]? = z.cells[j % ei.size]? := fun j hj => by
     have hp : 0 < ei.size:= by
                   rcases Nat.eq_zero_or_pos ei.size with h | h; · rw [h] at hj; omega
                   ·exact h
     have hm : j % ei.size < z.cells.size := by rw [hzc]; exact Nat.mod_lt _ hp
     rw [Array.getElem?_toList]
     simp only [Builtin.zeroCells,Array.getElem?_map,hzc]
     rw [Array.getElem?_range,if_pos hj]
     simp only [Option.map_some]
     rw [getElem!_pos z.cells (j % ei.size) hm,Array.getElem?_eq_getElem hm]
    have hone : ∀ u ∈ (Builtin.zeroCells z.cells (es.length - lo)).toList,u.oneCell' = true:= by
     intro u hu
     obtain ⟨j,hj⟩ := List.mem_iff_getElem?.1 hu
     have hjl : j < (es.length - lo) * ei.size := by rw [<- hzcl]; simpa using (List.getElem?_eq_some_iff.1 hj).1
     rw [hzget j hjl] at hj
     have hjz : j % ei.size < ei.zero.length := by rw [<- z1]; simpa using (Array.getElem?_eq_some_iff.1 hj).1
     obtain ⟨l1,l2⟩ := z3 (j % ei.size) u ei.zero[j % ei.size] (by simpa using hj) (by simp [hjz])
     exact (l2 w D φ).oneCell l1
    have hfit : lo * ei.size + (es.length - lo) * ei.size <= cur.size:= by
     rw [q6,<- Nat.add_mul,<- hss]; exact Nat.mul_le_mul_right _ (by omega)
    have hst := run_storeCells_at P g (lo * ei.size) e (Builtin.zeroCells z.cells (es.length - lo)).toList 0 cur w q3 (by simp only [Array.length_toList,hzcl]; omega) hone
    simp only [Nat.add_zero] at hst
    have hst' : (storeCells ⟨g,lo * ei.size,none⟩ (Builtin.zeroCells z.cells (es.length - lo)).toList).run P w = .ok () (w.setRow g (splice cur.toList (lo * ei.size) (Builtin.zeroCells z.cells (es.length - lo)).toList).toArray) := hst
    refine ⟨w.setRow g (splice cur.toList (lo * ei.size) (Builtin.zeroCells z.cells (es.length - lo)).toList).toArray,?_,?_⟩
    ·obtain ⟨m,hm⟩ : ∃ m,es.length - lo = m + 1 := ⟨es.length - lo - 1,by omega⟩
     have hval2 := hval1
     generalize (a.put (some d) val).eval = ρ at hval2 ⊢
     rw [hvv,hm] at hval2
     rw [hm] at hst' ⊢
     simp [execOp,ho2,resolve,invoke,builtin,hval2,Builtin.clear_,underlying,hund,zeroValue,typeInfo,i1,i4,hst']
    ·have hok : ∀ es',oblk φ id (.arr e sz es') g := by intro es'; show blk (φ id) = some g; rw [hv]; rfl
     have hDk : ∀ b',D b' -> (w.setRow g (splice cur.toList (lo * ei.size) (Builtin.zeroCells z.cells (es.length - lo)).toList).toArray).heap[b']? = w.heap[b']?:= by
      intro b' hb'
      exact setRow_other _ _ _ _ (fun e => (hI.own id _ g hob (hok _)).1 (e ▸ hb'))
     have hlen : lo * ei.size + (Builtin.zeroCells z.cells (es.length - lo)).toList.length <= cur.toList.length := by simp only [Array.length_toList,hzcl]; omega
     have hcl : (Builtin.zeroCells z.cells (es.length - lo)).toList.length = (es.length - lo) * ei.size := by simp only [Array.length_toList,hzcl]
     have hsl : (splice cur.toList (lo * ei.size) (Builtin.zeroCells z.cells (es.length - lo)).toList).length = cur.size:= by
      rw [splice_length _ _ _ hlen]; simp
     refine hI1.chg id (fun j => j = id) ⟨rfl,rfl,rfl,by simp,fun k hk => absurd hk (Nat.not_lt_zero _)⟩ ?_ (fun _ h => h) (fun b' hb' => .inl hb') (fun _ _ => rfl) (Nat.le_refl _) (fun t x hx => hx) ?_ ?_
     ·intro b' _ hne
      exact setRow_other _ _ _ _ (fun e => hne id _ rfl hob (by rw [e]; exact hok _))
     ·intro id' ob' hne ho'
      rw [ASt.obj_setObj,if_neg (fun e => hne e.symm)] at ho'
      exact ⟨hne,ho'⟩
     ·intro ob' ho'
      rw [ASt.obj_setObj,if_pos rfl] at ho'
      cases ho'
      refine ⟨hid,rfl,⟨(splice cur.toList (lo * ei.size) (Builtin.zeroCells z.cells (es.length - lo)).toList).take (es.length * sz),⟨?_,.inr ⟨g,c,_,by rw [hrepl]; exact hv,q2,setRow_heap w g cur _ e _ q3,by rw [hrepl]; exact q4,q5,by simp [hsl,q6],by simp [hrepl]⟩⟩,hlenE,?_⟩,?_⟩
      ·rw [hrepl,List.length_take,hsl,q6]; exact Nat.min_eq_left (Nat.mul_le_mul_right _ q4)
      ·intro i j el p hi' hp
       have hil : i < es.length := by rw [<- hrepl]; exact (List.getElem?_eq_some_iff.1 hi').1
       have hj : j < sz := by rw [<- hlenE i el hi']; exact (List.getElem?_eq_some_iff.1 hp).1
       have his : i * sz + sz <= es.length * sz := by have := Nat.mul_le_mul_right sz (Nat.succ_le_of_lt hil); rwa [Nat.succ_mul] at this
       rw [List.getElem?_take,if_pos (by omega),splice_get _ _ _ hlen,hcl]
       by_cases hilo : i < lo
       ·rw [List.getElem?_append_left (by simp; omega),List.getElem?_take,if_pos hilo] at hi'
        have : i * sz + sz <= lo * sz := by have := Nat.mul_le_mul_right sz (Nat.succ_le_of_lt hilo); rwa [Nat.succ_mul] at this
        rw [if_neg (by rw [<- hss]; omega)]
        obtain ⟨r1,u,r2,r3⟩ := hxr.2 i j el p hi' hp
        refine ⟨r1,u,?_,r3.mono hDk (fun _ h => h)⟩
        rw [<- q7,List.getElem?_take,if_pos (by omega)] at r2; exact r2
       ·rw [List.getElem?_append_right (by simp; omega),List.getElem?_replicate] at hi'
        split at hi' <;> cases hi'
        have hlo2 : lo * sz <= i * sz := Nat.mul_le_mul_right _ (by omega)
        have hsum : lo * sz + (es.length - lo) * sz = es.length * sz := by rw [<- Nat.add_mul]; congr 1; omega
        rw [if_pos (by rw [<- hss]; omega),hzget _ (by rw [<- hss]; omega),<- hss]
        have hmod : (i * sz + j - lo * sz) % sz = j:= by
         rw [show i * sz + j - lo * sz = (i - lo) * sz + j by rw [Nat.sub_mul]; omega,Nat.mul_comm,Nat.mul_add_mod]
         exact Nat.mod_eq_of_lt hj
        rw [hmod]
        have hjz : j < z.cells.size := by omega
        obtain ⟨l1,l2⟩ := z3 j z.cells[j] (.pv p) (by simp [hjz]) (by rw [hz]; simp [hp])
        exact ⟨l1,z.cells[j],by simp [hjz],(l2 _ D φ).inv_pv⟩
      ·intro b' hb'
       have hb2 : oblk φ id (.arr e sz es) b' := hb'
       obtain ⟨g1,g2,g3⟩ := hI.own id _ b' hob hb2
       exact ⟨g1,by simpa using g3,.inr ⟨id,_,rfl,hob,hb2⟩⟩
 obtain ⟨w2,hrun2,hI2⟩ := key
 unfold wpListIn
 rw [if_pos (by simp [Region.wanted,hg])]
 refine wpIn_of (by rw [ho]; intro c hc; cases hc) ?_
 unfold Oper.wp
 rw [hrun]
 show wpListIn _ _ _ _ _ (o2 :: rest) (a.put o.dst val) w
 rw [hdst]
 unfold wpListIn
 rw [if_pos (by simp [Region.wanted,hg2])]
 refine wpIn_of (by rw [ho2]; intro c hc; cases hc) ?_
 unfold Oper.wp
 rw [hrun2]
 show wpListIn _ _ _ _ _ rest ((a.put (some d) val).put o2.dst _) w2
 rw [hd2]
 exact h ro W0 D0 D φ _ w2 hr hI2
end
end Go.Abs
namespace Go.Abs
open Go.RowKit
open Go.ChangeMaps (setBlock)
set_option linter.unusedVariables false
section
variable {P : Program} {T : Nat -> Option TyI} {nt : Nat} {s : ASt} {o : Oper} {ops : Array Oper} {rest : List Oper} {Q : Exit -> ASt -> Prop}
theorem op_makeMap {t : Nat} (ho : o.op = .makeMap t none) (hd : dstB nt o.dst = true) : OpTo P nt o s ((s.newObj (.imap [])).putO o.dst (some (.mp s.nxt))):= by
 intro ro W0 D0 D φ a w hI hko K Q hK
 have hrun : (execOp a.eval o).run P w = .ok (.value (.map (some w.heap.size))) (w.alloc (.map #[] 0)):= by
  simp [execOp,ho,Instr.makeMap]
 refine wpIn_of (by rw [ho]; intro c hc; cases hc) ?_
 unfold Oper.wp
 rw [hrun]
 have hN : Inv W0 D0 nt (s.newObj (.imap [])) D (addH φ s.nxt (.map (some w.heap.size))) a (w.alloc (.map #[] 0)):= by
  refine hI.new ((Below.refl _ w).alloc (Nat.le_refl _) _) (fun _ h => h) (fun _ h => .inl h) _ _ rfl ?_ ?_
  ·exact ⟨w.heap.size,#[],0,addH_new _ _ _,heap_alloc_new w _,rfl,by simp,by simp,.nil⟩
  ·intro b hb; cases hb
   exact ⟨Nat.le_refl _,by simp,fun h => Nat.lt_irrefl _ (hI.dlt _ h)⟩
 refine hK D _ _ _ (hN.put o.dst (dstB_lt hd) _ _ fun x' hx' => ?_)
 cases hx'
 exact ⟨by simp [FV.lt,ASt.newObj],.mp _ _ (addH_new _ _ _)⟩
def insK (ks : List Int) (n : Int) : List Int := if n ∈ ks then ks else ks ++ [n]
theorem insK_mem {ks : List Int} {n k : Int} : k ∈ insK ks n ↔ k ∈ ks \/ k = n:= by
 unfold insK
 by_cases h : n ∈ ks
 ·rw [if_pos h]
  exact ⟨.inl,fun h' => h'.elim (fun h => h) (fun e => e ▸ h)⟩
 ·rw [if_neg h]; simp
theorem findNow_ints {n : Int} : ∀ (l : List MapEntry) (ks : List Int) (i : Nat),l.map (fun e => (e.key,e.val)) = ks.map (fun k => (Value.int .i64 k,Value.bool true)) →
  (n ∉ ks /\ Instr.findNow (.int .i64) (.int .i64 n) l i = some none) \/ (n ∈ ks /\ ∃ j,Instr.findNow (.int .i64) (.int .i64 n) l i = some (some (i + j,.bool true)) /\ ∃ e,l[j]? = some e /\ e.key = .int .i64 n /\ e.val = .bool true)
 | [],[],i,_ => .inl ⟨by simp,rfl⟩
 | [],_ :: _,_,h => by simp at h
 | _ :: _,[],_,h => by simp at h
 | e :: l,k :: ks,i,h => by
  simp only [List.map_cons,List.cons.injEq,Prod.mk.injEq] at h
  obtain ⟨⟨h1,h2⟩,h3⟩ := h
  by_cases hk : n = k
  ·subst hk
   right
   refine ⟨by simp,0,?_,e,rfl,h1,h2⟩
   simp [Instr.findNow,Instr.sameNow,h1,h2]
  ·have hb : Instr.findNow (.int .i64) (.int .i64 n) (e :: l) i = Instr.findNow (.int .i64) (.int .i64 n) l (i + 1):= by
    have hnk : (n == k) = false := by simpa using hk
    simp [Instr.findNow,Instr.sameNow,h1,hnk]
   rcases findNow_ints (n := n) l ks (i + 1) h3 with ⟨q1,q2⟩ | ⟨q1,j,q2,e',q3,q4⟩
   ·exact .inl ⟨by simp [hk,q1],by rw [hb]; exact q2⟩
   ·exact .inr ⟨by simp [q1],j + 1,by rw [hb,q2]; congr 3; omega,e',by simpa using q3,q4⟩
theorem run_mapUpdate_int {t kt et : TypeId} (ht : P.underlying t = some (.map kt et)) (hk : P.underlying kt = some (.int .i64)) {w : World} {r : Nat} {es : Array MapEntry} {clock : Nat} {ks : List Int} {n : Int} (hr : w.heap[r]? = some (.map es clock)) (hM : MRep es clock ks) :
  ∃ es' clock',(Instr.mapUpdate t (.map (some r)) (.int .i64 n) (.bool true)).run P w = .ok () (setBlock w r (.map es' clock')) /\ MRep es' clock' (insK ks n):= by
 obtain ⟨m1,m2,m3,m4⟩ := hM
 have hset : ∀ o',(setObj r o').run P w = .ok () (setBlock w r o') := fun o' => by simp [setObj,Sem.run,hr,setBlock]
 have hck : (Instr.checkKey false 10000 kt (.int .i64 n)).run P w = .ok () w:= by
  exact MapKept.run_checkKey hk (by simp [MapKept.IsKey]) false 9999
 rcases findNow_ints (n := n) es.toList ks 0 m1 with ⟨q1,q2⟩ | ⟨q1,j,q2,e,q3,q4,q5⟩
 ·have hf := MapKept.run_findKey (P := P) (w := w) hk q2
  refine ⟨es.push { key := .int .i64 n,val := .bool true,born := clock },clock + 1,?_,?_,?_,?_,?_⟩
  ·simp [Instr.mapUpdate,underlying,ht,getObj,Sem.run,hr,hck,hf,hset]
   try simp [Sem.run_bind,hck,hf,hset]
  ·simp [insK,q1,m1]
  ·intro e he
   rcases Array.mem_push.1 he with he | rfl
   ·have := m2 e he; omega
   ·simp
  ·rw [Array.toList_push,List.map_append,List.nodup_append]
   refine ⟨m3,by simp,fun a ha b hb => ?_⟩
   simp at hb; subst hb
   obtain ⟨e,he,rfl⟩ := List.mem_map.1 ha
   have := m2 e (by simpa using he); omega
  ·unfold insK; rw [if_neg q1,List.nodup_append]
   exact ⟨m4,by simp,fun a ha b hb => by simp at hb; subst hb; rintro rfl; exact q1 ha⟩
 ·have hf := MapKept.run_findKey (P := P) (w := w) hk q2
  rw [Nat.zero_add] at hf
  have hj : es[j]? = some e := by simpa using q3
  have hkey : (Instr.keyThatStays (.int .i64 n) (.int .i64 n)).run P w = .ok (.int .i64 n) w := by simp [Instr.keyThatStays,Instr.sameBits]
  have hmod : es.modify j (fun e => { e with key := .int .i64 n,val := .bool true }) = es:= by
   apply Array.ext
   ·simp
   ·intro i h1 h2
    rw [Array.getElem_modify]
    split
    ·rename_i hij; subst hij
     have : es[j] = e := by rw [Array.getElem?_eq_getElem h2] at hj; cases hj; rfl
     rw [this]; cases e; simp_all
    ·rfl
  refine ⟨es,clock,?_,?_,m2,m3,?_⟩
  ·have h2 := hset (.map es clock)
   simp [Instr.mapUpdate,underlying,ht,getObj,Sem.run,hr,hck,hf,hj,q4,hkey,hmod,h2]
   try simp [Sem.run_bind,hck,hf,hj,q4,hkey,hmod,h2]
  ·unfold insK; rw [if_pos q1]; exact m1
  ·unfold insK; rw [if_pos q1]; exact m4
theorem op_mapUpdate {t kt et : TypeId} {x y z : Operand} {id : Nat} {ks : List Int} {n : Int} (hu : P.underlying t = some (.map kt et)) (hkt : P.underlying kt = some (.int .i64)) (ho : o.op = .mapUpdate t x y z \/ o.op = .insert t x y z) (hd : dstB nt o.dst = true)
  (hx : s.ev x = some (.mp id)) (hob : s.obj id = some (.imap ks)) (hy : s.ev y = some (.pv (.int .i64 n))) (hz : s.ev z = some (.pv (.bool true))) : OpTo P nt o s ((s.setObj id (some (.imap (insK ks n)))).putO o.dst none):= by
 intro ro W0 D0 D φ a w hI hko K Q hK
 obtain ⟨hid,_,r,es,clock,h1,h2,h3⟩ := hI.objs id _ hob
 have hv : a.eval x = .map (some r):= by
  have := (hI.ev hx).2
  generalize a.eval x = v at this
  cases this with
  | mp id r' h => rw [h1] at h; exact h.symm
 obtain ⟨es',clock',hrun,hM⟩ := run_mapUpdate_int (n := n) hu hkt h2 h3
 have hr : ∃ nx,(execOp a.eval o).run P w = .ok nx (setBlock w r (.map es' clock')) /\ (nx = .skip \/ ∃ v,nx = .value v):= by
  rcases ho with ho | ho
  ·simp only [execOp,ho,hv,hI.ev_int hy,hI.ev_bool hz,Sem.run_bind,hrun,Result.andThen_ok,Sem.run_pure]
   exact ⟨_,rfl,by first | exact .inl rfl | exact .inr ⟨_,rfl⟩⟩
  ·simp only [execOp,ho,hv,hI.ev_int hy,hI.ev_bool hz,Sem.run_bind,hrun,Result.andThen_ok,Sem.run_pure]
   exact ⟨_,rfl,by first | exact .inl rfl | exact .inr ⟨_,rfl⟩⟩
 obtain ⟨nx,hr,hnx⟩ := hr
 have hrw : r < w.heap.size := (Array.getElem?_eq_some_iff.1 h2).1
 have hsame : ∀ b,b ≠ r -> (setBlock w r (.map es' clock')).heap[b]? = w.heap[b]? := fun b hb => by
  simp only [setBlock]; rw [Array.getElem?_setIfInBounds,if_neg (fun e => hb e.symm)]
 have hnewb : (setBlock w r (.map es' clock')).heap[r]? = some (.map es' clock') := by simp [setBlock,hrw]
 have hok : ∀ ks',oblk φ id (.imap ks') r := fun ks' => by show blk (φ id) = some r; rw [h1]; rfl
 have hN : Inv W0 D0 nt (s.setObj id (some (.imap (insK ks n)))) D φ a (setBlock w r (.map es' clock')):= by
  refine hI.chg id (fun j => j = id) ⟨rfl,rfl,rfl,by simp [setBlock],fun k hk => absurd hk (Nat.not_lt_zero _)⟩ ?_ (fun _ h => h) (fun b' hb' => .inl hb') (fun _ _ => rfl) (Nat.le_refl _) (fun t x hx => hx) ?_ ?_
  ·intro b' _ hne
   exact hsame b' (fun e => hne id _ rfl hob (by rw [e]; exact hok _))
  ·intro id' ob' hne ho'
   rw [ASt.obj_setObj,if_neg (fun e => hne e.symm)] at ho'
   exact ⟨hne,ho'⟩
  ·intro ob' ho'
   rw [ASt.obj_setObj,if_pos rfl] at ho'
   cases ho'
   refine ⟨hid,rfl,⟨r,es',clock',h1,hnewb,hM⟩,fun b' hb' => ?_⟩
   have hb2 : oblk φ id (.imap ks) b' := hb'
   obtain ⟨g1,g2,g3⟩ := hI.own id _ b' hob hb2
   exact ⟨g1,by simpa [setBlock] using g3,.inr ⟨id,_,rfl,hob,hb2⟩⟩
 refine wpIn_of (by rcases ho with ho | ho <;> (rw [ho]; intro c hc; cases hc)) ?_
 unfold Oper.wp
 rw [hr]
 rcases hnx with rfl | ⟨v,rfl⟩
 ·exact hK D φ _ _ (hN.put o.dst (dstB_lt hd) undef none (fun _ h => by cases h))
 ·exact hK D φ _ _ (hN.put o.dst (dstB_lt hd) v none (fun _ h => by cases h))
theorem Inv.freezeMap {W0 : World} {D0 : Bas} {D : Nat -> Prop} {φ : Nat -> Value} {a : Act} {w : World} (hI : Inv W0 D0 nt s D φ a w) {id : Nat} {ks : List Int} (hob : s.obj id = some (.imap ks)) :
  ∃ D',Inv W0 D0 nt (s.setObj id none) D' φ a w /\ ∀ v,FRep w D φ v (.mp id) -> Rep w D' v (.imap ks):= by
 obtain ⟨hid,_,r,es,clock,h1,h2,h3⟩ := hI.objs id _ hob
 refine ⟨fun b => D b \/ b = r,hI.chg id (fun j => j = id) (Below.refl _ _) (fun _ _ _ => rfl) (fun _ h => .inl h) ?_ (fun _ _ => rfl) (Nat.le_refl _) (fun t x hx => hx) ?_ ?_,?_⟩
 ·rintro b (hb | rfl)
  ·exact .inl hb
  ·have hob2 : oblk φ id (.imap ks) b := by show blk (φ id) = some b; rw [h1]; rfl
   exact .inr ⟨(hI.own id _ b hob hob2).2.2,.inr ⟨id,_,rfl,hob,hob2⟩⟩
 ·intro id' ob' hne ho'
  rw [ASt.obj_setObj,if_neg (fun e => hne e.symm)] at ho'
  exact ⟨hne,ho'⟩
 ·intro ob' ho'
  rw [ASt.obj_setObj,if_pos rfl] at ho'; cases ho'
 ·intro v hv
  cases hv with
  | mp _ r' h =>
   rw [h1] at h; cases h
   exact .imap r es clock ks (.inr rfl) h2 h3.1 h3.2.1 h3.2.2.1 h3.2.2.2
theorem Inv.mapSlot {W0 : World} {D0 : Bas} {D : Nat -> Prop} {φ : Nat -> Value} {a : Act} {w : World} (hI : Inv W0 D0 nt s D φ a w) {t id : Nat} {ks : List Int} (hx : s.get t = some (.mp id)) (hob : s.obj id = some (.imap ks)) :
  ∃ D',Inv W0 D0 nt ((s.setObj id none).put t (some (.pv (.imap ks)))) D' φ a w:= by
 obtain ⟨D',hF,hrep⟩ := hI.freezeMap hob
 obtain ⟨_,v,hv,hr⟩ := hI.env t _ hx
 have ht : t < nt := by rw [<- hI.size]; exact (Array.getElem?_eq_some_iff.1 hv).1
 have hP := hF.put (some t) (fun d' hd' => by cases hd'; exact ht) v (some (.pv (.imap ks))) (fun x' hx' => by cases hx'; exact ⟨rfl,.pv _ _ (hrep v hr)⟩)
 have hput : a.put (some t) v = a:= by
  have : a.tmps.setIfInBounds t v = a.tmps:= by
   apply Array.ext
   ·simp
   ·intro j h1 h2
    rw [Array.getElem_setIfInBounds (by simpa using h1)]
    by_cases hj : t = j
    ·subst hj; rw [if_pos rfl]; exact (Array.getElem?_eq_some_iff.1 hv).2.symm
    ·rw [if_neg hj]
  simp [Act.put,this]
 rw [hput] at hP
 exact ⟨D',hP⟩
theorem AW_mapSlot {c : Code} {t id : Nat} {ks : List Int} (hx : s.get t = some (.mp id)) (hob : s.obj id = some (.imap ks)) (h : AW P nt c Q ((s.setObj id none).put t (some (.pv (.imap ks))))) : AW P nt c Q s:= by
 intro ro W0 D0 D φ a w hr hI
 obtain ⟨D',hI'⟩ := hI.mapSlot hx hob
 exact h ro W0 D0 D' φ a w hr hI'
theorem AL_mapSlot {t id : Nat} {ks : List Int} (hx : s.get t = some (.mp id)) (hob : s.obj id = some (.imap ks)) (h : AL P nt ops rest Q ((s.setObj id none).put t (some (.pv (.imap ks))))) : AL P nt ops rest Q s:= by
 intro ro W0 D0 D φ a w hr hI
 obtain ⟨D',hI'⟩ := hI.mapSlot hx hob
 exact h ro W0 D0 D' φ a w hr hI'
theorem AW_mapBox {c : Code} {b id : Nat} {ks : List Int} (hne : Nat.beq b id = false) (hb : s.obj b = some (.box [.mp id])) (hob : s.obj id = some (.imap ks)) (h : AW P nt c Q ((s.setObj id none).setObj b (some (.box [.pv (.imap ks)])))) : AW P nt c Q s:= by
 intro ro W0 D0 D φ a w hr hI
 obtain ⟨D',hF,hrep⟩ := hI.freezeMap hob
 have hne' : b ≠ id := fun e => by subst e; simp at hne
 obtain ⟨hbn,hbl,bb,vs,e,h1,h2,h3,h4⟩ := hI.objs b _ hb
 have hbF : (s.setObj id none).obj b = some (.box [.mp id]) := by rw [ASt.obj_setObj,if_neg (fun e => hne' e.symm)]; exact hb
 refine h ro W0 D0 D' φ a w hr (hF.chg b (fun j => j = b) (Below.refl _ _) (fun _ _ _ => rfl) (fun _ h => h) (fun b hb => .inl hb) (fun _ _ => rfl) (Nat.le_refl _) (fun t x hx => hx) ?_ ?_)
 ·intro id' ob' hne ho'
  rw [ASt.obj_setObj,if_neg (fun e => hne e.symm)] at ho'
  exact ⟨hne,ho'⟩
 ·intro ob' ho'
  rw [ASt.obj_setObj,if_pos rfl] at ho'
  cases ho'
  refine ⟨hbn,rfl,⟨bb,vs,e,h1,h2,by simpa using h3,fun j v x hv hx => ?_⟩,fun b' hb' => ?_⟩
  ·cases j with
   | zero =>
    simp at hx; subst hx
    exact ⟨rfl,.pv _ _ (hrep v (h4 0 v _ hv rfl).2)⟩
   | succ j => simp at hx
  ·have hb2 : oblk φ b (.box [.mp id]) b' := hb'
   obtain ⟨g1,g2,g3⟩ := hF.own b _ b' hbF hb2
   exact ⟨g1,g3,.inr ⟨b,_,rfl,hbF,hb2⟩⟩
theorem op_rangeMap {t kt et : TypeId} {x : Operand} {ks : List Int} (hu : P.underlying t = some (.map kt et)) (ho : o.op = .range t x) (hd : dstB nt o.dst = true) (hx : s.evD x = some (.imap ks)) :
  OpTo P nt o s ((s.newObj (.iter ks ks none)).putO o.dst (some (.box s.nxt 0))):= by
 intro ro W0 D0 D φ a w hI hko K Q hK
 have hr := hI.evD hx
 generalize hv : a.eval x = v at hr
 cases hr with
 | imap r es clock ks hD hm hk hc hb hnd =>
 have hrun : (execOp a.eval o).run P w = .ok (.value (.pointer (some ⟨w.heap.size,0,none⟩))) (w.alloc (.mapIter (some r) clock #[] clock)):= by
  have h1 : (getObj r).run P w = .ok (.map es clock) w := by simp [getObj,Sem.run,hm]
  simp [execOp,ho,hv,Instr.range,underlying,hu,h1]
 refine wpIn_of (by rw [ho]; intro c hc; cases hc) ?_
 unfold Oper.wp
 rw [hrun]
 have hrw := hI.dlt r hD
 have hsame : ∀ b,b < w.heap.size -> (w.alloc (.mapIter (some r) clock #[] clock)).heap[b]? = w.heap[b]? := fun b hb => Below.heap_alloc _ _ _ hb
 have hN : Inv W0 D0 nt (s.newObj (.iter ks ks none)) D (addH φ s.nxt (.pointer (some ⟨w.heap.size,0,none⟩))) a (w.alloc (.mapIter (some r) clock #[] clock)):= by
  refine hI.new ((Below.refl _ w).alloc (Nat.le_refl _) _) (fun _ h => h) (fun _ h => .inl h) _ _ rfl ?_ ?_
  ·refine ⟨w.heap.size,r,es,clock,#[],addH_new _ _ _,heap_alloc_new w _,hD,(hsame r hrw).trans hm,⟨hk,hc,hb,hnd⟩,hnd,fun k => ?_,fun k hk => by cases hk⟩
   constructor
   ·intro hkk
    obtain ⟨j,hj⟩ := List.mem_iff_getElem?.1 hkk
    have h1 : (ks.map fun k => (Value.int .i64 k,Value.bool true))[j]? = some (.int .i64 k,.bool true) := by simp [hj]
    rw [<- hk,List.getElem?_map,Option.map_eq_some_iff] at h1
    obtain ⟨e,he,he2⟩ := h1
    simp only [Prod.mk.injEq] at he2
    exact ⟨e,List.mem_of_getElem? he,he2.1,by simp⟩
   ·rintro ⟨e,he,hek,_⟩
    have h1 : (e.key,e.val) ∈ ks.map fun k => (Value.int .i64 k,Value.bool true) := by rw [<- hk]; exact List.mem_map.2 ⟨e,he,rfl⟩
    obtain ⟨k',hk',he2⟩ := List.mem_map.1 h1
    rw [hek] at he2
    simp at he2; rw [<- he2.1]; exact hk'
  ·intro b hb; cases hb
   exact ⟨Nat.le_refl _,by simp,fun h => Nat.lt_irrefl _ (hI.dlt _ h)⟩
 refine hK D _ _ _ (hN.put o.dst (dstB_lt hd) _ _ fun x' hx' => ?_)
 cases hx'
 exact ⟨by simp [FV.lt,ASt.newObj],.box _ _ _ (addH_new _ _ _)⟩
theorem iter_key {es : Array MapEntry} {clock : Nat} {ks : List Int} (hM : MRep es clock ks) {e : MapEntry} (he : e ∈ es.toList) : ∃ k ∈ ks,e.key = .int .i64 k /\ e.val = .bool true:= by
 have h1 : (e.key,e.val) ∈ ks.map fun k => (Value.int .i64 k,Value.bool true) := by rw [<- hM.1]; exact List.mem_map.2 ⟨e,he,rfl⟩
 obtain ⟨k',hk',he2⟩ := List.mem_map.1 h1
 simp at he2
 exact ⟨k',hk',he2.1.symm,he2.2.symm⟩
theorem key_inj {es : Array MapEntry} {clock : Nat} {ks : List Int} (hM : MRep es clock ks) {e e' : MapEntry} (he : e ∈ es.toList) (he' : e' ∈ es.toList) (h : e.key = e'.key) : e = e':= by
 obtain ⟨j,hj⟩ := List.mem_iff_getElem?.1 he
 obtain ⟨j',hj'⟩ := List.mem_iff_getElem?.1 he'
 have hl : es.toList.length = ks.length := by have := congrArg List.length hM.1; simpa using this
 have key : ∀ (j : Nat) (e : MapEntry),es.toList[j]? = some e -> ∃ k,ks[j]? = some k /\ e.key = .int .i64 k := fun j e hj => by
  have h1 : (es.toList.map fun e => (e.key,e.val))[j]? = some (e.key,e.val) := by rw [List.getElem?_map,hj]; rfl
  rw [hM.1,List.getElem?_map,Option.map_eq_some_iff] at h1
  obtain ⟨k,hk,he⟩ := h1
  simp at he
  exact ⟨k,hk,he.1.symm⟩
 obtain ⟨k,q1,q2⟩ := key j e hj
 obtain ⟨k',q3,q4⟩ := key j' e' hj'
 rw [h,q4] at q2
 simp at q2
 subst q2
 have : j = j':= by
  have hjl : j < ks.length := (List.getElem?_eq_some_iff.1 q1).1
  exact (List.getElem?_inj hjl hM.2.2.2).1 (q1.trans q3.symm)
 subst this
 rw [hj] at hj'; cases hj'; rfl
theorem op_next {it : Operand} {id : Nat} {ks rem : List Int} {cur : Option Int} (ho : o.op = .next it false) (hd : dstB nt o.dst = true) (hx : s.ev it = some (.box id 0)) (hob : s.obj id = some (.iter ks rem cur)) :
  OpToS P nt o s (fun s' => (rem = [] /\ s' = s.putO o.dst (some (.tup [.pv (.bool false)]))) \/ ∃ k,k ∈ rem /\ s' = (s.setObj id (some (.iter ks (rem.erase k) (some k)))).putO o.dst (some (.tup [.pv (.bool true),.pv (.int .i64 k),.pv (.bool true)]))):= by
 intro ro W0 D0 D φ a w hI hko K Q hK
 obtain ⟨hid,_,r,m,es,clock,seen,h1,h2,h3,h4,h5,h6,h7,h8⟩ := hI.objs id _ hob
 have hv : a.eval it = .pointer (some ⟨r,0,none⟩):= by
  obtain ⟨b,q1,q2⟩ := FRep.inv_box (hI.ev hx).2
  rw [h1] at q1; cases q1; exact q2
 have hold : ∀ x ∈ es.toList,x.born < clock := fun x hx => h5.2.1 x (by simpa using hx)
 refine wpIn_of (by rw [ho]; intro c hc; cases hc) ?_
 unfold Oper.wp
 rcases run_next_at (P := P) w o.type r m clock clock seen es clock h2 h4 hold (Nat.le_refl _) with ⟨q1,q2⟩ | ⟨e,he,w1,hw1,hrun⟩
 ·have hrun : (execOp a.eval o).run P w = .ok (.value (.tuple #[.bool false])) w := by simp [execOp,ho,hv,q2]
  rw [hrun]
  have hrem : rem = []:= by
   apply List.eq_nil_iff_forall_not_mem.2
   intro k hk
   obtain ⟨e,he,_,hs⟩ := (h7 k).1 hk
   have hmem : e ∈ (leftOf es seen) := by simp [leftOf]; exact ⟨by simpa using he,by simpa using hs⟩
   have : (leftOf es seen) = #[] := Array.eq_empty_of_size_eq_zero q1
   rw [this] at hmem; simp at hmem
  refine hK _ D φ _ w (.inl ⟨hrem,rfl⟩) (hI.put o.dst (dstB_lt hd) _ _ fun x' hx' => ?_)
  cases hx'
  exact ⟨rfl,.tup _ _ rfl fun j v p hv hp => by
   cases j with
   | zero => simp at hv hp; subst hv; subst hp; exact .pv _ _ (.bool _)
   | succ j => simp at hp⟩
 ·have hes : e ∈ es.toList /\ seen.contains e.born = false:= by
   simp [leftOf] at he; exact ⟨by simpa using he.1,by simpa using he.2⟩
  obtain ⟨k,hkk,hk1,hk2⟩ := iter_key h5 hes.1
  have hrun' : (execOp a.eval o).run P w = .ok (.value (.tuple #[.bool true,.int .i64 k,.bool true])) (setBlock w1 r (.mapIter (some m) clock (seen.push e.born) clock)):= by
   rw [hk1,hk2] at hrun
   simp [execOp,ho,hv,hrun]
  rw [hrun']
  have hkr : k ∈ rem := (h7 k).2 ⟨e,hes.1,hk1,hes.2⟩
  have hrw : r < w.heap.size := (Array.getElem?_eq_some_iff.1 h2).1
  have hw1h : w1.heap = w.heap := by rcases hw1 with rfl | rfl <;> rfl
  have hw1o : w1.os = w.os /\ w1.tape = w.tape /\ w1.output = w.output := by rcases hw1 with rfl | rfl <;> exact ⟨rfl,rfl,rfl⟩
  generalize hw2 : setBlock w1 r (.mapIter (some m) clock (seen.push e.born) clock) = w2
  have hsame : ∀ b,b ≠ r -> w2.heap[b]? = w.heap[b]? := fun b hb => by
   rw [<- hw2]; simp only [setBlock]; rw [Array.getElem?_setIfInBounds,if_neg (fun e => hb e.symm),hw1h]
  have hnewb : w2.heap[r]? = some (.mapIter (some m) clock (seen.push e.born) clock) := by rw [<- hw2]; simp [setBlock,hw1h,hrw]
  have hsz : w2.heap.size = w.heap.size := by rw [<- hw2]; simp [setBlock,hw1h]
  have ho2 : w2.os = w.os /\ w2.tape = w.tape /\ w2.output = w.output := by rw [<- hw2]; exact hw1o
  have hok : oblk φ id (.iter ks rem cur) r := by show blk (φ id) = some r; rw [h1]; rfl
  have hmr : m ≠ r := fun e => (hI.own id _ r hob hok).1 (e ▸ h3)
  have hN : Inv W0 D0 nt (s.setObj id (some (.iter ks (rem.erase k) (some k)))) D φ a w2:= by
   refine hI.chg id (fun j => j = id) ⟨ho2.1,ho2.2.1,ho2.2.2,by rw [hsz]; exact Nat.le_refl _,fun k hk => absurd hk (Nat.not_lt_zero _)⟩ ?_ (fun _ h => h) (fun b' hb' => .inl hb') (fun _ _ => rfl) (Nat.le_refl _) (fun t x hx => hx) ?_ ?_
   ·intro b' _ hne
    exact hsame b' (fun e => hne id _ rfl hob (by rw [e]; exact hok))
   ·intro id' ob' hne ho'
    rw [ASt.obj_setObj,if_neg (fun e => hne e.symm)] at ho'
    exact ⟨hne,ho'⟩
   ·intro ob' ho'
    rw [ASt.obj_setObj,if_pos rfl] at ho'
    cases ho'
    refine ⟨hid,rfl,⟨r,m,es,clock,seen.push e.born,h1,hnewb,h3,(hsame m hmr).trans h4,h5,h6.erase k,fun k' => ?_,fun k' hk' => by cases hk'; exact ⟨e,seen,hes.1,hk1,rfl⟩⟩,fun b' hb' => ?_⟩
    ·rw [h6.mem_erase_iff,h7 k']
     constructor
     ·rintro ⟨hne,e',he',hk',hs'⟩
      refine ⟨e',he',hk',?_⟩
      have : e'.born ≠ e.born := fun hb => by
       have hbn := h5.2.2.1
       obtain ⟨j,hj⟩ := List.mem_iff_getElem?.1 hes.1
       obtain ⟨j',hj'⟩ := List.mem_iff_getElem?.1 he'
       have q1 : (es.toList.map (·.born))[j]? = some e.born := by rw [List.getElem?_map,hj]; rfl
       have q2 : (es.toList.map (·.born))[j']? = some e.born := by rw [List.getElem?_map,hj',<- hb]; rfl
       have hjl : j < (es.toList.map (·.born)).length := (List.getElem?_eq_some_iff.1 q1).1
       have hjj : j = j' := (List.getElem?_inj hjl hbn).1 (q1.trans q2.symm)
       subst hjj
       rw [hj] at hj'; cases hj'
       rw [hk1] at hk'; simp at hk'; exact hne hk'.symm
      simp only [Array.contains_push]
      simp only [hs',Bool.or_false]
      simpa using fun h => this h
     ·rintro ⟨e',he',hk',hs'⟩
      simp only [Array.contains_push,Bool.or_eq_false_iff] at hs'
      refine ⟨fun hkk => ?_,e',he',hk',hs'.1⟩
      subst hkk
      have := key_inj h5 he' hes.1 (hk'.trans hk1.symm)
      subst this
      simp at hs'
    ·have hb2 : oblk φ id (.iter ks rem cur) b' := hb'
     obtain ⟨g1,g2,g3⟩ := hI.own id _ b' hob hb2
     exact ⟨g1,by rw [hsz]; exact g3,.inr ⟨id,_,rfl,hob,hb2⟩⟩
  refine hK _ D φ _ w2 (.inr ⟨k,hkr,rfl⟩) (hN.put o.dst (dstB_lt hd) _ _ fun x' hx' => ?_)
  cases hx'
  exact ⟨rfl,.tup _ _ rfl fun j v p hv hp => by
   match j,hv,hp with
   | 0,hv,hp => simp at hv hp; subst hv; subst hp; exact .pv _ _ (.bool _)
   | 1,hv,hp => simp at hv hp; subst hv; subst hp; exact .pv _ _ (.int _ _)
   | 2,hv,hp => simp at hv hp; subst hv; subst hp; exact .pv _ _ (.bool _)
   | j + 3,hv,hp => simp at hp⟩
theorem op_entry {it : Operand} {id : Nat} {ks rem : List Int} {k : Int} (ho : o.op = .entry it) (hd : dstB nt o.dst = true) (hx : s.ev it = some (.box id 0)) (hob : s.obj id = some (.iter ks rem (some k))) :
  OpTo P nt o s (s.putO o.dst (some (.tup [.pv (.int .i64 k),.pv (.bool true)]))) :=
 OpTo.value hd fun W0 D0 D φ a w hI => by
  obtain ⟨hid,_,r,m,es,clock,seen,h1,h2,h3,h4,h5,h6,h7,h8⟩ := hI.objs id _ hob
  have hv : a.eval it = .pointer (some ⟨r,0,none⟩):= by
   obtain ⟨b,q1,q2⟩ := FRep.inv_box (hI.ev hx).2
   rw [h1] at q1; cases q1; exact q2
  obtain ⟨e,seen',he,hk1,rfl⟩ := h8 k rfl
  obtain ⟨k',_,hk2,hk3⟩ := iter_key h5 he
  have hrun := run_entry_at (P := P) w r m clock seen' es clock e h2 h4 he h5.2.2.1
  rw [hk1,hk3] at hrun
  refine ⟨.tuple #[.int .i64 k,.bool true],by simp [execOp,ho,hv,hrun],fun x' hx' => ?_⟩
  cases hx'
  exact ⟨rfl,.tup _ _ rfl fun j v p hv hp => by
   match j,hv,hp with
   | 0,hv,hp => simp at hv hp; subst hv; subst hp; exact .pv _ _ (.int _ _)
   | 1,hv,hp => simp at hv hp; subst hv; subst hp; exact .pv _ _ (.bool _)
   | j + 2,hv,hp => simp at hp⟩
end
end Go.Abs
namespace Go.Abs
open Go.RowKit
set_option linter.unusedVariables false
section
variable {P : Program} {T : Nat -> Option TyI} {nt : Nat} {s : ASt} {o : Oper} {ops : Array Oper} {rest : List Oper} {Q : Exit -> ASt -> Prop}
def RoundQL {ι : Type} (O : Nat -> ι -> List (Nat × AObj)) (J : Nat -> ι -> Prop) (n k : Nat) : Exit -> ASt -> Prop
 | .normal,s => ∃ j,J k j /\ Le s.bare (mkSt [] (O k j) n)
 | _,_ => False
theorem roundQ_intro {ι : Type} {O : Nat -> ι -> List (Nat × AObj)} {J : Nat -> ι -> Prop} {n k : Nat} (j : ι) (hJ : J k j) (h : Le s.bare (mkSt [] (O k j) n)) : RoundQL O J n k .normal s := ⟨j,hJ,h⟩
def ancEnv (nt : Nat) (av : Nat -> Value) (s : ASt) : List (Nat × FV) -> List Nat -> Prop
 | (t,x) :: r,a :: as => Nat.blt t nt = true /\ s.obj a = some (.anc (av t) x) /\ ancEnv nt av s r as
 | [],_ => True
 | _,_ => False
theorem ancEnv_mem {av : Nat -> Value} : ∀ {env : List (Nat × FV)} {as : List Nat},ancEnv nt av s env as -> ∀ t x,(t,x) ∈ env -> t < nt /\ ∃ a,s.obj a = some (.anc (av t) x)
 | [],_,_,_,_,h => by cases h
 | (t',x') :: r,[],h,_,_,_ => h.elim
 | (t',x') :: r,a :: as,h,t,x,hm => by
  cases hm with
  | head => exact ⟨by simpa using h.1,a,h.2.1⟩
  | tail _ hm => exact ancEnv_mem h.2.2 t x hm
theorem AW_range {g : Operand} {ps : Array Nat} {assign body : Code} {ι : Type} {gf : FuncId} {caps : List PV} {L : List (List PV)} (ts : List Nat) (env : List (Nat × FV)) (O : (Nat -> Value) -> Nat -> ι -> List (Nat × AObj)) (J : Nat -> ι -> Prop) (n : Nat) (as : List Nat) (i0 : ι) (hJ0 : J 0 i0)
  (hg : s.evD g = some (.fn gf caps)) (hit : IterOK P gf caps L) (hps : ∀ p ∈ ps.toList,Nat.blt p nt = true) (hxl : ∀ x ∈ L,x.length = ps.size) (hanc : ∀ av k i,ancEnv nt av (mkSt env (O av k i) n) env as)
  (h0 : ∀ av,Le (anchS av s ts).bare (mkSt [] (O av 0 i0) n))
  (hround : ∀ av k i x,J k i -> L[k]? = some x -> AW P nt assign (Then (fun s2 => AW P nt body (RoundQL (O av) J n (k + 1)) s2) (fun _ _ => False)) (putPs (mkSt env (O av k i) n) ps.toList x))
  (hdone : ∀ av i,J L.length i -> Q .normal (mkSt env (O av L.length i) n)) : AW P nt (.rangeFunc g ps assign body) Q s:= by
 refine AW_rangeFunc ts (fun av k i => mkSt env (O av k i) n) J i0 hJ0 hg hit hps hxl (fun av k i t x hx => ancEnv_mem (hanc av k i) t x (look_map env t x hx)) h0 (fun av k i x hJ hx => AW_mono (hround av k i x hJ hx) fun e s2 h => ?_) hdone
 cases e with
 | normal => exact AW_mono h fun e s3 h3 => by cases e <;> exact h3
 | _ => exact h.elim
theorem D_call_imap {f : Operand} {args : Array Operand} {ts : Array TypeId} {g : FuncId} {caps ps : List PV} {ks : List Int} (hg : guardT ops s o = true) (ho : o.op = .call { callee := .value f,args,argTypes := ts }) (hd : dstB nt o.dst = true)
  (hf : s.calleeS f = some (g,caps)) (ha : mapO s.evS args.toList = some ps) (hc : ACalls P g (ps ++ caps) (fun r' => r' = .imap ks)) :
  StepOK P nt ops o s ⟨some (.mp s.nxt),true,[],[]⟩ ((s.newObj (.imap ks)).putO o.dst (some (.mp s.nxt))):= by
 refine StepOK.mkE hg (by cases hd : o.dst <;> rfl) (by cases hd : o.dst <;> exact Nat.le_succ _) (fun id hid _ => ?_) fun fr s1 s2 h1 h2 h3 h4 h5 h6 h7 => ?_
 ·have : ((s.newObj (.imap ks)).putO o.dst (some (.mp s.nxt))).obj id = (s.newObj (.imap ks)).obj id := by cases hd : o.dst <;> rfl
  rw [this,ASt.obj_newObj,if_neg (by omega)]
 ·have h8 := op_call1 (r := .imap ks) ho hd (by rw [(call_local ho h1).1]; exact hf) (by rw [(call_local ho h1).2]; exact ha) hc
  have e1 : s1.bind o.dst (.imap ks) = (s1.newObj (.imap ks)).putO o.dst (some (.mp s1.nxt)) := rfl
  rw [e1] at h8
  refine h8.ext (fun t => ?_) (fun id => ?_) ?_
  ·show look s2.env t = look _ t
   rw [h5,<- h2]; cases hd : o.dst <;> rfl
  ·have q1 : ((s.newObj (.imap ks)).putO o.dst (some (.mp s.nxt))).obj id = (s.newObj (.imap ks)).obj id := by cases hd : o.dst <;> rfl
   have q2 : ((s1.newObj (.imap ks)).putO o.dst (some (.mp s1.nxt))).obj id = (s1.newObj (.imap ks)).obj id := by cases hd : o.dst <;> rfl
   rw [h7,q1,q2,ASt.obj_newObj,ASt.obj_newObj,h2]
   by_cases hid : id ∈ fr
   ·rw [if_pos hid,if_neg (by have := (h3 id hid).1; omega)]
   ·rw [if_neg hid,h4 id hid]
  ·rw [h6]; cases hd : o.dst <;> simp [ASt.putO,ASt.put,ASt.newObj,h2]
end
end Go.Abs
