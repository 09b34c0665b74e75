/- Operations that read or write memory: what they do to an abstract state. -/
import Derived.Test.YtkmclnjmabljdaaGreatDoorKNcA
import Derived.Laws.MakeOwn
import Derived.Laws.OwnMore
set_option linter.unusedVariables false
set_option linter.unusedSimpArgs false
namespace Go.Abs
open Go.RowKit
set_option linter.unusedVariables false
def mapO {α β : Type} (f : α -> Option β) : List α -> Option (List β)
 | [] => some []
 | x :: xs => match f x,mapO f xs with
  | some y,some ys => some (y :: ys)
  | _,_ => none
theorem mapO_some {α β : Type} {f : α -> Option β} : ∀ {xs : List α} {ys : List β},mapO f xs = some ys -> xs.length = ys.length /\ ∀ (j : Nat) (x : α) (y : β),xs[j]? = some x -> ys[j]? = some y -> f x = some y
 | [],ys,h => by cases h; simp
 | x :: xs,ys,h => by
  unfold mapO at h
  split at h
  ·rename_i y ys' hy hys
   cases h
   obtain ⟨h1,h2⟩ := mapO_some hys
   refine ⟨by simp [h1],?_⟩
   intro j u v hu hv
   cases j with
   | zero => simp at hu hv; subst hu; subst hv; exact hy
   | succ j => exact h2 j u v (by simpa using hu) (by simpa using hv)
  ·cases h
def ASt.pvOf (s : ASt) (own : Bool) : Nat -> FV -> Option PV
 | 0,_ => none
 | n + 1,x => match x with
  | .pv p => some p
  | .nils => some (.sl [])
  | .arr id => match s.obj id with
   | some (.fro es) => some (.sl es)
   | some (.arr _ _ es) => match own with
    | true => some (.sl es)
    | false => none
   | _ => none
  | .box id off => match own,s.obj id with
   | true,some (.box cs) => match mapO (s.pvOf own n) (cs.drop off) with
    | some ps => some (.ptr ps)
    | none => none
   | _,_ => none
  | .mp id => match own,s.obj id with
   | true,some (.imap ks) => some (.imap ks)
   | _,_ => none
  | .fn f caps => match mapO (s.pvOf own n) caps with
   | some ps => some (.fn f ps)
   | none => none
  | .agg cs => match mapO (s.pvOf own n) cs with
   | some ps => some (.agg ps)
   | none => none
  | _ => none
def inAll (s : ASt) (D : Nat -> Prop) (φ : Nat -> Value) (b : Nat) : Prop := D b \/ ∃ id ob,s.obj id = some ob /\ oblk φ id ob b
theorem addr_add (b o n : Nat) : (⟨b,o,none⟩ : Addr).add n = ⟨b,o + n,none⟩ := by unfold Addr.add; split <;> simp_all
theorem owns_rep {w : World} {D : Nat -> Prop} {base e sz : Nat} {v : Value} {es : List (List PV)} {xs : List Value} (h : w.ownsRow base e sz v es.length xs) (hx : XRep w D sz xs es) (hD : ∀ b,blk v = some b -> D b) :
  Rep w D v (.sl es):= by
 rcases h.2 with ⟨rfl,h0⟩ | ⟨g,cap,cur,rfl,hg,hh,hc,hm,hs,ht⟩
 ·have : es = [] := List.eq_nil_of_length_eq_zero h0
  subst this
  exact .sl none 0 0 0 [] (fun _ _ => undef) rfl (Nat.le_refl _) (Nat.zero_le _) (by simp) (by intro i j hi; omega) (by simp) (by simp)
 ·refine .sl _ es.length cap sz es (fun i j => xs.getD (i * sz + j) undef) rfl hc hm hx.1 ?_ (fun i j e p he hp => (hx.2 i j e p he hp).1) ?_
  ·intro i j hi hj
   refine ⟨_,rfl,hD g rfl,?_⟩
   rw [addr_add]
   have hlt : i * sz + j < es.length * sz:= by
    have h2 := Nat.mul_le_mul_right sz (show i + 1 <= es.length by omega)
    rw [Nat.add_mul] at h2; omega
   have hxl : i * sz + j < xs.length := by rw [h.1]; exact hlt
   have hcl : i * sz + j < cur.size:= by
    have := Nat.mul_le_mul_right sz hc
    omega
   simp only [World.cell?,hh,Nat.zero_add]
   subst ht
   simp only [Option.isSome_none,Bool.false_eq_true,if_false,List.getD_eq_getElem?_getD,List.getElem?_take,if_pos hlt,Array.getElem?_toList]
   simp [hcl]
  ·intro i j el p he hp
   obtain ⟨_,u,hu,hr⟩ := hx.2 i j el p he hp
   have : xs.getD (i * sz + j) undef = u := by simp [List.getD_eq_getElem?_getD,hu]
   rw [this]; exact hr
section
variable {W0 : World} {D0 : Bas} {nt : Nat} {s : ASt} {D : Nat -> Prop} {φ : Nat -> Value} {a : Act} {w : World}
theorem pvOf_leaf {own : Bool} {n : Nat} {x : FV} {p : PV} (h : s.pvOf own n x = some p) (hl : x.leaf = true) : p.leaf = true:= by
 cases n with
 | zero => simp [ASt.pvOf] at h
 | succ n =>
  cases x <;> simp only [ASt.pvOf] at h <;> first
   | (cases h; done)
   | (cases h; first | rfl | exact hl)
   | (repeat' (split at h)) <;> first | (cases h; done) | (cases h; first | rfl | (simp [FV.leaf] at hl; done))
theorem pvOf_rep (h : Inv W0 D0 nt s D φ a w) (own : Bool) : ∀ (n : Nat) (x : FV) (v : Value) (p : PV),FRep w D φ v x -> s.pvOf own n x = some p -> Rep w (if own then inAll s D φ else D) v p:= by
 have hDA : ∀ b,D b -> (if own then inAll s D φ else D) b:= by
  intro b hb; cases own
  ·exact hb
  ·exact .inl hb
 intro n
 induction n with
 | zero => intro x v p _ hp; simp [ASt.pvOf] at hp
 | succ n ih =>
  intro x v p hr hp
  cases hr with
  | pv v q hq => simp [ASt.pvOf] at hp; subst hp; exact hq.mono (fun _ _ => rfl) hDA
  | nils => simp [ASt.pvOf] at hp; subst hp; exact .sl none 0 0 0 [] (fun _ _ => undef) rfl (Nat.le_refl _) (Nat.zero_le _) (by simp) (by intro i j hi; omega) (by simp) (by simp)
  | arr id m c ad hφ =>
   simp only [ASt.pvOf] at hp
   split at hp
   ·rename_i es ho
    cases hp
    have := (h.objs id _ ho).2.2
    rw [<- hφ]
    exact Rep.mono this (fun _ _ => rfl) hDA
   ·rename_i e sz es ho
    split at hp
    ·cases hp
     obtain ⟨xs,h1,h2⟩ := (h.objs id _ ho).2.2
     rw [<- hφ]
     refine owns_rep h1 (h2.mono (fun _ _ => rfl) (fun b hb => .inl hb)) fun b hb => .inr ⟨id,_,ho,hb⟩
    ·cases hp
   ·cases hp
  | box id off b hφ =>
   simp only [ASt.pvOf] at hp
   split at hp
   ·rename_i cs ho
    split at hp
    ·rename_i ps hps
     cases hp
     obtain ⟨b',vs,e,h1,h2,h3,h4⟩ := (h.objs id _ ho).2.2
     rw [hφ] at h1; cases h1
     obtain ⟨hl,hm⟩ := mapO_some hps
     have hcs : ∀ (j : Nat) (q : PV),ps[j]? = some q -> ∃ y,cs[off + j]? = some y /\ s.pvOf true n y = some q:= by
      intro j q hq
      have hj : j < ps.length := (List.getElem?_eq_some_iff.1 hq).1
      have hv : off + j < cs.length := by simp at hl; omega
      have hd : (cs.drop off)[j]? = some cs[off + j] := by simp [hv]
      exact ⟨cs[off + j],by simp [hv],hm j _ _ hd hq⟩
     refine .ptr _ ps (fun j => vs.getD (off + j) undef) (.inr ⟨id,_,ho,by simp [oblk,hφ,blk]⟩) ?_ ?_ ?_
     ·intro j hj
      rw [addr_add]
      have : off + j < vs.size := by rw [h3]; simp at hl; omega
      simp [World.cell?,h2,this]
     ·intro j q hq
      obtain ⟨y,hy,hq'⟩ := hcs j q hq
      have hyl : y.leaf = true:= by
       have hv : off + j < vs.size := by rw [h3]; exact (List.getElem?_eq_some_iff.1 hy).1
       exact (h4 (off + j) vs[off + j] y (by simp [hv]) hy).1
      exact pvOf_leaf hq' hyl
     ·intro j q hq
      have hj : j < ps.length := (List.getElem?_eq_some_iff.1 hq).1
      have hv : off + j < vs.size := by rw [h3]; simp at hl; omega
      have hc : off + j < cs.length := by rw [<- h3]; exact hv
      have hd : (cs.drop off)[j]? = some cs[off + j] := by simp [hc]
      have := h4 (off + j) vs[off + j] cs[off + j] (by simp [hv]) (by simp [hc])
      have e1 : vs.getD (off + j) undef = vs[off + j] := by simp [hv]
      simp only []
      rw [e1]
      exact ih _ _ _ this.2 (hm j _ _ hd hq)
    ·cases hp
   ·cases hp
  | aptr id sz i off g m c hφ => simp [ASt.pvOf] at hp
  | yld id l hφ => simp [ASt.pvOf] at hp
  | sub id sz lo n g m c hφ hc => simp [ASt.pvOf] at hp
  | mp id r hφ =>
   simp only [ASt.pvOf] at hp
   split at hp
   ·rename_i ks ho
    cases hp
    obtain ⟨r',es,clock,h1,h2,h3⟩ := (h.objs id _ ho).2.2
    rw [hφ] at h1; cases h1
    exact .imap r' es clock ks (.inr ⟨id,_,ho,by simp [oblk,hφ,blk]⟩) h2 h3.1 h3.2.1 h3.2.2.1 h3.2.2.2
   ·cases hp
  | fn f vs cs hl hr =>
   simp only [ASt.pvOf] at hp
   split at hp
   ·rename_i ps hps
    cases hp
    obtain ⟨h1,h2⟩ := mapO_some hps
    refine .fn f vs ps (by omega) fun j u q hu hq => ?_
    have hj : j < cs.length := by rw [h1]; exact (List.getElem?_eq_some_iff.1 hq).1
    have hc : cs[j]? = some cs[j] := by simp [hj]
    exact ih _ _ _ (hr j u _ hu hc) (h2 j _ _ hc hq)
   ·cases hp
  | agg vs cs hl hr =>
   simp only [ASt.pvOf] at hp
   split at hp
   ·rename_i ps hps
    cases hp
    obtain ⟨h1,h2⟩ := mapO_some hps
    refine .agg vs ps (by omega) fun j u q hu hq => ?_
    have hj : j < cs.length := by rw [h1]; exact (List.getElem?_eq_some_iff.1 hq).1
    have hc : cs[j]? = some cs[j] := by simp [hj]
    exact ih _ _ _ (hr j u _ hu hc) (h2 j _ _ hc hq)
   ·cases hp
  | tup vs cs hl hr => simp [ASt.pvOf] at hp
def ASt.evD (s : ASt) (o : Operand) : Option PV := match s.ev o with
 | some x => s.pvOf false 5 x
 | none => none
def ASt.evB (s : ASt) (o : Operand) : Option PV := match s.ev o with
 | some x => s.pvOf true 5 x
 | none => none
theorem Inv.evD {o : Operand} {p : PV} (h : Inv W0 D0 nt s D φ a w) (hp : s.evD o = some p) : Rep w D (a.eval o) p:= by
 unfold ASt.evD at hp
 split at hp
 ·rename_i x hx
  simpa using pvOf_rep h false 5 x _ p (h.ev hx).2 hp
 ·cases hp
theorem Inv.evB {o : Operand} {p : PV} (h : Inv W0 D0 nt s D φ a w) (hp : s.evB o = some p) : Rep w (inAll s D φ) (a.eval o) p:= by
 unfold ASt.evB at hp
 split at hp
 ·rename_i x hx
  simpa using pvOf_rep h true 5 x _ p (h.ev hx).2 hp
 ·cases hp
end
def loadF (agg : Bool) (n : Nat) (cs : List FV) : Option FV :=
 match agg with
 | true => match Nat.ble n cs.length with
  | true => some (.agg (cs.take n))
  | false => none
 | false => match cs with
  | c :: _ => some c
  | [] => none
def loadP (agg : Bool) (n : Nat) (cs : List PV) : Option PV :=
 match agg with
 | true => match Nat.ble n cs.length with
  | true => some (.agg (cs.take n))
  | false => none
 | false => match cs with
  | c :: _ => some c
  | [] => none
section
variable {P : Program} {T : Nat -> Option TyI} {nt : Nat} {s : ASt} {o : Oper}
theorem run_loadVar {t : Nat} {i : TyI} (hT : TyOK P t i) (w : World) (ad : Addr) (f : Nat -> Value) (h : ∀ j,j < (if i.agg then i.size else 1) -> w.cell? (ad.add j) = some (f j)) :
  (loadVar t ad).run P w = .ok (if i.agg then .agg ((List.range i.size).map f).toArray else f 0) w:= by
 simp only [loadVar,Sem.run_bind,hT.run_agg w,Result.andThen_ok]
 cases hagg : i.agg with
 | true =>
  rw [hagg] at h
  simp only [if_true] at h
  simp [hT.run_size w,run_loadCells w ad i.size f h]
 | false =>
  rw [hagg] at h
  have h0 := h 0 (by simp)
  have : ad.add 0 = ad := by simp [Addr.add]
  rw [this] at h0
  simp [run_load,h0]
theorem op_load_box {t id off : Nat} {x : Operand} {i : TyI} {cs : List FV} {y : FV} (hT : TabOK P T) (ho : o.op = .load t x) (hd : dstB nt o.dst = true) (ht : T t = some i)
  (hx : s.ev x = some (.box id off)) (hob : s.obj id = some (.box cs)) (hl : loadF i.agg i.size (cs.drop off) = some y) : OpTo P nt o s (s.putO o.dst (some y)) :=
 OpTo.value hd fun W0 D0 D φ a w hI => by
  have hTy := hT.ty ht
  obtain ⟨_,hr⟩ := hI.ev hx
  generalize hv : a.eval x = v at hr
  cases hr with
  | box id off b hφ =>
   obtain ⟨hlt,holt,b',vs,e,h1,h2,h3,h4⟩ := hI.objs id _ hob
   rw [hφ] at h1; cases h1
   have hcell : ∀ j,off + j < vs.size -> w.cell? ((⟨b,off,none⟩ : Addr).add j) = some (vs.getD (off + j) undef):= by
    intro j hj
    rw [addr_add]
    simp [World.cell?,h2,hj]
   cases hagg : i.agg with
   | true =>
    rw [hagg] at hl
    simp only [loadF] at hl
    split at hl
    ·rename_i hle
     cases hl
     have hle' : i.size <= cs.length - off := by simpa using Nat.le_of_ble_eq_true hle
     have hrun := run_loadVar hTy w ⟨b,off,none⟩ (fun j => vs.getD (off + j) undef) (fun j hj => hcell j (by rw [hagg] at hj; simp at hj; omega))
     refine ⟨_,by simp only [execOp,ho,hv,Instr.loadAt,Instr.sureAddr,Sem.run_bind,Sem.run_pure,Result.andThen_ok,hrun]; rfl,?_⟩
     intro x' hx'; cases hx'
     have hlt' : FV.ltL s.nxt ((cs.drop off).take i.size) = true:= by
      have : ∀ (l : List FV),(∀ x ∈ l,x.lt s.nxt = true) -> FV.ltL s.nxt l = true:= by
       intro l; induction l with
       | nil => intro _; rfl
       | cons x l ih => intro h; simp [FV.ltL,h x (by simp),ih fun y hy => h y (by simp [hy])]
      exact this _ fun x hx => FV.lt_mem (cs := cs) holt (List.mem_of_mem_drop (List.mem_of_mem_take hx))
     refine ⟨by simpa [FV.lt] using hlt',?_⟩
     rw [hagg]
     refine .agg _ _ (by simp; omega) fun j u y hu hy => ?_
     have hj : j < i.size:= by
      have := (Array.getElem?_eq_some_iff.1 hu).1
      simpa using this
     have hu' : u = vs.getD (off + j) undef := by simpa [hj] using hu.symm
     have hy' : cs[off + j]? = some y:= by
      rw [List.getElem?_take,if_pos hj,List.getElem?_drop] at hy; exact hy
     subst hu'
     have hvs : off + j < vs.size := by rw [h3]; exact (List.getElem?_eq_some_iff.1 hy').1
     have e1 : vs.getD (off + j) undef = vs[off + j] := by simp [hvs]
     rw [e1]
     exact (h4 (off + j) _ y (by simp [hvs]) hy').2
    ·cases hl
   | false =>
    rw [hagg] at hl
    simp only [loadF] at hl
    split at hl
    ·rename_i c r hcs
     cases hl
     have hc0 : cs[off]? = some y:= by
      have : (cs.drop off)[0]? = some y := by rw [hcs]; rfl
      simpa using this
     have hvs : off < vs.size := by rw [h3]; exact (List.getElem?_eq_some_iff.1 hc0).1
     have hrun := run_loadVar hTy w ⟨b,off,none⟩ (fun j => vs.getD (off + j) undef) (fun j hj => hcell j (by rw [hagg] at hj; simp at hj; omega))
     refine ⟨_,by simp only [execOp,ho,hv,Instr.loadAt,Instr.sureAddr,Sem.run_bind,Sem.run_pure,Result.andThen_ok,hrun]; rfl,?_⟩
     intro x' hx'; cases hx'
     refine ⟨FV.lt_mem (cs := cs) holt (List.mem_of_getElem? hc0),?_⟩
     rw [hagg]
     have e1 : vs.getD (off + 0) undef = vs[off] := by simp [hvs]
     simp only [Bool.false_eq_true,if_false,e1]
     exact (h4 off _ y (by simp [hvs]) hc0).2
    ·cases hl
theorem loadP_rep {w : World} {D : Nat -> Prop} {i : TyI} {us : Nat -> Value} {cs : List PV} {p : PV} (hl : loadP i.agg i.size cs = some p) (hr : ∀ (j : Nat) (q : PV),cs[j]? = some q -> Rep w D (us j) q) :
  Rep w D (if i.agg then .agg ((List.range i.size).map us).toArray else us 0) p /\ (if i.agg then i.size else 1) <= cs.length:= by
 cases hagg : i.agg with
 | true =>
  rw [hagg] at hl
  simp only [loadP] at hl
  split at hl
  ·rename_i hle
   cases hl
   have hle' := Nat.le_of_ble_eq_true hle
   refine ⟨?_,by simpa using hle'⟩
   simp only [if_true]
   refine .agg _ _ (by simp; omega) fun j u y hu hy => ?_
   have hj : j < i.size:= by
    have := (Array.getElem?_eq_some_iff.1 hu).1
    simpa using this
   have hu' : u = us j := by simpa [hj] using hu.symm
   subst hu'
   rw [List.getElem?_take,if_pos hj] at hy
   exact hr j y hy
  ·cases hl
 | false =>
  rw [hagg] at hl
  simp only [loadP] at hl
  split at hl
  ·cases hl
   exact ⟨by simpa using hr 0 _ rfl,by simp⟩
  ·cases hl
theorem op_load_ptr {t : Nat} {x : Operand} {i : TyI} {cs : List PV} {p : PV} (hT : TabOK P T) (ho : o.op = .load t x) (hd : dstB nt o.dst = true) (ht : T t = some i)
  (hx : s.evD x = some (.ptr cs)) (hl : loadP i.agg i.size cs = some p) : OpTo P nt o s (s.putO o.dst (some (.pv p))) :=
 OpTo.value hd fun W0 D0 D φ a w hI => by
  have hTy := hT.ty ht
  have hr := hI.evD hx
  generalize hv : a.eval x = v at hr
  cases hr with
  | ptr b cs us hD hc hlf hr =>
   obtain ⟨h1,h2⟩ := loadP_rep hl hr
   have hrun := run_loadVar hTy w b us (fun j hj => hc j (by omega))
   refine ⟨_,by simp only [execOp,ho,hv,Instr.loadAt,Instr.sureAddr,Sem.run_bind,Sem.run_pure,Result.andThen_ok,hrun]; rfl,?_⟩
   intro x' hx'; cases hx'
   exact ⟨rfl,.pv _ _ h1⟩
theorem owns_cells {w : World} {D : Nat -> Prop} {base e sz k off : Nat} {g n c : Nat} {v : Value} {es : List (List PV)} {xs : List Value} {el : List PV} (h : w.ownsRow base e sz v es.length xs) (hv : v = .slice (some ⟨g,0,none⟩) n c)
  (hx : XRep w D sz xs es) (hel : es[k]? = some el) : ∀ j,off + j < el.length -> w.cell? ((⟨g,k * sz + off,none⟩ : Addr).add j) = some (xs.getD (k * sz + (off + j)) undef) /\ xs[k * sz + (off + j)]? = some (xs.getD (k * sz + (off + j)) undef):= by
 intro j hj
 obtain ⟨_,u,hu,hr⟩ := hx.2 k (off + j) el _ hel (List.getElem?_eq_some_iff.2 ⟨hj,rfl⟩)
 have e1 : xs.getD (k * sz + (off + j)) undef = u := by simp [List.getD_eq_getElem?_getD,hu]
 rw [e1]
 refine ⟨?_,hu⟩
 rcases h.2 with ⟨rfl,h0⟩ | ⟨g',cap,cur,rfl,hg,hh,hc,hm,hs,ht⟩
 ·cases hv
 ·cases hv
  rw [addr_add,Nat.add_assoc]
  simp only [World.cell?,hh]
  rw [<- ht,List.getElem?_take] at hu
  split at hu
  ·simpa using hu
  ·cases hu
theorem op_load_aptr {t id sz k off e : Nat} {x : Operand} {i : TyI} {es : List (List PV)} {el : List PV} {p : PV} (hT : TabOK P T) (ho : o.op = .load t x) (hd : dstB nt o.dst = true) (ht : T t = some i)
  (hx : s.ev x = some (.aptr id sz k off)) (hob : s.obj id = some (.arr e sz es)) (hel : es[k]? = some el) (hl : loadP i.agg i.size (el.drop off) = some p) : OpTo P nt o s (s.putO o.dst (some (.pv p))) :=
 OpTo.value hd fun W0 D0 D φ a w hI => by
  have hTy := hT.ty ht
  obtain ⟨_,hr⟩ := hI.ev hx
  generalize hv : a.eval x = v at hr
  cases hr with
  | aptr id sz k off g n c hφ =>
   obtain ⟨_,_,xs,h1,h2⟩ := hI.objs id _ hob
   have hcell := owns_cells (off := off) h1 hφ h2 hel
   have hrep : ∀ (j : Nat) (q : PV),(el.drop off)[j]? = some q -> Rep w D (xs.getD (k * sz + (off + j)) undef) q:= by
    intro j q hq
    rw [List.getElem?_drop] at hq
    obtain ⟨_,u,hu,hr⟩ := h2.2 k (off + j) el q hel hq
    have e1 : xs.getD (k * sz + (off + j)) undef = u := by simp [List.getD_eq_getElem?_getD,hu]
    rw [e1]; exact hr
   obtain ⟨h3,h4⟩ := loadP_rep hl hrep
   have hrun := run_loadVar hTy w ⟨g,k * sz + off,none⟩ (fun j => xs.getD (k * sz + (off + j)) undef) (fun j hj => (hcell j (by simp at h4; omega)).1)
   refine ⟨_,by simp only [execOp,ho,hv,Instr.loadAt,Instr.sureAddr,Sem.run_bind,Sem.run_pure,Result.andThen_ok,hrun]; rfl,?_⟩
   intro x' hx'; cases hx'
   exact ⟨rfl,.pv _ _ h3⟩
theorem run_fieldAt {t f off ft : Nat} {i fi : TyI} {offs tys : List Nat} (hT : TabOK P T) (ht : T t = some i) (hk : i.kind = .strct offs tys) (hoff : offs[f]? = some off) (hft : tys[f]? = some ft)
  (hfi : T ft = some fi) (hsz : Nat.beq fi.size 0 = false) (w : World) (ad : Addr) : (Instr.fieldAt t (.pointer (some ad)) f).run P w = .ok (.pointer (some (ad.add off))) w:= by
 obtain ⟨fs,h1,h2,h3⟩ := (hT.ty ht).strct hk
 have hlt : f < fs.size:= by
  have := (List.getElem?_eq_some_iff.1 hoff).1
  rw [<- h2] at this; simpa using this
 have e1 : fs[f].offset = off:= by
  rw [<- h2] at hoff; simpa [hlt] using hoff
 have e2 : fs[f].type = ft:= by
  rw [<- h3] at hft; simpa [hlt] using hft
 have hne : fi.size ≠ 0 := fun e => by rw [e] at hsz; simp at hsz
 simp [Instr.fieldAt,underlying,h1,hlt,Instr.sureAddr,fieldPlace,e1,e2,(hT.ty hfi).run_size w,hne]
theorem op_fieldAddr_box {t f off ft id o0 : Nat} {x : Operand} {i fi : TyI} {offs tys : List Nat} (hT : TabOK P T) (ho : o.op = .fieldAddr t x f) (hd : dstB nt o.dst = true) (ht : T t = some i) (hk : i.kind = .strct offs tys)
  (hoff : offs[f]? = some off) (hft : tys[f]? = some ft) (hfi : T ft = some fi) (hsz : Nat.beq fi.size 0 = false) (hx : s.ev x = some (.box id o0)) : OpTo P nt o s (s.putO o.dst (some (.box id (o0 + off)))) :=
 OpTo.value hd fun W0 D0 D φ a w hI => by
  obtain ⟨hlt,hr⟩ := hI.ev hx
  generalize hv : a.eval x = v at hr
  cases hr with
  | box id off b hφ =>
   refine ⟨_,by simp only [execOp,ho,hv,run_fieldAt hT ht hk hoff hft hfi hsz w,Sem.run_bind,Result.andThen_ok,addr_add]; rfl,?_⟩
   intro x' hx'; cases hx'
   exact ⟨hlt,.box id _ b hφ⟩
theorem op_fieldAddr_aptr {t f off ft id sz k o0 : Nat} {x : Operand} {i fi : TyI} {offs tys : List Nat} (hT : TabOK P T) (ho : o.op = .fieldAddr t x f) (hd : dstB nt o.dst = true) (ht : T t = some i) (hk : i.kind = .strct offs tys)
  (hoff : offs[f]? = some off) (hft : tys[f]? = some ft) (hfi : T ft = some fi) (hsz : Nat.beq fi.size 0 = false) (hx : s.ev x = some (.aptr id sz k o0)) : OpTo P nt o s (s.putO o.dst (some (.aptr id sz k (o0 + off)))) :=
 OpTo.value hd fun W0 D0 D φ a w hI => by
  obtain ⟨hlt,hr⟩ := hI.ev hx
  generalize hv : a.eval x = v at hr
  cases hr with
  | aptr id sz k o0 g n c hφ =>
   refine ⟨_,by simp only [execOp,ho,hv,run_fieldAt hT ht hk hoff hft hfi hsz w,Sem.run_bind,Result.andThen_ok,addr_add]; rfl,?_⟩
   intro x' hx'; cases hx'
   refine ⟨hlt,?_⟩
   rw [Nat.add_assoc]
   exact .aptr id sz k _ g n c hφ
theorem op_fieldAddr_ptr {t f off ft : Nat} {x : Operand} {i fi : TyI} {offs tys : List Nat} {cs : List PV} (hT : TabOK P T) (ho : o.op = .fieldAddr t x f) (hd : dstB nt o.dst = true) (ht : T t = some i) (hk : i.kind = .strct offs tys)
  (hoff : offs[f]? = some off) (hft : tys[f]? = some ft) (hfi : T ft = some fi) (hsz : Nat.beq fi.size 0 = false) (hx : s.evD x = some (.ptr cs)) : OpTo P nt o s (s.putO o.dst (some (.pv (.ptr (cs.drop off))))) :=
 OpTo.value hd fun W0 D0 D φ a w hI => by
  have hr := hI.evD hx
  generalize hv : a.eval x = v at hr
  cases hr with
  | ptr b cs us hD hc hlf hr =>
   refine ⟨_,by simp only [execOp,ho,hv,run_fieldAt hT ht hk hoff hft hfi hsz w,Sem.run_bind,Result.andThen_ok]; rfl,?_⟩
   intro x' hx'; cases hx'
   have hblk : (b.add off).block = b.block := by unfold Addr.add; split <;> rfl
   have hadd : ∀ j,w.cell? ((b.add off).add j) = w.cell? (b.add (off + j)):= by
    intro j
    unfold Addr.add
    by_cases h0 : off = 0
    ·subst h0; simp
    ·by_cases hj : j = 0
     ·subst hj; simp [h0]
     ·simp [h0,hj,Nat.add_assoc]
   refine ⟨rfl,.pv _ _ (.ptr _ _ (fun j => us (off + j)) (by rw [hblk]; exact hD) ?_ (fun j q hq => by rw [List.getElem?_drop] at hq; exact hlf (off + j) q hq) ?_)⟩
   ·intro j hj
    rw [hadd]
    exact hc (off + j) (by simp at hj; omega)
   ·intro j q hq
    rw [List.getElem?_drop] at hq
    exact hr (off + j) q hq
theorem op_field {t f off ft : Nat} {x : Operand} {i fi : TyI} {offs tys : List Nat} {cs : List PV} {p : PV} (hT : TabOK P T) (ho : o.op = .field t x f) (hd : dstB nt o.dst = true) (ht : T t = some i) (hk : i.kind = .strct offs tys)
  (hoff : offs[f]? = some off) (hft : tys[f]? = some ft) (hfi : T ft = some fi) (hx : s.evD x = some (.agg cs)) (hl : loadP fi.agg fi.size (cs.drop off) = some p) : OpTo P nt o s (s.putO o.dst (some (.pv p))) :=
 OpTo.value hd fun W0 D0 D φ a w hI => by
  have hr := hI.evD hx
  generalize hv : a.eval x = v at hr
  cases hr with
  | agg vs cs hl' hr =>
   obtain ⟨fs,h1,h2,h3⟩ := (hT.ty ht).strct hk
   have hlt : f < fs.size:= by
    have := (List.getElem?_eq_some_iff.1 hoff).1
    rw [<- h2] at this; simpa using this
   have e1 : fs[f].offset = off:= by
    rw [<- h2] at hoff; simpa [hlt] using hoff
   have e2 : fs[f].type = ft:= by
    rw [<- h3] at hft; simpa [hlt] using hft
   have hrep : ∀ (j : Nat) (q : PV),(cs.drop off)[j]? = some q -> Rep w D (vs.getD (off + j) undef) q:= by
    intro j q hq
    rw [List.getElem?_drop] at hq
    have hj : off + j < vs.size := by rw [hl']; exact (List.getElem?_eq_some_iff.1 hq).1
    have e1 : vs.getD (off + j) undef = vs[off + j] := by simp [hj]
    rw [e1]; exact hr (off + j) _ q (by simp [hj]) hq
   obtain ⟨h4,h5⟩ := loadP_rep hl hrep
   refine ⟨(if fi.agg then .agg ((List.range fi.size).map fun j => vs.getD (off + j) undef).toArray else vs.getD (off + 0) undef),?_,fun x' hx' => by cases hx'; exact ⟨rfl,.pv _ _ h4⟩⟩
   simp only [execOp,ho,hv,Instr.field,underlying,Sem.run_bind,run_program,Result.andThen_ok,h1,Sem.run_pure,hlt,Array.getElem?_eq_getElem,asAgg,e1,e2,part,(hT.ty hfi).run_agg w]
   simp only [List.length_drop] at h5
   cases hagg : fi.agg with
   | true =>
    rw [hagg] at h5
    simp only [if_true] at h5 ⊢
    simp only [Sem.run_bind,(hT.ty hfi).run_size w,Result.andThen_ok,Sem.run_pure]
    congr 3
    apply Array.ext
    ·simp; omega
    ·intro j hj1 hj2
     have hb : off + j < vs.size := by simp at hj1; omega
     simp [hb]
   | false =>
    rw [hagg] at h5
    have hb : off < vs.size := by simp at h5; omega
    simp [hb]
theorem op_indexAddr_sl {t e : Nat} {x ix : Operand} {ti ei : TyI} {k : IntKind} {n : Int} {es : List (List PV)} {el : List PV} (hT : TabOK P T) (ho : o.op = .indexAddr t x ix) (hd : dstB nt o.dst = true) (ht : T t = some ti)
  (hk : ti.kind = .slice e) (he : T e = some ei) (hx : s.evD x = some (.sl es)) (hi : s.ev ix = some (.pv (.int k n))) (hn : 0 <= n) (hel : es[n.toNat]? = some el) (hsz : el.length = ei.size) (hpos : Nat.blt 0 ei.size = true) :
  OpTo P nt o s (s.putO o.dst (some (.pv (.ptr el)))) :=
 OpTo.value hd fun W0 D0 D φ a w hI => by
  have hr := hI.evD hx
  generalize hv : a.eval x = v at hr
  cases hr with
  | sl ad m c sz es us hm hcap hmax hsz' ha hlf hr =>
   subst hm
   have hlt : n.toNat < es.length := (List.getElem?_eq_some_iff.1 hel).1
   have hs : sz = ei.size := by rw [<- hsz,hsz' _ _ hel]
   have hp : 0 < ei.size := by simpa using hpos
   obtain ⟨b,rfl,hDb,_⟩ := ha n.toNat 0 hlt (by omega)
   have hund := (hT.ty ht).slice hk
   have hilt : n < (es.length : Int) := by omega
   refine ⟨.pointer (some (b.add (n.toNat * ei.size))),?_,?_⟩
   ·simp [execOp,ho,hv,hI.ev_int hi,Instr.indexAt,asIntOf,underlying,hund,hn,hilt,(hT.ty he).run_size w]
   ·intro x' hx'; cases hx'
    have hblk : ∀ q,(b.add q).block = b.block := by intro q; unfold Addr.add; split <;> rfl
    have hadd : ∀ q j,w.cell? ((b.add q).add j) = w.cell? (b.add (q + j)):= by
     intro q j
     unfold Addr.add
     by_cases h0 : q = 0
     ·subst h0; simp
     ·by_cases hj : j = 0
      ·subst hj; simp [h0]
      ·simp [h0,hj,Nat.add_assoc]
    refine ⟨rfl,.pv _ _ (.ptr _ _ (us n.toNat) (by rw [hblk]; exact hDb) ?_ (fun j q hq => hlf n.toNat j el q hel hq) ?_)⟩
    ·intro j hj
     rw [hadd]
     obtain ⟨b',hb',_,hc⟩ := ha n.toNat j hlt (by omega)
     cases hb'
     rw [<- hs]; exact hc
    ·intro j q hq
     exact hr n.toNat j el q hel hq
theorem op_indexAddr_arr {t e e' id sz : Nat} {x ix : Operand} {ti ei : TyI} {k : IntKind} {n : Int} {es : List (List PV)} (hT : TabOK P T) (ho : o.op = .indexAddr t x ix) (hd : dstB nt o.dst = true) (ht : T t = some ti)
  (hk : ti.kind = .slice e) (he : T e = some ei) (hx : s.ev x = some (.arr id)) (hob : s.obj id = some (.arr e' sz es)) (hi : s.ev ix = some (.pv (.int k n))) (hn : 0 <= n) (hlt : n.toNat < es.length) (hsz : Nat.beq sz ei.size = true) :
  OpTo P nt o s (s.putO o.dst (some (.aptr id sz n.toNat 0))) :=
 OpTo.value hd fun W0 D0 D φ a w hI => by
  obtain ⟨hid,hr⟩ := hI.ev hx
  generalize hv : a.eval x = v at hr
  cases hr with
  | arr id m c ad hφ =>
   have hs : sz = ei.size := Nat.eq_of_beq_eq_true hsz
   obtain ⟨_,_,xs,h1,h2⟩ := hI.objs id _ hob
   have hund := (hT.ty ht).slice hk
   rw [hφ] at h1
   rcases h1.2 with ⟨h,h0⟩ | ⟨g,cap,cur,h,hg,hh,hc,hm,hsc,htk⟩
   ·omega
   ·cases h
    have hilt : n < (es.length : Int) := by omega
    refine ⟨.pointer (some ((⟨g,0,none⟩ : Addr).add (n.toNat * ei.size))),?_,?_⟩
    ·simp [execOp,ho,hv,hI.ev_int hi,Instr.indexAt,asIntOf,underlying,hund,hn,hilt,(hT.ty he).run_size w]
    ·intro x' hx'; cases hx'
     refine ⟨by simpa [FV.lt] using hid,?_⟩
     rw [addr_add,Nat.zero_add,<- hs]
     exact .aptr id sz n.toNat 0 g _ _ hφ
theorem op_len_sl {t e : Nat} {x : Operand} {ti : TyI} {es : List (List PV)} {n : Int} (hT : TabOK P T) (ho : o.op = .call { callee := .builtin .len,args := #[x],argTypes := #[t] }) (hd : dstB nt o.dst = true) (ht : T t = some ti)
  (hk : ti.kind = .slice e) (hx : s.evB x = some (.sl es)) (hn : (es.length : Int) = n) : OpTo P nt o s (s.putO o.dst (some (.pv (.int .i64 n)))) :=
 OpTo.value hd fun W0 D0 D φ a w hI => by
  subst hn
  have hr := hI.evB hx
  generalize hv : a.eval x = v at hr
  cases hr with
  | sl ad m c sz es us hm hcap hmax hsz' ha hlf hr =>
   subst hm
   have hund := (hT.ty ht).slice hk
   refine ⟨.int .i64 es.length,?_,fun x' hx' => by cases hx'; exact ⟨rfl,.pv _ _ (.int _ _)⟩⟩
   simp [execOp,ho,hv,resolve,invoke,builtin,Builtin.len_,underlying,hund,goInt]
end
end Go.Abs
namespace Go.Abs
open Go.RowKit
set_option linter.unusedVariables false
section
variable {W0 : World} {D0 : Bas} {nt : Nat} {s : ASt} {D : Nat -> Prop} {φ : Nat -> Value} {a : Act} {w : World}
def addH (φ : Nat -> Value) (n : Nat) (v : Value) (id : Nat) : Value := if id = n then v else φ id
theorem addH_old (φ : Nat -> Value) {n id : Nat} (v : Value) (h : id < n) : addH φ n v id = φ id := by unfold addH; rw [if_neg (by omega)]
theorem addH_new (φ : Nat -> Value) (n : Nat) (v : Value) : addH φ n v n = v := by simp [addH]
theorem Inv.noNxt (h : Inv W0 D0 nt s D φ a w) {ob : AObj} : s.obj s.nxt ≠ some ob := fun ho => Nat.lt_irrefl _ (h.objs _ _ ho).1
theorem oblk_blk {φ : Nat -> Value} {id : Nat} {ob : AObj} {b : Nat} (hne : ∀ E k B,ob ≠ .ext E k B) (h : oblk φ id ob b) : blk (φ id) = some b:= by
 cases ob with
 | box _ => exact h
 | arr _ _ _ => exact h
 | imap _ => exact h
 | ext E k B => exact absurd rfl (hne E k B)
 | fro _ => exact h.elim
 | res => exact h.elim
 | anc _ _ => exact h.elim
 | iter _ _ _ => exact h
 | siter _ _ => exact h
 | lst _ _ _ _ _ => exact h
def AObj.own1 : AObj -> Bool
 | .ext _ _ _ => false
 | _ => true
theorem Inv.defers_of (h : Inv W0 D0 nt s D φ a w) {s' : ASt} (hobj : ∀ id ob,s'.obj id = some ob -> s.obj id = some ob) : ∃ ms,DefL D0.pd ms a.defers /\ ms.Nodup /\ ∀ d ∈ ms,Marked w D s' φ (mbase W0 D0) d:= by
 obtain ⟨ms,h1,h2,h3⟩ := h.defers
 exact ⟨ms,h1,h2,fun d hd => let ⟨m,g1,g2,g3,g4,g5⟩ := h3 d hd; ⟨m,g1,g2,g3,g4,fun id ob ho => g5 id ob (hobj id ob ho)⟩⟩
theorem Inv.new (h : Inv W0 D0 nt s D φ a w) {w' : World} {D' : Nat -> Prop} (hb : Below w.heap.size w w') (hD : ∀ b,D b -> D' b) (hDn : ∀ b,D' b -> D b \/ (b < w'.heap.size /\ w.heap.size <= b)) (ob : AObj) (hv : Value) (hlt : ob.lt s.nxt = true)
  (hO : ORep w' D' (addH φ s.nxt hv) W0.heap.size s.nxt ob) (hbk : ∀ b,blk hv = some b -> w.heap.size <= b /\ b < w'.heap.size /\ ¬ D' b) (h1 : ob.own1 = true := by rfl) : Inv W0 D0 nt (s.newObj ob) D' (addH φ s.nxt hv) a w':= by
 refine h.chg s.nxt (fun _ => False) (hb.mono (Nat.zero_le _)) ?_ hD ?_ (fun id hid => addH_old φ hv hid) (Nat.le_succ _) (fun t x hx => hx) ?_ ?_
 ·intro b hlt _; exact hb.block b hlt
 ·intro b hb'
  rcases hDn b hb' with h1 | ⟨h1,h2⟩
  ·exact .inl h1
  ·exact .inr ⟨h1,.inl h2⟩
 ·intro id ob2 hne ho
  rw [ASt.obj_newObj,if_neg (fun e => hne e.symm)] at ho
  exact ⟨fun hf => hf,ho⟩
 ·intro ob2 ho
  rw [ASt.obj_newObj,if_pos rfl] at ho
  cases ho
  refine ⟨Nat.lt_succ_self _,AObj.lt_mono (Nat.le_succ _) _ hlt,hO,?_⟩
  intro b hbk'
  have hbk2 : blk hv = some b:= by
   have := oblk_blk (by rintro E k B rfl; cases h1) hbk'
   rwa [addH_new] at this
  obtain ⟨h1,h2,h3⟩ := hbk b hbk2
  exact ⟨h3,h2,.inl h1⟩
theorem Inv.grow (h : Inv W0 D0 nt s D φ a w) {w' : World} {D' : Nat -> Prop} (hb : Below w.heap.size w w') (hD : ∀ b,D b -> D' b) (hDn : ∀ b,D' b -> D b \/ (b < w'.heap.size /\ w.heap.size <= b)) : Inv W0 D0 nt s D' φ a w':= by
 refine h.chg s.nxt (fun _ => False) (hb.mono (Nat.zero_le _)) ?_ hD ?_ (fun id hid => rfl) (Nat.le_refl _) (fun t x hx => hx) (fun id ob _ ho => ⟨fun hf => hf,ho⟩) (fun ob ho => absurd ho h.noNxt)
 ·intro b hlt _; exact hb.block b hlt
 ·intro b hb'
  rcases hDn b hb' with h1 | ⟨h1,h2⟩
  ·exact .inl h1
  ·exact .inr ⟨h1,.inl h2⟩
end
def cellsF : FV -> List FV
 | .agg cs => cs
 | .pv (.agg ps) => ps.map .pv
 | x => [x]
def leafL : List FV -> Bool
 | [] => true
 | x :: xs => x.leaf && leafL xs
theorem leafL_mem : ∀ {cs : List FV} {x : FV},leafL cs = true -> x ∈ cs -> x.leaf = true
 | [],_,_,hp => by cases hp
 | _ :: _,_,h,hp => by
  simp only [leafL,Bool.and_eq_true] at h
  cases hp with
  | head => exact h.1
  | tail _ hp => exact leafL_mem h.2 hp
theorem ltL_of {n : Nat} : ∀ {cs : List FV},(∀ x ∈ cs,x.lt n = true) -> FV.ltL n cs = true
 | [],_ => rfl
 | x :: cs,h => by simp [FV.ltL,h x (by simp),ltL_of (cs := cs) fun y hy => h y (by simp [hy])]
theorem cells_rep {w : World} {D : Nat -> Prop} {φ : Nat -> Value} {v : Value} {x : FV} {n : Nat} (h : FRep w D φ v x) (hn : x.lt n = true) : v.cells.size = (cellsF x).length /\ FV.ltL n (cellsF x) = true /\
  ∀ (j : Nat) (u : Value) (y : FV),v.cells[j]? = some u -> (cellsF x)[j]? = some y -> FRep w D φ u y:= by
 have one : ∀ (v : Value) (x : FV),v.cells = #[v] -> cellsF x = [x] -> FRep w D φ v x -> x.lt n = true -> v.cells.size = (cellsF x).length /\ FV.ltL n (cellsF x) = true /\
   ∀ (j : Nat) (u : Value) (y : FV),v.cells[j]? = some u -> (cellsF x)[j]? = some y -> FRep w D φ u y:= by
  intro v x hv hx h hn
  rw [hv,hx]
  refine ⟨rfl,by simp [FV.ltL,hn],fun j u y hu hy => ?_⟩
  cases j with
  | zero => simp at hu hy; subst hu; subst hy; exact h
  | succ j => simp at hu
 cases h with
 | pv v p hp =>
  cases hp with
  | agg vs cs hl hr =>
   refine ⟨by simp [Value.cells,cellsF,hl],ltL_of (by intro x hx; simp [cellsF] at hx; obtain ⟨p,_,rfl⟩ := hx; rfl),fun j u y hu hy => ?_⟩
   simp only [cellsF,List.getElem?_map,Option.map_eq_some_iff] at hy
   obtain ⟨p,hp,rfl⟩ := hy
   exact .pv _ _ (hr j u p hu hp)
  | bool b => exact one _ _ rfl rfl (.pv _ _ (.bool b)) hn
  | int k m => exact one _ _ rfl rfl (.pv _ _ (.int k m)) hn
  | str b => exact one _ _ rfl rfl (.pv _ _ (.str b)) hn
  | sl a1 a2 a3 a4 a5 a6 a7 a8 a9 a10 a11 a12 a13 => exact one _ _ rfl rfl (.pv _ _ (.sl a1 a2 a3 a4 a5 a6 a7 a8 a9 a10 a11 a12 a13)) hn
  | ptr a1 a2 a3 a4 a5 a6 a7 => exact one _ _ rfl rfl (.pv _ _ (.ptr a1 a2 a3 a4 a5 a6 a7)) hn
  | fn a1 a2 a3 a4 a5 => exact one _ _ rfl rfl (.pv _ _ (.fn a1 a2 a3 a4 a5)) hn
  | meth a1 a2 a3 a4 a5 => exact one _ _ rfl rfl (.pv _ _ (.meth a1 a2 a3 a4 a5)) hn
  | iface a1 a2 a3 a4 => exact one _ _ rfl rfl (.pv _ _ (.iface a1 a2 a3 a4)) hn
  | imap a1 a2 a3 a4 a5 a6 a7 a8 a9 a10 => exact one _ _ rfl rfl (.pv _ _ (.imap a1 a2 a3 a4 a5 a6 a7 a8 a9 a10)) hn
  | nilFunc => exact one _ _ rfl rfl (.pv _ _ .nilFunc) hn
  | nilIface => exact one _ _ rfl rfl (.pv _ _ .nilIface) hn
  | nilMap => exact one _ _ rfl rfl (.pv _ _ .nilMap) hn
  | nilPtr => exact one _ _ rfl rfl (.pv _ _ .nilPtr) hn
 | nils => exact one _ _ rfl rfl .nils hn
 | box a1 a2 a3 a4 => exact one _ _ rfl rfl (.box a1 a2 a3 a4) hn
 | arr a1 a2 a3 a4 a5 => exact one _ _ rfl rfl (.arr a1 a2 a3 a4 a5) hn
 | aptr a1 a2 a3 a4 a5 a6 a7 a8 => exact one _ _ rfl rfl (.aptr a1 a2 a3 a4 a5 a6 a7 a8) hn
 | mp a1 a2 a3 => exact one _ _ rfl rfl (.mp a1 a2 a3) hn
 | yld a1 a2 a3 => exact one _ _ rfl rfl (.yld a1 a2 a3) hn
 | sub a1 a2 a3 a4 a5 a6 a7 a8 a9 => exact one _ _ rfl rfl (.sub a1 a2 a3 a4 a5 a6 a7 a8 a9) hn
 | fn a1 a2 a3 a4 a5 => exact one _ _ rfl rfl (.fn a1 a2 a3 a4 a5) hn
 | agg vs cs hl hr => exact ⟨hl,hn,fun j u y hu hy => hr j u y hu hy⟩
 | tup a1 a2 a3 a4 => exact one _ _ rfl rfl (.tup a1 a2 a3 a4) hn
section
variable {P : Program} {T : Nat -> Option TyI} {nt : Nat} {s : ASt} {o : Oper}
theorem new_box {W0 : World} {D0 : Bas} {D : Nat -> Prop} {φ : Nat -> Value} {a : Act} {w : World} (hI : Inv W0 D0 nt s D φ a w) (vs : Array Value) (cs : List FV) (t : TypeId) (hl : vs.size = cs.length) (hlt : FV.ltL s.nxt cs = true) (hlf : leafL cs = true)
  (hr : ∀ (j : Nat) (u : Value) (y : FV),vs[j]? = some u -> cs[j]? = some y -> FRep w D φ u y) :
  Inv W0 D0 nt (s.newObj (.box cs)) D (addH φ s.nxt (.pointer (some ⟨w.heap.size,0,none⟩))) a (w.alloc (.cells vs t)):= by
 have hb : Below w.heap.size w (w.alloc (.cells vs t)) := (Below.refl _ _).alloc (Nat.le_refl _) _
 refine hI.new hb (fun _ h => h) (fun b h => .inl h) _ _ (by simpa [AObj.lt] using hlt) ?_ ?_
 ·refine ⟨w.heap.size,vs,t,addH_new _ _ _,heap_alloc_new w _,hl,fun j v x hv hx => ⟨leafL_mem hlf (List.mem_of_getElem? hx),?_⟩⟩
  exact (hr j v x hv hx).mono (fun b hb' => hb.block b (hI.dlt b hb')) (fun _ h => h) (fun id hid => addH_old _ _ hid) (FV.lt_mem hlt (List.mem_of_getElem? hx))
 ·intro b hbk
  simp only [blk,Option.some.injEq] at hbk
  subst hbk
  exact ⟨Nat.le_refl _,by simp,fun h => Nat.lt_irrefl _ (hI.dlt _ h)⟩
theorem op_box {t : Nat} {x : Operand} {y : FV} (ho : o.op = .box t x) (hd : dstB nt o.dst = true) (hx : s.ev x = some y) (hlf : leafL (cellsF y) = true) : OpTo P nt o s ((s.newObj (.box (cellsF y))).putO o.dst (some (.box s.nxt 0))):= by
 intro ro W0 D0 D φ a w hI hko K Q hK
 obtain ⟨hlt,hr⟩ := hI.ev hx
 obtain ⟨h1,h2,h3⟩ := cells_rep hr hlt
 have hN := new_box hI (a.eval x).cells (cellsF y) t h1 h2 hlf h3
 have hrun : (execOp a.eval o).run P w = .ok (.value (.pointer (some ⟨w.heap.size,0,none⟩))) (w.alloc (.cells (a.eval x).cells t)):= by
  simp [execOp,ho,Instr.box,newVar,newRow]
 refine wpIn_of (by rw [ho]; intro c hc; cases hc) ?_
 unfold Oper.wp
 rw [hrun]
 refine hK D _ _ _ (hN.put o.dst (dstB_lt hd) _ _ fun x' hx' => ?_)
 cases hx'
 exact ⟨by simp [FV.lt,ASt.newObj],.box _ 0 _ (addH_new _ _ _)⟩
theorem op_alloc {t : Nat} {i : TyI} (hT : TabOK P T) (ho : o.op = .alloc t) (hd : dstB nt o.dst = true) (ht : T t = some i) : OpTo P nt o s ((s.newObj (.box i.zero)).putO o.dst (some (.box s.nxt 0))):= by
 intro ro W0 D0 D φ a w hI hko K Q hK
 obtain ⟨info,z,h1,h2,h3,h4,h5⟩ := (hT.ty ht).info
 obtain ⟨g1,g2,g3⟩ := zrepL_ok h5
 have hlf : leafL i.zero = true:= by
  have : ∀ (l : List FV),(∀ x ∈ l,x.leaf = true) -> leafL l = true:= by
   intro l; induction l with
   | nil => intro _; rfl
   | cons x l ih => intro h; simp [leafL,h x (by simp),ih fun y hy => h y (by simp [hy])]
  refine this _ fun x hx => ?_
  obtain ⟨j,hj⟩ := List.mem_iff_getElem?.1 hx
  have hjl := (List.getElem?_eq_some_iff.1 hj).1
  have hv : j < z.cells.toList.length := by omega
  exact (g3 j z.cells.toList[j] x (by simp) hj).1
 have hN := new_box hI z.cells i.zero t (by simpa using g1) (g2 _) hlf (fun j u y hu hy => (g3 j u y (by simpa using hu) hy).2 w D φ)
 have hrun : (execOp a.eval o).run P w = .ok (.value (.pointer (some ⟨w.heap.size,0,none⟩))) (w.alloc (.cells z.cells t)):= by
  simp [execOp,ho,Instr.alloc,zeroValue,typeInfo,h1,h4,newVar,newRow]
 refine wpIn_of (by rw [ho]; intro c hc; cases hc) ?_
 unfold Oper.wp
 rw [hrun]
 refine hK D _ _ _ (hN.put o.dst (dstB_lt hd) _ _ fun x' hx' => ?_)
 cases hx'
 exact ⟨by simp [FV.lt,ASt.newObj],.box _ 0 _ (addH_new _ _ _)⟩
def splice {α : Type} (l : List α) (off : Nat) (new : List α) : List α := l.take off ++ new ++ l.drop (off + new.length)
theorem splice_get {α : Type} (l : List α) (off : Nat) (new : List α) (h : off + new.length <= l.length) (j : Nat) : (splice l off new)[j]? = if off <= j /\ j < off + new.length then new[j - off]? else l[j]?:= by
 unfold splice
 have ht : (l.take off).length = off := by simp; omega
 by_cases h1 : j < off
 ·rw [List.append_assoc,List.getElem?_append_left (by omega),List.getElem?_take,if_pos h1,if_neg (by omega)]
 ·by_cases h2 : j < off + new.length
  ·rw [if_pos ⟨by omega,h2⟩,List.append_assoc,List.getElem?_append_right (by omega),ht,List.getElem?_append_left (by omega)]
  ·rw [if_neg (by omega),List.getElem?_append_right (by simp; omega),List.getElem?_drop]
   simp only [List.length_append,ht]
   congr 1; omega
theorem splice_length {α : Type} (l : List α) (off : Nat) (new : List α) (h : off + new.length <= l.length) : (splice l off new).length = l.length:= by
 simp [splice]; omega
theorem op_store_box {t id off : Nat} {x y : Operand} {i : TyI} {cs : List FV} {fy : FV} (hT : TabOK P T) (ho : o.op = .store t x y) (hd : o.dst = none) (ht : T t = some i) (hx : s.ev x = some (.box id off)) (hob : s.obj id = some (.box cs))
  (hy : s.ev y = some fy) (hlf : leafL (cellsF fy) = true) (hsz : Nat.beq (cellsF fy).length i.size = true) (hfit : Nat.ble (off + (cellsF fy).length) cs.length = true) : OpTo P nt o s (s.setObj id (some (.box (splice cs off (cellsF fy))))):= by
 intro ro W0 D0 D φ a w hI hko K Q hK
 obtain ⟨_,hrx⟩ := hI.ev hx
 obtain ⟨hlty,hry⟩ := hI.ev hy
 obtain ⟨c1,c2,c3⟩ := cells_rep hry hlty
 generalize hv : a.eval x = v at hrx
 cases hrx with
 | box id off b hφ =>
  obtain ⟨hid,holt,b',vs,e,h1,h2,h3,h4⟩ := hI.objs id _ hob
  rw [hφ] at h1; cases h1
  have hsz' := Nat.eq_of_beq_eq_true hsz
  have hfit' := Nat.le_of_ble_eq_true hfit
  have hone : ∀ u ∈ (a.eval y).cells.toList,u.oneCell' = true:= by
   intro u hu
   obtain ⟨j,hj⟩ := List.mem_iff_getElem?.1 hu
   have hj' : (a.eval y).cells[j]? = some u := by simpa using hj
   have hjl : j < (cellsF fy).length := by rw [<- c1]; exact (Array.getElem?_eq_some_iff.1 hj').1
   exact (c3 j u _ hj' (by simp [hjl])).oneCell (leafL_mem hlf (List.getElem_mem hjl))
  have hst := run_storeCells_at P b off e (a.eval y).cells.toList 0 vs w h2 (by simp; omega) hone
  simp only [Nat.add_zero] at hst
  have hrun : (execOp a.eval o).run P w = .ok .skip (w.setRow b (splice vs.toList off (a.eval y).cells.toList).toArray):= by
   have hsize : ¬ (a.eval y).cells.size ≠ i.size := by omega
   simp only [execOp,ho,hv,Instr.storeAt,Instr.sureAddr,Sem.run_bind,Sem.run_pure,Result.andThen_ok,storeVar,(hT.ty ht).run_size w,if_neg hsize,hst]
   rfl
  refine wpIn_of (by rw [ho]; intro c hc; cases hc) ?_
  unfold Oper.wp
  rw [hrun]
  have hput : a.put o.dst undef = a := by rw [hd]; rfl
  show K (a.put o.dst undef) _
  rw [hput]
  refine hK D φ a _ (hI.chg id (fun j => j = id) ⟨rfl,rfl,rfl,by simp,fun k hk => absurd hk (Nat.not_lt_zero _)⟩ ?_ (fun _ h => h) (fun b' hb' => .inl hb') (fun _ _ => rfl) (Nat.le_refl _) (fun t x hx => hx) ?_ ?_)
  ·intro b' _ hne
   refine setRow_other _ _ _ _ (fun e => ?_)
   exact hne id _ rfl hob (by simp [oblk,hφ,blk,e])
  ·intro id' ob' hne ho'
   rw [ASt.obj_setObj,if_neg (fun e => hne e.symm)] at ho'
   exact ⟨hne,ho'⟩
  ·intro ob' ho'
   rw [ASt.obj_setObj,if_pos rfl] at ho'
   cases ho'
   have hlen : off + (cellsF fy).length <= cs.length := hfit'
   refine ⟨hid,?_,⟨b,_,e,hφ,setRow_heap w b vs _ e _ h2,?_,?_⟩,?_⟩
   ·refine ltL_of fun z hz => ?_
    simp only [splice,List.mem_append] at hz
    rcases hz with (hz | hz) | hz
    ·exact FV.lt_mem (cs := cs) holt (List.mem_of_mem_take hz)
    ·exact FV.lt_mem c2 hz
    ·exact FV.lt_mem (cs := cs) holt (List.mem_of_mem_drop hz)
   ·rw [splice_length _ _ _ hlen]
    have : off + (a.eval y).cells.toList.length <= vs.toList.length := by simp; omega
    simp only [List.size_toArray,splice_length _ _ _ this]
    simp [h3]
   ·intro j u z hu hz
    have hbk : ∀ b',D b' -> (w.setRow b (splice vs.toList off (a.eval y).cells.toList).toArray).heap[b']? = w.heap[b']?:= by
     intro b' hb'
     refine setRow_other _ _ _ _ (fun e => ?_)
     exact (hI.own id _ b hob (by simp [oblk,hφ,blk])).1 (e ▸ hb')
    have hle : off + (a.eval y).cells.toList.length <= vs.toList.length := by simp; omega
    have hu' : (splice vs.toList off (a.eval y).cells.toList)[j]? = some u := by simpa using hu
    rw [splice_get _ _ _ hle] at hu'
    rw [splice_get _ _ _ hlen] at hz
    simp only [Array.length_toList,c1] at hu'
    by_cases hin : off <= j /\ j < off + (cellsF fy).length
    ·rw [if_pos hin] at hu' hz
     refine ⟨leafL_mem hlf (List.mem_of_getElem? hz),?_⟩
     exact (c3 (j - off) u z (by simpa using hu') hz).mono hbk (fun _ h => h) (fun _ _ => rfl) (FV.lt_mem c2 (List.mem_of_getElem? hz))
    ·rw [if_neg hin] at hu' hz
     obtain ⟨h5,h6⟩ := h4 j u z (by simpa using hu') hz
     exact ⟨h5,h6.mono hbk (fun _ h => h) (fun _ _ => rfl) (FV.lt_mem (cs := cs) holt (List.mem_of_getElem? hz))⟩
   ·intro b' hb'
    have hb2 : oblk φ id (.box cs) b' := hb'
    obtain ⟨g1,g2,g3⟩ := hI.own id _ b' hob hb2
    exact ⟨g1,by simpa using g3,.inr ⟨id,_,rfl,hob,hb2⟩⟩
end
end Go.Abs
namespace Go.Abs
open Go.RowKit
set_option linter.unusedVariables false
theorem src_cells {w : World} {D : Nat -> Prop} {v : Value} {ys : List (List PV)} {sz : Nat} (h : Rep w D v (.sl ys)) (hsz : ∀ y ∈ ys,y.length = sz) (hpos : 0 < sz) :
  ∃ ad m c,v = .slice ad m c /\ m = ys.length /\ (ys = [] \/ ∃ b news,ad = some b /\ news.length = ys.length * sz /\ (∀ (j : Nat) (u : Value),news[j]? = some u -> w.cell? (b.add j) = some u) /\ XRep w D sz news ys):= by
 cases h with
 | sl ad m c sz' es us hm hcap hmax hsz' ha hlf hr =>
  refine ⟨ad,m,c,rfl,hm,?_⟩
  cases ys with
  | nil => exact .inl rfl
  | cons y ys =>
   right
   have hy : sz' = sz := by rw [<- hsz' 0 y rfl]; exact hsz y (by simp)
   subst hy
   subst hm
   obtain ⟨b,hb,hDb,_⟩ := ha 0 0 (by simp) hpos
   refine ⟨b,(List.range ((y :: ys).length * sz')).map (fun q => us (q / sz') (q % sz')),hb,by simp,?_,fun i e he => hsz' i e he,?_⟩
   ·intro j u hu
    simp only [List.getElem?_map,Option.map_eq_some_iff] at hu
    obtain ⟨q,hq,rfl⟩ := hu
    obtain ⟨hq1,hq2⟩ := List.getElem?_eq_some_iff.1 hq
    simp at hq2
    subst hq2
    simp only [List.length_range] at hq1
    have h1 : j / sz' < (y :: ys).length := Nat.div_lt_of_lt_mul (by rw [Nat.mul_comm]; exact hq1)
    have h2 := Nat.mod_lt j hpos
    obtain ⟨b',hb',_,hc⟩ := ha (j / sz') (j % sz') h1 h2
    rw [hb] at hb'; cases hb'
    rw [Nat.div_add_mod'] at hc
    exact hc
   ·intro i j e p he hp
    refine ⟨hlf i j e p he hp,us i j,?_,hr i j e p he hp⟩
    have hi : i < (y :: ys).length := (List.getElem?_eq_some_iff.1 he).1
    have hj : j < sz' := by rw [<- hsz' i e he]; exact (List.getElem?_eq_some_iff.1 hp).1
    have hlt : i * sz' + j < (y :: ys).length * sz':= by
     have h2 := Nat.mul_le_mul_right sz' (show i + 1 <= (y :: ys).length by omega)
     rw [Nat.add_mul] at h2; omega
    have e1 : (i * sz' + j) / sz' = i:= by
     rw [Nat.mul_comm,Nat.mul_add_div hpos]; simp [Nat.div_eq_of_lt hj]
    have e2 : (i * sz' + j) % sz' = j:= by
     rw [Nat.mul_comm,Nat.mul_add_mod]; exact Nat.mod_eq_of_lt hj
    rw [List.getElem?_map,Option.map_eq_some_iff]
    exact ⟨i * sz' + j,by rw [List.getElem?_range hlt],by rw [e1,e2]⟩
theorem own_src {w : World} {D : Nat -> Prop} {base e sz n : Nat} {v : Value} {xs : List Value} {ys : List (List PV)} (h : w.ownsRow base e sz v n xs) (hn : n = ys.length) (hx : XRep w D sz xs ys) :
  ∃ ad m c,v = .slice ad m c /\ m = ys.length /\ (ys = [] \/ ∃ b news,ad = some b /\ news.length = ys.length * sz /\ (∀ (j : Nat) (u : Value),news[j]? = some u -> w.cell? (b.add j) = some u) /\ XRep w D sz news ys):= by
 subst hn
 rcases h.2 with ⟨rfl,h0⟩ | ⟨g,cap,cur,rfl,hg,hh,hc,hm,hs,ht⟩
 ·exact ⟨none,0,0,rfl,h0.symm,.inl (List.eq_nil_of_length_eq_zero h0)⟩
 ·exact ⟨_,_,_,rfl,rfl,.inr ⟨_,xs,rfl,h.1,fun j u hu => h.cells (g := g) rfl j u hu,hx⟩⟩
def ASt.srcOf (s : ASt) (x : Operand) : Option (List (List PV)) := match s.ev x with
 | some (.pv (.sl ys)) => some ys
 | some .nils => some []
 | some (.arr id) => match s.obj id with
  | some (.arr _ _ ys) => some ys
  | some (.fro ys) => some ys
  | _ => none
 | _ => none
section
variable {W0 : World} {D0 : Bas} {nt : Nat} {s : ASt} {D : Nat -> Prop} {φ : Nat -> Value} {a : Act} {w : World}
theorem Inv.src {x : Operand} {ys : List (List PV)} {sz : Nat} (h : Inv W0 D0 nt s D φ a w) (hx : s.srcOf x = some ys) (hsz : ∀ y ∈ ys,y.length = sz) (hpos : 0 < sz) :
  ∃ ad m c,a.eval x = .slice ad m c /\ m = ys.length /\ (ys = [] \/ ∃ b news,ad = some b /\ news.length = ys.length * sz /\ (∀ (j : Nat) (u : Value),news[j]? = some u -> w.cell? (b.add j) = some u) /\ XRep w D sz news ys):= by
 unfold ASt.srcOf at hx
 split at hx
 ·rename_i ys' he
  cases hx
  exact src_cells (h.ev he).2.inv_pv hsz hpos
 ·rename_i he
  cases hx
  have := (h.ev he).2
  generalize a.eval x = v at this
  cases this
  exact ⟨none,0,0,rfl,rfl,.inl rfl⟩
 ·rename_i id he
  have hr := (h.ev he).2
  split at hx
  ·rename_i e sz' ys' ho
   cases hx
   obtain ⟨_,_,xs,h1,h2⟩ := h.objs id _ ho
   generalize a.eval x = v at hr
   cases hr with
   | arr id n c ad hφ =>
    rw [hφ] at h1
    cases ys with
    | nil =>
     obtain ⟨ad',m',c',h3,h4,_⟩ := own_src h1 rfl h2
     exact ⟨ad',m',c',h3,h4,.inl rfl⟩
    | cons y ys =>
     have : sz' = sz := by rw [<- h2.1 0 y rfl]; exact hsz y (by simp)
     subst this
     exact own_src h1 rfl h2
  ·rename_i ys' ho
   cases hx
   have h1 : Rep w D (φ id) (.sl ys) := (h.objs id _ ho).2.2
   generalize a.eval x = v at hr
   cases hr with
   | arr id n c ad hφ => rw [hφ] at h1; exact src_cells h1 hsz hpos
  ·cases hx
 ·cases hx
end
theorem XRep.append {w : World} {D : Nat -> Prop} {sz : Nat} {xs ys : List Value} {es fs : List (List PV)} (hx : XRep w D sz xs es) (hl : xs.length = es.length * sz) (hy : XRep w D sz ys fs) : XRep w D sz (xs ++ ys) (es ++ fs):= by
 refine ⟨fun i e he => ?_,fun i j e p he hp => ?_⟩
 ·by_cases hi : i < es.length
  ·rw [List.getElem?_append_left hi] at he; exact hx.1 i e he
  ·rw [List.getElem?_append_right (by omega)] at he; exact hy.1 _ e he
 ·by_cases hi : i < es.length
  ·rw [List.getElem?_append_left hi] at he
   obtain ⟨h1,u,h2,h3⟩ := hx.2 i j e p he hp
   refine ⟨h1,u,?_,h3⟩
   rw [List.getElem?_append_left (List.getElem?_eq_some_iff.1 h2).1]; exact h2
  ·rw [List.getElem?_append_right (by omega)] at he
   obtain ⟨h1,u,h2,h3⟩ := hy.2 _ j e p he hp
   refine ⟨h1,u,?_,h3⟩
   have : es.length * sz <= i * sz := Nat.mul_le_mul_right _ (by omega)
   rw [List.getElem?_append_right (by rw [hl]; omega),hl,<- h2,Nat.sub_mul]
   congr 1; omega
theorem XRep.oneCell {w : World} {D : Nat -> Prop} {sz : Nat} {xs : List Value} {es : List (List PV)} (hx : XRep w D sz xs es) (hl : xs.length = es.length * sz) (hpos : 0 < sz) : ∀ u ∈ xs,u.oneCell' = true:= by
 intro u hu
 obtain ⟨j,hj⟩ := List.mem_iff_getElem?.1 hu
 have hjl := (List.getElem?_eq_some_iff.1 hj).1
 have h1 : j / sz < es.length := Nat.div_lt_of_lt_mul (by rw [Nat.mul_comm,<- hl]; exact hjl)
 have h2 := Nat.mod_lt j hpos
 have he : es[j / sz]? = some es[j / sz] := by simp [h1]
 have hlen := hx.1 _ _ he
 have hp : es[j / sz][j % sz]? = some (es[j / sz][j % sz]'(by omega)) := by simp [hlen,h2]
 obtain ⟨h3,u',h4,h5⟩ := hx.2 _ _ _ _ he hp
 rw [Nat.div_add_mod',hj] at h4
 cases h4
 exact h5.oneCell h3
section
variable {P : Program}
theorem run_append_zero (w : World) {t ty e : TypeId} {info : TypeInfo} (ht : P.underlying t = some (.slice e)) (hi : P.info? e = some info) (b ax : Option Addr) (n c cx : Nat) (hnc : n <= c) :
  (Builtin.append_ #[t,t] ty #[.slice b n c,.slice ax 0 cx]).run P w = .ok (.slice b n c) w:= by
 cases b <;> cases ax <;> simp [Builtin.append_,run_underlying ht,sizeOf,typeInfo,hi,Builtin.lenOf,hnc,Builtin.firstCells,loadCells,loadCellsFrom,storeCells]
theorem run_append_blk (w : World) {base : Nat} {t ty e : TypeId} {i : TypeInfo} {z : Value} {size bytes : Nat} (ht : P.underlying t = some (.slice e)) (hi : P.info? e = some i) (hz : i.zero = some z)
  (hsize : i.size = size) (hby : i.bytes = bytes) (hzs : z.cells.size = size) (hsz : 0 < size) {v : Value} {n : Nat} {xs : List Value} (hown : w.ownsRow base e size v n xs)
  {ad : Addr} {m c : Nat} {news : List Value} (hl : news.length = m * size) (hnews : ∀ j u,news[j]? = some u -> w.cell? (ad.add j) = some u) (h1 : ∀ u ∈ news,u.oneCell' = true) (hm : 0 < m)
  (h63 : n + m <= maxLen) (hbytes : (n + m) * bytes <= 140737488355328) (hbase : base <= w.heap.size) :
  ∃ v' w',(Builtin.append_ #[t,t] ty #[v,.slice (some ad) m c]).run P w = .ok v' w' /\ w'.ownsRow base e size v' (n + m) (xs ++ news) /\ w.grownBy w' v.ownBlock /\
   ∀ g,blk v' = some g -> blk v = some g \/ (w.heap.size <= g /\ g < w'.heap.size):= by
 obtain ⟨v',w',hr,h2,h3,h4⟩ := run_append_own (P := P) w base t ty e i z size bytes ht hi hz hsize hby hzs hsz v n xs hown ad m c news hl hnews h1 h63 hbytes hbase
 refine ⟨v',w',hr,h2,h3,?_⟩
 have hsmall : n + m <= 9223372036854775807 := by simpa only [maxLen] using h63
 intro g hg
 rcases hown.2 with ⟨rfl,rfl⟩ | ⟨g0,cap,cur,rfl,hbg,hgg,hnc,hcm,hcs,htake⟩
 ·have hr' := run_append_nil (P := P) w t ty e i z ht hi hz ad m c news (by rw [hsize]; exact hl) hnews hm (by omega) (by rw [hby]; have := hbytes; simp only [Nat.zero_add] at this; omega)
  rw [hr'] at hr
  cases hr
  simp only [blk,Option.some.injEq] at hg
  subst hg
  exact .inr ⟨Nat.le_refl _,by simp⟩
 ·by_cases hroom : n + m <= cap
  ·have hfit : n * i.size + news.length <= cur.size := by rw [hl,hcs,hsize,<- Nat.add_mul]; exact Nat.mul_le_mul_right _ hroom
   have hr' := run_append_room (P := P) w t ty e i ht hi g0 n cap cur hgg ad m c news (by rw [hsize]; exact hl) hnews h1 hroom hfit
   rw [hr'] at hr
   cases hr
   exact .inl hg
  ·have holds : ∀ j u,xs[j]? = some u -> w.cell? ((⟨g0,0,none⟩ : Addr).add j) = some u := hown.cells (g := g0) rfl
   have hr' := run_append_grow (P := P) w t ty e i z ht hi hz ⟨g0,0,none⟩ n cap xs (by rw [hsize]; exact hown.1) holds ad m c news (by rw [hsize]; exact hl) hnews (by omega) (by omega) (growslice_fits (by omega) (by rw [hby]; exact hbytes))
   rw [hr'] at hr
   cases hr
   simp only [blk,Option.some.injEq] at hg
   subst hg
   exact .inr ⟨Nat.le_refl _,by simp⟩
variable {T : Nat -> Option TyI} {nt : Nat} {s : ASt} {o : Oper}
theorem blk_own (v : Value) (h : ∃ a n c,v = .slice a n c) : v.ownBlock = blk v:= by
 obtain ⟨a,n,c,rfl⟩ := h
 cases a <;> rfl
theorem ownsRow_slice {w : World} {base e sz n : Nat} {v : Value} {xs : List Value} (h : w.ownsRow base e sz v n xs) : ∃ a c,v = .slice a n c /\ n <= c:= by
 rcases h.2 with ⟨rfl,rfl⟩ | ⟨g,cap,cur,rfl,_,_,hnc,_⟩
 ·exact ⟨none,0,rfl,Nat.le_refl _⟩
 ·exact ⟨_,cap,rfl,hnc⟩
theorem op_append {t e id sz : Nat} {x0 x : Operand} {ti ei : TyI} {es ys : List (List PV)} (hT : TabOK P T) (ho : o.op = .call { callee := .builtin .append,args := #[x0,x],argTypes := #[t,t] }) (hd : dstB nt o.dst = true)
  (ht : T t = some ti) (hk : ti.kind = .slice e) (he : T e = some ei) (hpos : Nat.blt 0 ei.size = true) (hzl : Nat.beq ei.zero.length ei.size = true) (hx0 : s.ev x0 = some (.arr id)) (hob : s.obj id = some (.arr e sz es)) (hsz : Nat.beq sz ei.size = true)
  (hy : s.srcOf x = some ys) (hyl : ∀ y ∈ ys,y.length = sz) (hmax : es.length + ys.length <= 1099511627776) (hby : Nat.ble ei.bytes 128 = true) :
  OpTo P nt o s (((s.setObj id none).newObj (.arr e sz (es ++ ys))).putO o.dst (some (.arr s.nxt))):= by
 intro ro W0 D0 D φ a w hI hko K Q hK
 have hs : sz = ei.size := Nat.eq_of_beq_eq_true hsz
 have hp : 0 < sz := by rw [hs]; simpa using hpos
 have hzl' := Nat.eq_of_beq_eq_true hzl
 have hby' := Nat.le_of_ble_eq_true hby
 obtain ⟨info,z,i1,i2,i3,i4,i5⟩ := (hT.ty he).info
 have hund := (hT.ty ht).slice hk
 obtain ⟨hid,_,xs,hown,hxr⟩ := hI.objs id _ hob
 have hv0 : a.eval x0 = φ id:= by
  have := (hI.ev hx0).2
  generalize a.eval x0 = v at this
  cases this with
  | arr id n c ad h => exact h.symm
 obtain ⟨ad,m,c,hvx,hm,hsrc⟩ := hI.src hy hyl hp
 have hzc : z.cells.size = sz:= by
  have := (zrepL_ok i5).1
  simp at this; omega
 have hWle := hI.below.size
 have hbytes : (es.length + ys.length) * ei.bytes <= 140737488355328:= by
  have := Nat.mul_le_mul hmax hby'
  omega
 have hml : es.length + ys.length <= maxLen := by simp only [maxLen]; omega
 have key : ∃ v' w',(Builtin.append_ #[t,t] o.type #[φ id,a.eval x]).run P w = .ok v' w' /\ (∃ xs',w'.ownsRow 0 e sz v' (es ++ ys).length xs' /\ XRep w' D sz xs' (es ++ ys)) /\ w.grownBy w' (φ id).ownBlock /\
   ∀ g,blk v' = some g -> blk (φ id) = some g \/ (w.heap.size <= g /\ g < w'.heap.size):= by
  rcases hsrc with rfl | ⟨b,news,rfl,hnl,hnc,hnr⟩
  ·obtain ⟨a0,c0,hv,hnc⟩ := ownsRow_slice hown
   refine ⟨φ id,w,?_,⟨xs,by simpa using hown,by simpa using hxr⟩,⟨rfl,rfl,rfl,Nat.le_refl _,fun _ _ _ => rfl⟩,fun g hg => .inl hg⟩
   rw [hvx,hv,hm]
   exact run_append_zero w hund i1 _ _ _ _ _ hnc
  ·have hm0 : 0 < m \/ ys = []:= by
    cases ys with
    | nil => exact .inr rfl
    | cons y ys => left; rw [hm]; simp
   rcases hm0 with hm0 | rfl
   ·obtain ⟨v',w',hr,h2,h3,h4⟩ := run_append_blk (P := P) w (ty := o.type) (c := c) hund i1 i4 (by rw [i2,hs]) i3 hzc hp hown (by rw [hm]; exact hnl) hnc (hnr.oneCell hnl hp) hm0 (by rw [hm]; exact hml) (by rw [hm]; exact hbytes) (Nat.zero_le _)
    refine ⟨v',w',by rw [hvx]; exact hr,⟨xs ++ news,by rw [List.length_append,<- hm]; exact h2,?_⟩,h3,h4⟩
    have hDb : ∀ b,D b -> w'.heap[b]? = w.heap[b]?:= by
     intro b hb
     refine h3.block b (hI.dlt b hb) ?_
     intro e
     obtain ⟨a0,c0,hv,_⟩ := ownsRow_slice hown
     have := blk_own (φ id) ⟨_,_,_,hv⟩
     exact (hI.own id _ b hob (by show blk (φ id) = some b; rw [<- this]; exact e.symm)).1 hb
    exact (hxr.append hown.1 hnr).mono hDb (fun _ h => h)
   ·obtain ⟨a0,c0,hv,hnc'⟩ := ownsRow_slice hown
    refine ⟨φ id,w,?_,⟨xs,by simpa using hown,by simpa using hxr⟩,⟨rfl,rfl,rfl,Nat.le_refl _,fun _ _ _ => rfl⟩,fun g hg => .inl hg⟩
    rw [hvx,hv,hm]
    exact run_append_zero w hund i1 _ _ _ _ _ hnc'
 obtain ⟨v',w',hr,⟨xs',hown',hxr'⟩,hg,hbk⟩ := key
 obtain ⟨a0,c0,hv,_⟩ := ownsRow_slice hown
 have hbo := blk_own (φ id) ⟨_,_,_,hv⟩
 obtain ⟨a1,c1,hv',_⟩ := ownsRow_slice hown'
 have hrun : (execOp a.eval o).run P w = .ok (.value v') w':= by
  simp only [execOp,ho,resolve,invoke,builtin,Sem.run_bind,Sem.run_pure,Result.andThen_ok,List.map_toArray,List.map_cons,List.map_nil,hv0,hr]
 refine wpIn_of (by rw [ho]; intro c hc; cases hc) ?_
 unfold Oper.wp
 rw [hrun]
 have hN : Inv W0 D0 nt ((s.setObj id none).newObj (.arr e sz (es ++ ys))) D (addH φ s.nxt v') a w':= by
  refine hI.chg s.nxt (fun j => j = id) ⟨hg.os,hg.tape,hg.output,hg.size,fun k hk => absurd hk (Nat.not_lt_zero _)⟩ ?_ (fun _ h => h) (fun b hb => .inl hb) (fun j hj => addH_old _ _ hj) (Nat.le_succ _) (fun t x hx => hx) ?_ ?_
  ·intro b hb hne
   refine hg.block b hb fun e => ?_
   exact hne id _ rfl hob (by show blk (φ id) = some b; rw [<- hbo]; exact e.symm)
  ·intro id' ob' hne ho'
   rw [ASt.obj_newObj] at ho'
   have hn2 : (s.setObj id none).nxt = s.nxt := rfl
   rw [hn2,if_neg (fun e => hne e.symm),ASt.obj_setObj] at ho'
   by_cases h2 : id = id'
   ·rw [if_pos h2] at ho'; cases ho'
   ·rw [if_neg h2] at ho'; exact ⟨fun e => h2 e.symm,ho'⟩
  ·intro ob' ho'
   rw [ASt.obj_newObj] at ho'
   have hn2 : (s.setObj id none).nxt = s.nxt := rfl
   rw [hn2,if_pos rfl] at ho'
   cases ho'
   refine ⟨Nat.lt_succ_self _,rfl,⟨xs',by rw [addH_new]; exact hown',hxr'⟩,?_⟩
   intro b hb
   have hb2 : blk v' = some b := by simpa [oblk,addH_new] using hb
   rcases hbk b hb2 with h5 | ⟨h5,h6⟩
   ·have hob2 : oblk φ id (.arr e sz es) b := h5
    obtain ⟨g1,g2,g3⟩ := hI.own id _ b hob hob2
    exact ⟨g1,Nat.lt_of_lt_of_le g3 hg.size,.inr ⟨id,_,rfl,hob,hob2⟩⟩
   ·exact ⟨fun h => by have := hI.dlt b h; omega,h6,.inl h5⟩
 refine hK D _ _ _ (hN.put o.dst (dstB_lt hd) _ _ fun x' hx' => ?_)
 cases hx'
 refine ⟨by simp [FV.lt,ASt.newObj,ASt.setObj],?_⟩
 rw [hv']
 refine .arr _ _ _ _ ?_
 rw [addH_new]
theorem Inv.own_nil {t e sz : Nat} (hx : s.get t = some .nils) (hd : Nat.blt t nt = true) {W0 : World} {D0 : Bas} {D : Nat -> Prop} {φ : Nat -> Value} {a : Act} {w : World} (hI : Inv W0 D0 nt s D φ a w) :
  ∃ φ',Inv W0 D0 nt ((s.newObj (.arr e sz [])).put t (some (.arr s.nxt))) D φ' a w:= by
 refine ⟨addH φ s.nxt (.slice none 0 0),?_⟩
 have hN : Inv W0 D0 nt (s.newObj (.arr e sz [])) D (addH φ s.nxt (.slice none 0 0)) a w:= by
  refine hI.new (Below.refl _ _) (fun _ h => h) (fun _ h => .inl h) _ _ rfl ⟨[],?_,⟨by simp,by simp⟩⟩ (by intro b hb; simp [blk] at hb)
  rw [addH_new]; exact World.ownsRow_nil _ _ _ _
 obtain ⟨_,v,hv,hr⟩ := hI.env t _ hx
 have hvn : v = .slice none 0 0 := by cases hr; rfl
 have hput : a.put (some t) v = a:= by
  have hlt : t < a.tmps.size := (Array.getElem?_eq_some_iff.1 hv).1
  have : a.tmps.setIfInBounds t v = a.tmps:= by
   apply Array.ext
   ·simp
   ·intro j h1 h2
    rw [Array.getElem_setIfInBounds (by simpa using h1)]
    by_cases hj : t = j
    ·subst hj
     rw [if_pos rfl]
     exact (Array.getElem?_eq_some_iff.1 hv).2.symm
    ·rw [if_neg hj]
  simp [Act.put,this]
 have hP := hN.put (some t) (fun d' hd' => by cases hd'; simpa using hd) v (some (.arr s.nxt)) (fun x' hx' => by
  cases hx'
  refine ⟨by simp [FV.lt,ASt.newObj],?_⟩
  rw [hvn]; exact .arr _ _ _ _ (addH_new _ _ _))
 rw [hput] at hP
 exact hP
theorem AL_own_nil {ops : Array Oper} {rest : List Oper} {Q : Exit -> ASt -> Prop} {t e sz : Nat} (hx : s.get t = some .nils) (hd : Nat.blt t nt = true) (h : AL P nt ops rest Q ((s.newObj (.arr e sz [])).put t (some (.arr s.nxt)))) : AL P nt ops rest Q s:= by
 intro ro W0 D0 D φ a w hr hI
 obtain ⟨φ',hI'⟩ := hI.own_nil (e := e) (sz := sz) hx hd
 exact h ro W0 D0 D φ' a w hr hI'
theorem AW_own_nil {c : Code} {Q : Exit -> ASt -> Prop} {t e sz : Nat} (hx : s.get t = some .nils) (hd : Nat.blt t nt = true) (h : AW P nt c Q ((s.newObj (.arr e sz [])).put t (some (.arr s.nxt)))) : AW P nt c Q s:= by
 intro ro W0 D0 D φ a w hr hI
 obtain ⟨φ',hI'⟩ := hI.own_nil (e := e) (sz := sz) hx hd
 exact h ro W0 D0 D φ' a w hr hI'
theorem Inv.freeze {W0 : World} {D0 : Bas} {D : Nat -> Prop} {φ : Nat -> Value} {a : Act} {w : World} (hI : Inv W0 D0 nt s D φ a w) {id e sz : Nat} {es : List (List PV)} (hob : s.obj id = some (.arr e sz es)) :
  ∃ D',Inv W0 D0 nt (s.setObj id (some (.fro es))) D' φ a w:= by
 obtain ⟨hid,_,xs,hown,hxr⟩ := hI.objs id _ hob
 obtain ⟨a0,c0,hv,_⟩ := ownsRow_slice hown
 refine ⟨fun b => D b \/ blk (φ id) = some b,hI.chg id (fun j => j = id) (Below.refl _ _) (fun _ _ _ => rfl) (fun _ h => .inl h) ?_ (fun _ _ => rfl) (Nat.le_refl _) (fun t x hx => hx) ?_ ?_⟩
 ·intro b hb
  rcases hb with hb | hb
  ·exact .inl hb
  ·have hob2 : oblk φ id (.arr e sz es) b := hb
   exact .inr ⟨(hI.own id _ b hob hob2).2.2,.inr ⟨id,_,rfl,hob,hob2⟩⟩
 ·intro id' ob' hne ho'
  rw [ASt.obj_setObj,if_neg (fun e => hne e.symm)] at ho'
  exact ⟨hne,ho'⟩
 ·intro ob' ho'
  rw [ASt.obj_setObj,if_pos rfl] at ho'
  cases ho'
  refine ⟨hid,rfl,?_,by intro b hb; exact hb.elim⟩
  exact owns_rep hown (hxr.mono (fun _ _ => rfl) (fun _ h => .inl h)) (fun b hb => .inr hb)
end
end Go.Abs
