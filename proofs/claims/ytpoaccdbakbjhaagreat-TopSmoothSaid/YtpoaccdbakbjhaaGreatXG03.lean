/- Operations that read or write memory: what they do to an abstract state. -/
import Derived.Test.YtpoaccdbakbjhaaGreatXG02
import Derived.Laws.MakeOwn
set_option linter.unusedVariables false
set_option linter.unusedSimpArgs false
namespace Go.Abs
open Go.RowKit
def mapO {α β:Type} (f:α -> Option β):List α -> Option (List β)
 | []=>some []
 | x :: xs=>match f x,mapO f xs with
  | some y,some ys=>some (y :: ys)
  | _,_=>none
theorem mapO_some {α β:Type} {f:α -> Option β}:∀ {xs:List α} {ys:List β},mapO f xs = some ys -> xs.length = ys.length /\ ∀ (j:Nat) (x:α) (y:β),xs[j]? = some x -> ys[j]? = some y -> f x = some y
 | [],ys,h=>by cases h; simp
 | x :: xs,ys,h=>by
  unfold mapO at h
  split at h
  ·rename_i y ys' hy hys
   cases h
   obtain ⟨h1,h2⟩:=mapO_some hys
   refine ⟨by simp [h1],?_⟩
   intro j u v hu hv
   cases j with
   | zero=>simp at hu hv; subst hu; subst hv; exact hy
   | succ j=>exact h2 j u v (by simpa using hu) (by simpa using hv)
  ·cases h
def ASt.pvOf (s:ASt) (own:Bool):Nat -> FV -> Option PV
 | 0,_=>none
 | n + 1,x=>match x with
  | .pv p=>some p
  | .nils=>some (.sl [])
  | .arr id=>match s.obj id with
   | some (.fro es)=>some (.sl es)
   | some (.arr _ _ es)=>match own with
    | true=>some (.sl es)
    | false=>none
   | _=>none
  | .box id off=>match own,s.obj id with
   | true,some (.box cs)=>match mapO (s.pvOf own n) (cs.drop off) with
    | some ps=>some (.ptr ps)
    | none=>none
   | _,_=>none
  | .mp id=>match own,s.obj id with
   | true,some (.imap ks)=>some (.imap ks)
   | _,_=>none
  | .fn f caps=>match mapO (s.pvOf own n) caps with
   | some ps=>some (.fn f ps)
   | none=>none
  | .agg cs=>match mapO (s.pvOf own n) cs with
   | some ps=>some (.agg ps)
   | none=>none
  | _=>none
def inAll (s:ASt) (D:Nat -> Prop) (φ:Nat -> Value) (b:Nat):Prop:=D b \/ ∃ id ob,s.obj id = some ob /\ oblk φ id ob b
theorem addr_add (b o n:Nat):(⟨b,o,none⟩:Addr).add n = ⟨b,o + n,none⟩:=by unfold Addr.add; split <;> simp_all
theorem owns_rep {w:World} {D:Nat -> Prop} {base e sz:Nat} {v:Value} {es:List (List PV)} {xs:List Value} (h:w.ownsRow base e sz v es.length xs) (hx:XRep w D sz xs es) (hD:∀ b,blk v = some b -> D b) :
  Rep w D v (.sl es):= by
 rcases h.2 with ⟨rfl,h0⟩|⟨g,cap,cur,rfl,hg,hh,hc,hm,hs,ht⟩
 ·have:es = []:=List.eq_nil_of_length_eq_zero h0
  subst this
  exact .sl none 0 0 0 [] (fun _ _=>undef) rfl (Nat.le_refl _) (Nat.zero_le _) (by simp) (by intro i j hi; omega) (by simp) (by simp)
 ·refine .sl _ es.length cap sz es (fun i j=>xs.getD (i * sz + j) undef) rfl hc hm hx.1 ?_ (fun i j e p he hp=>(hx.2 i j e p he hp).1) ?_
  ·intro i j hi hj
   refine ⟨_,rfl,hD g rfl,?_⟩
   rw [addr_add]
   have hlt:i * sz + j < es.length * sz:= by
    have h2:=Nat.mul_le_mul_right sz (show i + 1 <= es.length by omega)
    rw [Nat.add_mul] at h2; omega
   have hxl:i * sz + j < xs.length:=by rw [h.1]; exact hlt
   have hcl:i * sz + j < cur.size:= by
    have:=Nat.mul_le_mul_right sz hc
    omega
   simp only [World.cell?,hh,Nat.zero_add]
   subst ht
   simp only [Option.isSome_none,Bool.false_eq_true,if_false,List.getD_eq_getElem?_getD,List.getElem?_take,if_pos hlt,Array.getElem?_toList]
   simp [hcl]
  ·intro i j el p he hp
   obtain ⟨_,u,hu,hr⟩:=hx.2 i j el p he hp
   have:xs.getD (i * sz + j) undef = u:=by simp [List.getD_eq_getElem?_getD,hu]
   rw [this]; exact hr
section
variable {W0:World} {D0:Bas} {nt:Nat} {s:ASt} {D:Nat -> Prop} {φ:Nat -> Value} {a:Act} {w:World}
theorem pvOf_leaf {own:Bool} {n:Nat} {x:FV} {p:PV} (h:s.pvOf own n x = some p) (hl:x.leaf = true):p.leaf = true:= by
 cases n with
 | zero=>simp [ASt.pvOf] at h
 | succ n =>
  cases x <;> simp only [ASt.pvOf] at h <;> first
   | (cases h; done)
   | (cases h; first|rfl|exact hl)
   | (repeat' (split at h)) <;> first|(cases h; done)|(cases h; first|rfl|(simp [FV.leaf] at hl; done))
theorem pvOf_rep (h:Inv W0 D0 nt s D φ a w) (own:Bool):∀ (n:Nat) (x:FV) (v:Value) (p:PV),FRep w D φ v x -> s.pvOf own n x = some p -> Rep w (if own then inAll s D φ else D) v p:= by
 have hDA:∀ b,D b -> (if own then inAll s D φ else D) b:= by
  intro b hb; cases own
  ·exact hb
  ·exact .inl hb
 intro n
 induction n with
 | zero=>intro x v p _ hp; simp [ASt.pvOf] at hp
 | succ n ih =>
  intro x v p hr hp
  cases hr with
  | pv v q hq=>simp [ASt.pvOf] at hp; subst hp; exact hq.mono (fun _ _=>rfl) hDA
  | nils=>simp [ASt.pvOf] at hp; subst hp; exact .sl none 0 0 0 [] (fun _ _=>undef) rfl (Nat.le_refl _) (Nat.zero_le _) (by simp) (by intro i j hi; omega) (by simp) (by simp)
  | arr id m c ad hφ =>
   simp only [ASt.pvOf] at hp
   split at hp
   ·rename_i es ho
    cases hp
    have:=(h.objs id _ ho).2.2
    rw [<- hφ]
    exact Rep.mono this (fun _ _=>rfl) hDA
   ·rename_i e sz es ho
    split at hp
    ·cases hp
     obtain ⟨xs,h1,h2⟩:=(h.objs id _ ho).2.2
     rw [<- hφ]
     refine owns_rep h1 (h2.mono (fun _ _=>rfl) (fun b hb=>.inl hb)) fun b hb=>.inr ⟨id,_,ho,hb⟩
    ·cases hp
   ·cases hp
  | box id off b hφ =>
   simp only [ASt.pvOf] at hp
   split at hp
   ·rename_i cs ho
    split at hp
    ·rename_i ps hps
     cases hp
     obtain ⟨b',vs,e,h1,h2,h3,h4⟩:=(h.objs id _ ho).2.2
     rw [hφ] at h1; cases h1
     obtain ⟨hl,hm⟩:=mapO_some hps
     have hcs:∀ (j:Nat) (q:PV),ps[j]? = some q -> ∃ y,cs[off + j]? = some y /\ s.pvOf true n y = some q:= by
      intro j q hq
      have hj:j < ps.length:=(List.getElem?_eq_some_iff.1 hq).1
      have hv:off + j < cs.length:=by simp at hl; omega
      have hd:(cs.drop off)[j]? = some cs[off + j]:=by simp [hv]
      exact ⟨cs[off + j],by simp [hv],hm j _ _ hd hq⟩
     refine .ptr _ ps (fun j=>vs.getD (off + j) undef) (.inr ⟨id,_,ho,by simp [oblk,hφ,blk]⟩) ?_ ?_ ?_
     ·intro j hj
      rw [addr_add]
      have:off + j < vs.size:=by rw [h3]; simp at hl; omega
      simp [World.cell?,h2,this]
     ·intro j q hq
      obtain ⟨y,hy,hq'⟩:=hcs j q hq
      have hyl:y.leaf = true:= by
       have hv:off + j < vs.size:=by rw [h3]; exact (List.getElem?_eq_some_iff.1 hy).1
       exact (h4 (off + j) vs[off + j] y (by simp [hv]) hy).1
      exact pvOf_leaf hq' hyl
     ·intro j q hq
      have hj:j < ps.length:=(List.getElem?_eq_some_iff.1 hq).1
      have hv:off + j < vs.size:=by rw [h3]; simp at hl; omega
      have hc:off + j < cs.length:=by rw [<- h3]; exact hv
      have hd:(cs.drop off)[j]? = some cs[off + j]:=by simp [hc]
      have:=h4 (off + j) vs[off + j] cs[off + j] (by simp [hv]) (by simp [hc])
      have e1:vs.getD (off + j) undef = vs[off + j]:=by simp [hv]
      simp only []
      rw [e1]
      exact ih _ _ _ this.2 (hm j _ _ hd hq)
    ·cases hp
   ·cases hp
  | aptr id sz i off g m c hφ=>simp [ASt.pvOf] at hp
  | yld id l hφ=>simp [ASt.pvOf] at hp
  | sub id sz lo n g m c hφ hc=>simp [ASt.pvOf] at hp
  | mp id r hφ =>
   simp only [ASt.pvOf] at hp
   split at hp
   ·rename_i ks ho
    cases hp
    obtain ⟨r',es,clock,h1,h2,h3⟩:=(h.objs id _ ho).2.2
    rw [hφ] at h1; cases h1
    exact .imap r' es clock ks (.inr ⟨id,_,ho,by simp [oblk,hφ,blk]⟩) h2 h3.1 h3.2.1 h3.2.2.1 h3.2.2.2
   ·cases hp
  | fn f vs cs hl hr =>
   simp only [ASt.pvOf] at hp
   split at hp
   ·rename_i ps hps
    cases hp
    obtain ⟨h1,h2⟩:=mapO_some hps
    refine .fn f vs ps (by omega) fun j u q hu hq=>?_
    have hj:j < cs.length:=by rw [h1]; exact (List.getElem?_eq_some_iff.1 hq).1
    have hc:cs[j]? = some cs[j]:=by simp [hj]
    exact ih _ _ _ (hr j u _ hu hc) (h2 j _ _ hc hq)
   ·cases hp
  | agg vs cs hl hr =>
   simp only [ASt.pvOf] at hp
   split at hp
   ·rename_i ps hps
    cases hp
    obtain ⟨h1,h2⟩:=mapO_some hps
    refine .agg vs ps (by omega) fun j u q hu hq=>?_
    have hj:j < cs.length:=by rw [h1]; exact (List.getElem?_eq_some_iff.1 hq).1
    have hc:cs[j]? = some cs[j]:=by simp [hj]
    exact ih _ _ _ (hr j u _ hu hc) (h2 j _ _ hc hq)
   ·cases hp
  | tup vs cs hl hr=>simp [ASt.pvOf] at hp
def ASt.evD (s:ASt) (o:Operand):Option PV:=match s.ev o with
 | some x=>s.pvOf false 5 x
 | none=>none
def ASt.evB (s:ASt) (o:Operand):Option PV:=match s.ev o with
 | some x=>s.pvOf true 5 x
 | none=>none
theorem Inv.evD {o:Operand} {p:PV} (h:Inv W0 D0 nt s D φ a w) (hp:s.evD o = some p):Rep w D (a.eval o) p:= by
 unfold ASt.evD at hp
 split at hp
 ·rename_i x hx
  simpa using pvOf_rep h false 5 x _ p (h.ev hx).2 hp
 ·cases hp
theorem Inv.evB {o:Operand} {p:PV} (h:Inv W0 D0 nt s D φ a w) (hp:s.evB o = some p):Rep w (inAll s D φ) (a.eval o) p:= by
 unfold ASt.evB at hp
 split at hp
 ·rename_i x hx
  simpa using pvOf_rep h true 5 x _ p (h.ev hx).2 hp
 ·cases hp
end
def loadF (agg:Bool) (n:Nat) (cs:List FV):Option FV :=
 match agg with
 | true=>match Nat.ble n cs.length with
  | true=>some (.agg (cs.take n))
  | false=>none
 | false=>match cs with
  | c :: _=>some c
  | []=>none
def loadP (agg:Bool) (n:Nat) (cs:List PV):Option PV :=
 match agg with
 | true=>match Nat.ble n cs.length with
  | true=>some (.agg (cs.take n))
  | false=>none
 | false=>match cs with
  | c :: _=>some c
  | []=>none
section
variable {P:Program} {T:Nat -> Option TyI} {nt:Nat} {s:ASt} {o:Oper}
theorem run_loadVar {t:Nat} {i:TyI} (hT:TyOK P t i) (w:World) (ad:Addr) (f:Nat -> Value) (h:∀ j,j < (if i.agg then i.size else 1) -> w.cell? (ad.add j) = some (f j)) :
  (loadVar t ad).run P w = .ok (if i.agg then .agg ((List.range i.size).map f).toArray else f 0) w:= by
 simp only [loadVar,Sem.run_bind,hT.run_agg w,Result.andThen_ok]
 cases hagg:i.agg with
 | true =>
  rw [hagg] at h
  simp only [if_true] at h
  simp [hT.run_size w,run_loadCells w ad i.size f h]
 | false =>
  rw [hagg] at h
  have h0:=h 0 (by simp)
  have:ad.add 0 = ad:=by simp [Addr.add]
  rw [this] at h0
  simp [run_load,h0]
theorem op_load_box {t id off:Nat} {x:Operand} {i:TyI} {cs:List FV} {y:FV} (hT:TabOK P T) (ho:o.op = .load t x) (hd:dstB nt o.dst = true) (ht:T t = some i)
  (hx:s.ev x = some (.box id off)) (hob:s.obj id = some (.box cs)) (hl:loadF i.agg i.size (cs.drop off) = some y):OpTo P nt o s (s.putO o.dst (some y)) :=
 OpTo.value hd fun W0 D0 D φ a w hI=>by
  have hTy:=hT.ty ht
  obtain ⟨_,hr⟩:=hI.ev hx
  generalize hv:a.eval x = v at hr
  cases hr with
  | box id off b hφ =>
   obtain ⟨hlt,holt,b',vs,e,h1,h2,h3,h4⟩:=hI.objs id _ hob
   rw [hφ] at h1; cases h1
   have hcell:∀ j,off + j < vs.size -> w.cell? ((⟨b,off,none⟩:Addr).add j) = some (vs.getD (off + j) undef):= by
    intro j hj
    rw [addr_add]
    simp [World.cell?,h2,hj]
   cases hagg:i.agg with
   | true =>
    rw [hagg] at hl
    simp only [loadF] at hl
    split at hl
    ·rename_i hle
     cases hl
     have hle':i.size <= cs.length - off:=by simpa using Nat.le_of_ble_eq_true hle
     have hrun:=run_loadVar hTy w ⟨b,off,none⟩ (fun j=>vs.getD (off + j) undef) (fun j hj=>hcell j (by rw [hagg] at hj; simp at hj; omega))
     refine ⟨_,by simp only [execOp,ho,hv,Instr.loadAt,Instr.sureAddr,Sem.run_bind,Sem.run_pure,Result.andThen_ok,hrun]; rfl,?_⟩
     intro x' hx'; cases hx'
     have hlt':FV.ltL s.nxt ((cs.drop off).take i.size) = true:= by
      have:∀ (l:List FV),(∀ x ∈ l,x.lt s.nxt = true) -> FV.ltL s.nxt l = true:= by
       intro l; induction l with
       | nil=>intro _; rfl
       | cons x l ih=>intro h; simp [FV.ltL,h x (by simp),ih fun y hy=>h y (by simp [hy])]
      exact this _ fun x hx=>FV.lt_mem (cs:=cs) holt (List.mem_of_mem_drop (List.mem_of_mem_take hx))
     refine ⟨by simpa [FV.lt] using hlt',?_⟩
     rw [hagg]
     refine .agg _ _ (by simp; omega) fun j u y hu hy=>?_
     have hj:j < i.size:= by
      have:=(Array.getElem?_eq_some_iff.1 hu).1
      simpa using this
     have hu':u = vs.getD (off + j) undef:=by simpa [hj] using hu.symm
     have hy':cs[off + j]? = some y:= by
      rw [List.getElem?_take,if_pos hj,List.getElem?_drop] at hy; exact hy
     subst hu'
     have hvs:off + j < vs.size:=by rw [h3]; exact (List.getElem?_eq_some_iff.1 hy').1
     have e1:vs.getD (off + j) undef = vs[off + j]:=by simp [hvs]
     rw [e1]
     exact (h4 (off + j) _ y (by simp [hvs]) hy').2
    ·cases hl
   | false =>
    rw [hagg] at hl
    simp only [loadF] at hl
    split at hl
    ·rename_i c r hcs
     cases hl
     have hc0:cs[off]? = some y:= by
      have:(cs.drop off)[0]? = some y:=by rw [hcs]; rfl
      simpa using this
     have hvs:off < vs.size:=by rw [h3]; exact (List.getElem?_eq_some_iff.1 hc0).1
     have hrun:=run_loadVar hTy w ⟨b,off,none⟩ (fun j=>vs.getD (off + j) undef) (fun j hj=>hcell j (by rw [hagg] at hj; simp at hj; omega))
     refine ⟨_,by simp only [execOp,ho,hv,Instr.loadAt,Instr.sureAddr,Sem.run_bind,Sem.run_pure,Result.andThen_ok,hrun]; rfl,?_⟩
     intro x' hx'; cases hx'
     refine ⟨FV.lt_mem (cs:=cs) holt (List.mem_of_getElem? hc0),?_⟩
     rw [hagg]
     have e1:vs.getD (off + 0) undef = vs[off]:=by simp [hvs]
     simp only [Bool.false_eq_true,if_false,e1]
     exact (h4 off _ y (by simp [hvs]) hc0).2
    ·cases hl
theorem loadP_rep {w:World} {D:Nat -> Prop} {i:TyI} {us:Nat -> Value} {cs:List PV} {p:PV} (hl:loadP i.agg i.size cs = some p) (hr:∀ (j:Nat) (q:PV),cs[j]? = some q -> Rep w D (us j) q) :
  Rep w D (if i.agg then .agg ((List.range i.size).map us).toArray else us 0) p /\ (if i.agg then i.size else 1) <= cs.length:= by
 cases hagg:i.agg with
 | true =>
  rw [hagg] at hl
  simp only [loadP] at hl
  split at hl
  ·rename_i hle
   cases hl
   have hle':=Nat.le_of_ble_eq_true hle
   refine ⟨?_,by simpa using hle'⟩
   simp only [if_true]
   refine .agg _ _ (by simp; omega) fun j u y hu hy=>?_
   have hj:j < i.size:= by
    have:=(Array.getElem?_eq_some_iff.1 hu).1
    simpa using this
   have hu':u = us j:=by simpa [hj] using hu.symm
   subst hu'
   rw [List.getElem?_take,if_pos hj] at hy
   exact hr j y hy
  ·cases hl
 | false =>
  rw [hagg] at hl
  simp only [loadP] at hl
  split at hl
  ·cases hl
   exact ⟨by simpa using hr 0 _ rfl,by simp⟩
  ·cases hl
theorem op_load_ptr {t:Nat} {x:Operand} {i:TyI} {cs:List PV} {p:PV} (hT:TabOK P T) (ho:o.op = .load t x) (hd:dstB nt o.dst = true) (ht:T t = some i)
  (hx:s.evD x = some (.ptr cs)) (hl:loadP i.agg i.size cs = some p):OpTo P nt o s (s.putO o.dst (some (.pv p))) :=
 OpTo.value hd fun W0 D0 D φ a w hI=>by
  have hTy:=hT.ty ht
  have hr:=hI.evD hx
  generalize hv:a.eval x = v at hr
  cases hr with
  | ptr b cs us hD hc hlf hr =>
   obtain ⟨h1,h2⟩:=loadP_rep hl hr
   have hrun:=run_loadVar hTy w b us (fun j hj=>hc j (by omega))
   refine ⟨_,by simp only [execOp,ho,hv,Instr.loadAt,Instr.sureAddr,Sem.run_bind,Sem.run_pure,Result.andThen_ok,hrun]; rfl,?_⟩
   intro x' hx'; cases hx'
   exact ⟨rfl,.pv _ _ h1⟩
theorem owns_cells {w:World} {D:Nat -> Prop} {base e sz k off:Nat} {g n c:Nat} {v:Value} {es:List (List PV)} {xs:List Value} {el:List PV} (h:w.ownsRow base e sz v es.length xs) (hv:v = .slice (some ⟨g,0,none⟩) n c)
  (hx:XRep w D sz xs es) (hel:es[k]? = some el):∀ j,off + j < el.length -> w.cell? ((⟨g,k * sz + off,none⟩:Addr).add j) = some (xs.getD (k * sz + (off + j)) undef) /\ xs[k * sz + (off + j)]? = some (xs.getD (k * sz + (off + j)) undef):= by
 intro j hj
 obtain ⟨_,u,hu,hr⟩:=hx.2 k (off + j) el _ hel (List.getElem?_eq_some_iff.2 ⟨hj,rfl⟩)
 have e1:xs.getD (k * sz + (off + j)) undef = u:=by simp [List.getD_eq_getElem?_getD,hu]
 rw [e1]
 refine ⟨?_,hu⟩
 rcases h.2 with ⟨rfl,h0⟩|⟨g',cap,cur,rfl,hg,hh,hc,hm,hs,ht⟩
 ·cases hv
 ·cases hv
  rw [addr_add,Nat.add_assoc]
  simp only [World.cell?,hh]
  rw [<- ht,List.getElem?_take] at hu
  split at hu
  ·simpa using hu
  ·cases hu
theorem op_load_aptr {t id sz k off e:Nat} {x:Operand} {i:TyI} {es:List (List PV)} {el:List PV} {p:PV} (hT:TabOK P T) (ho:o.op = .load t x) (hd:dstB nt o.dst = true) (ht:T t = some i)
  (hx:s.ev x = some (.aptr id sz k off)) (hob:s.obj id = some (.arr e sz es)) (hel:es[k]? = some el) (hl:loadP i.agg i.size (el.drop off) = some p):OpTo P nt o s (s.putO o.dst (some (.pv p))) :=
 OpTo.value hd fun W0 D0 D φ a w hI=>by
  have hTy:=hT.ty ht
  obtain ⟨_,hr⟩:=hI.ev hx
  generalize hv:a.eval x = v at hr
  cases hr with
  | aptr id sz k off g n c hφ =>
   obtain ⟨_,_,xs,h1,h2⟩:=hI.objs id _ hob
   have hcell:=owns_cells (off:=off) h1 hφ h2 hel
   have hrep:∀ (j:Nat) (q:PV),(el.drop off)[j]? = some q -> Rep w D (xs.getD (k * sz + (off + j)) undef) q:= by
    intro j q hq
    rw [List.getElem?_drop] at hq
    obtain ⟨_,u,hu,hr⟩:=h2.2 k (off + j) el q hel hq
    have e1:xs.getD (k * sz + (off + j)) undef = u:=by simp [List.getD_eq_getElem?_getD,hu]
    rw [e1]; exact hr
   obtain ⟨h3,h4⟩:=loadP_rep hl hrep
   have hrun:=run_loadVar hTy w ⟨g,k * sz + off,none⟩ (fun j=>xs.getD (k * sz + (off + j)) undef) (fun j hj=>(hcell j (by simp at h4; omega)).1)
   refine ⟨_,by simp only [execOp,ho,hv,Instr.loadAt,Instr.sureAddr,Sem.run_bind,Sem.run_pure,Result.andThen_ok,hrun]; rfl,?_⟩
   intro x' hx'; cases hx'
   exact ⟨rfl,.pv _ _ h3⟩
theorem run_fieldAt {t f off ft:Nat} {i fi:TyI} {offs tys:List Nat} (hT:TabOK P T) (ht:T t = some i) (hk:i.kind = .strct offs tys) (hoff:offs[f]? = some off) (hft:tys[f]? = some ft)
  (hfi:T ft = some fi) (hsz:Nat.beq fi.size 0 = false) (w:World) (ad:Addr):(Instr.fieldAt t (.pointer (some ad)) f).run P w = .ok (.pointer (some (ad.add off))) w:= by
 obtain ⟨fs,h1,h2,h3⟩:=(hT.ty ht).strct hk
 have hlt:f < fs.size:= by
  have:=(List.getElem?_eq_some_iff.1 hoff).1
  rw [<- h2] at this; simpa using this
 have e1:fs[f].offset = off:= by
  rw [<- h2] at hoff; simpa [hlt] using hoff
 have e2:fs[f].type = ft:= by
  rw [<- h3] at hft; simpa [hlt] using hft
 have hne:fi.size ≠ 0:=fun e=>by rw [e] at hsz; simp at hsz
 simp [Instr.fieldAt,underlying,h1,hlt,Instr.sureAddr,fieldPlace,e1,e2,(hT.ty hfi).run_size w,hne]
theorem op_fieldAddr_box {t f off ft id o0:Nat} {x:Operand} {i fi:TyI} {offs tys:List Nat} (hT:TabOK P T) (ho:o.op = .fieldAddr t x f) (hd:dstB nt o.dst = true) (ht:T t = some i) (hk:i.kind = .strct offs tys)
  (hoff:offs[f]? = some off) (hft:tys[f]? = some ft) (hfi:T ft = some fi) (hsz:Nat.beq fi.size 0 = false) (hx:s.ev x = some (.box id o0)):OpTo P nt o s (s.putO o.dst (some (.box id (o0 + off)))) :=
 OpTo.value hd fun W0 D0 D φ a w hI=>by
  obtain ⟨hlt,hr⟩:=hI.ev hx
  generalize hv:a.eval x = v at hr
  cases hr with
  | box id off b hφ =>
   refine ⟨_,by simp only [execOp,ho,hv,run_fieldAt hT ht hk hoff hft hfi hsz w,Sem.run_bind,Result.andThen_ok,addr_add]; rfl,?_⟩
   intro x' hx'; cases hx'
   exact ⟨hlt,.box id _ b hφ⟩
theorem op_fieldAddr_aptr {t f off ft id sz k o0:Nat} {x:Operand} {i fi:TyI} {offs tys:List Nat} (hT:TabOK P T) (ho:o.op = .fieldAddr t x f) (hd:dstB nt o.dst = true) (ht:T t = some i) (hk:i.kind = .strct offs tys)
  (hoff:offs[f]? = some off) (hft:tys[f]? = some ft) (hfi:T ft = some fi) (hsz:Nat.beq fi.size 0 = false) (hx:s.ev x = some (.aptr id sz k o0)):OpTo P nt o s (s.putO o.dst (some (.aptr id sz k (o0 + off)))) :=
 OpTo.value hd fun W0 D0 D φ a w hI=>by
  obtain ⟨hlt,hr⟩:=hI.ev hx
  generalize hv:a.eval x = v at hr
  cases hr with
  | aptr id sz k o0 g n c hφ =>
   refine ⟨_,by simp only [execOp,ho,hv,run_fieldAt hT ht hk hoff hft hfi hsz w,Sem.run_bind,Result.andThen_ok,addr_add]; rfl,?_⟩
   intro x' hx'; cases hx'
   refine ⟨hlt,?_⟩
   rw [Nat.add_assoc]
   exact .aptr id sz k _ g n c hφ
theorem op_fieldAddr_ptr {t f off ft:Nat} {x:Operand} {i fi:TyI} {offs tys:List Nat} {cs:List PV} (hT:TabOK P T) (ho:o.op = .fieldAddr t x f) (hd:dstB nt o.dst = true) (ht:T t = some i) (hk:i.kind = .strct offs tys)
  (hoff:offs[f]? = some off) (hft:tys[f]? = some ft) (hfi:T ft = some fi) (hsz:Nat.beq fi.size 0 = false) (hx:s.evD x = some (.ptr cs)):OpTo P nt o s (s.putO o.dst (some (.pv (.ptr (cs.drop off))))) :=
 OpTo.value hd fun W0 D0 D φ a w hI=>by
  have hr:=hI.evD hx
  generalize hv:a.eval x = v at hr
  cases hr with
  | ptr b cs us hD hc hlf hr =>
   refine ⟨_,by simp only [execOp,ho,hv,run_fieldAt hT ht hk hoff hft hfi hsz w,Sem.run_bind,Result.andThen_ok]; rfl,?_⟩
   intro x' hx'; cases hx'
   have hblk:(b.add off).block = b.block:=by unfold Addr.add; split <;> rfl
   have hadd:∀ j,w.cell? ((b.add off).add j) = w.cell? (b.add (off + j)):= by
    intro j
    unfold Addr.add
    by_cases h0:off = 0
    ·subst h0; simp
    ·by_cases hj:j = 0
     ·subst hj; simp [h0]
     ·simp [h0,hj,Nat.add_assoc]
   refine ⟨rfl,.pv _ _ (.ptr _ _ (fun j=>us (off + j)) (by rw [hblk]; exact hD) ?_ (fun j q hq=>by rw [List.getElem?_drop] at hq; exact hlf (off + j) q hq) ?_)⟩
   ·intro j hj
    rw [hadd]
    exact hc (off + j) (by simp at hj; omega)
   ·intro j q hq
    rw [List.getElem?_drop] at hq
    exact hr (off + j) q hq
theorem op_field {t f off ft:Nat} {x:Operand} {i fi:TyI} {offs tys:List Nat} {cs:List PV} {p:PV} (hT:TabOK P T) (ho:o.op = .field t x f) (hd:dstB nt o.dst = true) (ht:T t = some i) (hk:i.kind = .strct offs tys)
  (hoff:offs[f]? = some off) (hft:tys[f]? = some ft) (hfi:T ft = some fi) (hx:s.evD x = some (.agg cs)) (hl:loadP fi.agg fi.size (cs.drop off) = some p):OpTo P nt o s (s.putO o.dst (some (.pv p))) :=
 OpTo.value hd fun W0 D0 D φ a w hI=>by
  have hr:=hI.evD hx
  generalize hv:a.eval x = v at hr
  cases hr with
  | agg vs cs hl' hr =>
   obtain ⟨fs,h1,h2,h3⟩:=(hT.ty ht).strct hk
   have hlt:f < fs.size:= by
    have:=(List.getElem?_eq_some_iff.1 hoff).1
    rw [<- h2] at this; simpa using this
   have e1:fs[f].offset = off:= by
    rw [<- h2] at hoff; simpa [hlt] using hoff
   have e2:fs[f].type = ft:= by
    rw [<- h3] at hft; simpa [hlt] using hft
   have hrep:∀ (j:Nat) (q:PV),(cs.drop off)[j]? = some q -> Rep w D (vs.getD (off + j) undef) q:= by
    intro j q hq
    rw [List.getElem?_drop] at hq
    have hj:off + j < vs.size:=by rw [hl']; exact (List.getElem?_eq_some_iff.1 hq).1
    have e1:vs.getD (off + j) undef = vs[off + j]:=by simp [hj]
    rw [e1]; exact hr (off + j) _ q (by simp [hj]) hq
   obtain ⟨h4,h5⟩:=loadP_rep hl hrep
   refine ⟨(if fi.agg then .agg ((List.range fi.size).map fun j=>vs.getD (off + j) undef).toArray else vs.getD (off + 0) undef),?_,fun x' hx'=>by cases hx'; exact ⟨rfl,.pv _ _ h4⟩⟩
   simp only [execOp,ho,hv,Instr.field,underlying,Sem.run_bind,run_program,Result.andThen_ok,h1,Sem.run_pure,hlt,Array.getElem?_eq_getElem,asAgg,e1,e2,part,(hT.ty hfi).run_agg w]
   simp only [List.length_drop] at h5
   cases hagg:fi.agg with
   | true =>
    rw [hagg] at h5
    simp only [if_true] at h5 ⊢
    simp only [Sem.run_bind,(hT.ty hfi).run_size w,Result.andThen_ok,Sem.run_pure]
    congr 3
    apply Array.ext
    ·simp; omega
    ·intro j hj1 hj2
     have hb:off + j < vs.size:=by simp at hj1; omega
     simp [hb]
   | false =>
    rw [hagg] at h5
    have hb:off < vs.size:=by simp at h5; omega
    simp [hb]
theorem op_indexAddr_sl {t e:Nat} {x ix:Operand} {ti ei:TyI} {k:IntKind} {n:Int} {es:List (List PV)} {el:List PV} (hT:TabOK P T) (ho:o.op = .indexAddr t x ix) (hd:dstB nt o.dst = true) (ht:T t = some ti)
  (hk:ti.kind = .slice e) (he:T e = some ei) (hx:s.evD x = some (.sl es)) (hi:s.ev ix = some (.pv (.int k n))) (hn:0 <= n) (hel:es[n.toNat]? = some el) (hsz:el.length = ei.size) (hpos:Nat.blt 0 ei.size = true) :
  OpTo P nt o s (s.putO o.dst (some (.pv (.ptr el)))) :=
 OpTo.value hd fun W0 D0 D φ a w hI=>by
  have hr:=hI.evD hx
  generalize hv:a.eval x = v at hr
  cases hr with
  | sl ad m c sz es us hm hcap hmax hsz' ha hlf hr =>
   subst hm
   have hlt:n.toNat < es.length:=(List.getElem?_eq_some_iff.1 hel).1
   have hs:sz = ei.size:=by rw [<- hsz,hsz' _ _ hel]
   have hp:0 < ei.size:=by simpa using hpos
   obtain ⟨b,rfl,hDb,_⟩:=ha n.toNat 0 hlt (by omega)
   have hund:=(hT.ty ht).slice hk
   have hilt:n < (es.length:Int):=by omega
   refine ⟨.pointer (some (b.add (n.toNat * ei.size))),?_,?_⟩
   ·simp [execOp,ho,hv,hI.ev_int hi,Instr.indexAt,asIntOf,underlying,hund,hn,hilt,(hT.ty he).run_size w]
   ·intro x' hx'; cases hx'
    have hblk:∀ q,(b.add q).block = b.block:=by intro q; unfold Addr.add; split <;> rfl
    have hadd:∀ q j,w.cell? ((b.add q).add j) = w.cell? (b.add (q + j)):= by
     intro q j
     unfold Addr.add
     by_cases h0:q = 0
     ·subst h0; simp
     ·by_cases hj:j = 0
      ·subst hj; simp [h0]
      ·simp [h0,hj,Nat.add_assoc]
    refine ⟨rfl,.pv _ _ (.ptr _ _ (us n.toNat) (by rw [hblk]; exact hDb) ?_ (fun j q hq=>hlf n.toNat j el q hel hq) ?_)⟩
    ·intro j hj
     rw [hadd]
     obtain ⟨b',hb',_,hc⟩:=ha n.toNat j hlt (by omega)
     cases hb'
     rw [<- hs]; exact hc
    ·intro j q hq
     exact hr n.toNat j el q hel hq
theorem op_indexAddr_arr {t e e' id sz:Nat} {x ix:Operand} {ti ei:TyI} {k:IntKind} {n:Int} {es:List (List PV)} (hT:TabOK P T) (ho:o.op = .indexAddr t x ix) (hd:dstB nt o.dst = true) (ht:T t = some ti)
  (hk:ti.kind = .slice e) (he:T e = some ei) (hx:s.ev x = some (.arr id)) (hob:s.obj id = some (.arr e' sz es)) (hi:s.ev ix = some (.pv (.int k n))) (hn:0 <= n) (hlt:n.toNat < es.length) (hsz:Nat.beq sz ei.size = true) :
  OpTo P nt o s (s.putO o.dst (some (.aptr id sz n.toNat 0))) :=
 OpTo.value hd fun W0 D0 D φ a w hI=>by
  obtain ⟨hid,hr⟩:=hI.ev hx
  generalize hv:a.eval x = v at hr
  cases hr with
  | arr id m c ad hφ =>
   have hs:sz = ei.size:=Nat.eq_of_beq_eq_true hsz
   obtain ⟨_,_,xs,h1,h2⟩:=hI.objs id _ hob
   have hund:=(hT.ty ht).slice hk
   rw [hφ] at h1
   rcases h1.2 with ⟨h,h0⟩|⟨g,cap,cur,h,hg,hh,hc,hm,hsc,htk⟩
   ·omega
   ·cases h
    have hilt:n < (es.length:Int):=by omega
    refine ⟨.pointer (some ((⟨g,0,none⟩:Addr).add (n.toNat * ei.size))),?_,?_⟩
    ·simp [execOp,ho,hv,hI.ev_int hi,Instr.indexAt,asIntOf,underlying,hund,hn,hilt,(hT.ty he).run_size w]
    ·intro x' hx'; cases hx'
     refine ⟨by simpa [FV.lt] using hid,?_⟩
     rw [addr_add,Nat.zero_add,<- hs]
     exact .aptr id sz n.toNat 0 g _ _ hφ
theorem op_len_sl {t e:Nat} {x:Operand} {ti:TyI} {es:List (List PV)} {n:Int} (hT:TabOK P T) (ho:o.op = .call { callee:=.builtin .len,args:=#[x],argTypes:=#[t] }) (hd:dstB nt o.dst = true) (ht:T t = some ti)
  (hk:ti.kind = .slice e) (hx:s.evB x = some (.sl es)) (hn:(es.length:Int) = n):OpTo P nt o s (s.putO o.dst (some (.pv (.int .i64 n)))) :=
 OpTo.value hd fun W0 D0 D φ a w hI=>by
  subst hn
  have hr:=hI.evB hx
  generalize hv:a.eval x = v at hr
  cases hr with
  | sl ad m c sz es us hm hcap hmax hsz' ha hlf hr =>
   subst hm
   have hund:=(hT.ty ht).slice hk
   refine ⟨.int .i64 es.length,?_,fun x' hx'=>by cases hx'; exact ⟨rfl,.pv _ _ (.int _ _)⟩⟩
   simp [execOp,ho,hv,resolve,invoke,builtin,Builtin.len_,underlying,hund,goInt]
end
end Go.Abs
