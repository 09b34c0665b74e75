/- Aggregates that are built, calls, functions. -/
import Derived.Test.YtpoaccdbakbjhaaGreatXG04
set_option linter.unusedVariables false
set_option linter.unusedSimpArgs false
namespace Go.Abs
open Go.RowKit
def partsF (s:ASt):List (Nat × Operand) -> Option (List (Nat × FV))
 | []=>some []
 | (i,x) :: r=>match s.ev x,partsF s r with
  | some y,some l=>some ((i,y) :: l)
  | _,_=>none
def fillF (place:Nat -> Option (Nat × Nat)) (cells:List FV):List (Nat × FV) -> Option (List FV)
 | []=>some cells
 | (i,x) :: r=>match place i with
  | some (off,size)=>match Nat.beq (cellsF x).length size,Nat.ble (off + size) cells.length with
   | true,true=>fillF place (splice cells off (cellsF x)) r
   | _,_=>none
  | none=>none
theorem fold_set (off:Nat):∀ (l:List Value) (k:Nat) (cs:Array Value),((l.zipIdx k).foldl (fun cs p=>cs.setIfInBounds (off + p.2) p.1) cs).size = cs.size /\
  (off + k + l.length <= cs.size -> ∀ j:Nat,((l.zipIdx k).foldl (fun cs p=>cs.setIfInBounds (off + p.2) p.1) cs)[j]? = if off + k <= j /\ j < off + k + l.length then l[j - (off + k)]? else cs[j]?)
 | [],k,cs=>⟨rfl,fun _ j=>by simp; intro h1 h2; omega⟩
 | v :: l,k,cs=>by
  obtain ⟨h1,h2⟩:=fold_set off l (k + 1) (cs.setIfInBounds (off + k) v)
  simp only [List.zipIdx_cons,List.foldl_cons]
  refine ⟨by rw [h1]; simp,fun hle j=>?_⟩
  simp only [List.length_cons] at hle
  rw [h2 (by simp; omega) j]
  by_cases ha:off + (k + 1) <= j /\ j < off + (k + 1) + l.length
  ·rw [if_pos ha,if_pos (by simp; omega)]
   have:j - (off + k) = (j - (off + (k + 1))) + 1:=by omega
   rw [this,List.getElem?_cons_succ]
  ·rw [if_neg ha,Array.getElem?_setIfInBounds]
   by_cases hb:off + k = j
   ·rw [if_pos hb,if_pos (by omega),if_pos (by simp; omega)]
    have:j - (off + k) = 0:=by omega
    rw [this,List.getElem?_cons_zero]
   ·rw [if_neg hb,if_neg (by simp; omega)]
theorem fill_rep {w:World} {D:Nat -> Prop} {φ:Nat -> Value} {n:Nat} (place:Nat -> Option (Nat × Nat)):∀ (vps:List (Nat × Value)) (fps:List (Nat × FV)) (ca:Array Value) (cf cf':List FV),vps.length = fps.length →
  (∀ (j i:Nat) (v:Value) (i':Nat) (x:FV),vps[j]? = some (i,v) -> fps[j]? = some (i',x) -> i = i' /\ x.lt n = true /\ FRep w D φ v x) -> ca.size = cf.length -> FV.ltL n cf = true →
  (∀ (j:Nat) (u:Value) (y:FV),ca[j]? = some u -> cf[j]? = some y -> FRep w D φ u y) -> fillF place cf fps = some cf' →
  ∃ ca',Instr.fill place ca vps = some ca' /\ ca'.size = cf'.length /\ FV.ltL n cf' = true /\ ∀ (j:Nat) (u:Value) (y:FV),ca'[j]? = some u -> cf'[j]? = some y -> FRep w D φ u y
 | [],[],ca,cf,cf',_,_,hs,hl,hr,h=>by cases h; exact ⟨ca,rfl,hs,hl,hr⟩
 | (i,v) :: vps,(i',x) :: fps,ca,cf,cf',hlen,hp,hs,hl,hr,h=>by
  obtain ⟨rfl,hx1,hx2⟩:=hp 0 i v i' x rfl rfl
  unfold fillF at h
  split at h
  ·rename_i off size hpl
   split at h
   ·rename_i h1 h2
    have h1':=Nat.eq_of_beq_eq_true h1
    have h2':=Nat.le_of_ble_eq_true h2
    obtain ⟨c1,c2,c3⟩:=cells_rep hx2 hx1
    have hfs:=fold_set off v.cells.toList 0 ca
    have hfold:(v.cells.zipIdx.foldl (fun cs (c,j)=>cs.setIfInBounds (off + j) c) ca) = ((v.cells.toList.zipIdx 0).foldl (fun cs p=>cs.setIfInBounds (off + p.2) p.1) ca):= by
     rw [<- Array.foldl_toList,Array.toList_zipIdx]
    have hsl:off + (cellsF x).length <= cf.length:=by omega
    obtain ⟨ca',g1,g2,g3,g4⟩:=fill_rep place vps fps (v.cells.zipIdx.foldl (fun cs (c,j)=>cs.setIfInBounds (off + j) c) ca) (splice cf off (cellsF x)) cf' (by simpa using hlen)
     (fun j a b c d h1 h2=>hp (j + 1) a b c d (by simpa using h1) (by simpa using h2))
     (by rw [hfold,hfs.1,splice_length _ _ _ hsl,hs])
     (ltL_of fun z hz=>by
      simp only [splice,List.mem_append] at hz
      rcases hz with (hz|hz)|hz
      ·exact FV.lt_mem (cs:=cf) hl (List.mem_of_mem_take hz)
      ·exact FV.lt_mem c2 hz
      ·exact FV.lt_mem (cs:=cf) hl (List.mem_of_mem_drop hz))
     (fun j u y hu hy=>by
      rw [hfold,hfs.2 (by simp; omega) j] at hu
      rw [splice_get _ _ _ hsl] at hy
      simp only [Nat.add_zero,Array.length_toList,c1] at hu
      by_cases hin:off <= j /\ j < off + (cellsF x).length
      ·rw [if_pos hin] at hu hy
       exact c3 (j - off) u y (by simpa using hu) hy
      ·rw [if_neg hin] at hu hy
       exact hr j u y hu hy)
     h
    refine ⟨ca',?_,g2,g3,g4⟩
    unfold Instr.fill
    simp only [hpl]
    rw [if_neg (by simp; omega)]
    exact g1
   ·cases h
  ·cases h
 | [],_ :: _,_,_,_,h,_,_,_,_,_=>by simp at h
 | _ :: _,[],_,_,_,h,_,_,_,_,_=>by simp at h
theorem partsF_ok {s:ASt}:∀ {l:List (Nat × Operand)} {fps:List (Nat × FV)},partsF s l = some fps -> l.length = fps.length /\ ∀ (j i:Nat) (x:Operand) (i':Nat) (y:FV),l[j]? = some (i,x) -> fps[j]? = some (i',y) -> i = i' /\ s.ev x = some y
 | [],fps,h=>by cases h; simp
 | (i,x) :: r,fps,h=>by
  unfold partsF at h
  split at h
  ·rename_i y l hy hl
   cases h
   obtain ⟨h1,h2⟩:=partsF_ok hl
   refine ⟨by simp [h1],fun j a b c d hj hk=>?_⟩
   cases j with
   | zero=>simp at hj hk; obtain ⟨rfl,rfl⟩:=hj; obtain ⟨rfl,rfl⟩:=hk; exact ⟨rfl,hy⟩
   | succ j=>exact h2 j a b c d (by simpa using hj) (by simpa using hk)
  ·cases h
def sizesT (T:Nat -> Option TyI):List Nat -> Option (List Nat)
 | []=>some []
 | t :: r=>match T t,sizesT T r with
  | some i,some l=>some (i.size :: l)
  | _,_=>none
theorem places_ok {P:Program} {T:Nat -> Option TyI} (hT:TabOK P T):∀ (fs:List Field) (offs tys szs:List Nat),fs.map (·.offset) = offs -> fs.map (·.type) = tys -> sizesT T tys = some szs →
  fs.mapM (fun f=>(P.info? f.type).map fun i=>(f.offset,i.size)) = some (offs.zip szs)
 | [],offs,tys,szs,h1,h2,h3=>by subst h1; subst h2; cases h3; rfl
 | f :: fs,offs,tys,szs,h1,h2,h3=>by
  subst h1; subst h2
  simp only [List.map_cons] at h3
  unfold sizesT at h3
  split at h3
  ·rename_i i l hi hl
   cases h3
   obtain ⟨info,z,g1,g2,_⟩:=(hT.ty hi).info
   have ih:=places_ok hT fs _ _ l rfl rfl hl
   simp [List.mapM_cons,g1,ih,g2]
  ·cases h3
section
variable {P:Program} {T:Nat -> Option TyI} {nt:Nat} {s:ASt} {o:Oper}
theorem op_build {t:Nat} {ps:Array (Nat × Operand)} {i:TyI} {offs tys szs:List Nat} {fps:List (Nat × FV)} {cs:List FV} (hT:TabOK P T) (ho:o.op = .build t ps) (hd:dstB nt o.dst = true) (ht:T t = some i)
  (hk:i.kind = .strct offs tys) (hz:sizesT T tys = some szs) (hp:partsF s ps.toList = some fps) (hf:fillF (fun j=>(offs.zip szs)[j]?) i.zero fps = some cs):OpTo P nt o s (s.putO o.dst (some (.agg cs))) :=
 OpTo.value hd fun W0 D0 D φ a w hI=>by
  obtain ⟨fs,u1,u2,u3⟩:=(hT.ty ht).strct hk
  obtain ⟨info,z,i1,i2,i3,i4,i5⟩:=(hT.ty ht).info
  obtain ⟨z1,z2,z3⟩:=zrepL_ok i5
  obtain ⟨p1,p2⟩:=partsF_ok hp
  have hpl:=places_ok hT fs.toList offs tys szs u2 u3 hz
  obtain ⟨ca,g1,g2,g3,g4⟩:=fill_rep (w:=w) (D:=D) (φ:=φ) (n:=s.nxt) (fun j=>(offs.zip szs)[j]?) (ps.toList.map fun (i,x)=>(i,a.eval x)) fps z.cells i.zero cs (by simpa using p1)
   (fun j i v i' x hv hx=>by
    rw [List.getElem?_map,Option.map_eq_some_iff] at hv
    obtain ⟨⟨i2,x2⟩,h1,h2⟩:=hv
    simp only [Prod.mk.injEq] at h2
    obtain ⟨rfl,rfl⟩:=h2
    obtain ⟨h3,h4⟩:=p2 j _ _ _ _ h1 hx
    exact ⟨h3,(hI.ev h4).1,(hI.ev h4).2⟩)
   (by simpa using z1) (z2 _) (fun j u y hu hy=>(z3 j u y (by simpa using hu) hy).2 w D φ) hf
  have hrun:(Instr.build t (ps.map fun (i,x)=>(i,a.eval x))).run P w = .ok (.agg ca) w:= by
   refine run_build (P:=P) w t _ ca ?_
   unfold Program.built
   simp only [i1,u1,i4,hpl,Array.toList_map]
   rw [<- g1]
   congr 1
   funext j
   simp
  exact ⟨.agg ca,by simp only [execOp,ho,Sem.run_bind,hrun,Result.andThen_ok,Sem.run_pure],fun x' hx'=>by cases hx'; exact ⟨by simpa [FV.lt] using g3,.agg ca cs g2 g4⟩⟩
def cellsP:PV -> List PV
 | .agg cs=>cs
 | x=>[x]
def leafP:List PV -> Bool
 | []=>true
 | x :: xs=>x.leaf && leafP xs
def partsP (s:ASt) (sz:Nat):Nat -> List (Nat × Operand) -> Option (List (List PV))
 | _,[]=>some []
 | k,(i,x) :: r=>match Nat.beq i k,s.evD x,partsP s sz (k + 1) r with
  | true,some p,some l=>match Nat.beq (cellsP p).length sz,leafP (cellsP p) with
   | true,true=>some (cellsP p :: l)
   | _,_=>none
  | _,_,_=>none
theorem cellsP_rep {w:World} {D:Nat -> Prop} {v:Value} {p:PV} (h:Rep w D v p):v.cells.size = (cellsP p).length /\ ∀ (j:Nat) (u:Value) (q:PV),v.cells[j]? = some u -> (cellsP p)[j]? = some q -> Rep w D u q:= by
 have one:∀ (v:Value) (p:PV),v.cells = #[v] -> cellsP p = [p] -> Rep w D v p -> v.cells.size = (cellsP p).length /\ ∀ (j:Nat) (u:Value) (q:PV),v.cells[j]? = some u -> (cellsP p)[j]? = some q -> Rep w D u q:= by
  intro v p hv hp h
  rw [hv,hp]
  refine ⟨rfl,fun j u y hu hy=>?_⟩
  cases j with
  | zero=>simp at hu hy; subst hu; subst hy; exact h
  | succ j=>simp at hu
 cases h with
 | agg vs cs hl hr=>exact ⟨hl,fun j u y hu hy=>hr j u y hu hy⟩
 | bool b=>exact one _ _ rfl rfl (.bool b)
 | int k m=>exact one _ _ rfl rfl (.int k m)
 | str b=>exact one _ _ rfl rfl (.str b)
 | sl a1 a2 a3 a4 a5 a6 a7 a8 a9 a10 a11 a12 a13=>exact one _ _ rfl rfl (.sl a1 a2 a3 a4 a5 a6 a7 a8 a9 a10 a11 a12 a13)
 | ptr a1 a2 a3 a4 a5 a6 a7=>exact one _ _ rfl rfl (.ptr a1 a2 a3 a4 a5 a6 a7)
 | fn a1 a2 a3 a4 a5=>exact one _ _ rfl rfl (.fn a1 a2 a3 a4 a5)
 | meth a1 a2 a3 a4 a5=>exact one _ _ rfl rfl (.meth a1 a2 a3 a4 a5)
 | iface a1 a2 a3 a4=>exact one _ _ rfl rfl (.iface a1 a2 a3 a4)
 | imap a1 a2 a3 a4 a5 a6 a7 a8 a9 a10=>exact one _ _ rfl rfl (.imap a1 a2 a3 a4 a5 a6 a7 a8 a9 a10)
 | nilFunc=>exact one _ _ rfl rfl .nilFunc
 | nilIface=>exact one _ _ rfl rfl .nilIface
 | nilMap=>exact one _ _ rfl rfl .nilMap
 | nilPtr=>exact one _ _ rfl rfl .nilPtr
 | raw v h=>exact one _ _ (by cases v <;> first|rfl|cases h) rfl (.raw v h)
theorem fill_parts {w:World} {D:Nat -> Prop} {sz:Nat} {s:ASt} (f:Operand -> Value) (hf:∀ x p,s.evD x = some p -> Rep w D (f x) p):∀ (l:List (Nat × Operand)) (k:Nat) (es:List (List PV)) (ca:Array Value),partsP s sz k l = some es →
  k * sz + es.length * sz <= ca.size -> ∃ ca',Instr.fill (fun i=>some (i * sz,sz)) ca (l.map fun (i,x)=>(i,f x)) = some ca' /\ ca'.size = ca.size /\ (∀ j,j < k * sz -> ca'[j]? = ca[j]?) /\
   (∀ (i:Nat) (e:List PV),es[i]? = some e -> e.length = sz) /\ ∀ (i j:Nat) (e:List PV) (p:PV),es[i]? = some e -> e[j]? = some p -> p.leaf = true /\ ∃ u,ca'[(k + i) * sz + j]? = some u /\ Rep w D u p
 | [],k,es,ca,h,hle=>by cases h; exact ⟨ca,rfl,rfl,fun _ _=>rfl,by simp,by simp⟩
 | (i,x) :: l,k,es,ca,h,hle=>by
  unfold partsP at h
  split at h
  ·rename_i p l' h1 h2 h3
   split at h
   ·rename_i h4 h5
    cases h
    have e1:=Nat.eq_of_beq_eq_true h1
    have e4:=Nat.eq_of_beq_eq_true h4
    subst e1
    obtain ⟨c1,c2⟩:=cellsP_rep (hf x p h2)
    have hfs:=fold_set (i * sz) (f x).cells.toList 0 ca
    have hfold:((f x).cells.zipIdx.foldl (fun cs (c,j)=>cs.setIfInBounds (i * sz + j) c) ca) = (((f x).cells.toList.zipIdx 0).foldl (fun cs p=>cs.setIfInBounds (i * sz + p.2) p.1) ca):= by
     rw [<- Array.foldl_toList,Array.toList_zipIdx]
    simp only [List.length_cons] at hle
    rw [Nat.add_mul,Nat.one_mul] at hle
    have hss:((f x).cells.zipIdx.foldl (fun cs (c,j)=>cs.setIfInBounds (i * sz + j) c) ca).size = ca.size:=by rw [hfold,hfs.1]
    obtain ⟨ca',g1,g2,g3,g4,g5⟩:=fill_parts f hf l (i + 1) l' _ h3 (by rw [hss,Nat.add_mul,Nat.one_mul]; omega)
    refine ⟨ca',?_,by rw [g2,hss],?_,?_,?_⟩
    ·simp only [List.map_cons]
     unfold Instr.fill
     simp only []
     rw [if_neg (by simp; omega)]
     exact g1
    ·intro j hj
     rw [g3 j (by rw [Nat.add_mul]; omega),hfold,hfs.2 (by simp; omega) j,if_neg (by omega)]
    ·intro i' e he
     cases i' with
     | zero=>simp at he; subst he; exact e4
     | succ i'=>exact g4 i' e (by simpa using he)
    ·intro i' j e q he hq
     cases i' with
     | zero =>
      simp at he; subst he
      have hj:j < (cellsP p).length:=(List.getElem?_eq_some_iff.1 hq).1
      have hju:j < (f x).cells.size:=by omega
      refine ⟨?_,(f x).cells[j],?_,c2 j _ q (by simp [hju]) hq⟩
      ·have:∀ (l:List PV),leafP l = true -> q ∈ l -> q.leaf = true:= by
        intro l; induction l with
        | nil=>intro _ h; cases h
        | cons y l ih =>
         intro h hm
         simp only [leafP,Bool.and_eq_true] at h
         cases hm with
         | head=>exact h.1
         | tail _ hm=>exact ih h.2 hm
       exact this _ h5 (List.mem_of_getElem? hq)
      ·rw [Nat.add_zero,g3 _ (by rw [Nat.add_mul]; omega),hfold,hfs.2 (by simp; omega),if_pos (by simp; omega)]
       have:i * sz + j - (i * sz + 0) = j:=by omega
       rw [this]; simp [hju]
     | succ i' =>
      obtain ⟨q1,u,q2,q3⟩:=g5 i' j e q (by simpa using he) hq
      refine ⟨q1,u,?_,q3⟩
      rw [show i + (i' + 1) = i + 1 + i' by omega]; exact q2
   ·cases h
  ·cases h
theorem parts_len {s:ASt} {sz:Nat}:∀ {l:List (Nat × Operand)} {k:Nat} {es:List (List PV)},partsP s sz k l = some es -> es.length = l.length
 | [],k,es,h=>by cases h; rfl
 | (i,x) :: l,k,es,h=>by
  unfold partsP at h
  split at h
  ·rename_i p l' h1 h2 h3
   split at h
   ·cases h; simp [parts_len h3]
   ·cases h
  ·cases h
theorem new_arr {W0:World} {D0:Bas} {D:Nat -> Prop} {φ:Nat -> Value} {a:Act} {w:World} (hI:Inv W0 D0 nt s D φ a w) (vs:Array Value) (e sz:Nat) (es:List (List PV)) (hs:vs.size = es.length * sz) (hm:es.length <= maxLen)
  (hx:XRep w D sz vs.toList es) :
  Inv W0 D0 nt (s.newObj (.arr e sz es)) D (addH φ s.nxt (.slice (some ⟨w.heap.size,0,none⟩) es.length es.length)) a (w.alloc (.cells vs e)):= by
 have hb:Below w.heap.size w (w.alloc (.cells vs e)):=(Below.refl _ _).alloc (Nat.le_refl _) _
 refine hI.new hb (fun _ h=>h) (fun b h=>.inl h) _ _ rfl ⟨vs.toList,⟨by simpa using hs,?_⟩,hx.mono (fun b hb'=>hb.block b (hI.dlt b hb')) (fun _ h=>h)⟩ ?_
 ·right
  rw [addH_new]
  exact ⟨w.heap.size,es.length,vs,rfl,Nat.zero_le _,heap_alloc_new w _,Nat.le_refl _,hm,hs,by rw [<- hs]; simp [<- Array.length_toList]⟩
 ·intro b hbk
  simp only [blk,Option.some.injEq] at hbk
  subst hbk
  exact ⟨Nat.le_refl _,by simp,fun h=>Nat.lt_irrefl _ (hI.dlt _ h)⟩
theorem op_buildSlice {t e n:Nat} {ps:Array (Nat × Operand)} {ti ei:TyI} {es:List (List PV)} (hT:TabOK P T) (ho:o.op = .buildSlice t n ps) (hd:dstB nt o.dst = true) (ht:T t = some ti) (hk:ti.kind = .slice e) (he:T e = some ei)
  (hpos:Nat.blt 0 ei.size = true) (hp:partsP s ei.size 0 ps.toList = some es) (hn:Nat.beq ps.toList.length n = true) (hmax:Nat.ble (n * ei.size) 100000 = true) :
  OpTo P nt o s ((s.newObj (.arr e ei.size es)).putO o.dst (some (.arr s.nxt))):= by
 intro ro W0 D0 D φ a w hI K Q hK
 have hund:=(hT.ty ht).slice hk
 obtain ⟨info,z,i1,i2,i3,i4,i5⟩:=(hT.ty he).info
 have hn':=Nat.eq_of_beq_eq_true hn
 have hmax':=Nat.le_of_ble_eq_true hmax
 have hpos':0 < ei.size:=by simpa using hpos
 have hlen:=parts_len hp
 have hesn:es.length = n:=by rw [hlen,hn']
 obtain ⟨ca,g1,g2,g3,g4,g5⟩:=fill_parts (w:=w) (D:=D) a.eval (fun x p h=>hI.evD h) ps.toList 0 es ((Array.range (n * ei.size)).map (z.cells[· % z.cells.size]!)) hp (by simp [hesn])
 have hsz:ca.size = es.length * ei.size:=by rw [g2]; simp [hesn]
 have hrun:(execOp a.eval o).run P w = .ok (.value (.slice (some ⟨w.heap.size,0,none⟩) es.length es.length)) (w.alloc (.cells ca e)):= by
  have h24:¬ (n * ei.size > 2 ^ 24):=by omega
  by_cases hz:n * ei.size = 0
  ·have:n = 0:= by
    rcases Nat.mul_eq_zero.1 hz with h|h
    ·exact h
    ·omega
   subst this
   have hps:ps.toList = []:=List.eq_nil_of_length_eq_zero hn'
   have he0:es = []:=List.eq_nil_of_length_eq_zero hesn
   subst he0
   have hca:ca = #[]:=Array.eq_empty_of_size_eq_zero (by simpa using hsz)
   have hps2:ps = #[]:=by cases ps; simp at hps; simp [hps]
   subst hps2
   simp [execOp,ho,Instr.buildSlice,underlying,hund,(hT.ty he).run_size w,Instr.fill,newRow,hca,Array.range_zero']
  ·have hmap:(ps.map fun (i,x)=>(i,a.eval x)).toList = ps.toList.map fun (i,x)=>(i,a.eval x):=by simp
   simp [execOp,ho,Instr.buildSlice,underlying,hund,(hT.ty he).run_size w,h24,hz,zeroValue,typeInfo,i1,i4,g1,newRow,hesn]
 refine wpIn_of (by rw [ho]; intro c hc; cases hc) ?_
 unfold Oper.wp
 rw [hrun]
 have hN:=new_arr hI ca e ei.size es hsz (by simp only [maxLen]; have:=Nat.le_mul_of_pos_right n hpos'; omega) ⟨g4,fun i j el p hi hj=>by
  obtain ⟨q1,u,q2,q3⟩:=g5 i j el p hi hj
  exact ⟨q1,u,by rw [Nat.zero_add] at q2; simpa using q2,q3⟩⟩
 refine hK D _ _ _ (hN.put o.dst (dstB_lt hd) _ _ fun x' hx'=>?_)
 cases hx'
 exact ⟨by simp [FV.lt,ASt.newObj],.arr _ _ _ _ (addH_new _ _ _)⟩
theorem op_min2 {x y:Operand} {ts:Array TypeId} {m n:Int} (ho:o.op = .call { callee:=.builtin .min,args:=#[x,y],argTypes:=ts }) (hd:dstB nt o.dst = true) (hx:s.ev x = some (.pv (.int .i64 m))) (hy:s.ev y = some (.pv (.int .i64 n))) :
  OpTo P nt o s (s.putO o.dst (some (.pv (.int .i64 (min m n))))) :=
 OpTo.value hd fun W0 D0 D φ a w hI=>by
  refine ⟨.int .i64 (min m n),?_,fun x' hx'=>by cases hx'; exact ⟨rfl,.pv _ _ (.int _ _)⟩⟩
  have:(if n < m then n else m) = min m n:=by by_cases h:n < m <;> simp [h] <;> omega
  simp [execOp,ho,hI.ev_int hx,hI.ev_int hy,resolve,invoke,builtin,Builtin.min_,Builtin.min2,this]
theorem op_max2 {x y:Operand} {ts:Array TypeId} {m n:Int} (ho:o.op = .call { callee:=.builtin .max,args:=#[x,y],argTypes:=ts }) (hd:dstB nt o.dst = true) (hx:s.ev x = some (.pv (.int .i64 m))) (hy:s.ev y = some (.pv (.int .i64 n))) :
  OpTo P nt o s (s.putO o.dst (some (.pv (.int .i64 (max m n))))) :=
 OpTo.value hd fun W0 D0 D φ a w hI=>by
  refine ⟨.int .i64 (max m n),?_,fun x' hx'=>by cases hx'; exact ⟨rfl,.pv _ _ (.int _ _)⟩⟩
  have:(if n > m then n else m) = max m n:=by by_cases h:n > m <;> simp [h] <;> omega
  simp [execOp,ho,hI.ev_int hx,hI.ev_int hy,resolve,invoke,builtin,Builtin.max_,Builtin.max2,this]
theorem op_mkfunc {f:FuncId} {caps:Array Operand} {ys:List FV} (ho:o.op = .makeFunc (.func f) #[] caps) (hd:dstB nt o.dst = true) (hc:mapO s.ev caps.toList = some ys):OpTo P nt o s (s.putO o.dst (some (.fn f ys))) :=
 OpTo.value hd fun W0 D0 D φ a w hI=>by
  obtain ⟨h1,h2⟩:=mapO_some hc
  refine ⟨.func (.func f) #[] (caps.map a.eval),by simp [execOp,ho,Instr.makeFunc],fun x' hx'=>?_⟩
  cases hx'
  refine ⟨?_,.fn f _ _ (by simpa using h1) fun j v p hv hp=>?_⟩
  ·simp only [FV.lt]
   refine ltL_of fun y hy=>?_
   obtain ⟨j,hj⟩:=List.mem_iff_getElem?.1 hy
   have hjl:j < caps.toList.length:=by rw [h1]; exact (List.getElem?_eq_some_iff.1 hj).1
   exact (hI.ev (h2 j _ y (List.getElem?_eq_getElem hjl) hj)).1
  ·rw [Array.getElem?_map,Option.map_eq_some_iff] at hv
   obtain ⟨x,hx,rfl⟩:=hv
   exact (hI.ev (h2 j x p (by simpa using hx) hp)).2
theorem op_makeSlice {t e n:Nat} {x y:Operand} {ti ei:TyI} {zp:List PV} {k k':IntKind} (hT:TabOK P T) (ho:o.op = .makeSlice t x y) (hd:dstB nt o.dst = true) (ht:T t = some ti) (hk:ti.kind = .slice e) (he:T e = some ei)
  (hpos:Nat.blt 0 ei.size = true) (hzl:Nat.beq zp.length ei.size = true) (hz:ei.zero = zp.map .pv) (hx:s.ev x = some (.pv (.int k (n:Int)))) (hy:s.ev y = some (.pv (.int k' (n:Int)))) (hmax:n <= 1099511627776) (hby:Nat.ble ei.bytes 128 = true) :
  OpTo P nt o s ((s.newObj (.arr e ei.size (List.replicate n zp))).putO o.dst (some (.arr s.nxt))):= by
 intro ro W0 D0 D φ a w hI K Q hK
 have hund:=(hT.ty ht).slice hk
 obtain ⟨info,z,i1,i2,i3,i4,i5⟩:=(hT.ty he).info
 have hpos':0 < ei.size:=by simpa using hpos
 have hzl':=Nat.eq_of_beq_eq_true hzl
 have hby':=Nat.le_of_ble_eq_true hby
 have hbytes:(info.bytes:Int) * (n:Int) <= 281474976710656:= by
  have:info.bytes * n <= 128 * 1099511627776:=by rw [i3]; exact Nat.mul_le_mul hby' hmax
  have h2:((info.bytes * n:Nat):Int) <= 281474976710656:=by omega
  rwa [Int.natCast_mul] at h2
 have hr:=run_make (P:=P) w t e info z hund i1 i4 k k' n n (by omega) (Int.le_refl _) hbytes (by omega)
 simp only [Int.toNat_natCast] at hr
 have hrun:(execOp a.eval o).run P w = .ok (.value (.slice (some ⟨w.heap.size,0,none⟩) n n)) (w.alloc (.cells (madeCells z.cells (n * info.size)) e)):= by
  simp only [execOp,ho,hI.ev_int hx,hI.ev_int hy,Sem.run_bind,hr,Result.andThen_ok,Sem.run_pure]
 refine wpIn_of (by rw [ho]; intro c hc; cases hc) ?_
 unfold Oper.wp
 rw [hrun]
 obtain ⟨z1,z2,z3⟩:=zrepL_ok i5
 have hzc:z.cells.size = ei.size:=by simp [hz] at z1; omega
 have hN:=new_arr hI (madeCells z.cells (n * info.size)) e ei.size (List.replicate n zp) (by rw [size_madeCells]; simp [i2]) (by simp only [maxLen,List.length_replicate]; omega) ⟨fun i el hi=>by
   have:=List.getElem?_replicate (a:=zp) (n:=n) (i:=i)
   rw [this] at hi; split at hi <;> cases hi; exact hzl',fun i j el p hi hp=>by
   have:=List.getElem?_replicate (a:=zp) (n:=n) (i:=i)
   rw [this] at hi
   split at hi <;> cases hi
   rename_i hin
   have hj:j < ei.size:=by rw [<- hzl']; exact (List.getElem?_eq_some_iff.1 hp).1
   have hjz:j < z.cells.size:=by omega
   have hzp:ei.zero[j]? = some (.pv p):=by rw [hz]; simp [hp]
   obtain ⟨l1,l2⟩:=z3 j z.cells[j] (.pv p) (by simp [hjz]) hzp
   refine ⟨l1,z.cells[j],?_,(l2 w D φ).inv_pv⟩
   have hlt:i * ei.size + j < n * info.size:= by
    rw [i2]
    have h2:=Nat.mul_le_mul_right ei.size (show i + 1 <= n by omega)
    rw [Nat.add_mul] at h2; omega
   have hmod:(i * ei.size + j) % z.cells.size = j:= by
    rw [hzc,Nat.mul_comm,Nat.mul_add_mod]; exact Nat.mod_eq_of_lt hj
   simp [madeCells,hlt,hmod,hjz]⟩
 have hl:(List.replicate n zp).length = n:=by simp
 rw [hl] at hN
 refine hK D _ _ _ (hN.put o.dst (dstB_lt hd) _ _ fun x' hx'=>?_)
 cases hx'
 exact ⟨by simp [FV.lt,ASt.newObj],.arr _ _ _ _ (addH_new _ _ _)⟩
end
end Go.Abs
