/- Aggregates that are built, calls, functions. -/
import Derived.Test.YtkmclnjmabljdaaGreatDoorKNcB
import Derived.RangeFuncLeaves
set_option linter.unusedVariables false
set_option linter.unusedSimpArgs false
namespace Go.Abs
open Go.RowKit
set_option linter.unusedVariables false
def partsF (s : ASt) : List (Nat × Operand) -> Option (List (Nat × FV))
 | [] => some []
 | (i,x) :: r => match s.ev x,partsF s r with
  | some y,some l => some ((i,y) :: l)
  | _,_ => none
def fillF (place : Nat -> Option (Nat × Nat)) (cells : List FV) : List (Nat × FV) -> Option (List FV)
 | [] => some cells
 | (i,x) :: r => match place i with
  | some (off,size) => match Nat.beq (cellsF x).length size,Nat.ble (off + size) cells.length with
   | true,true => fillF place (splice cells off (cellsF x)) r
   | _,_ => none
  | none => none
theorem fold_set (off : Nat) : ∀ (l : List Value) (k : Nat) (cs : Array Value),((l.zipIdx k).foldl (fun cs p => cs.setIfInBounds (off + p.2) p.1) cs).size = cs.size /\
  (off + k + l.length <= cs.size -> ∀ j : Nat,((l.zipIdx k).foldl (fun cs p => cs.setIfInBounds (off + p.2) p.1) cs)[j]? = if off + k <= j /\ j < off + k + l.length then l[j - (off + k)]? else cs[j]?)
 | [],k,cs => ⟨rfl,fun _ j => by simp; intro h1 h2; omega⟩
 | v :: l,k,cs => by
  obtain ⟨h1,h2⟩ := fold_set off l (k + 1) (cs.setIfInBounds (off + k) v)
  simp only [List.zipIdx_cons,List.foldl_cons]
  refine ⟨by rw [h1]; simp,fun hle j => ?_⟩
  simp only [List.length_cons] at hle
  rw [h2 (by simp; omega) j]
  by_cases ha : off + (k + 1) <= j /\ j < off + (k + 1) + l.length
  ·rw [if_pos ha,if_pos (by simp; omega)]
   have : j - (off + k) = (j - (off + (k + 1))) + 1 := by omega
   rw [this,List.getElem?_cons_succ]
  ·rw [if_neg ha,Array.getElem?_setIfInBounds]
   by_cases hb : off + k = j
   ·rw [if_pos hb,if_pos (by omega),if_pos (by simp; omega)]
    have : j - (off + k) = 0 := by omega
    rw [this,List.getElem?_cons_zero]
   ·rw [if_neg hb,if_neg (by simp; omega)]
theorem fill_rep {w : World} {D : Nat -> Prop} {φ : Nat -> Value} {n : Nat} (place : Nat -> Option (Nat × Nat)) : ∀ (vps : List (Nat × Value)) (fps : List (Nat × FV)) (ca : Array Value) (cf cf' : List FV),vps.length = fps.length →
  (∀ (j i : Nat) (v : Value) (i' : Nat) (x : FV),vps[j]? = some (i,v) -> fps[j]? = some (i',x) -> i = i' /\ x.lt n = true /\ FRep w D φ v x) -> ca.size = cf.length -> FV.ltL n cf = true →
  (∀ (j : Nat) (u : Value) (y : FV),ca[j]? = some u -> cf[j]? = some y -> FRep w D φ u y) -> fillF place cf fps = some cf' →
  ∃ ca',Instr.fill place ca vps = some ca' /\ ca'.size = cf'.length /\ FV.ltL n cf' = true /\ ∀ (j : Nat) (u : Value) (y : FV),ca'[j]? = some u -> cf'[j]? = some y -> FRep w D φ u y
 | [],[],ca,cf,cf',_,_,hs,hl,hr,h => by cases h; exact ⟨ca,rfl,hs,hl,hr⟩
 | (i,v) :: vps,(i',x) :: fps,ca,cf,cf',hlen,hp,hs,hl,hr,h => by
  obtain ⟨rfl,hx1,hx2⟩ := hp 0 i v i' x rfl rfl
  unfold fillF at h
  split at h
  ·rename_i off size hpl
   split at h
   ·rename_i h1 h2
    have h1' := Nat.eq_of_beq_eq_true h1
    have h2' := Nat.le_of_ble_eq_true h2
    obtain ⟨c1,c2,c3⟩ := cells_rep hx2 hx1
    have hfs := fold_set off v.cells.toList 0 ca
    have hfold : (v.cells.zipIdx.foldl (fun cs (c,j) => cs.setIfInBounds (off + j) c) ca) = ((v.cells.toList.zipIdx 0).foldl (fun cs p => cs.setIfInBounds (off + p.2) p.1) ca):= by
     rw [<- Array.foldl_toList,Array.toList_zipIdx]
    have hsl : off + (cellsF x).length <= cf.length := by omega
    obtain ⟨ca',g1,g2,g3,g4⟩ := fill_rep place vps fps (v.cells.zipIdx.foldl (fun cs (c,j) => cs.setIfInBounds (off + j) c) ca) (splice cf off (cellsF x)) cf' (by simpa using hlen)
     (fun j a b c d h1 h2 => hp (j + 1) a b c d (by simpa using h1) (by simpa using h2))
     (by rw [hfold,hfs.1,splice_length _ _ _ hsl,hs])
     (ltL_of fun z hz => by
      simp only [splice,List.mem_append] at hz
      rcases hz with (hz | hz) | hz
      ·exact FV.lt_mem (cs := cf) hl (List.mem_of_mem_take hz)
      ·exact FV.lt_mem c2 hz
      ·exact FV.lt_mem (cs := cf) hl (List.mem_of_mem_drop hz))
     (fun j u y hu hy => by
      rw [hfold,hfs.2 (by simp; omega) j] at hu
      rw [splice_get _ _ _ hsl] at hy
      simp only [Nat.add_zero,Array.length_toList,c1] at hu
      by_cases hin : off <= j /\ j < off + (cellsF x).length
      ·rw [if_pos hin] at hu hy
       exact c3 (j - off) u y (by simpa using hu) hy
      ·rw [if_neg hin] at hu hy
       exact hr j u y hu hy)
     h
    refine ⟨ca',?_,g2,g3,g4⟩
    unfold Instr.fill
    simp only [hpl]
    rw [if_neg (by simp; omega)]
    exact g1
   ·cases h
  ·cases h
 | [],_ :: _,_,_,_,h,_,_,_,_,_ => by simp at h
 | _ :: _,[],_,_,_,h,_,_,_,_,_ => by simp at h
theorem partsF_ok {s : ASt} : ∀ {l : List (Nat × Operand)} {fps : List (Nat × FV)},partsF s l = some fps -> l.length = fps.length /\ ∀ (j i : Nat) (x : Operand) (i' : Nat) (y : FV),l[j]? = some (i,x) -> fps[j]? = some (i',y) -> i = i' /\ s.ev x = some y
 | [],fps,h => by cases h; simp
 | (i,x) :: r,fps,h => by
  unfold partsF at h
  split at h
  ·rename_i y l hy hl
   cases h
   obtain ⟨h1,h2⟩ := partsF_ok hl
   refine ⟨by simp [h1],fun j a b c d hj hk => ?_⟩
   cases j with
   | zero => simp at hj hk; obtain ⟨rfl,rfl⟩ := hj; obtain ⟨rfl,rfl⟩ := hk; exact ⟨rfl,hy⟩
   | succ j => exact h2 j a b c d (by simpa using hj) (by simpa using hk)
  ·cases h
def sizesT (T : Nat -> Option TyI) : List Nat -> Option (List Nat)
 | [] => some []
 | t :: r => match T t,sizesT T r with
  | some i,some l => some (i.size :: l)
  | _,_ => none
theorem places_ok {P : Program} {T : Nat -> Option TyI} (hT : TabOK P T) : ∀ (fs : List Field) (offs tys szs : List Nat),fs.map (·.offset) = offs -> fs.map (·.type) = tys -> sizesT T tys = some szs →
  fs.mapM (fun f => (P.info? f.type).map fun i => (f.offset,i.size)) = some (offs.zip szs)
 | [],offs,tys,szs,h1,h2,h3 => by subst h1; subst h2; cases h3; rfl
 | f :: fs,offs,tys,szs,h1,h2,h3 => by
  subst h1; subst h2
  simp only [List.map_cons] at h3
  unfold sizesT at h3
  split at h3
  ·rename_i i l hi hl
   cases h3
   obtain ⟨info,z,g1,g2,_⟩ := (hT.ty hi).info
   have ih := places_ok hT fs _ _ l rfl rfl hl
   simp [List.mapM_cons,g1,ih,g2]
  ·cases h3
section
variable {P : Program} {T : Nat -> Option TyI} {nt : Nat} {s : ASt} {o : Oper}
theorem op_build {t : Nat} {ps : Array (Nat × Operand)} {i : TyI} {offs tys szs : List Nat} {fps : List (Nat × FV)} {cs : List FV} (hT : TabOK P T) (ho : o.op = .build t ps) (hd : dstB nt o.dst = true) (ht : T t = some i)
  (hk : i.kind = .strct offs tys) (hz : sizesT T tys = some szs) (hp : partsF s ps.toList = some fps) (hf : fillF (fun j => (offs.zip szs)[j]?) i.zero fps = some cs) : OpTo P nt o s (s.putO o.dst (some (.agg cs))) :=
 OpTo.value hd fun W0 D0 D φ a w hI => by
  obtain ⟨fs,u1,u2,u3⟩ := (hT.ty ht).strct hk
  obtain ⟨info,z,i1,i2,i3,i4,i5⟩ := (hT.ty ht).info
  obtain ⟨z1,z2,z3⟩ := zrepL_ok i5
  obtain ⟨p1,p2⟩ := partsF_ok hp
  have hpl := places_ok hT fs.toList offs tys szs u2 u3 hz
  obtain ⟨ca,g1,g2,g3,g4⟩ := fill_rep (w := w) (D := D) (φ := φ) (n := s.nxt) (fun j => (offs.zip szs)[j]?) (ps.toList.map fun (i,x) => (i,a.eval x)) fps z.cells i.zero cs (by simpa using p1)
   (fun j i v i' x hv hx => by
    rw [List.getElem?_map,Option.map_eq_some_iff] at hv
    obtain ⟨⟨i2,x2⟩,h1,h2⟩ := hv
    simp only [Prod.mk.injEq] at h2
    obtain ⟨rfl,rfl⟩ := h2
    obtain ⟨h3,h4⟩ := p2 j _ _ _ _ h1 hx
    exact ⟨h3,(hI.ev h4).1,(hI.ev h4).2⟩)
   (by simpa using z1) (z2 _) (fun j u y hu hy => (z3 j u y (by simpa using hu) hy).2 w D φ) hf
  have hrun : (Instr.build t (ps.map fun (i,x) => (i,a.eval x))).run P w = .ok (.agg ca) w:= by
   refine run_build (P := P) w t _ ca ?_
   unfold Program.built
   simp only [i1,u1,i4,hpl,Array.toList_map]
   rw [<- g1]
   congr 1
   funext j
   simp
  exact ⟨.agg ca,by simp only [execOp,ho,Sem.run_bind,hrun,Result.andThen_ok,Sem.run_pure],fun x' hx' => by cases hx'; exact ⟨by simpa [FV.lt] using g3,.agg ca cs g2 g4⟩⟩
def cellsP : PV -> List PV
 | .agg cs => cs
 | x => [x]
def leafP : List PV -> Bool
 | [] => true
 | x :: xs => x.leaf && leafP xs
def partsP (s : ASt) (sz : Nat) : Nat -> List (Nat × Operand) -> Option (List (List PV))
 | _,[] => some []
 | k,(i,x) :: r => match Nat.beq i k,s.evD x,partsP s sz (k + 1) r with
  | true,some p,some l => match Nat.beq (cellsP p).length sz,leafP (cellsP p) with
   | true,true => some (cellsP p :: l)
   | _,_ => none
  | _,_,_ => none
theorem cellsP_rep {w : World} {D : Nat -> Prop} {v : Value} {p : PV} (h : Rep w D v p) : v.cells.size = (cellsP p).length /\ ∀ (j : Nat) (u : Value) (q : PV),v.cells[j]? = some u -> (cellsP p)[j]? = some q -> Rep w D u q:= by
 have one : ∀ (v : Value) (p : PV),v.cells = #[v] -> cellsP p = [p] -> Rep w D v p -> v.cells.size = (cellsP p).length /\ ∀ (j : Nat) (u : Value) (q : PV),v.cells[j]? = some u -> (cellsP p)[j]? = some q -> Rep w D u q:= by
  intro v p hv hp h
  rw [hv,hp]
  refine ⟨rfl,fun j u y hu hy => ?_⟩
  cases j with
  | zero => simp at hu hy; subst hu; subst hy; exact h
  | succ j => simp at hu
 cases h with
 | agg vs cs hl hr => exact ⟨hl,fun j u y hu hy => hr j u y hu hy⟩
 | bool b => exact one _ _ rfl rfl (.bool b)
 | int k m => exact one _ _ rfl rfl (.int k m)
 | str b => exact one _ _ rfl rfl (.str b)
 | sl a1 a2 a3 a4 a5 a6 a7 a8 a9 a10 a11 a12 a13 => exact one _ _ rfl rfl (.sl a1 a2 a3 a4 a5 a6 a7 a8 a9 a10 a11 a12 a13)
 | ptr a1 a2 a3 a4 a5 a6 a7 => exact one _ _ rfl rfl (.ptr a1 a2 a3 a4 a5 a6 a7)
 | fn a1 a2 a3 a4 a5 => exact one _ _ rfl rfl (.fn a1 a2 a3 a4 a5)
 | meth a1 a2 a3 a4 a5 => exact one _ _ rfl rfl (.meth a1 a2 a3 a4 a5)
 | iface a1 a2 a3 a4 => exact one _ _ rfl rfl (.iface a1 a2 a3 a4)
 | imap a1 a2 a3 a4 a5 a6 a7 a8 a9 a10 => exact one _ _ rfl rfl (.imap a1 a2 a3 a4 a5 a6 a7 a8 a9 a10)
 | nilFunc => exact one _ _ rfl rfl .nilFunc
 | nilIface => exact one _ _ rfl rfl .nilIface
 | nilMap => exact one _ _ rfl rfl .nilMap
 | nilPtr => exact one _ _ rfl rfl .nilPtr
theorem fill_parts {w : World} {D : Nat -> Prop} {sz : Nat} {s : ASt} (f : Operand -> Value) (hf : ∀ x p,s.evD x = some p -> Rep w D (f x) p) : ∀ (l : List (Nat × Operand)) (k : Nat) (es : List (List PV)) (ca : Array Value),partsP s sz k l = some es →
  k * sz + es.length * sz <= ca.size -> ∃ ca',Instr.fill (fun i => some (i * sz,sz)) ca (l.map fun (i,x) => (i,f x)) = some ca' /\ ca'.size = ca.size /\ (∀ j,j < k * sz -> ca'[j]? = ca[j]?) /\
   (∀ (i : Nat) (e : List PV),es[i]? = some e -> e.length = sz) /\ ∀ (i j : Nat) (e : List PV) (p : PV),es[i]? = some e -> e[j]? = some p -> p.leaf = true /\ ∃ u,ca'[(k + i) * sz + j]? = some u /\ Rep w D u p
 | [],k,es,ca,h,hle => by cases h; exact ⟨ca,rfl,rfl,fun _ _ => rfl,by simp,by simp⟩
 | (i,x) :: l,k,es,ca,h,hle => by
  unfold partsP at h
  split at h
  ·rename_i p l' h1 h2 h3
   split at h
   ·rename_i h4 h5
    cases h
    have e1 := Nat.eq_of_beq_eq_true h1
    have e4 := Nat.eq_of_beq_eq_true h4
    subst e1
    obtain ⟨c1,c2⟩ := cellsP_rep (hf x p h2)
    have hfs := fold_set (i * sz) (f x).cells.toList 0 ca
    have hfold : ((f x).cells.zipIdx.foldl (fun cs (c,j) => cs.setIfInBounds (i * sz + j) c) ca) = (((f x).cells.toList.zipIdx 0).foldl (fun cs p => cs.setIfInBounds (i * sz + p.2) p.1) ca):= by
     rw [<- Array.foldl_toList,Array.toList_zipIdx]
    simp only [List.length_cons] at hle
    rw [Nat.add_mul,Nat.one_mul] at hle
    have hss : ((f x).cells.zipIdx.foldl (fun cs (c,j) => cs.setIfInBounds (i * sz + j) c) ca).size = ca.size := by rw [hfold,hfs.1]
    obtain ⟨ca',g1,g2,g3,g4,g5⟩ := fill_parts f hf l (i + 1) l' _ h3 (by rw [hss,Nat.add_mul,Nat.one_mul]; omega)
    refine ⟨ca',?_,by rw [g2,hss],?_,?_,?_⟩
    ·simp only [List.map_cons]
     unfold Instr.fill
     simp only []
     rw [if_neg (by simp; omega)]
     exact g1
    ·intro j hj
     rw [g3 j (by rw [Nat.add_mul]; omega),hfold,hfs.2 (by simp; omega) j,if_neg (by omega)]
    ·intro i' e he
     cases i' with
     | zero => simp at he; subst he; exact e4
     | succ i' => exact g4 i' e (by simpa using he)
    ·intro i' j e q he hq
     cases i' with
     | zero =>
      simp at he; subst he
      have hj : j < (cellsP p).length := (List.getElem?_eq_some_iff.1 hq).1
      have hju : j < (f x).cells.size := by omega
      refine ⟨?_,(f x).cells[j],?_,c2 j _ q (by simp [hju]) hq⟩
      ·have : ∀ (l : List PV),leafP l = true -> q ∈ l -> q.leaf = true:= by
        intro l; induction l with
        | nil => intro _ h; cases h
        | cons y l ih =>
         intro h hm
         simp only [leafP,Bool.and_eq_true] at h
         cases hm with
         | head => exact h.1
         | tail _ hm => exact ih h.2 hm
       exact this _ h5 (List.mem_of_getElem? hq)
      ·rw [Nat.add_zero,g3 _ (by rw [Nat.add_mul]; omega),hfold,hfs.2 (by simp; omega),if_pos (by simp; omega)]
       have : i * sz + j - (i * sz + 0) = j := by omega
       rw [this]; simp [hju]
     | succ i' =>
      obtain ⟨q1,u,q2,q3⟩ := g5 i' j e q (by simpa using he) hq
      refine ⟨q1,u,?_,q3⟩
      rw [show i + (i' + 1) = i + 1 + i' by omega]; exact q2
   ·cases h
  ·cases h
theorem parts_len {s : ASt} {sz : Nat} : ∀ {l : List (Nat × Operand)} {k : Nat} {es : List (List PV)},partsP s sz k l = some es -> es.length = l.length
 | [],k,es,h => by cases h; rfl
 | (i,x) :: l,k,es,h => by
  unfold partsP at h
  split at h
  ·rename_i p l' h1 h2 h3
   split at h
   ·cases h; simp [parts_len h3]
   ·cases h
  ·cases h
theorem new_arr {W0 : World} {D0 : Bas} {D : Nat -> Prop} {φ : Nat -> Value} {a : Act} {w : World} (hI : Inv W0 D0 nt s D φ a w) (vs : Array Value) (e sz : Nat) (es : List (List PV)) (hs : vs.size = es.length * sz) (hm : es.length <= maxLen)
  (hx : XRep w D sz vs.toList es) :
  Inv W0 D0 nt (s.newObj (.arr e sz es)) D (addH φ s.nxt (.slice (some ⟨w.heap.size,0,none⟩) es.length es.length)) a (w.alloc (.cells vs e)):= by
 have hb : Below w.heap.size w (w.alloc (.cells vs e)) := (Below.refl _ _).alloc (Nat.le_refl _) _
 refine hI.new hb (fun _ h => h) (fun b h => .inl h) _ _ rfl ⟨vs.toList,⟨by simpa using hs,?_⟩,hx.mono (fun b hb' => hb.block b (hI.dlt b hb')) (fun _ h => h)⟩ ?_
 ·right
  rw [addH_new]
  exact ⟨w.heap.size,es.length,vs,rfl,Nat.zero_le _,heap_alloc_new w _,Nat.le_refl _,hm,hs,by rw [<- hs]; simp [<- Array.length_toList]⟩
 ·intro b hbk
  simp only [blk,Option.some.injEq] at hbk
  subst hbk
  exact ⟨Nat.le_refl _,by simp,fun h => Nat.lt_irrefl _ (hI.dlt _ h)⟩
theorem op_buildSlice {t e n : Nat} {ps : Array (Nat × Operand)} {ti ei : TyI} {es : List (List PV)} (hT : TabOK P T) (ho : o.op = .buildSlice t n ps) (hd : dstB nt o.dst = true) (ht : T t = some ti) (hk : ti.kind = .slice e) (he : T e = some ei)
  (hpos : Nat.blt 0 ei.size = true) (hp : partsP s ei.size 0 ps.toList = some es) (hn : Nat.beq ps.toList.length n = true) (hmax : Nat.ble (n * ei.size) 100000 = true) :
  OpTo P nt o s ((s.newObj (.arr e ei.size es)).putO o.dst (some (.arr s.nxt))):= by
 intro ro W0 D0 D φ a w hI hko K Q hK
 have hund := (hT.ty ht).slice hk
 obtain ⟨info,z,i1,i2,i3,i4,i5⟩ := (hT.ty he).info
 have hn' := Nat.eq_of_beq_eq_true hn
 have hmax' := Nat.le_of_ble_eq_true hmax
 have hpos' : 0 < ei.size := by simpa using hpos
 have hlen := parts_len hp
 have hesn : es.length = n := by rw [hlen,hn']
 obtain ⟨ca,g1,g2,g3,g4,g5⟩ := fill_parts (w := w) (D := D) a.eval (fun x p h => hI.evD h) ps.toList 0 es ((Array.range (n * ei.size)).map (z.cells[· % z.cells.size]!)) hp (by simp [hesn])
 have hsz : ca.size = es.length * ei.size := by rw [g2]; simp [hesn]
 have hrun : (execOp a.eval o).run P w = .ok (.value (.slice (some ⟨w.heap.size,0,none⟩) es.length es.length)) (w.alloc (.cells ca e)):= by
  have h24 : ¬ (n * ei.size > 2 ^ 24) := by omega
  by_cases hz : n * ei.size = 0
  ·have : n = 0:= by
    rcases Nat.mul_eq_zero.1 hz with h | h
    ·exact h
    ·omega
   subst this
   have hps : ps.toList = [] := List.eq_nil_of_length_eq_zero hn'
   have he0 : es = [] := List.eq_nil_of_length_eq_zero hesn
   subst he0
   have hca : ca = #[] := Array.eq_empty_of_size_eq_zero (by simpa using hsz)
   have hps2 : ps = #[] := by cases ps; simp at hps; simp [hps]
   subst hps2
   simp [execOp,ho,Instr.buildSlice,underlying,hund,(hT.ty he).run_size w,Instr.fill,newRow,hca,Array.range_zero']
  ·have hmap : (ps.map fun (i,x) => (i,a.eval x)).toList = ps.toList.map fun (i,x) => (i,a.eval x) := by simp
   simp [execOp,ho,Instr.buildSlice,underlying,hund,(hT.ty he).run_size w,h24,hz,zeroValue,typeInfo,i1,i4,g1,newRow,hesn]
 refine wpIn_of (by rw [ho]; intro c hc; cases hc) ?_
 unfold Oper.wp
 rw [hrun]
 have hN := new_arr hI ca e ei.size es hsz (by simp only [maxLen]; have := Nat.le_mul_of_pos_right n hpos'; omega) ⟨g4,fun i j el p hi hj => by
  obtain ⟨q1,u,q2,q3⟩ := g5 i j el p hi hj
  exact ⟨q1,u,by rw [Nat.zero_add] at q2; simpa using q2,q3⟩⟩
 refine hK D _ _ _ (hN.put o.dst (dstB_lt hd) _ _ fun x' hx' => ?_)
 cases hx'
 exact ⟨by simp [FV.lt,ASt.newObj],.arr _ _ _ _ (addH_new _ _ _)⟩
theorem op_min2 {x y : Operand} {ts : Array TypeId} {m n : Int} (ho : o.op = .call { callee := .builtin .min,args := #[x,y],argTypes := ts }) (hd : dstB nt o.dst = true) (hx : s.ev x = some (.pv (.int .i64 m))) (hy : s.ev y = some (.pv (.int .i64 n))) :
  OpTo P nt o s (s.putO o.dst (some (.pv (.int .i64 (min m n))))) :=
 OpTo.value hd fun W0 D0 D φ a w hI => by
  refine ⟨.int .i64 (min m n),?_,fun x' hx' => by cases hx'; exact ⟨rfl,.pv _ _ (.int _ _)⟩⟩
  have : (if n < m then n else m) = min m n := by by_cases h : n < m <;> simp [h] <;> omega
  simp [execOp,ho,hI.ev_int hx,hI.ev_int hy,resolve,invoke,builtin,Builtin.min_,Builtin.min2,this]
theorem op_max2 {x y : Operand} {ts : Array TypeId} {m n : Int} (ho : o.op = .call { callee := .builtin .max,args := #[x,y],argTypes := ts }) (hd : dstB nt o.dst = true) (hx : s.ev x = some (.pv (.int .i64 m))) (hy : s.ev y = some (.pv (.int .i64 n))) :
  OpTo P nt o s (s.putO o.dst (some (.pv (.int .i64 (max m n))))) :=
 OpTo.value hd fun W0 D0 D φ a w hI => by
  refine ⟨.int .i64 (max m n),?_,fun x' hx' => by cases hx'; exact ⟨rfl,.pv _ _ (.int _ _)⟩⟩
  have : (if n > m then n else m) = max m n := by by_cases h : n > m <;> simp [h] <;> omega
  simp [execOp,ho,hI.ev_int hx,hI.ev_int hy,resolve,invoke,builtin,Builtin.max_,Builtin.max2,this]
theorem op_mkfunc {f : FuncId} {caps : Array Operand} {ys : List FV} (ho : o.op = .makeFunc (.func f) #[] caps) (hd : dstB nt o.dst = true) (hc : mapO s.ev caps.toList = some ys) : OpTo P nt o s (s.putO o.dst (some (.fn f ys))) :=
 OpTo.value hd fun W0 D0 D φ a w hI => by
  obtain ⟨h1,h2⟩ := mapO_some hc
  refine ⟨.func (.func f) #[] (caps.map a.eval),by simp [execOp,ho,Instr.makeFunc],fun x' hx' => ?_⟩
  cases hx'
  refine ⟨?_,.fn f _ _ (by simpa using h1) fun j v p hv hp => ?_⟩
  ·simp only [FV.lt]
   refine ltL_of fun y hy => ?_
   obtain ⟨j,hj⟩ := List.mem_iff_getElem?.1 hy
   have hjl : j < caps.toList.length := by rw [h1]; exact (List.getElem?_eq_some_iff.1 hj).1
   exact (hI.ev (h2 j _ y (List.getElem?_eq_getElem hjl) hj)).1
  ·rw [Array.getElem?_map,Option.map_eq_some_iff] at hv
   obtain ⟨x,hx,rfl⟩ := hv
   exact (hI.ev (h2 j x p (by simpa using hx) hp)).2
theorem op_makeSlice {t e n : Nat} {x y : Operand} {ti ei : TyI} {zp : List PV} {k k' : IntKind} (hT : TabOK P T) (ho : o.op = .makeSlice t x y) (hd : dstB nt o.dst = true) (ht : T t = some ti) (hk : ti.kind = .slice e) (he : T e = some ei)
  (hpos : Nat.blt 0 ei.size = true) (hzl : Nat.beq zp.length ei.size = true) (hz : ei.zero = zp.map .pv) (hx : s.ev x = some (.pv (.int k (n : Int)))) (hy : s.ev y = some (.pv (.int k' (n : Int)))) (hmax : n <= 1099511627776) (hby : Nat.ble ei.bytes 128 = true) :
  OpTo P nt o s ((s.newObj (.arr e ei.size (List.replicate n zp))).putO o.dst (some (.arr s.nxt))):= by
 intro ro W0 D0 D φ a w hI hko K Q hK
 have hund := (hT.ty ht).slice hk
 obtain ⟨info,z,i1,i2,i3,i4,i5⟩ := (hT.ty he).info
 have hpos' : 0 < ei.size := by simpa using hpos
 have hzl' := Nat.eq_of_beq_eq_true hzl
 have hby' := Nat.le_of_ble_eq_true hby
 have hbytes : (info.bytes : Int) * (n : Int) <= 281474976710656:= by
  have : info.bytes * n <= 128 * 1099511627776 := by rw [i3]; exact Nat.mul_le_mul hby' hmax
  have h2 : ((info.bytes * n : Nat) : Int) <= 281474976710656 := by omega
  rwa [Int.natCast_mul] at h2
 have hr := run_make (P := P) w t e info z hund i1 i4 k k' n n (by omega) (Int.le_refl _) hbytes (by omega)
 simp only [Int.toNat_natCast] at hr
 have hrun : (execOp a.eval o).run P w = .ok (.value (.slice (some ⟨w.heap.size,0,none⟩) n n)) (w.alloc (.cells (madeCells z.cells (n * info.size)) e)):= by
  simp only [execOp,ho,hI.ev_int hx,hI.ev_int hy,Sem.run_bind,hr,Result.andThen_ok,Sem.run_pure]
 refine wpIn_of (by rw [ho]; intro c hc; cases hc) ?_
 unfold Oper.wp
 rw [hrun]
 obtain ⟨z1,z2,z3⟩ := zrepL_ok i5
 have hzc : z.cells.size = ei.size := by simp [hz] at z1; omega
 have hN := new_arr hI (madeCells z.cells (n * info.size)) e ei.size (List.replicate n zp) (by rw [size_madeCells]; simp [i2]) (by simp only [maxLen,List.length_replicate]; omega) ⟨fun i el hi => by
   have := List.getElem?_replicate (a := zp) (n := n) (i := i)
   rw [this] at hi; split at hi <;> cases hi; exact hzl',fun i j el p hi hp => by
   have := List.getElem?_replicate (a := zp) (n := n) (i := i)
   rw [this] at hi
   split at hi <;> cases hi
   rename_i hin
   have hj : j < ei.size := by rw [<- hzl']; exact (List.getElem?_eq_some_iff.1 hp).1
   have hjz : j < z.cells.size := by omega
   have hzp : ei.zero[j]? = some (.pv p) := by rw [hz]; simp [hp]
   obtain ⟨l1,l2⟩ := z3 j z.cells[j] (.pv p) (by simp [hjz]) hzp
   refine ⟨l1,z.cells[j],?_,(l2 w D φ).inv_pv⟩
   have hlt : i * ei.size + j < n * info.size:= by
    rw [i2]
    have h2 := Nat.mul_le_mul_right ei.size (show i + 1 <= n by omega)
    rw [Nat.add_mul] at h2; omega
   have hmod : (i * ei.size + j) % z.cells.size = j:= by
    rw [hzc,Nat.mul_comm,Nat.mul_add_mod]; exact Nat.mod_eq_of_lt hj
   simp [madeCells,hlt,hmod,hjz]⟩
 have hl : (List.replicate n zp).length = n := by simp
 rw [hl] at hN
 refine hK D _ _ _ (hN.put o.dst (dstB_lt hd) _ _ fun x' hx' => ?_)
 cases hx'
 exact ⟨by simp [FV.lt,ASt.newObj],.arr _ _ _ _ (addH_new _ _ _)⟩
end
end Go.Abs
namespace Go.Abs
open Go.RowKit
set_option linter.unusedVariables false
inductive RV where
 | pv (p : PV)
 | own (e sz : Nat) (es : List (List PV))
 | imap (ks : List Int)
 | tup (ps : List PV)
def RRep (base : Nat) (w : World) (D : Nat -> Prop) (v : Value) : RV -> Prop
 | .pv p => Rep w D v p
 | .own e sz es => ∃ xs,w.ownsRow base e sz v es.length xs /\ XRep w D sz xs es /\ ∀ b,blk v = some b -> ¬ D b
 | .imap ks => ∃ r es clock,v = .map (some r) /\ w.heap[r]? = some (.map es clock) /\ MRep es clock ks /\ base <= r /\ ¬ D r
 | .tup ps => ∃ vs,v = .tuple vs /\ vs.size = ps.length /\ ∀ (j : Nat) (u : Value) (p : PV),vs[j]? = some u -> ps[j]? = some p -> Rep w D u p
def RepL (w : World) (D : Nat -> Prop) (vs : Array Value) (ps : List PV) : Prop := vs.size = ps.length /\ ∀ (j : Nat) (u : Value) (p : PV),vs[j]? = some u -> ps[j]? = some p -> Rep w D u p
def Enters (P : Program) (f : FuncId) : Prop := ∀ args w,(callFunc f args).run P w = .ok (.enter f args) w
structure CallPost (W : World) (D : Nat -> Prop) (Q : RV -> Prop) (e : Ending) (w' : World) : Prop where
 out : ∃ v r D',e = .returned v /\ Below W.heap.size W w' /\ (∀ b,D b -> D' b) /\ (∀ b,D' b -> D b \/ W.heap.size <= b) /\ (∀ b,D' b -> b < w'.heap.size) /\ RRep W.heap.size w' D' v r /\ Q r
def ACalls (P : Program) (f : FuncId) (ps : List PV) (Q : RV -> Prop) : Prop :=
 Enters P f /\ ∀ W D vs,KOK P W D (fun _ => False) -> (∀ b,D b -> b < W.heap.size) -> RepL W D vs ps -> Calls P f vs W (CallPost W D Q)
theorem ACalls.mono {P : Program} {f : FuncId} {ps : List PV} {Q Q' : RV -> Prop} (h : ACalls P f ps Q) (hq : ∀ r,Q r -> Q' r) : ACalls P f ps Q' :=
 ⟨h.1,fun W D vs hko hD hr => (h.2 W D vs hko hD hr).mono fun e w' ⟨v,r,D',h1,h2,h3,h4,h5,h6,h7⟩ => ⟨v,r,D',h1,h2,h3,h4,h5,h6,hq r h7⟩⟩
def ASt.callee (s : ASt) (f : Operand) : Option (FuncId × List PV) := match s.evB f with
 | some (.fn g caps) => some (g,caps)
 | _ => none
def ASt.calleeD (s : ASt) (f : Operand) : Option (FuncId × List PV) := match s.evD f with
 | some (.fn g caps) => some (g,caps)
 | _ => none
def ASt.bind (s : ASt) (d : Option Nat) : RV -> ASt
 | .pv p => s.putO d (some (.pv p))
 | .own e sz es => (s.newObj (.arr e sz es)).putO d (some (.arr s.nxt))
 | .imap ks => (s.newObj (.imap ks)).putO d (some (.mp s.nxt))
 | .tup ps => s.putO d (some (.tup (ps.map .pv)))
def flatLL : List (List PV) -> Bool
 | [] => true
 | e :: es => PV.flatL e && flatLL es
def RV.flat : RV -> Bool
 | .pv p => p.flat
 | .own _ _ es => flatLL es
 | .imap _ => true
 | .tup ps => PV.flatL ps
theorem flatLL_mem : ∀ {es : List (List PV)} {e : List PV},flatLL es = true -> e ∈ es -> PV.flatL e = true
 | [],_,_,hp => by cases hp
 | _ :: _,_,h,hp => by
  simp only [flatLL,Bool.and_eq_true] at h
  cases hp with
  | head => exact h.1
  | tail _ hp => exact flatLL_mem h.2 hp
def OpToS (P : Program) (nt : Nat) (o : Oper) (s : ASt) (R : ASt -> Prop) : Prop := ∀ ro W0 D0 D φ a w,Inv W0 D0 nt s D φ a w -> KOK P W0 D0.d D0.x -> ∀ (K : Act -> World -> Prop) (Q : Exit -> Act -> World -> Prop),
 (∀ s' D' φ' a' w',R s' -> Inv W0 D0 nt s' D' φ' a' w' -> K a' w') -> o.wpIn (FW ro) 0 P a w K Q
section
variable {P : Program} {nt : Nat} {s : ASt} {o : Oper} {ops : Array Oper} {rest : List Oper} {Q : Exit -> ASt -> Prop}
theorem AL_opS {R : ASt -> Prop} (hg : o.guard = none) (ho : OpToS P nt o s R) (h : ∀ s',R s' -> AL P nt ops rest Q s') : AL P nt ops (o :: rest) Q s:= by
 intro ro W0 D0 D φ a w hr hI
 unfold wpListIn
 rw [if_pos (by simp [Region.wanted,hg])]
 exact ho ro W0 D0 D φ a w hI hr.2.2 _ _ fun s' D' φ' a' w' hs' hI' => h s' hs' ro W0 D0 D' φ' a' w' hr hI'
theorem AL_guardS_t {R : ASt -> Prop} {j d : Nat} {b : Bool} (hg : o.guard = some (j,b)) (hj : (ops[j]?).bind (·.dst) = some d) (hd : s.get d = some (.pv (.bool b))) (ho : OpToS P nt o s R) (h : ∀ s',R s' -> AL P nt ops rest Q s') :
  AL P nt ops (o :: rest) Q s:= by
 intro ro W0 D0 D φ a w hr hI
 have hy := yielded_of hI hj hd
 unfold wpListIn
 rw [if_pos (by simp [Region.wanted,hg,hy])]
 exact ho ro W0 D0 D φ a w hI hr.2.2 _ _ fun s' D' φ' a' w' hs' hI' => h s' hs' ro W0 D0 D' φ' a' w' hr hI'
theorem ownsRow_base {w : World} {base base' e sz n : Nat} {v : Value} {xs : List Value} (h : w.ownsRow base e sz v n xs) (hb : ∀ b,blk v = some b -> base' <= b) : w.ownsRow base' e sz v n xs:= by
 refine ⟨h.1,?_⟩
 rcases h.2 with h2 | ⟨g,cap,cur,rfl,hg,r⟩
 ·exact .inl h2
 ·exact .inr ⟨g,cap,cur,rfl,hb g rfl,r⟩
theorem Inv.bind {W0 : World} {D0 : Bas} {D : Nat -> Prop} {φ : Nat -> Value} {a : Act} {w w' : World} (hI : Inv W0 D0 nt s D φ a w) {D' : Nat -> Prop} (hb : Below w.heap.size w w') (hD : ∀ b,D b -> D' b) (hDn : ∀ b,D' b -> D b \/ (b < w'.heap.size /\ w.heap.size <= b))
  {v : Value} {r : RV} (hr : RRep w.heap.size w' D' v r) (d : Option Nat) (hd : dstB nt d = true) : ∃ φ',Inv W0 D0 nt (s.bind d r) D' φ' (a.put d v) w':= by
 cases r with
 | pv p => exact ⟨φ,(hI.grow hb hD hDn).put d (dstB_lt hd) v _ fun x' hx' => by cases hx'; exact ⟨rfl,.pv _ _ hr⟩⟩
 | tup ps =>
  obtain ⟨vs,rfl,h1,h2⟩ := hr
  refine ⟨φ,(hI.grow hb hD hDn).put d (dstB_lt hd) _ _ fun x' hx' => ?_⟩
  cases hx'
  refine ⟨ltL_of fun x hx => ?_,.tup vs _ (by simpa using h1) fun j u p hu hp => ?_⟩
  ·simp at hx; obtain ⟨p,_,rfl⟩ := hx; rfl
  ·rw [List.getElem?_map,Option.map_eq_some_iff] at hp
   obtain ⟨q,hq,rfl⟩ := hp
   exact .pv _ _ (h2 j u q hu hq)
 | own e sz es =>
  obtain ⟨xs,h1,h2,h3⟩ := hr
  obtain ⟨a0,c0,hv,hnc⟩ := ownsRow_slice h1
  refine ⟨addH φ s.nxt v,?_⟩
  have hN := hI.new hb hD hDn (.arr e sz es) v rfl ⟨xs,by rw [addH_new]; exact ownsRow_base h1 (fun _ _ => Nat.zero_le _),h2⟩ (fun b hbk => by
   refine ⟨?_,?_,h3 b hbk⟩
   ·rcases h1.2 with ⟨h,_⟩ | ⟨g,cap,cur,g1,g2,g3⟩
    ·rw [h] at hbk; cases hbk
    ·rw [g1] at hbk; cases hbk; exact g2
   ·rcases h1.2 with ⟨h,_⟩ | ⟨g,cap,cur,g1,g2,g3,_⟩
    ·rw [h] at hbk; cases hbk
    ·rw [g1] at hbk; cases hbk; exact (Array.getElem?_eq_some_iff.1 g3).1)
  refine hN.put d (dstB_lt hd) v _ fun x' hx' => ?_
  cases hx'
  refine ⟨by simp [FV.lt,ASt.newObj],?_⟩
  rw [hv]; exact .arr _ _ _ _ (by rw [addH_new])
 | imap ks =>
  obtain ⟨r,es,clock,rfl,h2,h3,h4,h5⟩ := hr
  refine ⟨addH φ s.nxt (.map (some r)),?_⟩
  have hN := hI.new hb hD hDn (.imap ks) (.map (some r)) rfl ⟨r,es,clock,addH_new _ _ _,h2,h3⟩ (fun b hbk => by
   cases hbk; exact ⟨h4,(Array.getElem?_eq_some_iff.1 h2).1,h5⟩)
  refine hN.put d (dstB_lt hd) _ _ fun x' hx' => ?_
  cases hx'
  exact ⟨by simp [FV.lt,ASt.newObj],.mp _ _ (addH_new _ _ _)⟩
theorem RRep.mono {base : Nat} {w : World} {D D' : Nat -> Prop} {v : Value} {r : RV} (h : RRep base w D v r) (hf : r.flat = true) (hD : ∀ b,D' b -> D b) : RRep base w D' v r:= by
 cases r with
 | pv p => exact h.flat_any hf _ _
 | tup ps =>
  obtain ⟨vs,h1,h2,h3⟩ := h
  exact ⟨vs,h1,h2,fun j u p hu hp => (h3 j u p hu hp).flat_any (PV.flatL_mem hf (List.mem_of_getElem? hp)) _ _⟩
 | own e sz es =>
  obtain ⟨xs,h1,h2,h3⟩ := h
  refine ⟨xs,h1,⟨h2.1,fun i j el p he hp => ?_⟩,fun b hb hd => h3 b hb (hD b hd)⟩
  obtain ⟨g1,u,g2,g3⟩ := h2.2 i j el p he hp
  exact ⟨g1,u,g2,g3.flat_any (PV.flatL_mem (flatLL_mem hf (List.mem_of_getElem? he)) (List.mem_of_getElem? hp)) _ _⟩
 | imap ks =>
  obtain ⟨r,es,clock,h1,h2,h3,h4,h5⟩ := h
  exact ⟨r,es,clock,h1,h2,h3,h4,fun hd => h5 (hD r hd)⟩
theorem evB_args {W0 : World} {D0 : Bas} {D : Nat -> Prop} {φ : Nat -> Value} {a : Act} {w : World} (hI : Inv W0 D0 nt s D φ a w) {args : Array Operand} {ps : List PV} (h : mapO s.evB args.toList = some ps) : RepL w (inAll s D φ) (args.map a.eval) ps:= by
 obtain ⟨h1,h2⟩ := mapO_some h
 refine ⟨by simpa using h1,fun j u p hu hp => ?_⟩
 rw [Array.getElem?_map,Option.map_eq_some_iff] at hu
 obtain ⟨x,hx,rfl⟩ := hu
 exact hI.evB (h2 j x p (by simpa using hx) hp)
theorem evD_args {W0 : World} {D0 : Bas} {D : Nat -> Prop} {φ : Nat -> Value} {a : Act} {w : World} (hI : Inv W0 D0 nt s D φ a w) {args : Array Operand} {ps : List PV} (h : mapO s.evD args.toList = some ps) : RepL w D (args.map a.eval) ps:= by
 obtain ⟨h1,h2⟩ := mapO_some h
 refine ⟨by simpa using h1,fun j u p hu hp => ?_⟩
 rw [Array.getElem?_map,Option.map_eq_some_iff] at hu
 obtain ⟨x,hx,rfl⟩ := hu
 exact hI.evD (h2 j x p (by simpa using hx) hp)
theorem RepL.append {w : World} {D : Nat -> Prop} {vs us : Array Value} {ps qs : List PV} (h : RepL w D vs ps) (h' : RepL w D us qs) : RepL w D (vs ++ us) (ps ++ qs):= by
 refine ⟨by simp [h.1,h'.1],fun j u p hu hp => ?_⟩
 by_cases hj : j < vs.size
 ·rw [Array.getElem?_append_left hj] at hu
  rw [List.getElem?_append_left (by rw [<- h.1]; exact hj)] at hp
  exact h.2 j u p hu hp
 ·rw [Array.getElem?_append_right (by omega)] at hu
  rw [List.getElem?_append_right (by rw [<- h.1]; omega),<- h.1] at hp
  exact h'.2 _ u p hu hp
theorem call_run {w : World} {a : Act} {f : Operand} {args : Array Operand} {ts : Array TypeId} {g : FuncId} {vs : Array Value} (ho : o.op = .call { callee := .value f,args,argTypes := ts }) (hf : a.eval f = .func (.func g) #[] vs) (hg : Enters P g) :
  (execOp a.eval o).run P w = .ok (.enter g (args.map a.eval ++ vs)) w:= by
 simp only [execOp,ho,resolve,hf,Deferred.ofValue,Sem.run_bind,Sem.run_pure,Result.andThen_ok,invoke,Array.empty_append]
 exact hg _ _
theorem op_call {f : Operand} {args : Array Operand} {ts : Array TypeId} {g : FuncId} {caps ps : List PV} {Qf : RV -> Prop} (ho : o.op = .call { callee := .value f,args,argTypes := ts }) (hd : dstB nt o.dst = true)
  (hf : s.callee f = some (g,caps)) (ha : mapO s.evB args.toList = some ps) (hc : ACalls P g (ps ++ caps) Qf) (hfl : ∀ r,Qf r -> r.flat = true) : OpToS P nt o s (fun s' => ∃ r,Qf r /\ s' = s.bind o.dst r):= by
 intro ro W0 D0 D φ a w hI hko K Q hK
 have hfr : ∃ vs,a.eval f = .func (.func g) #[] vs /\ RepL w (inAll s D φ) vs caps:= by
  unfold ASt.callee at hf
  split at hf
  ·rename_i g' caps' he
   cases hf
   have := hI.evB he
   generalize a.eval f = v at this
   cases this with
   | fn f vs cs hl hr => exact ⟨vs,rfl,hl,hr⟩
  ·cases hf
 obtain ⟨vs,hv,hvr⟩ := hfr
 refine wpIn_of (by rw [ho]; intro c hc; cases hc) ?_
 unfold Oper.wp
 rw [call_run ho hv hc.1]
 have hall : ∀ b,inAll s D φ b -> b < w.heap.size:= by
  rintro b (hb | ⟨id,ob,h1,h2⟩)
  ·exact hI.dlt b hb
  ·exact (hI.own id ob b h1 h2).2.2
 refine (hc.2 w (inAll s D φ) _ (hI.kok hko (fun _ hb => .inl hb) (fun _ _ h => h)) hall ((evB_args hI ha).append hvr)).mono ?_
 rintro e w' ⟨v,r,D',rfl,h2,h3,h4,h5,h6,h7⟩
 have h6' : RRep w.heap.size w' (fun b => D b \/ (w.heap.size <= b /\ D' b)) v r := h6.mono (hfl r h7) (fun b hb => by
  rcases hb with hb | hb
  ·exact h3 b (.inl hb)
  ·exact hb.2)
 obtain ⟨φ',hI'⟩ := hI.bind h2 (fun b hb => .inl hb) (fun b hb => by
  rcases hb with hb | hb
  ·exact .inl hb
  ·exact .inr ⟨h5 b hb.2,hb.1⟩) h6' o.dst hd
 exact hK _ _ _ _ _ ⟨r,h7,rfl⟩ hI'
theorem op_callD {f : Operand} {args : Array Operand} {ts : Array TypeId} {g : FuncId} {caps ps : List PV} {Qf : RV -> Prop} (ho : o.op = .call { callee := .value f,args,argTypes := ts }) (hd : dstB nt o.dst = true)
  (hf : s.calleeD f = some (g,caps)) (ha : mapO s.evD args.toList = some ps) (hc : ACalls P g (ps ++ caps) Qf) : OpToS P nt o s (fun s' => ∃ r,Qf r /\ s' = s.bind o.dst r):= by
 intro ro W0 D0 D φ a w hI hko K Q hK
 have hfr : ∃ vs,a.eval f = .func (.func g) #[] vs /\ RepL w D vs caps:= by
  unfold ASt.calleeD at hf
  split at hf
  ·rename_i g' caps' he
   cases hf
   have := hI.evD he
   generalize a.eval f = v at this
   cases this with
   | fn f vs cs hl hr => exact ⟨vs,rfl,hl,hr⟩
  ·cases hf
 obtain ⟨vs,hv,hvr⟩ := hfr
 refine wpIn_of (by rw [ho]; intro c hc; cases hc) ?_
 unfold Oper.wp
 rw [call_run ho hv hc.1]
 refine (hc.2 w D _ (hI.kok hko (fun _ hb => hb) (fun _ _ h => h)) hI.dlt ((evD_args hI ha).append hvr)).mono ?_
 rintro e w' ⟨v,r,D',rfl,h2,h3,h4,h5,h6,h7⟩
 obtain ⟨φ',hI'⟩ := hI.bind h2 h3 (fun b hb => by
  rcases h4 b hb with h | h
  ·exact .inl h
  ·exact .inr ⟨h5 b hb,h⟩) h6 o.dst hd
 exact hK _ _ _ _ _ ⟨r,h7,rfl⟩ hI'
end
def entryEnv : Nat -> List PV -> List (Nat × Option FV)
 | _,[] => []
 | i,p :: ps => (i,some (.pv p)) :: entryEnv (i + 1) ps
def entry (ps : List PV) : ASt := ⟨entryEnv 0 ps,[],0⟩
theorem entryEnv_get : ∀ (ps : List PV) (i t : Nat) (x : FV),look (entryEnv i ps) t = some x -> ∃ p,x = .pv p /\ i <= t /\ ps[t - i]? = some p
 | [],i,t,x,h => by simp [entryEnv,look] at h
 | p :: ps,i,t,x,h => by
  by_cases hi : i = t
  ·subst hi
   rw [entryEnv,look_cons_eq] at h
   cases h
   exact ⟨p,rfl,Nat.le_refl _,by simp⟩
  ·rw [entryEnv,look_cons_ne _ _ hi] at h
   obtain ⟨q,h1,h2,h3⟩ := entryEnv_get ps (i + 1) t x h
   refine ⟨q,h1,by omega,?_⟩
   have : t - i = (t - (i + 1)) + 1 := by omega
   rw [this,List.getElem?_cons_succ]; exact h3
theorem entry_inv {W : World} {D : Nat -> Prop} {vs : Array Value} {ps : List PV} {nt : Nat} (hD : ∀ b,D b -> b < W.heap.size) (hr : RepL W D vs ps) (hn : vs.size <= nt) :
  Inv W ⟨D,fun _ => False,none,false⟩ nt (entry ps) D (fun _ => undef) { tmps := vs ++ Array.replicate (nt - vs.size) undef,defers := [] } W:= by
 refine ⟨BelowX.refl _ _,by simp; omega,⟨[],.nil,.nil,by simp⟩,hD,fun b hb => .inl hb,fun b hb => hb,?_,?_,?_,?_⟩
 ·intro t x hx
  obtain ⟨p,rfl,_,hp⟩ := entryEnv_get ps 0 t x hx
  rw [Nat.sub_zero] at hp
  have ht : t < vs.size := by rw [hr.1]; exact (List.getElem?_eq_some_iff.1 hp).1
  refine ⟨rfl,vs[t],?_,.pv _ _ (hr.2 t _ p (by simp [ht]) hp)⟩
  rw [Array.getElem?_append_left ht]; simp [ht]
 ·intro id ob h; simp [ASt.obj,entry,look] at h
 ·intro id ob b h; simp [ASt.obj,entry,look] at h
 ·intro id ob id' ob' b h; simp [ASt.obj,entry,look] at h
def semRes (tmps : Array Value) : ResultVar -> Sem Value
 | .tmp t => pure (tmps.getD t undef)
 | .cell c t => do loadVar t (← asAddr (tmps.getD c undef))
def tupV : List Value -> Value
 | [v] => v
 | vs => .tuple vs.toArray
def resFV (T : Nat -> Option TyI) (s : ASt) : ResultVar -> Option FV
 | .tmp t => s.get t
 | .cell c t => match s.get c,T t with
  | some (.box id off),some i => match s.obj id with
   | some (.box cs) => loadF i.agg i.size (cs.drop off)
   | _ => none
  | _,_ => none
def ret1 (s : ASt) (x : FV) : Option RV := match x with
 | .arr id => match s.obj id with
  | some (.arr e sz es) => some (.own e sz es)
  | some (.fro es) => some (.pv (.sl es))
  | _ => none
 | .mp id => match s.obj id with
  | some (.imap ks) => some (.imap ks)
  | _ => none
 | x => match s.pvOf true 5 x with
  | some p => some (.pv p)
  | none => none
def retL (s : ASt) (xs : List FV) : Option RV := match mapO (s.pvOf true 5) xs with
 | some ps => some (.tup ps)
 | none => none
def retR (s : ASt) : List FV -> Option RV
 | [x] => ret1 s x
 | [] => retL s []
 | x :: y :: xs => retL s (x :: y :: xs)
def RetQ (T : Nat -> Option TyI) (rs : List ResultVar) (Q : RV -> Prop) : Exit -> ASt -> Prop
 | .normal,s => ∃ xs r,mapO (resFV T s) rs = some xs /\ retR s xs = some r /\ Q r
 | .ret,s => ∃ xs r,mapO (resFV T s) rs = some xs /\ retR s xs = some r /\ Q r
 | _,_ => False
section
variable {P : Program} {T : Nat -> Option TyI} {nt : Nat} {s : ASt}
theorem run_resVar {W0 : World} {D0 : Bas} {D : Nat -> Prop} {φ : Nat -> Value} {a : Act} {w : World} (hT : TabOK P T) (hI : Inv W0 D0 nt s D φ a w) {rv : ResultVar} {x : FV} (h : resFV T s rv = some x) :
  ∃ v,(semRes a.tmps rv).run P w = .ok v w /\ FRep w D φ v x:= by
 cases rv with
 | tmp t => exact ⟨a.eval (.tmp t),rfl,hI.eval h⟩
 | cell c t =>
  simp only [resFV] at h
  split at h
  ·rename_i id off i hc ht
   split at h
   ·rename_i cs hob
    have hr := hI.eval hc
    have he : a.eval (.tmp c) = a.tmps.getD c undef := rfl
    generalize hv : a.eval (.tmp c) = v at hr
    cases hr with
    | box id off b hφ =>
     obtain ⟨hlt,holt,b',vs,e,h1,h2,h3,h4⟩ := hI.objs id _ hob
     rw [hφ] at h1; cases h1
     have hcell : ∀ j,off + j < vs.size -> w.cell? ((⟨b,off,none⟩ : Addr).add j) = some (vs.getD (off + j) undef):= by
      intro j hj
      rw [addr_add]
      simp [World.cell?,h2,hj]
     have hTy := hT.ty ht
     cases hagg : i.agg with
     | true =>
      rw [hagg] at h
      simp only [loadF] at h
      split at h
      ·rename_i hle
       cases h
       have hle' : i.size <= cs.length - off := by simpa using Nat.le_of_ble_eq_true hle
       have hrun := run_loadVar hTy w ⟨b,off,none⟩ (fun j => vs.getD (off + j) undef) (fun j hj => hcell j (by rw [hagg] at hj; simp at hj; omega))
       refine ⟨_,by simp only [semRes,<- he,hv,asAddr,Sem.run_bind,Sem.run_pure,Result.andThen_ok,hrun]; rfl,?_⟩
       rw [hagg]
       refine .agg _ _ (by simp; omega) fun j u y hu hy => ?_
       have hj : j < i.size:= by
        have := (Array.getElem?_eq_some_iff.1 hu).1
        simpa using this
       have hu' : u = vs.getD (off + j) undef := by simpa [hj] using hu.symm
       have hy' : cs[off + j]? = some y:= by
        rw [List.getElem?_take,if_pos hj,List.getElem?_drop] at hy; exact hy
       subst hu'
       have hvs : off + j < vs.size := by rw [h3]; exact (List.getElem?_eq_some_iff.1 hy').1
       have e1 : vs.getD (off + j) undef = vs[off + j] := by simp [hvs]
       rw [e1]
       exact (h4 (off + j) _ y (by simp [hvs]) hy').2
      ·cases h
     | false =>
      rw [hagg] at h
      simp only [loadF] at h
      split at h
      ·rename_i c' r hcs
       cases h
       have hc0 : cs[off]? = some x:= by
        have : (cs.drop off)[0]? = some x := by rw [hcs]; rfl
        simpa using this
       have hvs : off < vs.size := by rw [h3]; exact (List.getElem?_eq_some_iff.1 hc0).1
       have hrun := run_loadVar hTy w ⟨b,off,none⟩ (fun j => vs.getD (off + j) undef) (fun j hj => hcell j (by rw [hagg] at hj; simp at hj; omega))
       refine ⟨_,by simp only [semRes,<- he,hv,asAddr,Sem.run_bind,Sem.run_pure,Result.andThen_ok,hrun]; rfl,?_⟩
       rw [hagg]
       have e1 : vs.getD (off + 0) undef = vs[off] := by simp [hvs]
       simp only [Bool.false_eq_true,if_false,e1]
       exact (h4 off _ x (by simp [hvs]) hc0).2
      ·cases h
   ·cases h
  ·cases h
theorem run_resList {W0 : World} {D0 : Bas} {D : Nat -> Prop} {φ : Nat -> Value} {a : Act} {w : World} (hT : TabOK P T) (hI : Inv W0 D0 nt s D φ a w) : ∀ (rs : List ResultVar) (xs : List FV),mapO (resFV T s) rs = some xs →
  ∃ vs : List Value,(rs.mapM (semRes a.tmps)).run P w = .ok vs w /\ vs.length = xs.length /\
   ∀ (j : Nat) (v : Value) (x : FV),vs[j]? = some v -> xs[j]? = some x -> FRep w D φ v x
 | [],xs,h => by cases h; exact ⟨[],by simp,rfl,by simp⟩
 | r :: rs,xs,h => by
  unfold mapO at h
  split at h
  ·rename_i y ys hy hys
   cases h
   obtain ⟨v,h1,h2⟩ := run_resVar hT hI hy
   obtain ⟨vs,h3,h4,h5⟩ := run_resList hT hI rs ys hys
   refine ⟨v :: vs,by simp only [List.mapM_cons,Sem.run_bind,h1,Result.andThen_ok,h3,Sem.run_pure],by simp [h4],fun j u x hu hx => ?_⟩
   cases j with
   | zero => simp at hu hx; subst hu; subst hx; exact h2
   | succ j => exact h5 j u x (by simpa using hu) (by simpa using hx)
  ·cases h
theorem run_results {W0 : World} {D0 : Bas} {D : Nat -> Prop} {φ : Nat -> Value} {a : Act} {w : World} (hT : TabOK P T) (hI : Inv W0 D0 nt s D φ a w) {fn : Func} {xs : List FV} (h : mapO (resFV T s) fn.results.toList = some xs) :
  ∃ vs : List Value,(results fn a.tmps).run P w = .ok (tupV vs) w /\ vs.length = xs.length /\ ∀ (j : Nat) (v : Value) (x : FV),vs[j]? = some v -> xs[j]? = some x -> FRep w D φ v x:= by
 obtain ⟨vs,h1,h2,h3⟩ := run_resList hT hI _ xs h
 refine ⟨vs,?_,h2,h3⟩
 have hres : results fn a.tmps = (do let vs ← fn.results.mapM (semRes a.tmps); pure (if h : vs.size = 1 then vs[0] else .tuple vs)):= by
  unfold results
  congr 2
 rw [hres,Array.mapM_eq_mapM_toList]
 simp only [Sem.run_bind,Sem.run_map,h1,Result.andThen_ok,Sem.run_pure]
 cases vs with
 | nil => simp [tupV]
 | cons v vs => cases vs with
  | nil => simp [tupV]
  | cons v2 vs => simp [tupV]
theorem ret1_rep {W : World} {D0 : Bas} {D : Nat -> Prop} {φ : Nat -> Value} {a : Act} {w : World} (hI : Inv W D0 nt s D φ a w) (hX : ∀ b,¬ D0.x b) {v : Value} {x : FV} {r : RV} (hf : FRep w D φ v x) (h : ret1 s x = some r) :
  RRep W.heap.size w (inAll s D φ) v r \/ RRep W.heap.size w D v r:= by
 have gen : (match s.pvOf true 5 x with
  | some p => some (RV.pv p)
  | none => none) = some r -> RRep W.heap.size w (inAll s D φ) v r:= by
  intro h
  split at h
  ·rename_i p hp
   cases h
   exact show Rep w (inAll s D φ) v p by simpa using pvOf_rep hI true 5 _ v p hf hp
  ·cases h
 cases hf with
 | arr id n c ad hφ =>
  right
  simp only [ret1] at h
  split at h
  ·rename_i e sz es hob
   cases h
   obtain ⟨_,_,ys,g1,g2⟩ := hI.objs id _ hob
   rw [hφ] at g1
   have hbb : ∀ b,blk (Value.slice ad n c) = some b -> oblk φ id (.arr e sz es) b := fun b hb => by simpa [oblk,hφ] using hb
   exact ⟨ys,ownsRow_base g1 (fun b hb => (hI.own id _ b hob (hbb b hb)).2.1.resolve_left (hX b)),g2,fun b hb => (hI.own id _ b hob (hbb b hb)).1⟩
  ·rename_i es hob
   cases h
   have g1 : Rep w D (φ id) (.sl es) := (hI.objs id _ hob).2.2
   rw [hφ] at g1; exact g1
  ·cases h
 | mp id r' hφ =>
  right
  simp only [ret1] at h
  split at h
  ·rename_i ks hob
   cases h
   obtain ⟨_,_,q,es,clock,g1,g2,g3⟩ := hI.objs id _ hob
   rw [hφ] at g1; cases g1
   have := hI.own id _ q hob (by simp [oblk,hφ,blk])
   exact ⟨q,es,clock,rfl,g2,g3,this.2.1.resolve_left (hX q),this.1⟩
  ·cases h
 | pv v p hp => exact .inl (gen h)
 | nils => exact .inl (gen h)
 | yld _ _ _ => exact .inl (gen h)
 | sub _ _ _ _ _ _ _ _ _ => exact .inl (gen h)
 | box _ _ _ _ => exact .inl (gen h)
 | aptr _ _ _ _ _ _ _ _ => exact .inl (gen h)
 | fn _ _ _ _ _ => exact .inl (gen h)
 | agg _ _ _ _ => exact .inl (gen h)
 | tup _ _ _ _ => exact .inl (gen h)
theorem retL_rep {W : World} {D0 : Bas} {D : Nat -> Prop} {φ : Nat -> Value} {a : Act} {w : World} (hI : Inv W D0 nt s D φ a w) {vs : List Value} {xs : List FV} {r : RV} (hl : vs.length = xs.length)
  (hf : ∀ (j : Nat) (v : Value) (x : FV),vs[j]? = some v -> xs[j]? = some x -> FRep w D φ v x) (h : retL s xs = some r) : RRep W.heap.size w (inAll s D φ) (.tuple vs.toArray) r:= by
 unfold retL at h
 split at h
 ·rename_i ps hp
  cases h
  obtain ⟨m1,m2⟩ := mapO_some hp
  refine ⟨vs.toArray,rfl,by simp; omega,fun j u p hu hp => ?_⟩
  have hj : j < xs.length := by rw [m1]; exact (List.getElem?_eq_some_iff.1 hp).1
  have hx : xs[j]? = some xs[j] := by simp [hj]
  have hu' : vs[j]? = some u := by simpa using hu
  simpa using pvOf_rep hI true 5 _ u p (hf j u _ hu' hx) (m2 j _ p hx hp)
 ·cases h
theorem retR_rep {W : World} {D0 : Bas} {D : Nat -> Prop} {φ : Nat -> Value} {a : Act} {w : World} (hI : Inv W D0 nt s D φ a w) (hX : ∀ b,¬ D0.x b) {vs : List Value} {xs : List FV} {r : RV} (hl : vs.length = xs.length)
  (hf : ∀ (j : Nat) (v : Value) (x : FV),vs[j]? = some v -> xs[j]? = some x -> FRep w D φ v x) (h : retR s xs = some r) : RRep W.heap.size w (inAll s D φ) (tupV vs) r \/ RRep W.heap.size w D (tupV vs) r:= by
 match vs,xs,hl,hf,h with
 | [],[],hl,hf,h => exact .inl (retL_rep hI hl hf h)
 | [v],[x],hl,hf,h => exact ret1_rep hI hX (hf 0 v x rfl rfl) h
 | v :: v2 :: vs,x :: y :: xs,hl,hf,h => exact .inl (retL_rep hI hl hf h)
theorem ret_post {W : World} {D0 : Bas} {D : Nat -> Prop} {φ : Nat -> Value} {a : Act} {w : World} (hT : TabOK P T) (hX : ∀ b,¬ D0.x b) (hI : Inv W D0 nt s D φ a w) {fn : Func} {xs : List FV} {r : RV} {Q : RV -> Prop} (h : mapO (resFV T s) fn.results.toList = some xs)
  (hr : retR s xs = some r) (hq : Q r) : ∃ v,(results fn a.tmps).run P w = .ok v w /\ CallPost W D0.d Q (.returned v) w:= by
 obtain ⟨vs,h1,h2,h3⟩ := run_results hT hI h
 refine ⟨_,h1,?_⟩
 have hbel : Below W.heap.size W w := ⟨hI.below.os,hI.below.tape,hI.below.output,hI.below.size,fun k hk => hI.below.block k hk (hX k)⟩
 have hdof : ∀ b,D b -> D0.d b \/ W.heap.size <= b := fun b hb => by
  rcases hI.dof b hb with g | g | g
  ·exact .inl g
  ·exact absurd g (hX b)
  ·exact .inr g
 have hall : ∀ b,inAll s D φ b -> b < w.heap.size /\ (D0.d b \/ W.heap.size <= b):= by
  rintro b (hb | ⟨id,ob,g1,g2⟩)
  ·exact ⟨hI.dlt b hb,hdof b hb⟩
  ·obtain ⟨g3,g4,g5⟩ := hI.own id ob b g1 g2; exact ⟨g5,.inr (g4.resolve_left (hX b))⟩
 rcases retR_rep hI hX h2 h3 hr with hrr | hrr
 ·exact ⟨_,r,_,rfl,hbel,fun b hb => .inl (hI.d0 b hb),fun b hb => (hall b hb).2,fun b hb => (hall b hb).1,hrr,hq⟩
 ·exact ⟨_,r,_,rfl,hbel,fun b hb => hI.d0 b hb,hdof,fun b hb => hI.dlt b hb,hrr,hq⟩
theorem Inv.take {W0 : World} {D0 : Bas} {D : Nat -> Prop} {φ : Nat -> Value} {a : Act} {w : World} {ms m2 : List Deferred} {d : Deferred} (hI : Inv W0 D0 nt s D φ a w) (hn : ((d :: ms) ++ m2).Nodup) (hm : ∀ x ∈ (d :: ms) ++ m2,Marked w D s φ (mbase W0 D0) x) :
  ∃ m,d = { target := .collected m,args := #[] } /\ (Instr.takeDeferred m).run P w = .ok [] (w.putObj m (.deferred none)) /\ Inv W0 D0 nt s D φ { a with defers := ms ++ pdl D0.pd ++ m2 } (w.putObj m (.deferred none)) /\
   ∀ x ∈ ms ++ m2,Marked (w.putObj m (.deferred none)) D s φ (mbase W0 D0) x:= by
 obtain ⟨m,rfl,g2,g3,g4,g5⟩ := hm d (by simp)
 rw [List.cons_append] at hn hm
 have hms : ∀ x ∈ ms ++ m2,Marked (w.putObj m (.deferred none)) D s φ (mbase W0 D0) x := fun x hx => by
  obtain ⟨m',rfl,q2,q3,q4,q5⟩ := hm x (List.mem_cons_of_mem _ hx)
  refine ⟨m',rfl,?_,q3,q4,q5⟩
  rw [World.putObj_heap_other]
  ·exact q2
  ·rintro rfl; exact (List.nodup_cons.1 hn).1 hx
 have hDk : ∀ b,D b -> (w.putObj m (.deferred none)).heap[b]? = w.heap[b]? := fun b hb => World.putObj_heap_other (by rintro rfl; exact g4 hb)
 refine ⟨m,rfl,run_takeDeferred g2,?_,hms⟩
 refine ⟨⟨hI.below.os,hI.below.tape,hI.below.output,by simpa using hI.below.size,fun k hk hx => (World.putObj_heap_other (by have := g3.2; omega)).trans (hI.below.block k hk hx)⟩,hI.size,⟨ms ++ m2,⟨ms,m2,rfl,rfl⟩,(List.nodup_cons.1 hn).2,hms⟩,
  fun b hb => by simpa using hI.dlt b hb,hI.dof,hI.d0,fun t x hx => ?_,fun id ob ho => ?_,fun id ob b ho hb => ?_,hI.sep⟩
 ·obtain ⟨h1,v,h2,h3⟩ := hI.env t x hx
  exact ⟨h1,v,h2,h3.mono hDk (fun _ h => h) (fun _ _ => rfl) h1⟩
 ·obtain ⟨h1,h2,h3⟩ := hI.objs id ob ho
  exact ⟨h1,h2,h3.keep h2 h1 hDk (fun _ h => h) (fun _ _ => rfl) fun b hb => World.putObj_heap_other (by rintro rfl; exact g5 id ob ho hb)⟩
 ·obtain ⟨h1,h2,h3⟩ := hI.own id ob b ho hb
  exact ⟨h1,h2,by simpa using h3⟩
theorem leaves_marks {F : Fence} {n : Nat} {fn : Func} {R : Ending -> World -> Prop} {u : FrameMode} {W0 : World} {D0 : Bas} {D : Nat -> Prop} {φ : Nat -> Value} {tmps : Array Value} {m2 : List Deferred} (hu : u ≠ .run) :
  ∀ (ms : List Deferred) (w : World),Inv W0 D0 nt s D φ { tmps := tmps,defers := ms ++ pdl D0.pd ++ m2 } w -> (ms ++ m2).Nodup -> (∀ x ∈ ms ++ m2,Marked w D s φ (mbase W0 D0) x) →
  (∀ w',Inv W0 D0 nt s D φ { tmps := tmps,defers := pdl D0.pd ++ m2 } w' -> m2.Nodup -> (∀ x ∈ m2,Marked w' D s φ (mbase W0 D0) x) -> LeavesInM F n P fn tmps R (pdl D0.pd ++ m2) u w') -> LeavesInM F n P fn tmps R (ms ++ pdl D0.pd ++ m2) u w
 | [],w,hI,hn,hm,h => h w hI hn hm
 | d :: ms,w,hI,hn,hm,h => by
  obtain ⟨m,rfl,h2,h3,h4⟩ := hI.take (P := P) hn hm
  exact ⟨hu,.inl ⟨m,_,rfl,h2,leaves_marks hu ms _ h3 (by rw [List.cons_append] at hn; exact (List.nodup_cons.1 hn).2) h4 h⟩⟩
theorem leaves_end {F : Fence} {n : Nat} {fn : Func} {R : Ending -> World -> Prop} {u : FrameMode} {W0 : World} {D0 : Bas} {D : Nat -> Prop} {φ : Nat -> Value} {tmps : Array Value} {dfs : List Deferred} (hu : u ≠ .run) (hpd : D0.pd = none) {w : World}
  (hI : Inv W0 D0 nt s D φ { tmps := tmps,defers := dfs } w) (h : ∀ w',Inv W0 D0 nt s D φ { tmps := tmps,defers := [] } w' -> LeavesInM F n P fn tmps R [] u w') : LeavesInM F n P fn tmps R dfs u w:= by
 obtain ⟨ms,q1,q2,q3⟩ := hI.defers
 have hp : pdl D0.pd = [] := by rw [hpd]; rfl
 have hd : dfs = ms := by rw [hpd] at q1; exact q1.of_none
 have e1 : dfs = ms ++ pdl D0.pd ++ [] := by rw [hp,hd]; simp
 rw [e1] at hI ⊢
 refine leaves_marks hu ms w hI (by simpa using q2) (by simpa using q3) fun w' hI' _ _ => ?_
 rw [hp] at hI' ⊢
 exact h w' hI'
theorem enters_of {f : FuncId} {fn : Func} {c : Code} (hf : P.funcs[f]? = some fn) (hb : fn.body = some c) (hname : (fn.name == "runtime.NumGoroutine") = false) : Enters P f := fun args w => by
 have hname' : ¬ fn.name = "runtime.NumGoroutine" := by simpa using hname
 simp [callFunc,hf,hname',hb]
theorem ACalls.of_body {f : FuncId} {fn : Func} {c : Code} {ps : List PV} {Q : RV → Prop} (hT : TabOK P T) (hf : P.funcs[f]? = some fn) (hb : fn.body = some c) (hname : (fn.name == "runtime.NumGoroutine") = false) (hn : Nat.ble ps.length fn.ntmps = true)
  (h : AW P fn.ntmps c (RetQ T fn.results.toList Q) (entry ps)) : ACalls P f ps Q:= by
 refine ⟨enters_of hf hb hname,fun W D vs hko hD hr => ?_⟩
 have hn' := Nat.le_of_ble_eq_true hn
 refine (callsIn_wide (n := 0)).1 (callsIn_of_wp_marks hf hb trivial ?_)
 refine Go.wpIn_mono (h none W ⟨D,fun _ => False,none,false⟩ D _ _ W ⟨rfl,fun l hl => (by cases hl),hko⟩ (entry_inv hD hr (by rw [hr.1]; exact hn'))) ?_
 have fin : ∀ (a : Act) (w : World) (s' : ASt) (D' : Nat -> Prop) (φ' : Nat -> Value),Inv W ⟨D,fun _ => False,none,false⟩ fn.ntmps s' D' φ' a w -> (∃ xs r,mapO (resFV T s') fn.results.toList = some xs /\ retR s' xs = some r /\ Q r) →
   LeavesInM Fence.wide 0 P fn a.tmps (CallPost W D Q) a.defers .returning w:= by
  rintro a w s' D' φ' hI ⟨xs,r,h1,h2,h3⟩
  obtain ⟨tmps,dfs⟩ := a
  exact leaves_end (by simp) rfl hI fun w' hI' => ret_post hT (fun _ h => h) hI' h1 h2 h3
 rintro e a w ⟨s',D',φ',hI,hq⟩
 cases e with
 | normal => exact fin a w s' D' φ' hI hq
 | ret => exact fin a w s' D' φ' hI hq
 | _ => exact hq.elim
end
end Go.Abs
