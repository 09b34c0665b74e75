/- Operations that make or write memory; calls; functions. -/
import Derived.Test.YtpoaccdbakbjhaaGreatXG03
import Derived.Laws.OwnMore
set_option linter.unusedVariables false
set_option linter.unusedSimpArgs false
namespace Go.Abs
open Go.RowKit
section
variable {W0:World} {D0:Bas} {nt:Nat} {s:ASt} {D:Nat -> Prop} {φ:Nat -> Value} {a:Act} {w:World}
def addH (φ:Nat -> Value) (n:Nat) (v:Value) (id:Nat):Value:=if id = n then v else φ id
theorem addH_old (φ:Nat -> Value) {n id:Nat} (v:Value) (h:id < n):addH φ n v id = φ id:=by unfold addH; rw [if_neg (by omega)]
theorem addH_new (φ:Nat -> Value) (n:Nat) (v:Value):addH φ n v n = v:=by simp [addH]
theorem Inv.noNxt (h:Inv W0 D0 nt s D φ a w) {ob:AObj}:s.obj s.nxt ≠ some ob:=fun ho=>Nat.lt_irrefl _ (h.objs _ _ ho).1
theorem oblk_blk {φ:Nat -> Value} {id:Nat} {ob:AObj} {b:Nat} (hne:∀ E k B,ob ≠ .ext E k B) (hnp:∀ e sz l,ob ≠ .pool e sz l) (h:oblk φ id ob b):blk (φ id) = some b:= by
 cases ob with
 | box _=>exact h
 | arr _ _ _=>exact h
 | imap _=>exact h
 | ext E k B=>exact absurd rfl (hne E k B)
 | fro _=>exact h.elim
 | res=>exact h.elim
 | anc _ _=>exact h.elim
 | iter _ _ _=>exact h
 | siter _ _=>exact h
 | lst _ _ _ _ _=>exact h
 | pool e sz l=>exact absurd rfl (hnp e sz l)
def AObj.own1:AObj -> Bool
 | .ext _ _ _=>false
 | .pool _ _ _=>false
 | _=>true
theorem Inv.defers_of (h:Inv W0 D0 nt s D φ a w) {s':ASt} (hobj:∀ id ob,s'.obj id = some ob -> s.obj id = some ob):∃ ms,DefL D0.pd ms a.defers /\ ms.Nodup /\ ∀ d ∈ ms,Marked w D s' φ (mbase W0 D0) d:= by
 obtain ⟨ms,h1,h2,h3⟩:=h.defers
 exact ⟨ms,h1,h2,fun d hd=>let ⟨m,g1,g2,g3,g4,g5⟩:=h3 d hd; ⟨m,g1,g2,g3,g4,fun id ob ho=>g5 id ob (hobj id ob ho)⟩⟩
theorem Inv.new (h:Inv W0 D0 nt s D φ a w) {w':World} {D':Nat -> Prop} (hb:Below w.heap.size w w') (hD:∀ b,D b -> D' b) (hDn:∀ b,D' b -> D b \/ (b < w'.heap.size /\ w.heap.size <= b)) (ob:AObj) (hv:Value) (hlt:ob.lt s.nxt = true)
  (hO:ORep w' D' (addH φ s.nxt hv) W0.heap.size s.nxt ob) (hbk:∀ b,blk hv = some b -> w.heap.size <= b /\ b < w'.heap.size /\ ¬ D' b) (h1:ob.own1 = true:=by rfl):Inv W0 D0 nt (s.newObj ob) D' (addH φ s.nxt hv) a w':= by
 refine h.chg s.nxt (fun _=>False) (hb.mono (Nat.zero_le _)) ?_ hD ?_ (fun id hid=>addH_old φ hv hid) (Nat.le_succ _) (fun t x hx=>hx) ?_ ?_
 ·intro b hlt _; exact hb.block b hlt
 ·intro b hb'
  rcases hDn b hb' with h1|⟨h1,h2⟩
  ·exact .inl h1
  ·exact .inr ⟨h1,.inl h2⟩
 ·intro id ob2 hne ho
  rw [ASt.obj_newObj,if_neg (fun e=>hne e.symm)] at ho
  exact ⟨fun hf=>hf,ho⟩
 ·intro ob2 ho
  rw [ASt.obj_newObj,if_pos rfl] at ho
  cases ho
  refine ⟨Nat.lt_succ_self _,AObj.lt_mono (Nat.le_succ _) _ hlt,hO,?_⟩
  intro b hbk'
  have hbk2:blk hv = some b:= by
   have:=oblk_blk (by rintro E k B rfl; cases h1) (by rintro e sz l rfl; cases h1) hbk'
   rwa [addH_new] at this
  obtain ⟨h1,h2,h3⟩:=hbk b hbk2
  exact ⟨h3,h2,.inl h1⟩
theorem Inv.grow (h:Inv W0 D0 nt s D φ a w) {w':World} {D':Nat -> Prop} (hb:Below w.heap.size w w') (hD:∀ b,D b -> D' b) (hDn:∀ b,D' b -> D b \/ (b < w'.heap.size /\ w.heap.size <= b)):Inv W0 D0 nt s D' φ a w':= by
 refine h.chg s.nxt (fun _=>False) (hb.mono (Nat.zero_le _)) ?_ hD ?_ (fun id hid=>rfl) (Nat.le_refl _) (fun t x hx=>hx) (fun id ob _ ho=>⟨fun hf=>hf,ho⟩) (fun ob ho=>absurd ho h.noNxt)
 ·intro b hlt _; exact hb.block b hlt
 ·intro b hb'
  rcases hDn b hb' with h1|⟨h1,h2⟩
  ·exact .inl h1
  ·exact .inr ⟨h1,.inl h2⟩
end
def cellsF:FV -> List FV
 | .agg cs=>cs
 | .pv (.agg ps)=>ps.map .pv
 | x=>[x]
def leafL:List FV -> Bool
 | []=>true
 | x :: xs=>x.leaf && leafL xs
theorem leafL_mem:∀ {cs:List FV} {x:FV},leafL cs = true -> x ∈ cs -> x.leaf = true
 | [],_,_,hp=>by cases hp
 | _ :: _,_,h,hp=>by
  simp only [leafL,Bool.and_eq_true] at h
  cases hp with
  | head=>exact h.1
  | tail _ hp=>exact leafL_mem h.2 hp
theorem ltL_of {n:Nat}:∀ {cs:List FV},(∀ x ∈ cs,x.lt n = true) -> FV.ltL n cs = true
 | [],_=>rfl
 | x :: cs,h=>by simp [FV.ltL,h x (by simp),ltL_of (cs:=cs) fun y hy=>h y (by simp [hy])]
theorem cells_rep {w:World} {D:Nat -> Prop} {φ:Nat -> Value} {v:Value} {x:FV} {n:Nat} (h:FRep w D φ v x) (hn:x.lt n = true):v.cells.size = (cellsF x).length /\ FV.ltL n (cellsF x) = true /\
  ∀ (j:Nat) (u:Value) (y:FV),v.cells[j]? = some u -> (cellsF x)[j]? = some y -> FRep w D φ u y:= by
 have one:∀ (v:Value) (x:FV),v.cells = #[v] -> cellsF x = [x] -> FRep w D φ v x -> x.lt n = true -> v.cells.size = (cellsF x).length /\ FV.ltL n (cellsF x) = true /\
   ∀ (j:Nat) (u:Value) (y:FV),v.cells[j]? = some u -> (cellsF x)[j]? = some y -> FRep w D φ u y:= by
  intro v x hv hx h hn
  rw [hv,hx]
  refine ⟨rfl,by simp [FV.ltL,hn],fun j u y hu hy=>?_⟩
  cases j with
  | zero=>simp at hu hy; subst hu; subst hy; exact h
  | succ j=>simp at hu
 cases h with
 | pv v p hp =>
  cases hp with
  | agg vs cs hl hr =>
   refine ⟨by simp [Value.cells,cellsF,hl],ltL_of (by intro x hx; simp [cellsF] at hx; obtain ⟨p,_,rfl⟩:=hx; rfl),fun j u y hu hy=>?_⟩
   simp only [cellsF,List.getElem?_map,Option.map_eq_some_iff] at hy
   obtain ⟨p,hp,rfl⟩:=hy
   exact .pv _ _ (hr j u p hu hp)
  | bool b=>exact one _ _ rfl rfl (.pv _ _ (.bool b)) hn
  | int k m=>exact one _ _ rfl rfl (.pv _ _ (.int k m)) hn
  | str b=>exact one _ _ rfl rfl (.pv _ _ (.str b)) hn
  | sl a1 a2 a3 a4 a5 a6 a7 a8 a9 a10 a11 a12 a13=>exact one _ _ rfl rfl (.pv _ _ (.sl a1 a2 a3 a4 a5 a6 a7 a8 a9 a10 a11 a12 a13)) hn
  | ptr a1 a2 a3 a4 a5 a6 a7=>exact one _ _ rfl rfl (.pv _ _ (.ptr a1 a2 a3 a4 a5 a6 a7)) hn
  | fn a1 a2 a3 a4 a5=>exact one _ _ rfl rfl (.pv _ _ (.fn a1 a2 a3 a4 a5)) hn
  | meth a1 a2 a3 a4 a5=>exact one _ _ rfl rfl (.pv _ _ (.meth a1 a2 a3 a4 a5)) hn
  | iface a1 a2 a3 a4=>exact one _ _ rfl rfl (.pv _ _ (.iface a1 a2 a3 a4)) hn
  | imap a1 a2 a3 a4 a5 a6 a7 a8 a9 a10=>exact one _ _ rfl rfl (.pv _ _ (.imap a1 a2 a3 a4 a5 a6 a7 a8 a9 a10)) hn
  | nilFunc=>exact one _ _ rfl rfl (.pv _ _ .nilFunc) hn
  | nilIface=>exact one _ _ rfl rfl (.pv _ _ .nilIface) hn
  | nilMap=>exact one _ _ rfl rfl (.pv _ _ .nilMap) hn
  | nilPtr=>exact one _ _ rfl rfl (.pv _ _ .nilPtr) hn
  | raw v h=>exact one _ _ (by cases v <;> first|rfl|cases h) rfl (.pv _ _ (.raw v h)) hn
 | nils=>exact one _ _ rfl rfl .nils hn
 | box a1 a2 a3 a4=>exact one _ _ rfl rfl (.box a1 a2 a3 a4) hn
 | arr a1 a2 a3 a4 a5=>exact one _ _ rfl rfl (.arr a1 a2 a3 a4 a5) hn
 | aptr a1 a2 a3 a4 a5 a6 a7 a8=>exact one _ _ rfl rfl (.aptr a1 a2 a3 a4 a5 a6 a7 a8) hn
 | mp a1 a2 a3=>exact one _ _ rfl rfl (.mp a1 a2 a3) hn
 | yld a1 a2 a3=>exact one _ _ rfl rfl (.yld a1 a2 a3) hn
 | sub a1 a2 a3 a4 a5 a6 a7 a8 a9=>exact one _ _ rfl rfl (.sub a1 a2 a3 a4 a5 a6 a7 a8 a9) hn
 | fn a1 a2 a3 a4 a5=>exact one _ _ rfl rfl (.fn a1 a2 a3 a4 a5) hn
 | agg vs cs hl hr=>exact ⟨hl,hn,fun j u y hu hy=>hr j u y hu hy⟩
 | tup a1 a2 a3 a4=>exact one _ _ rfl rfl (.tup a1 a2 a3 a4) hn
section
variable {P:Program} {T:Nat -> Option TyI} {nt:Nat} {s:ASt} {o:Oper}
theorem new_box {W0:World} {D0:Bas} {D:Nat -> Prop} {φ:Nat -> Value} {a:Act} {w:World} (hI:Inv W0 D0 nt s D φ a w) (vs:Array Value) (cs:List FV) (t:TypeId) (hl:vs.size = cs.length) (hlt:FV.ltL s.nxt cs = true) (hlf:leafL cs = true)
  (hr:∀ (j:Nat) (u:Value) (y:FV),vs[j]? = some u -> cs[j]? = some y -> FRep w D φ u y) :
  Inv W0 D0 nt (s.newObj (.box cs)) D (addH φ s.nxt (.pointer (some ⟨w.heap.size,0,none⟩))) a (w.alloc (.cells vs t)):= by
 have hb:Below w.heap.size w (w.alloc (.cells vs t)):=(Below.refl _ _).alloc (Nat.le_refl _) _
 refine hI.new hb (fun _ h=>h) (fun b h=>.inl h) _ _ (by simpa [AObj.lt] using hlt) ?_ ?_
 ·refine ⟨w.heap.size,vs,t,addH_new _ _ _,heap_alloc_new w _,hl,fun j v x hv hx=>⟨leafL_mem hlf (List.mem_of_getElem? hx),?_⟩⟩
  exact (hr j v x hv hx).mono (fun b hb'=>hb.block b (hI.dlt b hb')) (fun _ h=>h) (fun id hid=>addH_old _ _ hid) (FV.lt_mem hlt (List.mem_of_getElem? hx))
 ·intro b hbk
  simp only [blk,Option.some.injEq] at hbk
  subst hbk
  exact ⟨Nat.le_refl _,by simp,fun h=>Nat.lt_irrefl _ (hI.dlt _ h)⟩
theorem op_box {t:Nat} {x:Operand} {y:FV} (ho:o.op = .box t x) (hd:dstB nt o.dst = true) (hx:s.ev x = some y) (hlf:leafL (cellsF y) = true):OpTo P nt o s ((s.newObj (.box (cellsF y))).putO o.dst (some (.box s.nxt 0))):= by
 intro ro W0 D0 D φ a w hI K Q hK
 obtain ⟨hlt,hr⟩:=hI.ev hx
 obtain ⟨h1,h2,h3⟩:=cells_rep hr hlt
 have hN:=new_box hI (a.eval x).cells (cellsF y) t h1 h2 hlf h3
 have hrun:(execOp a.eval o).run P w = .ok (.value (.pointer (some ⟨w.heap.size,0,none⟩))) (w.alloc (.cells (a.eval x).cells t)):= by
  simp [execOp,ho,Instr.box,newVar,newRow]
 refine wpIn_of (by rw [ho]; intro c hc; cases hc) ?_
 unfold Oper.wp
 rw [hrun]
 refine hK D _ _ _ (hN.put o.dst (dstB_lt hd) _ _ fun x' hx'=>?_)
 cases hx'
 exact ⟨by simp [FV.lt,ASt.newObj],.box _ 0 _ (addH_new _ _ _)⟩
theorem op_alloc {t:Nat} {i:TyI} (hT:TabOK P T) (ho:o.op = .alloc t) (hd:dstB nt o.dst = true) (ht:T t = some i):OpTo P nt o s ((s.newObj (.box i.zero)).putO o.dst (some (.box s.nxt 0))):= by
 intro ro W0 D0 D φ a w hI K Q hK
 obtain ⟨info,z,h1,h2,h3,h4,h5⟩:=(hT.ty ht).info
 obtain ⟨g1,g2,g3⟩:=zrepL_ok h5
 have hlf:leafL i.zero = true:= by
  have:∀ (l:List FV),(∀ x ∈ l,x.leaf = true) -> leafL l = true:= by
   intro l; induction l with
   | nil=>intro _; rfl
   | cons x l ih=>intro h; simp [leafL,h x (by simp),ih fun y hy=>h y (by simp [hy])]
  refine this _ fun x hx=>?_
  obtain ⟨j,hj⟩:=List.mem_iff_getElem?.1 hx
  have hjl:=(List.getElem?_eq_some_iff.1 hj).1
  have hv:j < z.cells.toList.length:=by omega
  exact (g3 j z.cells.toList[j] x (by simp) hj).1
 have hN:=new_box hI z.cells i.zero t (by simpa using g1) (g2 _) hlf (fun j u y hu hy=>(g3 j u y (by simpa using hu) hy).2 w D φ)
 have hrun:(execOp a.eval o).run P w = .ok (.value (.pointer (some ⟨w.heap.size,0,none⟩))) (w.alloc (.cells z.cells t)):= by
  simp [execOp,ho,Instr.alloc,zeroValue,typeInfo,h1,h4,newVar,newRow]
 refine wpIn_of (by rw [ho]; intro c hc; cases hc) ?_
 unfold Oper.wp
 rw [hrun]
 refine hK D _ _ _ (hN.put o.dst (dstB_lt hd) _ _ fun x' hx'=>?_)
 cases hx'
 exact ⟨by simp [FV.lt,ASt.newObj],.box _ 0 _ (addH_new _ _ _)⟩
def splice {α:Type} (l:List α) (off:Nat) (new:List α):List α:=l.take off ++ new ++ l.drop (off + new.length)
theorem splice_get {α:Type} (l:List α) (off:Nat) (new:List α) (h:off + new.length <= l.length) (j:Nat):(splice l off new)[j]? = if off <= j /\ j < off + new.length then new[j - off]? else l[j]?:= by
 unfold splice
 have ht:(l.take off).length = off:=by simp; omega
 by_cases h1:j < off
 ·rw [List.append_assoc,List.getElem?_append_left (by omega),List.getElem?_take,if_pos h1,if_neg (by omega)]
 ·by_cases h2:j < off + new.length
  ·rw [if_pos ⟨by omega,h2⟩,List.append_assoc,List.getElem?_append_right (by omega),ht,List.getElem?_append_left (by omega)]
  ·rw [if_neg (by omega),List.getElem?_append_right (by simp; omega),List.getElem?_drop]
   simp only [List.length_append,ht]
   congr 1; omega
theorem splice_length {α:Type} (l:List α) (off:Nat) (new:List α) (h:off + new.length <= l.length):(splice l off new).length = l.length:= by
 simp [splice]; omega
theorem op_store_box {t id off:Nat} {x y:Operand} {i:TyI} {cs:List FV} {fy:FV} (hT:TabOK P T) (ho:o.op = .store t x y) (hd:o.dst = none) (ht:T t = some i) (hx:s.ev x = some (.box id off)) (hob:s.obj id = some (.box cs))
  (hy:s.ev y = some fy) (hlf:leafL (cellsF fy) = true) (hsz:Nat.beq (cellsF fy).length i.size = true) (hfit:Nat.ble (off + (cellsF fy).length) cs.length = true):OpTo P nt o s (s.setObj id (some (.box (splice cs off (cellsF fy))))):= by
 intro ro W0 D0 D φ a w hI K Q hK
 obtain ⟨_,hrx⟩:=hI.ev hx
 obtain ⟨hlty,hry⟩:=hI.ev hy
 obtain ⟨c1,c2,c3⟩:=cells_rep hry hlty
 generalize hv:a.eval x = v at hrx
 cases hrx with
 | box id off b hφ =>
  obtain ⟨hid,holt,b',vs,e,h1,h2,h3,h4⟩:=hI.objs id _ hob
  rw [hφ] at h1; cases h1
  have hsz':=Nat.eq_of_beq_eq_true hsz
  have hfit':=Nat.le_of_ble_eq_true hfit
  have hone:∀ u ∈ (a.eval y).cells.toList,u.oneCell' = true:= by
   intro u hu
   obtain ⟨j,hj⟩:=List.mem_iff_getElem?.1 hu
   have hj':(a.eval y).cells[j]? = some u:=by simpa using hj
   have hjl:j < (cellsF fy).length:=by rw [<- c1]; exact (Array.getElem?_eq_some_iff.1 hj').1
   exact (c3 j u _ hj' (by simp [hjl])).oneCell (leafL_mem hlf (List.getElem_mem hjl))
  have hst:=run_storeCells_at P b off e (a.eval y).cells.toList 0 vs w h2 (by simp; omega) hone
  simp only [Nat.add_zero] at hst
  have hrun:(execOp a.eval o).run P w = .ok .skip (w.setRow b (splice vs.toList off (a.eval y).cells.toList).toArray):= by
   have hsize:¬ (a.eval y).cells.size ≠ i.size:=by omega
   simp only [execOp,ho,hv,Instr.storeAt,Instr.sureAddr,Sem.run_bind,Sem.run_pure,Result.andThen_ok,storeVar,(hT.ty ht).run_size w,if_neg hsize,hst]
   rfl
  refine wpIn_of (by rw [ho]; intro c hc; cases hc) ?_
  unfold Oper.wp
  rw [hrun]
  have hput:a.put o.dst undef = a:=by rw [hd]; rfl
  show K (a.put o.dst undef) _
  rw [hput]
  refine hK D φ a _ (hI.chg id (fun j=>j = id) ⟨rfl,rfl,rfl,by simp,fun k hk=>absurd hk (Nat.not_lt_zero _)⟩ ?_ (fun _ h=>h) (fun b' hb'=>.inl hb') (fun _ _=>rfl) (Nat.le_refl _) (fun t x hx=>hx) ?_ ?_)
  ·intro b' _ hne
   refine setRow_other _ _ _ _ (fun e=>?_)
   exact hne id _ rfl hob (by simp [oblk,hφ,blk,e])
  ·intro id' ob' hne ho'
   rw [ASt.obj_setObj,if_neg (fun e=>hne e.symm)] at ho'
   exact ⟨hne,ho'⟩
  ·intro ob' ho'
   rw [ASt.obj_setObj,if_pos rfl] at ho'
   cases ho'
   have hlen:off + (cellsF fy).length <= cs.length:=hfit'
   refine ⟨hid,?_,⟨b,_,e,hφ,setRow_heap w b vs _ e _ h2,?_,?_⟩,?_⟩
   ·refine ltL_of fun z hz=>?_
    simp only [splice,List.mem_append] at hz
    rcases hz with (hz|hz)|hz
    ·exact FV.lt_mem (cs:=cs) holt (List.mem_of_mem_take hz)
    ·exact FV.lt_mem c2 hz
    ·exact FV.lt_mem (cs:=cs) holt (List.mem_of_mem_drop hz)
   ·rw [splice_length _ _ _ hlen]
    have:off + (a.eval y).cells.toList.length <= vs.toList.length:=by simp; omega
    simp only [List.size_toArray,splice_length _ _ _ this]
    simp [h3]
   ·intro j u z hu hz
    have hbk:∀ b',D b' -> (w.setRow b (splice vs.toList off (a.eval y).cells.toList).toArray).heap[b']? = w.heap[b']?:= by
     intro b' hb'
     refine setRow_other _ _ _ _ (fun e=>?_)
     exact (hI.own id _ b hob (by simp [oblk,hφ,blk])).1 (e ▸ hb')
    have hle:off + (a.eval y).cells.toList.length <= vs.toList.length:=by simp; omega
    have hu':(splice vs.toList off (a.eval y).cells.toList)[j]? = some u:=by simpa using hu
    rw [splice_get _ _ _ hle] at hu'
    rw [splice_get _ _ _ hlen] at hz
    simp only [Array.length_toList,c1] at hu'
    by_cases hin:off <= j /\ j < off + (cellsF fy).length
    ·rw [if_pos hin] at hu' hz
     refine ⟨leafL_mem hlf (List.mem_of_getElem? hz),?_⟩
     exact (c3 (j - off) u z (by simpa using hu') hz).mono hbk (fun _ h=>h) (fun _ _=>rfl) (FV.lt_mem c2 (List.mem_of_getElem? hz))
    ·rw [if_neg hin] at hu' hz
     obtain ⟨h5,h6⟩:=h4 j u z (by simpa using hu') hz
     exact ⟨h5,h6.mono hbk (fun _ h=>h) (fun _ _=>rfl) (FV.lt_mem (cs:=cs) holt (List.mem_of_getElem? hz))⟩
   ·intro b' hb'
    have hb2:oblk φ id (.box cs) b':=hb'
    obtain ⟨g1,g2,g3⟩:=hI.own id _ b' hob hb2
    exact ⟨g1,by simpa using g3,.inr ⟨id,_,rfl,hob,hb2⟩⟩
end
end Go.Abs
namespace Go.Abs
open Go.RowKit
theorem src_cells {w:World} {D:Nat -> Prop} {v:Value} {ys:List (List PV)} {sz:Nat} (h:Rep w D v (.sl ys)) (hsz:∀ y ∈ ys,y.length = sz) (hpos:0 < sz) :
  ∃ ad m c,v = .slice ad m c /\ m = ys.length /\ (ys = [] \/ ∃ b news,ad = some b /\ news.length = ys.length * sz /\ (∀ (j:Nat) (u:Value),news[j]? = some u -> w.cell? (b.add j) = some u) /\ XRep w D sz news ys):= by
 cases h with
 | sl ad m c sz' es us hm hcap hmax hsz' ha hlf hr =>
  refine ⟨ad,m,c,rfl,hm,?_⟩
  cases ys with
  | nil=>exact .inl rfl
  | cons y ys =>
   right
   have hy:sz' = sz:=by rw [<- hsz' 0 y rfl]; exact hsz y (by simp)
   subst hy
   subst hm
   obtain ⟨b,hb,hDb,_⟩:=ha 0 0 (by simp) hpos
   refine ⟨b,(List.range ((y :: ys).length * sz')).map (fun q=>us (q / sz') (q % sz')),hb,by simp,?_,fun i e he=>hsz' i e he,?_⟩
   ·intro j u hu
    simp only [List.getElem?_map,Option.map_eq_some_iff] at hu
    obtain ⟨q,hq,rfl⟩:=hu
    obtain ⟨hq1,hq2⟩:=List.getElem?_eq_some_iff.1 hq
    simp at hq2
    subst hq2
    simp only [List.length_range] at hq1
    have h1:j / sz' < (y :: ys).length:=Nat.div_lt_of_lt_mul (by rw [Nat.mul_comm]; exact hq1)
    have h2:=Nat.mod_lt j hpos
    obtain ⟨b',hb',_,hc⟩:=ha (j / sz') (j % sz') h1 h2
    rw [hb] at hb'; cases hb'
    rw [Nat.div_add_mod'] at hc
    exact hc
   ·intro i j e p he hp
    refine ⟨hlf i j e p he hp,us i j,?_,hr i j e p he hp⟩
    have hi:i < (y :: ys).length:=(List.getElem?_eq_some_iff.1 he).1
    have hj:j < sz':=by rw [<- hsz' i e he]; exact (List.getElem?_eq_some_iff.1 hp).1
    have hlt:i * sz' + j < (y :: ys).length * sz':= by
     have h2:=Nat.mul_le_mul_right sz' (show i + 1 <= (y :: ys).length by omega)
     rw [Nat.add_mul] at h2; omega
    have e1:(i * sz' + j) / sz' = i:= by
     rw [Nat.mul_comm,Nat.mul_add_div hpos]; simp [Nat.div_eq_of_lt hj]
    have e2:(i * sz' + j) % sz' = j:= by
     rw [Nat.mul_comm,Nat.mul_add_mod]; exact Nat.mod_eq_of_lt hj
    rw [List.getElem?_map,Option.map_eq_some_iff]
    exact ⟨i * sz' + j,by rw [List.getElem?_range hlt],by rw [e1,e2]⟩
theorem own_src {w:World} {D:Nat -> Prop} {base e sz n:Nat} {v:Value} {xs:List Value} {ys:List (List PV)} (h:w.ownsRow base e sz v n xs) (hn:n = ys.length) (hx:XRep w D sz xs ys) :
  ∃ ad m c,v = .slice ad m c /\ m = ys.length /\ (ys = [] \/ ∃ b news,ad = some b /\ news.length = ys.length * sz /\ (∀ (j:Nat) (u:Value),news[j]? = some u -> w.cell? (b.add j) = some u) /\ XRep w D sz news ys):= by
 subst hn
 rcases h.2 with ⟨rfl,h0⟩|⟨g,cap,cur,rfl,hg,hh,hc,hm,hs,ht⟩
 ·exact ⟨none,0,0,rfl,h0.symm,.inl (List.eq_nil_of_length_eq_zero h0)⟩
 ·exact ⟨_,_,_,rfl,rfl,.inr ⟨_,xs,rfl,h.1,fun j u hu=>h.cells (g:=g) rfl j u hu,hx⟩⟩
def ASt.srcOf (s:ASt) (x:Operand):Option (List (List PV)):=match s.ev x with
 | some (.pv (.sl ys))=>some ys
 | some .nils=>some []
 | some (.arr id)=>match s.obj id with
  | some (.arr _ _ ys)=>some ys
  | some (.fro ys)=>some ys
  | _=>none
 | _=>none
section
variable {W0:World} {D0:Bas} {nt:Nat} {s:ASt} {D:Nat -> Prop} {φ:Nat -> Value} {a:Act} {w:World}
theorem Inv.src {x:Operand} {ys:List (List PV)} {sz:Nat} (h:Inv W0 D0 nt s D φ a w) (hx:s.srcOf x = some ys) (hsz:∀ y ∈ ys,y.length = sz) (hpos:0 < sz) :
  ∃ ad m c,a.eval x = .slice ad m c /\ m = ys.length /\ (ys = [] \/ ∃ b news,ad = some b /\ news.length = ys.length * sz /\ (∀ (j:Nat) (u:Value),news[j]? = some u -> w.cell? (b.add j) = some u) /\ XRep w D sz news ys):= by
 unfold ASt.srcOf at hx
 split at hx
 ·rename_i ys' he
  cases hx
  exact src_cells (h.ev he).2.inv_pv hsz hpos
 ·rename_i he
  cases hx
  have:=(h.ev he).2
  generalize a.eval x = v at this
  cases this
  exact ⟨none,0,0,rfl,rfl,.inl rfl⟩
 ·rename_i id he
  have hr:=(h.ev he).2
  split at hx
  ·rename_i e sz' ys' ho
   cases hx
   obtain ⟨_,_,xs,h1,h2⟩:=h.objs id _ ho
   generalize a.eval x = v at hr
   cases hr with
   | arr id n c ad hφ =>
    rw [hφ] at h1
    cases ys with
    | nil =>
     obtain ⟨ad',m',c',h3,h4,_⟩:=own_src h1 rfl h2
     exact ⟨ad',m',c',h3,h4,.inl rfl⟩
    | cons y ys =>
     have:sz' = sz:=by rw [<- h2.1 0 y rfl]; exact hsz y (by simp)
     subst this
     exact own_src h1 rfl h2
  ·rename_i ys' ho
   cases hx
   have h1:Rep w D (φ id) (.sl ys):=(h.objs id _ ho).2.2
   generalize a.eval x = v at hr
   cases hr with
   | arr id n c ad hφ=>rw [hφ] at h1; exact src_cells h1 hsz hpos
  ·cases hx
 ·cases hx
end
theorem XRep.append {w:World} {D:Nat -> Prop} {sz:Nat} {xs ys:List Value} {es fs:List (List PV)} (hx:XRep w D sz xs es) (hl:xs.length = es.length * sz) (hy:XRep w D sz ys fs):XRep w D sz (xs ++ ys) (es ++ fs):= by
 refine ⟨fun i e he=>?_,fun i j e p he hp=>?_⟩
 ·by_cases hi:i < es.length
  ·rw [List.getElem?_append_left hi] at he; exact hx.1 i e he
  ·rw [List.getElem?_append_right (by omega)] at he; exact hy.1 _ e he
 ·by_cases hi:i < es.length
  ·rw [List.getElem?_append_left hi] at he
   obtain ⟨h1,u,h2,h3⟩:=hx.2 i j e p he hp
   refine ⟨h1,u,?_,h3⟩
   rw [List.getElem?_append_left (List.getElem?_eq_some_iff.1 h2).1]; exact h2
  ·rw [List.getElem?_append_right (by omega)] at he
   obtain ⟨h1,u,h2,h3⟩:=hy.2 _ j e p he hp
   refine ⟨h1,u,?_,h3⟩
   have:es.length * sz <= i * sz:=Nat.mul_le_mul_right _ (by omega)
   rw [List.getElem?_append_right (by rw [hl]; omega),hl,<- h2,Nat.sub_mul]
   congr 1; omega
theorem XRep.oneCell {w:World} {D:Nat -> Prop} {sz:Nat} {xs:List Value} {es:List (List PV)} (hx:XRep w D sz xs es) (hl:xs.length = es.length * sz) (hpos:0 < sz):∀ u ∈ xs,u.oneCell' = true:= by
 intro u hu
 obtain ⟨j,hj⟩:=List.mem_iff_getElem?.1 hu
 have hjl:=(List.getElem?_eq_some_iff.1 hj).1
 have h1:j / sz < es.length:=Nat.div_lt_of_lt_mul (by rw [Nat.mul_comm,<- hl]; exact hjl)
 have h2:=Nat.mod_lt j hpos
 have he:es[j / sz]? = some es[j / sz]:=by simp [h1]
 have hlen:=hx.1 _ _ he
 have hp:es[j / sz][j % sz]? = some (es[j / sz][j % sz]'(by omega)):=by simp [hlen,h2]
 obtain ⟨h3,u',h4,h5⟩:=hx.2 _ _ _ _ he hp
 rw [Nat.div_add_mod',hj] at h4
 cases h4
 exact h5.oneCell h3
section
variable {P:Program}
theorem run_append_zero (w:World) {t ty e:TypeId} {info:TypeInfo} (ht:P.underlying t = some (.slice e)) (hi:P.info? e = some info) (b ax:Option Addr) (n c cx:Nat) (hnc:n <= c) :
  (Builtin.append_ #[t,t] ty #[.slice b n c,.slice ax 0 cx]).run P w = .ok (.slice b n c) w:= by
 cases b <;> cases ax <;> simp [Builtin.append_,run_underlying ht,sizeOf,typeInfo,hi,Builtin.lenOf,hnc,Builtin.firstCells,loadCells,loadCellsFrom,storeCells]
theorem run_append_blk (w:World) {base:Nat} {t ty e:TypeId} {i:TypeInfo} {z:Value} {size bytes:Nat} (ht:P.underlying t = some (.slice e)) (hi:P.info? e = some i) (hz:i.zero = some z)
  (hsize:i.size = size) (hby:i.bytes = bytes) (hzs:z.cells.size = size) (hsz:0 < size) {v:Value} {n:Nat} {xs:List Value} (hown:w.ownsRow base e size v n xs)
  {ad:Addr} {m c:Nat} {news:List Value} (hl:news.length = m * size) (hnews:∀ j u,news[j]? = some u -> w.cell? (ad.add j) = some u) (h1:∀ u ∈ news,u.oneCell' = true) (hm:0 < m)
  (h63:n + m <= maxLen) (hbytes:(n + m) * bytes <= 140737488355328) (hbase:base <= w.heap.size) :
  ∃ v' w',(Builtin.append_ #[t,t] ty #[v,.slice (some ad) m c]).run P w = .ok v' w' /\ w'.ownsRow base e size v' (n + m) (xs ++ news) /\ w.grownBy w' v.ownBlock /\
   ∀ g,blk v' = some g -> blk v = some g \/ (w.heap.size <= g /\ g < w'.heap.size):= by
 obtain ⟨v',w',hr,h2,h3,h4⟩:=run_append_own (P:=P) w base t ty e i z size bytes ht hi hz hsize hby hzs hsz v n xs hown ad m c news hl hnews h1 h63 hbytes hbase
 refine ⟨v',w',hr,h2,h3,?_⟩
 have hsmall:n + m <= 9223372036854775807:=by simpa only [maxLen] using h63
 intro g hg
 rcases hown.2 with ⟨rfl,rfl⟩|⟨g0,cap,cur,rfl,hbg,hgg,hnc,hcm,hcs,htake⟩
 ·have hr':=run_append_nil (P:=P) w t ty e i z ht hi hz ad m c news (by rw [hsize]; exact hl) hnews hm (by omega) (by rw [hby]; have:=hbytes; simp only [Nat.zero_add] at this; omega)
  rw [hr'] at hr
  cases hr
  simp only [blk,Option.some.injEq] at hg
  subst hg
  exact .inr ⟨Nat.le_refl _,by simp⟩
 ·by_cases hroom:n + m <= cap
  ·have hfit:n * i.size + news.length <= cur.size:=by rw [hl,hcs,hsize,<- Nat.add_mul]; exact Nat.mul_le_mul_right _ hroom
   have hr':=run_append_room (P:=P) w t ty e i ht hi g0 n cap cur hgg ad m c news (by rw [hsize]; exact hl) hnews h1 hroom hfit
   rw [hr'] at hr
   cases hr
   exact .inl hg
  ·have holds:∀ j u,xs[j]? = some u -> w.cell? ((⟨g0,0,none⟩:Addr).add j) = some u:=hown.cells (g:=g0) rfl
   have hr':=run_append_grow (P:=P) w t ty e i z ht hi hz ⟨g0,0,none⟩ n cap xs (by rw [hsize]; exact hown.1) holds ad m c news (by rw [hsize]; exact hl) hnews (by omega) (by omega) (growslice_fits (by omega) (by rw [hby]; exact hbytes))
   rw [hr'] at hr
   cases hr
   simp only [blk,Option.some.injEq] at hg
   subst hg
   exact .inr ⟨Nat.le_refl _,by simp⟩
variable {T:Nat -> Option TyI} {nt:Nat} {s:ASt} {o:Oper}
theorem blk_own (v:Value) (h:∃ a n c,v = .slice a n c):v.ownBlock = blk v:= by
 obtain ⟨a,n,c,rfl⟩:=h
 cases a <;> rfl
theorem ownsRow_slice {w:World} {base e sz n:Nat} {v:Value} {xs:List Value} (h:w.ownsRow base e sz v n xs):∃ a c,v = .slice a n c /\ n <= c:= by
 rcases h.2 with ⟨rfl,rfl⟩|⟨g,cap,cur,rfl,_,_,hnc,_⟩
 ·exact ⟨none,0,rfl,Nat.le_refl _⟩
 ·exact ⟨_,cap,rfl,hnc⟩
theorem op_append {t e id sz:Nat} {x0 x:Operand} {ti ei:TyI} {es ys:List (List PV)} (hT:TabOK P T) (ho:o.op = .call { callee:=.builtin .append,args:=#[x0,x],argTypes:=#[t,t] }) (hd:dstB nt o.dst = true)
  (ht:T t = some ti) (hk:ti.kind = .slice e) (he:T e = some ei) (hpos:Nat.blt 0 ei.size = true) (hzl:Nat.beq ei.zero.length ei.size = true) (hx0:s.ev x0 = some (.arr id)) (hob:s.obj id = some (.arr e sz es)) (hsz:Nat.beq sz ei.size = true)
  (hy:s.srcOf x = some ys) (hyl:∀ y ∈ ys,y.length = sz) (hmax:es.length + ys.length <= 1099511627776) (hby:Nat.ble ei.bytes 128 = true) :
  OpTo P nt o s (((s.setObj id none).newObj (.arr e sz (es ++ ys))).putO o.dst (some (.arr s.nxt))):= by
 intro ro W0 D0 D φ a w hI K Q hK
 have hs:sz = ei.size:=Nat.eq_of_beq_eq_true hsz
 have hp:0 < sz:=by rw [hs]; simpa using hpos
 have hzl':=Nat.eq_of_beq_eq_true hzl
 have hby':=Nat.le_of_ble_eq_true hby
 obtain ⟨info,z,i1,i2,i3,i4,i5⟩:=(hT.ty he).info
 have hund:=(hT.ty ht).slice hk
 obtain ⟨hid,_,xs,hown,hxr⟩:=hI.objs id _ hob
 have hv0:a.eval x0 = φ id:= by
  have:=(hI.ev hx0).2
  generalize a.eval x0 = v at this
  cases this with
  | arr id n c ad h=>exact h.symm
 obtain ⟨ad,m,c,hvx,hm,hsrc⟩:=hI.src hy hyl hp
 have hzc:z.cells.size = sz:= by
  have:=(zrepL_ok i5).1
  simp at this; omega
 have hWle:=hI.below.size
 have hbytes:(es.length + ys.length) * ei.bytes <= 140737488355328:= by
  have:=Nat.mul_le_mul hmax hby'
  omega
 have hml:es.length + ys.length <= maxLen:=by simp only [maxLen]; omega
 have key:∃ v' w',(Builtin.append_ #[t,t] o.type #[φ id,a.eval x]).run P w = .ok v' w' /\ (∃ xs',w'.ownsRow 0 e sz v' (es ++ ys).length xs' /\ XRep w' D sz xs' (es ++ ys)) /\ w.grownBy w' (φ id).ownBlock /\
   ∀ g,blk v' = some g -> blk (φ id) = some g \/ (w.heap.size <= g /\ g < w'.heap.size):= by
  rcases hsrc with rfl|⟨b,news,rfl,hnl,hnc,hnr⟩
  ·obtain ⟨a0,c0,hv,hnc⟩:=ownsRow_slice hown
   refine ⟨φ id,w,?_,⟨xs,by simpa using hown,by simpa using hxr⟩,⟨rfl,rfl,rfl,Nat.le_refl _,fun _ _ _=>rfl⟩,fun g hg=>.inl hg⟩
   rw [hvx,hv,hm]
   exact run_append_zero w hund i1 _ _ _ _ _ hnc
  ·have hm0:0 < m \/ ys = []:= by
    cases ys with
    | nil=>exact .inr rfl
    | cons y ys=>left; rw [hm]; simp
   rcases hm0 with hm0|rfl
   ·obtain ⟨v',w',hr,h2,h3,h4⟩:=run_append_blk (P:=P) w (ty:=o.type) (c:=c) hund i1 i4 (by rw [i2,hs]) i3 hzc hp hown (by rw [hm]; exact hnl) hnc (hnr.oneCell hnl hp) hm0 (by rw [hm]; exact hml) (by rw [hm]; exact hbytes) (Nat.zero_le _)
    refine ⟨v',w',by rw [hvx]; exact hr,⟨xs ++ news,by rw [List.length_append,<- hm]; exact h2,?_⟩,h3,h4⟩
    have hDb:∀ b,D b -> w'.heap[b]? = w.heap[b]?:= by
     intro b hb
     refine h3.block b (hI.dlt b hb) ?_
     intro e
     obtain ⟨a0,c0,hv,_⟩:=ownsRow_slice hown
     have:=blk_own (φ id) ⟨_,_,_,hv⟩
     exact (hI.own id _ b hob (by show blk (φ id) = some b; rw [<- this]; exact e.symm)).1 hb
    exact (hxr.append hown.1 hnr).mono hDb (fun _ h=>h)
   ·obtain ⟨a0,c0,hv,hnc'⟩:=ownsRow_slice hown
    refine ⟨φ id,w,?_,⟨xs,by simpa using hown,by simpa using hxr⟩,⟨rfl,rfl,rfl,Nat.le_refl _,fun _ _ _=>rfl⟩,fun g hg=>.inl hg⟩
    rw [hvx,hv,hm]
    exact run_append_zero w hund i1 _ _ _ _ _ hnc'
 obtain ⟨v',w',hr,⟨xs',hown',hxr'⟩,hg,hbk⟩:=key
 obtain ⟨a0,c0,hv,_⟩:=ownsRow_slice hown
 have hbo:=blk_own (φ id) ⟨_,_,_,hv⟩
 obtain ⟨a1,c1,hv',_⟩:=ownsRow_slice hown'
 have hrun:(execOp a.eval o).run P w = .ok (.value v') w':= by
  simp only [execOp,ho,resolve,invoke,builtin,Sem.run_bind,Sem.run_pure,Result.andThen_ok,List.map_toArray,List.map_cons,List.map_nil,hv0,hr]
 refine wpIn_of (by rw [ho]; intro c hc; cases hc) ?_
 unfold Oper.wp
 rw [hrun]
 have hN:Inv W0 D0 nt ((s.setObj id none).newObj (.arr e sz (es ++ ys))) D (addH φ s.nxt v') a w':= by
  refine hI.chg s.nxt (fun j=>j = id) ⟨hg.os,hg.tape,hg.output,hg.size,fun k hk=>absurd hk (Nat.not_lt_zero _)⟩ ?_ (fun _ h=>h) (fun b hb=>.inl hb) (fun j hj=>addH_old _ _ hj) (Nat.le_succ _) (fun t x hx=>hx) ?_ ?_
  ·intro b hb hne
   refine hg.block b hb fun e=>?_
   exact hne id _ rfl hob (by show blk (φ id) = some b; rw [<- hbo]; exact e.symm)
  ·intro id' ob' hne ho'
   rw [ASt.obj_newObj] at ho'
   have hn2:(s.setObj id none).nxt = s.nxt:=rfl
   rw [hn2,if_neg (fun e=>hne e.symm),ASt.obj_setObj] at ho'
   by_cases h2:id = id'
   ·rw [if_pos h2] at ho'; cases ho'
   ·rw [if_neg h2] at ho'; exact ⟨fun e=>h2 e.symm,ho'⟩
  ·intro ob' ho'
   rw [ASt.obj_newObj] at ho'
   have hn2:(s.setObj id none).nxt = s.nxt:=rfl
   rw [hn2,if_pos rfl] at ho'
   cases ho'
   refine ⟨Nat.lt_succ_self _,rfl,⟨xs',by rw [addH_new]; exact hown',hxr'⟩,?_⟩
   intro b hb
   have hb2:blk v' = some b:=by simpa [oblk,addH_new] using hb
   rcases hbk b hb2 with h5|⟨h5,h6⟩
   ·have hob2:oblk φ id (.arr e sz es) b:=h5
    obtain ⟨g1,g2,g3⟩:=hI.own id _ b hob hob2
    exact ⟨g1,Nat.lt_of_lt_of_le g3 hg.size,.inr ⟨id,_,rfl,hob,hob2⟩⟩
   ·exact ⟨fun h=>by have:=hI.dlt b h; omega,h6,.inl h5⟩
 refine hK D _ _ _ (hN.put o.dst (dstB_lt hd) _ _ fun x' hx'=>?_)
 cases hx'
 refine ⟨by simp [FV.lt,ASt.newObj,ASt.setObj],?_⟩
 rw [hv']
 refine .arr _ _ _ _ ?_
 rw [addH_new]
theorem Inv.own_nil {t e sz:Nat} (hx:s.get t = some .nils) (hd:Nat.blt t nt = true) {W0:World} {D0:Bas} {D:Nat -> Prop} {φ:Nat -> Value} {a:Act} {w:World} (hI:Inv W0 D0 nt s D φ a w) :
  ∃ φ',Inv W0 D0 nt ((s.newObj (.arr e sz [])).put t (some (.arr s.nxt))) D φ' a w:= by
 refine ⟨addH φ s.nxt (.slice none 0 0),?_⟩
 have hN:Inv W0 D0 nt (s.newObj (.arr e sz [])) D (addH φ s.nxt (.slice none 0 0)) a w:= by
  refine hI.new (Below.refl _ _) (fun _ h=>h) (fun _ h=>.inl h) _ _ rfl ⟨[],?_,⟨by simp,by simp⟩⟩ (by intro b hb; simp [blk] at hb)
  rw [addH_new]; exact World.ownsRow_nil _ _ _ _
 obtain ⟨_,v,hv,hr⟩:=hI.env t _ hx
 have hvn:v = .slice none 0 0:=by cases hr; rfl
 have hput:a.put (some t) v = a:= by
  have hlt:t < a.tmps.size:=(Array.getElem?_eq_some_iff.1 hv).1
  have:a.tmps.setIfInBounds t v = a.tmps:= by
   apply Array.ext
   ·simp
   ·intro j h1 h2
    rw [Array.getElem_setIfInBounds (by simpa using h1)]
    by_cases hj:t = j
    ·subst hj
     rw [if_pos rfl]
     exact (Array.getElem?_eq_some_iff.1 hv).2.symm
    ·rw [if_neg hj]
  simp [Act.put,this]
 have hP:=hN.put (some t) (fun d' hd'=>by cases hd'; simpa using hd) v (some (.arr s.nxt)) (fun x' hx'=>by
  cases hx'
  refine ⟨by simp [FV.lt,ASt.newObj],?_⟩
  rw [hvn]; exact .arr _ _ _ _ (addH_new _ _ _))
 rw [hput] at hP
 exact hP
theorem AL_own_nil {ops:Array Oper} {rest:List Oper} {Q:Exit -> ASt -> Prop} {t e sz:Nat} (hx:s.get t = some .nils) (hd:Nat.blt t nt = true) (h:AL P nt ops rest Q ((s.newObj (.arr e sz [])).put t (some (.arr s.nxt)))):AL P nt ops rest Q s:= by
 intro ro W0 D0 D φ a w hr hI
 obtain ⟨φ',hI'⟩:=hI.own_nil (e:=e) (sz:=sz) hx hd
 exact h ro W0 D0 D φ' a w hr hI'
theorem AW_own_nil {c:Code} {Q:Exit -> ASt -> Prop} {t e sz:Nat} (hx:s.get t = some .nils) (hd:Nat.blt t nt = true) (h:AW P nt c Q ((s.newObj (.arr e sz [])).put t (some (.arr s.nxt)))):AW P nt c Q s:= by
 intro ro W0 D0 D φ a w hr hI
 obtain ⟨φ',hI'⟩:=hI.own_nil (e:=e) (sz:=sz) hx hd
 exact h ro W0 D0 D φ' a w hr hI'
theorem Inv.freeze {W0:World} {D0:Bas} {D:Nat -> Prop} {φ:Nat -> Value} {a:Act} {w:World} (hI:Inv W0 D0 nt s D φ a w) {id e sz:Nat} {es:List (List PV)} (hob:s.obj id = some (.arr e sz es)) :
  ∃ D',Inv W0 D0 nt (s.setObj id (some (.fro es))) D' φ a w:= by
 obtain ⟨hid,_,xs,hown,hxr⟩:=hI.objs id _ hob
 obtain ⟨a0,c0,hv,_⟩:=ownsRow_slice hown
 refine ⟨fun b=>D b \/ blk (φ id) = some b,hI.chg id (fun j=>j = id) (Below.refl _ _) (fun _ _ _=>rfl) (fun _ h=>.inl h) ?_ (fun _ _=>rfl) (Nat.le_refl _) (fun t x hx=>hx) ?_ ?_⟩
 ·intro b hb
  rcases hb with hb|hb
  ·exact .inl hb
  ·have hob2:oblk φ id (.arr e sz es) b:=hb
   exact .inr ⟨(hI.own id _ b hob hob2).2.2,.inr ⟨id,_,rfl,hob,hob2⟩⟩
 ·intro id' ob' hne ho'
  rw [ASt.obj_setObj,if_neg (fun e=>hne e.symm)] at ho'
  exact ⟨hne,ho'⟩
 ·intro ob' ho'
  rw [ASt.obj_setObj,if_pos rfl] at ho'
  cases ho'
  refine ⟨hid,rfl,?_,by intro b hb; exact hb.elim⟩
  exact owns_rep hown (hxr.mono (fun _ _=>rfl) (fun _ h=>.inl h)) (fun b hb=>.inr hb)
end
end Go.Abs
