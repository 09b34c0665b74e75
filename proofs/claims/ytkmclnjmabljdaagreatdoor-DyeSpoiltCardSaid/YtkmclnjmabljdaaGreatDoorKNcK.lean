/- Maps keyed by ints that only remember: each entry is what a function has at its key. -/
import Derived.Test.YtkmclnjmabljdaaGreatDoorKNcG
import Derived.Test.YtkmclnjmabljdaaGreatDoorKNcF
import Derived.Test.YtkmclnjmabljdaaGreatDoorKNcI
import Derived.Lib.AppendZeros
import Derived.Laws.BytesArg
set_option linter.unusedVariables false
set_option linter.unusedSimpArgs false
namespace Go.Abs
open Go.RowKit
open Go.ChangeMaps (setBlock)
set_option linter.unusedVariables false
section
variable {P : Program} {T : Nat -> Option TyI} {nt : Nat} {s : ASt} {o : Oper} {ops : Array Oper} {rest : List Oper} {Q : Exit -> ASt -> Prop}
end
end Go.Abs
namespace Go.Abs
open Go.RowKit
set_option linter.unusedVariables false
mutual
def FV.hnd (n : Nat) : FV -> Bool
 | .pv p => p.flat
 | .nils => true
 | .box id _ => Nat.ble n id
 | .arr id => Nat.ble n id
 | .mp id => Nat.ble n id
 | .agg cs => FV.hndL n cs
 | _ => false
def FV.hndL (n : Nat) : List FV -> Bool
 | [] => true
 | x :: xs => x.hnd n && FV.hndL n xs
end
theorem FV.hndL_mem {n : Nat} : ∀ {xs : List FV} {x : FV},FV.hndL n xs = true -> x ∈ xs -> x.hnd n = true
 | [],_,_,h => by cases h
 | y :: ys,x,h,hx => by
  simp only [FV.hndL,Bool.and_eq_true] at h
  cases hx with
  | head => exact h.1
  | tail _ hx => exact FV.hndL_mem h.2 hx
theorem FRep.hnd {w : World} {D : Nat -> Prop} {φ : Nat -> Value} {n : Nat} {v : Value} {x : FV} (h : FRep w D φ v x) : x.hnd n = true -> ∀ (w' : World) (D' : Nat -> Prop) (φ' : Nat -> Value),(∀ id,n <= id -> φ' id = φ id) -> FRep w' D' φ' v x:= by
 induction h with
 | pv v p h => exact fun hx w' D' φ' _ => .pv v p (h.flat_any hx w' D')
 | box id off b h => exact fun hx w' D' φ' hφ => .box id off b (by rw [hφ id (Nat.le_of_ble_eq_true hx)]; exact h)
 | nils => exact fun _ w' D' φ' _ => .nils
 | arr id n' c a h => exact fun hx w' D' φ' hφ => .arr id n' c a (by rw [hφ id (Nat.le_of_ble_eq_true hx)]; exact h)
 | mp id r h => exact fun hx w' D' φ' hφ => .mp id r (by rw [hφ id (Nat.le_of_ble_eq_true hx)]; exact h)
 | agg vs cs hl hr ih => exact fun hx w' D' φ' hφ => .agg vs cs hl fun j v p hv hp => ih j v p hv hp (FV.hndL_mem (by simpa [FV.hnd] using hx) (List.mem_of_getElem? hp)) w' D' φ' hφ
 | _ => intro hx; simp [FV.hnd] at hx
def AObj.hnd (n : Nat) : AObj -> Prop
 | .box cs => FV.hndL n cs = true
 | .arr _ _ es => ∀ e ∈ es,PV.flatL e = true
 | .ext E k B => ∀ D D' w,E.J k B D w -> E.J k B D' w
 | _ => False
theorem ORep.hnd {w : World} {D : Nat -> Prop} {φ : Nat -> Value} {n base id : Nat} {ob : AObj} (h : ORep w D φ base id ob) (hn : n <= id) (ho : ob.hnd n) (D' : Nat -> Prop) (φ' : Nat -> Value) (hφ : ∀ id,n <= id -> φ' id = φ id) (base' : Nat) : ORep w D' φ' base' id ob:= by
 cases ob with
 | box cs =>
  obtain ⟨b,vs,e,h1,h2,h3,h4⟩ := h
  refine ⟨b,vs,e,by rw [hφ _ hn]; exact h1,h2,h3,fun j v x hv hx => ?_⟩
  obtain ⟨hl,hr⟩ := h4 j v x hv hx
  exact ⟨hl,hr.hnd (FV.hndL_mem ho (List.mem_of_getElem? hx)) _ _ _ hφ⟩
 | arr e sz es =>
  obtain ⟨xs,h1,h2,h3⟩ := h
  refine ⟨xs,by rw [hφ _ hn]; exact h1,h2,fun i j e p he hp => ?_⟩
  obtain ⟨g1,u,g2,g3⟩ := h3 i j e p he hp
  exact ⟨g1,u,g2,g3.flat_any (PV.flatL_mem (ho e (List.mem_of_getElem? he)) (List.mem_of_getElem? hp)) _ _⟩
 | ext E k B =>
  obtain ⟨h1,h2,h3,h4⟩ := h
  exact ⟨h1,by rw [hφ _ hn]; exact h2,h3,ho _ _ _ h4⟩
 | _ => exact ho.elim
section
variable {P : Program} {nt : Nat} {Q : Exit -> ASt -> Prop} {s : ASt}
end
end Go.Abs
namespace Go.Abs
open Go.RowKit
open Go.ChangeMaps (setBlock)
set_option linter.unusedVariables false
section
variable {P : Program} {T : Nat -> Option TyI} {nt : Nat} {s : ASt} {o : Oper}
theorem op_rangeStr {t : Nat} {x : Operand} {str : ByteArray} (hu : P.underlying t = some .string) (ho : o.op = .range t x) (hd : dstB nt o.dst = true) (hx : s.evD x = some (.str str)) :
  OpTo P nt o s ((s.newObj (.siter str 0)).putO o.dst (some (.box s.nxt 0))):= by
 intro ro W0 D0 D φ a w hI hko K Q hK
 have hr := hI.evD hx
 generalize hv : a.eval x = v at hr
 cases hr
 have hrun : (execOp a.eval o).run P w = .ok (.value (.pointer (some ⟨w.heap.size,0,none⟩))) (w.alloc (.stringIter str 0)):= by
  simp [execOp,ho,hv,Instr.range,underlying,hu]
 refine wpIn_of (by rw [ho]; intro c hc; cases hc) ?_
 unfold Oper.wp
 rw [hrun]
 have hN : Inv W0 D0 nt (s.newObj (.siter str 0)) D (addH φ s.nxt (.pointer (some ⟨w.heap.size,0,none⟩))) a (w.alloc (.stringIter str 0)):= by
  refine hI.new ((Below.refl _ w).alloc (Nat.le_refl _) _) (fun _ h => h) (fun _ h => .inl h) _ _ rfl ?_ ?_
  ·exact ⟨w.heap.size,addH_new _ _ _,heap_alloc_new w _⟩
  ·intro b hb; cases hb
   exact ⟨Nat.le_refl _,by simp,fun h => Nat.lt_irrefl _ (hI.dlt _ h)⟩
 refine hK D _ _ _ (hN.put o.dst (dstB_lt hd) _ _ fun x' hx' => ?_)
 cases hx'
 exact ⟨by simp [FV.lt,ASt.newObj],.box _ _ _ (addH_new _ _ _)⟩
theorem op_nextStr_end {it : Operand} {id pos : Nat} {str : ByteArray} (ho : o.op = .next it true) (hd : dstB nt o.dst = true) (hx : s.ev it = some (.box id 0)) (hob : s.obj id = some (.siter str pos)) (hp : str.size <= pos) :
  OpTo P nt o s (s.putO o.dst (some (.tup [.pv (.bool false)]))):= by
 intro ro W0 D0 D φ a w hI hko K Q hK
 obtain ⟨hid,_,r,h1,h2⟩ := hI.objs id _ hob
 have hv : a.eval it = .pointer (some ⟨r,0,none⟩):= by
  obtain ⟨b,q1,q2⟩ := FRep.inv_box (hI.ev hx).2
  rw [h1] at q1; cases q1; exact q2
 have hg : (getObj r).run P w = .ok (.stringIter str pos) w := by simp [getObj,Sem.run,h2]
 have hrun : (execOp a.eval o).run P w = .ok (.value (.tuple #[.bool false])) w:= by
  simp [execOp,ho,hv,Instr.next,hg,Nat.not_lt.2 hp]
 refine wpIn_of (by rw [ho]; intro c hc; cases hc) ?_
 unfold Oper.wp
 rw [hrun]
 refine hK D φ _ w (hI.put o.dst (dstB_lt hd) _ _ fun x' hx' => ?_)
 cases hx'
 exact ⟨rfl,.tup _ _ rfl fun j v p hv hp => by
  match j,hv,hp with
  | 0,hv,hp => simp at hv hp; subst hv; subst hp; exact .pv _ _ (.bool _)
  | j + 1,hv,hp => simp at hp⟩
theorem op_nextStr {it : Operand} {id pos : Nat} {str : ByteArray} {c wd : Nat} (ho : o.op = .next it true) (hd : dstB nt o.dst = true) (hx : s.ev it = some (.box id 0)) (hob : s.obj id = some (.siter str pos)) (hp : pos < str.size) (hdec : Utf8.decode str pos = (c,wd)) :
  OpTo P nt o s ((s.setObj id (some (.siter str (pos + wd)))).putO o.dst (some (.tup [.pv (.bool true),.pv (.int .i64 (pos : Int)),.pv (.int .i32 (c : Int))]))):= by
 intro ro W0 D0 D φ a w hI hko K Q hK
 obtain ⟨hid,_,r,h1,h2⟩ := hI.objs id _ hob
 have hv : a.eval it = .pointer (some ⟨r,0,none⟩):= by
  obtain ⟨b,q1,q2⟩ := FRep.inv_box (hI.ev hx).2
  rw [h1] at q1; cases q1; exact q2
 have hg : (getObj r).run P w = .ok (.stringIter str pos) w := by simp [getObj,Sem.run,h2]
 have hset : ∀ o',(setObj r o').run P w = .ok () (setBlock w r o') := fun o' => by simp [setObj,Sem.run,h2,setBlock]
 have hrun : (execOp a.eval o).run P w = .ok (.value (.tuple #[.bool true,goInt pos,.int .i32 (c : Int)])) (setBlock w r (.stringIter str (pos + wd))):= by
  simp [execOp,ho,hv,Instr.next,hg,hp,hdec,hset]
 refine wpIn_of (by rw [ho]; intro c hc; cases hc) ?_
 unfold Oper.wp
 rw [hrun]
 have hrw : r < w.heap.size := (Array.getElem?_eq_some_iff.1 h2).1
 generalize hw2 : setBlock w r (.stringIter str (pos + wd)) = w2
 have hsame : ∀ b,b ≠ r -> w2.heap[b]? = w.heap[b]? := fun b hb => by
  rw [<- hw2]; simp only [setBlock]; rw [Array.getElem?_setIfInBounds,if_neg (fun e => hb e.symm)]
 have hnewb : w2.heap[r]? = some (.stringIter str (pos + wd)) := by rw [<- hw2]; simp [setBlock,hrw]
 have hsz : w2.heap.size = w.heap.size := by rw [<- hw2]; simp [setBlock]
 have ho2 : w2.os = w.os /\ w2.tape = w.tape /\ w2.output = w.output := by rw [<- hw2]; exact ⟨rfl,rfl,rfl⟩
 have hok : oblk φ id (.siter str pos) r := by show blk (φ id) = some r; rw [h1]; rfl
 have hN : Inv W0 D0 nt (s.setObj id (some (.siter str (pos + wd)))) D φ a w2:= by
  refine hI.chg id (fun j => j = id) ⟨ho2.1,ho2.2.1,ho2.2.2,by rw [hsz]; exact Nat.le_refl _,fun k hk => absurd hk (Nat.not_lt_zero _)⟩ ?_ (fun _ h => h) (fun b' hb' => .inl hb') (fun _ _ => rfl) (Nat.le_refl _) (fun t x hx => hx) ?_ ?_
  ·intro b' _ hne
   exact hsame b' (fun e => hne id _ rfl hob (by rw [e]; exact hok))
  ·intro id' ob' hne ho'
   rw [ASt.obj_setObj,if_neg (fun e => hne e.symm)] at ho'
   exact ⟨hne,ho'⟩
  ·intro ob' ho'
   rw [ASt.obj_setObj,if_pos rfl] at ho'
   cases ho'
   refine ⟨hid,rfl,⟨r,h1,hnewb⟩,fun b' hb' => ?_⟩
   have hb2 : oblk φ id (.siter str pos) b' := hb'
   obtain ⟨g1,g2,g3⟩ := hI.own id _ b' hob hb2
   exact ⟨g1,by rw [hsz]; exact g3,.inr ⟨id,_,rfl,hob,hb2⟩⟩
 refine hK D φ _ w2 (hN.put o.dst (dstB_lt hd) _ _ fun x' hx' => ?_)
 cases hx'
 exact ⟨rfl,.tup _ _ rfl fun j v p hv hp => by
  match j,hv,hp with
  | 0,hv,hp => simp at hv hp; subst hv; subst hp; exact .pv _ _ (.bool _)
  | 1,hv,hp => simp at hv hp; subst hv; subst hp; exact .pv _ _ (.int _ _)
  | 2,hv,hp => simp at hv hp; subst hv; subst hp; exact .pv _ _ (.int _ _)
  | j + 3,hv,hp => simp at hp⟩
end
end Go.Abs
namespace Go.Abs
open Go.RowKit
set_option linter.unusedVariables false
section
variable {P : Program} {T : Nat -> Option TyI} {nt : Nat} {s : ASt} {o : Oper} {ops : Array Oper}
theorem run_sliceStr {t : Nat} {ti : TyI} (hT : TabOK P T) (ht : T t = some ti) (hk : ti.kind = .str) (w : World) (u : ByteArray) (lo hi : Nat) (h1 : lo <= hi) (h2 : hi <= u.size) (vlo vhi : Option Value)
  (hlo : (vlo = none /\ lo = 0) \/ ∃ k,vlo = some (.int k (lo : Int))) (hhi : (vhi = none /\ hi = u.size) \/ ∃ k,vhi = some (.int k (hi : Int))) :
  (Instr.sliceAt t (.string u) vlo vhi none).run P w = .ok (.string (u.extract lo hi)) w:= by
 have hund := (hT.ty ht).str hk
 have b1 : (Instr.sliceBounds false u.size u.size vlo vhi none).run P w = .ok (lo,hi,u.size) w:= by
  rcases hhi with ⟨rfl,rfl⟩ | ⟨k,rfl⟩ <;> rcases hlo with ⟨rfl,rfl⟩ | ⟨k',rfl⟩ <;> simp [Instr.sliceBounds,Instr.sliceBound,asIntOf] <;> (try omega) <;> simp [h1,h2]
 simp only [Instr.sliceAt,underlying,Sem.run_bind,hund,Result.andThen_ok,Instr.slice,b1,Sem.run_pure]
 simp [underlying,hund,b1]
theorem op_slice_str {t lo hi : Nat} {x : Operand} {olo ohi : Option Operand} {ti : TyI} {u : ByteArray} (hT : TabOK P T) (ho : o.op = .slice t x olo ohi none) (hd : dstB nt o.dst = true) (ht : T t = some ti) (hk : ti.kind = .str)
  (hx : s.ev x = some (.pv (.str u))) (hlo : (olo = none /\ lo = 0) \/ ∃ y k,olo = some y /\ s.ev y = some (.pv (.int k (lo : Int)))) (hhi : (ohi = none /\ hi = u.size) \/ ∃ y k,ohi = some y /\ s.ev y = some (.pv (.int k (hi : Int))))
  (h1 : lo <= hi) (h2 : hi <= u.size) : OpTo P nt o s (s.putO o.dst (some (.pv (.str (u.extract lo hi))))) :=
 OpTo.value hd fun W0 D0 D φ a w hI => by
  have hrun := run_sliceStr hT ht hk w u lo hi h1 h2 (olo.map a.eval) (ohi.map a.eval)
   (by
     rcases hlo with ⟨rfl,h⟩ | ⟨y,k,rfl,h⟩
     ·exact .inl ⟨rfl,h⟩
     ·exact .inr ⟨k,by simp [hI.ev_int h]⟩)
   (by
     rcases hhi with ⟨rfl,h⟩ | ⟨y,k,rfl,h⟩
     ·exact .inl ⟨rfl,h⟩
     ·exact .inr ⟨k,by simp [hI.ev_int h]⟩)
  refine ⟨.string (u.extract lo hi),by simp only [execOp,ho,hI.ev_str hx,Option.map_none,Sem.run_bind,hrun,Result.andThen_ok,Sem.run_pure],fun x' hx' => ?_⟩
  cases hx'
  exact ⟨rfl,.pv _ _ (.str _)⟩
theorem op_strne {t t' : TypeId} {x y : Operand} {u v : ByteArray} (ho : o.op = .binOp .neq t x y t') (hd : dstB nt o.dst = true) (hx : s.ev x = some (.pv (.str u))) (hy : s.ev y = some (.pv (.str v))) : OpTo P nt o s (s.putO o.dst (some (.pv (.bool (!(u.toList == v.toList)))))) :=
 OpTo.value hd fun W0 D0 D φ a w hI => ⟨.bool (!(u.toList == v.toList)),by
  simp only [execOp,ho,hI.ev_str hx,hI.ev_str hy,eqGuard,binOp,Op.stringOp,ne_eq,not_true_eq_false,if_false,Sem.run_bind,Sem.run_pure,Result.andThen_ok,Bool.not_true,Bool.not_false,Bool.false_eq_true,if_true],fun x' h => by cases h; exact ⟨rfl,.pv _ _ (.bool _)⟩⟩
end
end Go.Abs
namespace Go.Abs
open Go.RowKit
set_option linter.unusedVariables false
def intsA (l : List Int) : Array Value := (l.map (Value.int .i64)).toArray
structure EqT (P : Program) (d : Nat) (t : TypeId) (len : Nat) where
 val : List Int -> Value
 part : ∀ (l : List Int) (off : Nat) (w : World),off + len <= l.length -> (part t (intsA l) off).run P w = .ok (val ((l.drop off).take len)) w
 eq : ∀ (a b : List Int) (w : World),a.length = len -> b.length = len -> (Op.equalIn d t (val a) (val b)).run P w = .ok (decide (a = b)) w
def layF : List (TypeId × Nat) -> Nat -> List (Bool × TypeId × Nat)
 | [],_ => []
 | (t,len) :: L,off => (false,t,off) :: layF L (off + len)
def lenF (L : List (TypeId × Nat)) : Nat := (L.map (·.2)).sum
theorem run_eqFields {P : Program} (d : Nat) : ∀ (fs : List Field) (L : List (TypeId × Nat)) (off : Nat) (xs ys : List Int) (w : World), fs.map (fun f => (f.name == "_", f.type, f.offset)) = layF L off → (∀ p ∈ L, Nonempty (EqT P d p.1 p.2)) → xs.length = off + lenF L → ys.length = off + lenF L →
  (Op.eqFields d (intsA xs) (intsA ys) fs).run P w = .ok (decide (xs.drop off = ys.drop off)) w
 | [],[],off,xs,ys,w,_,_,hx,hy => by
  simp only [lenF,List.map_nil,List.sum_nil,Nat.add_zero] at hx hy
  rw [List.drop_eq_nil_of_le (by omega),List.drop_eq_nil_of_le (by omega)]
  simp [Op.eqFields]
 | f :: fs,(t,len) :: L,off,xs,ys,w,hf,hE,hx,hy => by
  simp only [List.map_cons,layF,List.cons.injEq,Prod.mk.injEq,beq_eq_false_iff_ne] at hf
  obtain ⟨⟨hn,ht,ho⟩,hf⟩ := hf
  obtain ⟨E⟩ := hE (t,len) (by simp)
  have hl : lenF ((t,len) :: L) = len + lenF L := by simp [lenF]
  rw [hl] at hx hy
  have ih := run_eqFields d fs L (off + len) xs ys w hf (fun p hp => hE p (by simp [hp])) (by omega) (by omega)
  have e1 := E.part xs off w (by omega)
  have e2 := E.part ys off w (by omega)
  have e3 := E.eq ((xs.drop off).take len) ((ys.drop off).take len) w (by simp; omega) (by simp; omega)
  have key : ∀ (l : List Int),l.drop off = (l.drop off).take len ++ l.drop (off + len) := fun l => by
   rw [<- List.drop_drop,List.take_append_drop]
  simp only [Op.eqFields,ne_eq,hn,not_false_eq_true,if_true,ht,ho,Sem.run_bind,e1,e2,e3,Result.andThen_ok]
  by_cases h : (xs.drop off).take len = (ys.drop off).take len
  ·rw [decide_eq_true h]
   simp only [Bool.not_true,Bool.false_eq_true,if_false]
   rw [ih]
   congr 1
   rw [decide_eq_decide]
   constructor
   ·intro h2; rw [key xs,key ys,h,h2]
   ·intro h2
    have := congrArg (List.drop len) h2
    rwa [List.drop_drop,List.drop_drop] at this
  ·rw [decide_eq_false h]
   have : ¬ xs.drop off = ys.drop off := fun h2 => h (by rw [h2])
   simp [this]
 | [],_ :: _,_,_,_,_,hf,_,_,_ => by simp [layF] at hf
 | _ :: _,[],_,_,_,_,hf,_,_,_ => by simp [layF] at hf
section
variable {P : Program} {T : Nat -> Option TyI}
theorem eqT_int {d : Nat} {t : TypeId} {i : TyI} {k : IntKind} (hT : TabOK P T) (ht : T t = some i) (hk : i.kind = .int k) (ha : i.agg = false) : Nonempty (EqT P (d + 1) t 1) := ⟨{
 val := fun l => .int .i64 (l.headD 0)
 part := fun l off w h => by
  have hlt : off < l.length := by omega
  have hg : (intsA l)[off]? = some (.int .i64 l[off]) := by simp [intsA,hlt]
  have he : ((l.drop off).take 1).headD 0 = l[off]:= by
   rw [List.drop_eq_getElem_cons hlt]; rfl
  have e0 : (Go.part t (intsA l) off).run P w = .ok (.int .i64 l[off]) w := by simp [Go.part,(hT.ty ht).run_agg w,ha,hg]
  show _ = Result.ok (Value.int .i64 (((l.drop off).take 1).headD 0)) w
  rw [e0,he]
 eq := fun a b w ha hb => by
  match a,b,ha,hb with
  | [x],[y],_,_ =>
   show (Op.equalIn (d + 1) t (.int .i64 x) (.int .i64 y)).run P w = _
   rw [run_equalIn_int w d t .i64 k x y ((hT.ty ht).int hk)]
   congr 1
   by_cases h : x = y <;> simp [h] }⟩
theorem eqT_struct {d n : Nat} {t : TypeId} {i : TyI} (L : List (TypeId × Nat)) (hT : TabOK P T) (ht : T t = some i) (ha : i.agg = true) (hs : i.size = n) (hu : P.underlying t = some (.struct (P.fieldsOf t))) (hp : P.stoodInHeld t = false)
  (hf : (P.fieldsOf t).toList.map (fun f => (f.name == "_", f.type, f.offset)) = layF L 0) (hn : lenF L = n) (hE : ∀ p ∈ L, Nonempty (EqT P d p.1 p.2)) : ∃ E : EqT P (d + 1) t n, E.val = intsV := ⟨{
 val := intsV
 part := fun l off w h => by
  have : (intsA l).extract off (off + n) = intsA ((l.drop off).take n):= by
   unfold intsA
   apply Array.ext'
   simp
   try rw [List.map_take,List.map_drop]
   try (rw [List.take_drop]; congr 1; omega)
  simp [Go.part,(hT.ty ht).run_agg w,ha,(hT.ty ht).run_size w,hs,this,intsV,intsA]
 eq := fun a b w ha hb => by
  show (Op.equalIn (d + 1) t (.agg (intsA a)) (.agg (intsA b))).run P w = _
  rw [run_equalIn_struct w d t _ _ hu hp,run_eqFields d _ L 0 a b w hf hE (by omega) (by omega)]
  simp },rfl⟩
theorem aggEq_of {n : Nat} {t : TypeId} (hg : P.eqGuardType P.depth t = false) (hE : ∃ E : EqT P 10000 t n,E.val = intsV) : AggEq P t n :=
 ⟨hg,fun xs ys w hx hy => by obtain ⟨E,hv⟩ := hE; have := E.eq xs ys w hx hy; rwa [hv] at this⟩
end
end Go.Abs
namespace Go.Abs
open Go.RowKit
set_option linter.unusedVariables false
section
variable {P : Program}
end
section
variable {P : Program} {T : Nat -> Option TyI} {nt : Nat} {s : ASt} {o : Oper}
end
end Go.Abs
namespace Go.Abs
open Go.RowKit
set_option linter.unusedVariables false
section
variable {P : Program} {T : Nat -> Option TyI} {nt : Nat} {s : ASt} {o : Oper} {ops : Array Oper}
theorem op_convBytes {src dst e : TypeId} {x : Operand} {si di ei : TyI} {ns : List Int} (hT : TabOK P T) (ho : o.op = .convert src dst x) (hd : dstB nt o.dst = true) (hs : T src = some si) (hsk : si.kind = .slice e) (he : T e = some ei) (hek : ei.kind = .int .u8) (ht : T dst = some di) (hdk : di.kind = .str)
  (hne : ns ≠ []) (hx : s.evB x = some (.sl (ns.map fun n => [PV.int .u8 n]))) : OpTo P nt o s (s.putO o.dst (some (.pv (.str (strOfNums ns))))) :=
 OpTo.value hd fun W0 D0 D φ a w hI => by
  have hr := hI.evB hx
  generalize hv : a.eval x = v at hr
  have hpos : 0 < ns.length := by cases ns with
   | nil => exact absurd rfl hne
   | cons => simp
  cases hr with
  | sl ad m c sz es us hm hcap hmax hsz ha hlf hr =>
   have hsz1 : sz = 1:= by
    obtain ⟨n,hn⟩ : ∃ n,ns[0]? = some n := ⟨ns[0],by simp [hpos]⟩
    exact (hsz 0 [.int .u8 n] (by simp [hn])).symm
   subst hsz1
   simp only [List.length_map] at hm
   subst hm
   obtain ⟨b,rfl,hDb,hc0⟩ := ha 0 0 hpos (by omega)
   have hspot : b.spot = none:= by
    simp only [Nat.zero_mul,Nat.add_zero,Addr.add,if_true] at hc0
    unfold World.cell? at hc0
    split at hc0
    ·split at hc0
     ·cases hc0
     ·rename_i h; simpa using h
    ·cases hc0
   obtain ⟨bk,off,sp⟩ := b
   simp only at hspot hDb
   subst hspot
   have hrun := run_convert_bytes_arg (P := P) w src e ((hT.ty hs).slice hsk) ((hT.ty he).int hek) bk off ns.length c ns rfl (fun j hj => by
    obtain ⟨b',hb',_,hc⟩ := ha j 0 hj (by omega)
    cases hb'
    have hn : ns[j]? = some ns[j] := by simp [hj]
    have hrep := hr j 0 [.int .u8 ns[j]] (.int .u8 ns[j]) (by simp [hj]) rfl
    rw [addr_add,Nat.mul_one,Nat.add_zero] at hc
    rw [hc,hrep.inv_int]
    simp [List.getD,hj]) dst ((hT.ty ht).str hdk)
   refine ⟨.string (strOfNums ns),by simp only [execOp,ho,hv,Sem.run_bind,hrun,Result.andThen_ok,Sem.run_pure],fun x' hx' => ?_⟩
   cases hx'
   exact ⟨rfl,.pv _ _ (.str _)⟩
end
end Go.Abs
namespace Go.Abs
open Go.RowKit
set_option linter.unusedVariables false
section
variable {P : Program} {T : Nat -> Option TyI} {nt : Nat} {s : ASt} {o : Oper} {ops : Array Oper}
end
end Go.Abs
