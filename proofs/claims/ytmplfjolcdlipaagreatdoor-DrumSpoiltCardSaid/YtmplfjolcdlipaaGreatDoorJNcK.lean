/- Range over a string: the iterator, and a step of it. -/
import Derived.Test.YtmplfjolcdlipaaGreatDoorJNcJ
import Derived.Test.YtmplfjolcdlipaaGreatDoorJNcG
import Derived.Test.YtmplfjolcdlipaaGreatDoorJNcI
import Derived.Lib.AppendZeros
import Derived.Laws.BytesArg
set_option linter.unusedVariables false
set_option linter.unusedSimpArgs false
namespace Go.Abs
open Go.RowKit
open Go.ChangeMaps (setBlock)
set_option linter.unusedVariables false
section
variable {P : Program} {T : Nat -> Option TyI} {nt : Nat} {s : ASt} {o : Oper}
theorem op_rangeStr {t : Nat} {x : Operand} {str : ByteArray} (hu : P.underlying t = some .string) (ho : o.op = .range t x) (hd : dstB nt o.dst = true) (hx : s.evD x = some (.str str)) :
  OpTo P nt o s ((s.newObj (.siter str 0)).putO o.dst (some (.box s.nxt 0))):= by
 intro ro W0 D0 D φ a w hI hko K Q hK
 have hr := hI.evD hx
 generalize hv : a.eval x = v at hr
 cases hr
 have hrun : (execOp a.eval o).run P w = .ok (.value (.pointer (some ⟨w.heap.size,0,none⟩))) (w.alloc (.stringIter str 0)):= by
  simp [execOp,ho,hv,Instr.range,underlying,hu]
 refine wpIn_of (by rw [ho]; intro c hc; cases hc) ?_
 unfold Oper.wp
 rw [hrun]
 have hN : Inv W0 D0 nt (s.newObj (.siter str 0)) D (addH φ s.nxt (.pointer (some ⟨w.heap.size,0,none⟩))) a (w.alloc (.stringIter str 0)):= by
  refine hI.new ((Below.refl _ w).alloc (Nat.le_refl _) _) (fun _ h => h) (fun _ h => .inl h) _ _ rfl ?_ ?_
  ·exact ⟨w.heap.size,addH_new _ _ _,heap_alloc_new w _⟩
  ·intro b hb; cases hb
   exact ⟨Nat.le_refl _,by simp,fun h => Nat.lt_irrefl _ (hI.dlt _ h)⟩
 refine hK D _ _ _ (hN.put o.dst (dstB_lt hd) _ _ fun x' hx' => ?_)
 cases hx'
 exact ⟨by simp [FV.lt,ASt.newObj],.box _ _ _ (addH_new _ _ _)⟩
theorem op_nextStr_end {it : Operand} {id pos : Nat} {str : ByteArray} (ho : o.op = .next it true) (hd : dstB nt o.dst = true) (hx : s.ev it = some (.box id 0)) (hob : s.obj id = some (.siter str pos)) (hp : str.size <= pos) :
  OpTo P nt o s (s.putO o.dst (some (.tup [.pv (.bool false)]))):= by
 intro ro W0 D0 D φ a w hI hko K Q hK
 obtain ⟨hid,_,r,h1,h2⟩ := hI.objs id _ hob
 have hv : a.eval it = .pointer (some ⟨r,0,none⟩):= by
  obtain ⟨b,q1,q2⟩ := FRep.inv_box (hI.ev hx).2
  rw [h1] at q1; cases q1; exact q2
 have hg : (getObj r).run P w = .ok (.stringIter str pos) w := by simp [getObj,Sem.run,h2]
 have hrun : (execOp a.eval o).run P w = .ok (.value (.tuple #[.bool false])) w:= by
  simp [execOp,ho,hv,Instr.next,hg,Nat.not_lt.2 hp]
 refine wpIn_of (by rw [ho]; intro c hc; cases hc) ?_
 unfold Oper.wp
 rw [hrun]
 refine hK D φ _ w (hI.put o.dst (dstB_lt hd) _ _ fun x' hx' => ?_)
 cases hx'
 exact ⟨rfl,.tup _ _ rfl fun j v p hv hp => by
  match j,hv,hp with
  | 0,hv,hp => simp at hv hp; subst hv; subst hp; exact .pv _ _ (.bool _)
  | j + 1,hv,hp => simp at hp⟩
theorem op_nextStr {it : Operand} {id pos : Nat} {str : ByteArray} {c wd : Nat} (ho : o.op = .next it true) (hd : dstB nt o.dst = true) (hx : s.ev it = some (.box id 0)) (hob : s.obj id = some (.siter str pos)) (hp : pos < str.size) (hdec : Utf8.decode str pos = (c,wd)) :
  OpTo P nt o s ((s.setObj id (some (.siter str (pos + wd)))).putO o.dst (some (.tup [.pv (.bool true),.pv (.int .i64 (pos : Int)),.pv (.int .i32 (c : Int))]))):= by
 intro ro W0 D0 D φ a w hI hko K Q hK
 obtain ⟨hid,_,r,h1,h2⟩ := hI.objs id _ hob
 have hv : a.eval it = .pointer (some ⟨r,0,none⟩):= by
  obtain ⟨b,q1,q2⟩ := FRep.inv_box (hI.ev hx).2
  rw [h1] at q1; cases q1; exact q2
 have hg : (getObj r).run P w = .ok (.stringIter str pos) w := by simp [getObj,Sem.run,h2]
 have hset : ∀ o',(setObj r o').run P w = .ok () (setBlock w r o') := fun o' => by simp [setObj,Sem.run,h2,setBlock]
 have hrun : (execOp a.eval o).run P w = .ok (.value (.tuple #[.bool true,goInt pos,.int .i32 (c : Int)])) (setBlock w r (.stringIter str (pos + wd))):= by
  simp [execOp,ho,hv,Instr.next,hg,hp,hdec,hset]
 refine wpIn_of (by rw [ho]; intro c hc; cases hc) ?_
 unfold Oper.wp
 rw [hrun]
 have hrw : r < w.heap.size := (Array.getElem?_eq_some_iff.1 h2).1
 generalize hw2 : setBlock w r (.stringIter str (pos + wd)) = w2
 have hsame : ∀ b,b ≠ r -> w2.heap[b]? = w.heap[b]? := fun b hb => by
  rw [<- hw2]; simp only [setBlock]; rw [Array.getElem?_setIfInBounds,if_neg (fun e => hb e.symm)]
 have hnewb : w2.heap[r]? = some (.stringIter str (pos + wd)) := by rw [<- hw2]; simp [setBlock,hrw]
 have hsz : w2.heap.size = w.heap.size := by rw [<- hw2]; simp [setBlock]
 have ho2 : w2.os = w.os /\ w2.tape = w.tape /\ w2.output = w.output := by rw [<- hw2]; exact ⟨rfl,rfl,rfl⟩
 have hok : oblk φ id (.siter str pos) r := by show blk (φ id) = some r; rw [h1]; rfl
 have hN : Inv W0 D0 nt (s.setObj id (some (.siter str (pos + wd)))) D φ a w2:= by
  refine hI.chg id (fun j => j = id) ⟨ho2.1,ho2.2.1,ho2.2.2,by rw [hsz]; exact Nat.le_refl _,fun k hk => absurd hk (Nat.not_lt_zero _)⟩ ?_ (fun _ h => h) (fun b' hb' => .inl hb') (fun _ _ => rfl) (Nat.le_refl _) (fun t x hx => hx) ?_ ?_
  ·intro b' _ hne
   exact hsame b' (fun e => hne id _ rfl hob (by rw [e]; exact hok))
  ·intro id' ob' hne ho'
   rw [ASt.obj_setObj,if_neg (fun e => hne e.symm)] at ho'
   exact ⟨hne,ho'⟩
  ·intro ob' ho'
   rw [ASt.obj_setObj,if_pos rfl] at ho'
   cases ho'
   refine ⟨hid,rfl,⟨r,h1,hnewb⟩,fun b' hb' => ?_⟩
   have hb2 : oblk φ id (.siter str pos) b' := hb'
   obtain ⟨g1,g2,g3⟩ := hI.own id _ b' hob hb2
   exact ⟨g1,by rw [hsz]; exact g3,.inr ⟨id,_,rfl,hob,hb2⟩⟩
 refine hK D φ _ w2 (hN.put o.dst (dstB_lt hd) _ _ fun x' hx' => ?_)
 cases hx'
 exact ⟨rfl,.tup _ _ rfl fun j v p hv hp => by
  match j,hv,hp with
  | 0,hv,hp => simp at hv hp; subst hv; subst hp; exact .pv _ _ (.bool _)
  | 1,hv,hp => simp at hv hp; subst hv; subst hp; exact .pv _ _ (.int _ _)
  | 2,hv,hp => simp at hv hp; subst hv; subst hp; exact .pv _ _ (.int _ _)
  | j + 3,hv,hp => simp at hp⟩
end
end Go.Abs
namespace Go.Abs
open Go.RowKit
set_option linter.unusedVariables false
section
variable {P : Program} {T : Nat -> Option TyI} {nt : Nat} {s : ASt} {o : Oper} {ops : Array Oper}
theorem run_sliceStr {t : Nat} {ti : TyI} (hT : TabOK P T) (ht : T t = some ti) (hk : ti.kind = .str) (w : World) (u : ByteArray) (lo hi : Nat) (h1 : lo <= hi) (h2 : hi <= u.size) (vlo vhi : Option Value)
  (hlo : (vlo = none /\ lo = 0) \/ ∃ k,vlo = some (.int k (lo : Int))) (hhi : (vhi = none /\ hi = u.size) \/ ∃ k,vhi = some (.int k (hi : Int))) :
  (Instr.sliceAt t (.string u) vlo vhi none).run P w = .ok (.string (u.extract lo hi)) w:= by
 have hund := (hT.ty ht).str hk
 have b1 : (Instr.sliceBounds false u.size u.size vlo vhi none).run P w = .ok (lo,hi,u.size) w:= by
  rcases hhi with ⟨rfl,rfl⟩ | ⟨k,rfl⟩ <;> rcases hlo with ⟨rfl,rfl⟩ | ⟨k',rfl⟩ <;> simp [Instr.sliceBounds,Instr.sliceBound,asIntOf] <;> (try omega) <;> simp [h1,h2]
 simp only [Instr.sliceAt,underlying,Sem.run_bind,hund,Result.andThen_ok,Instr.slice,b1,Sem.run_pure]
 simp [underlying,hund,b1]
theorem op_slice_str {t lo hi : Nat} {x : Operand} {olo ohi : Option Operand} {ti : TyI} {u : ByteArray} (hT : TabOK P T) (ho : o.op = .slice t x olo ohi none) (hd : dstB nt o.dst = true) (ht : T t = some ti) (hk : ti.kind = .str)
  (hx : s.ev x = some (.pv (.str u))) (hlo : (olo = none /\ lo = 0) \/ ∃ y k,olo = some y /\ s.ev y = some (.pv (.int k (lo : Int)))) (hhi : (ohi = none /\ hi = u.size) \/ ∃ y k,ohi = some y /\ s.ev y = some (.pv (.int k (hi : Int))))
  (h1 : lo <= hi) (h2 : hi <= u.size) : OpTo P nt o s (s.putO o.dst (some (.pv (.str (u.extract lo hi))))) :=
 OpTo.value hd fun W0 D0 D φ a w hI => by
  have hrun := run_sliceStr hT ht hk w u lo hi h1 h2 (olo.map a.eval) (ohi.map a.eval)
   (by
     rcases hlo with ⟨rfl,h⟩ | ⟨y,k,rfl,h⟩
     ·exact .inl ⟨rfl,h⟩
     ·exact .inr ⟨k,by simp [hI.ev_int h]⟩)
   (by
     rcases hhi with ⟨rfl,h⟩ | ⟨y,k,rfl,h⟩
     ·exact .inl ⟨rfl,h⟩
     ·exact .inr ⟨k,by simp [hI.ev_int h]⟩)
  refine ⟨.string (u.extract lo hi),by simp only [execOp,ho,hI.ev_str hx,Option.map_none,Sem.run_bind,hrun,Result.andThen_ok,Sem.run_pure],fun x' hx' => ?_⟩
  cases hx'
  exact ⟨rfl,.pv _ _ (.str _)⟩
theorem op_strne {t t' : TypeId} {x y : Operand} {u v : ByteArray} (ho : o.op = .binOp .neq t x y t') (hd : dstB nt o.dst = true) (hx : s.ev x = some (.pv (.str u))) (hy : s.ev y = some (.pv (.str v))) : OpTo P nt o s (s.putO o.dst (some (.pv (.bool (!(u.toList == v.toList)))))) :=
 OpTo.value hd fun W0 D0 D φ a w hI => ⟨.bool (!(u.toList == v.toList)),by
  simp only [execOp,ho,hI.ev_str hx,hI.ev_str hy,eqGuard,binOp,Op.stringOp,ne_eq,not_true_eq_false,if_false,Sem.run_bind,Sem.run_pure,Result.andThen_ok,Bool.not_true,Bool.not_false,Bool.false_eq_true,if_true],fun x' h => by cases h; exact ⟨rfl,.pv _ _ (.bool _)⟩⟩
theorem D_slice_str {t lo hi : Nat} {x : Operand} {olo ohi : Option Operand} {ti : TyI} {u : ByteArray} (hT : TabOK P T) (hg : guardT ops s o = true) (ho : o.op = .slice t x olo ohi none) (hd : dstB nt o.dst = true) (ht : T t = some ti) (hk : ti.kind = .str)
  (hx : s.ev x = some (.pv (.str u))) (hlo : (olo = none /\ lo = 0) \/ ∃ y k,olo = some y /\ s.ev y = some (.pv (.int k (lo : Int)))) (hhi : (ohi = none /\ hi = u.size) \/ ∃ y k,ohi = some y /\ s.ev y = some (.pv (.int k (hi : Int))))
  (h1 : lo <= hi) (h2 : hi <= u.size) : StepOK P nt ops o s ⟨some (.pv (.str (u.extract lo hi))),false,[],[]⟩ (s.putO o.dst (some (.pv (.str (u.extract lo hi))))) :=
 StepOK.mkP hg fun s1 ha _ => op_slice_str hT ho hd ht hk (by rw [ev_agree ha (by simp [ho,Op.operands])]; exact hx)
  (by
    rcases hlo with h | ⟨y,k,e,h⟩
    ·exact .inl h
    ·exact .inr ⟨y,k,e,by rw [ev_agree ha (by simp [ho,e,Op.operands])]; exact h⟩)
  (by
    rcases hhi with h | ⟨y,k,e,h⟩
    ·exact .inl h
    ·exact .inr ⟨y,k,e,by rw [ev_agree ha (by simp [ho,e,Op.operands])]; exact h⟩) h1 h2
end
end Go.Abs
namespace Go.Abs
open Go.RowKit
set_option linter.unusedVariables false
section
variable {P : Program} {T : Nat -> Option TyI} {nt : Nat} {s : ASt} {o : Oper} {ops : Array Oper} {rest : List Oper}
def RfX (P : Program) (fn : Func) (Q : ASt -> Prop) (QP : TypeId × Value -> ASt -> Prop) (W0 : World) (d x : Nat -> Prop) (e : Exit) (a : Act) (w : World) : Prop := bodyPostM Fence.wide 0 P fn (PostX W0 x d Q QP) e a w
theorem ACallsX.of_deferring {f : FuncId} {fn : Func} {c : Code} {xs : List FV} {objs : List (Nat × AObj)} {n : Nat} {Q : ASt → Prop} {QP : TypeId × Value → ASt → Prop} (hf : P.funcs[f]? = some fn) (hb : fn.body = some c) (hname : (fn.name == "runtime.NumGoroutine") = false) (hn : Nat.ble xs.length fn.ntmps = true)
  (h : AWR P fn.ntmps c (fun W0 D0 => RfX P fn Q QP W0 D0.d D0.x) none (entryX xs objs n)) : ACallsX P f xs objs n Q QP:= by
 refine ⟨enters_of hf hb hname,fun W D φ vs hko hH hs hr => ?_⟩
 have hn' := Nat.le_of_ble_eq_true hn
 generalize hX : ownS (entryX xs objs n) φ = X
 have hE := entryX_inv (nt := fn.ntmps) hH hs hr (by rw [hs]; exact hn')
 rw [hX] at hE hko
 refine (callsIn_wide (n := 0)).1 (callsIn_of_wp_marks hf hb trivial ?_)
 exact Go.wpIn_mono (h W ⟨D,X,none,false⟩ D φ _ W ⟨rfl,fun l hl => (by cases hl),hko⟩ rfl hE) fun e a w h => h
theorem retX_post {W : World} {D0 : Bas} {D : Nat -> Prop} {φ : Nat -> Value} {tmps : Array Value} {w : World} {fn : Func} {Q : ASt -> Prop} {QP : TypeId × Value -> ASt -> Prop} (hT : TabOK P T) (hI : Inv W D0 fn.ntmps s D φ { tmps := tmps,defers := [] } w)
  {ys : List FV} {sf : ASt} (h1 : mapO (resFV T s) fn.results.toList = some ys) (h2 : Le ⟨[(0,some (tupF ys))],s.objs,s.nxt⟩ sf) (h3 : Q sf) : ∃ r,(results fn tmps).run P w = .ok r w /\ PostX W D0.x D0.d Q QP (.returned r) w:= by
 obtain ⟨us,r1,r2,r3⟩ := run_results hT hI h1
 obtain ⟨φ2,g1,g2,g3,g4,g5,g6⟩ := postX_of hI h2
 refine ⟨_,r1,⟨sf,D,φ2,g1,g2,g3,g4,g5,.inl ⟨_,rfl,fun x hx => ?_,h3⟩⟩⟩
 obtain ⟨k1,y,k2,k3⟩ := g6 0 x hx
 cases k2
 exact ⟨k1,k3 _ (tup_rep r2 r3)⟩
end
end Go.Abs
namespace Go.Abs
open Go.RowKit
set_option linter.unusedVariables false
section
variable {P : Program}
theorem zeros_len (z : Array Value) (n : Nat) : (Builtin.zeroCells z n).toList.length = n * z.size := by simp [Builtin.zeroCells]
theorem run_append_zeros (w : World) {base : Nat} {t tn ty e : TypeId} {i : TypeInfo} {z : Value} {size bytes : Nat} {k kn : IntKind} (ht : P.underlying t = some (.slice e)) (htn : P.underlying tn = some (.int kn)) (hi : P.info? e = some i) (hz : i.zero = some z)
  (hsize : i.size = size) (hby : i.bytes = bytes) (hzs : z.cells.size = size) (hsz : 0 < size) {v : Value} {n : Nat} {xs : List Value} (hown : w.ownsRow base e size v n xs)
  {m : Nat} (h1 : ∀ u ∈ (Builtin.zeroCells z.cells m).toList,u.oneCell' = true) (hm : 0 < m) (h63 : n + m <= maxLen) (hbytes : (n + m) * bytes <= 140737488355328) (hbase : base <= w.heap.size) :
  ∃ v' w',(Builtin.append_ #[t,tn] ty #[v,.int k m]).run P w = .ok v' w' /\ w'.ownsRow base e size v' (n + m) (xs ++ (Builtin.zeroCells z.cells m).toList) /\ w.grownBy w' v.ownBlock /\
   ∀ g,blk v' = some g -> blk v = some g \/ (w.heap.size <= g /\ g < w'.heap.size):= by
 subst hsize
 subst hby
 have hsmall : n + m <= 9223372036854775807 := by simp only [maxLen] at h63; omega
 have hl : (Builtin.zeroCells z.cells m).toList.length = m * i.size := by rw [zeros_len,hzs]
 have hmb : m * i.bytes <= 140737488355328:= by
  have := Nat.mul_le_mul_right i.bytes (show m <= n + m by omega)
  omega
 generalize hnews : (Builtin.zeroCells z.cells m).toList = news at *
 have hnewsA : Builtin.zeroCells z.cells m = news.toArray := by rw [<- hnews]
 have hlen : (xs ++ news).length = (n + m) * i.size := by rw [List.length_append,hown.1,hl,Nat.add_mul]
 have grown : ∀ (old : Nat),old < n + m -> ∀ (row : Option Nat),
   (w.drew.alloc (.cells (xs.toArray ++ news.toArray ++ Builtin.zeroCells z.cells (grownCap w (n + m) old e - (n + m))) e)).ownsRow base e i.size
    (.slice (some ⟨w.heap.size,0,none⟩) (n + m) (grownCap w (n + m) old e)) (n + m) (xs ++ news) /\
   w.grownBy (w.drew.alloc (.cells (xs.toArray ++ news.toArray ++ Builtin.zeroCells z.cells (grownCap w (n + m) old e - (n + m))) e)) row:= by
  intro old ho row
  have hge := grownCap_ge w (n + m) old e
  have hcm : grownCap w (n + m) old e <= maxLen := grownCap_le_maxLen w (n + m) old e h63
  refine ⟨⟨hlen,.inr ⟨w.heap.size,_,_,rfl,hbase,heap_alloc_new w.drew _,hge,hcm,?_,?_⟩⟩,⟨rfl,rfl,rfl,by simp,fun k hk _ => Below.heap_alloc w.drew _ _ hk⟩⟩
  ·simp only [Array.size_append,List.size_toArray,size_zeroCells,hzs,hown.1,hl,<- Nat.add_mul]
   congr 1
   omega
  ·simp only [Array.toList_append,List.append_assoc]
   rw [<- List.append_assoc,<- hlen]
   exact List.take_left
 have hw : IntKind.i64.wrap (m : Int) = m := by rw [IntKind.wrap_i64]; omega
 have hneg : ¬ ((m : Int) < 0) := by omega
 have h48i : ¬ (281474976710656 < (m : Int) * (i.bytes : Int)):= by
  rw [<- Int.natCast_mul]; omega
 have hns : ¬ (m * i.size = 0) := Nat.mul_ne_zero (by omega) (by omega)
 rcases hown.2 with ⟨rfl,rfl⟩ | ⟨g,cap,cur,rfl,hbg,hg,hnc,hcm,hcs,htake⟩
 ·have hx : xs = [] := List.eq_nil_of_length_eq_zero (by simpa using hown.1)
  subst hx
  have hr := Lib.run_append_nil_zeros (P := P) w t tn ty e i z k kn ht htn hi hz m hm hsz (by omega) (by omega)
  have hgr := grown 0 (by omega) (Value.ownBlock (.slice none 0 0))
  simp only [Nat.zero_add,List.nil_append,Array.empty_append] at hgr hr ⊢
  rw [hnewsA] at hr
  refine ⟨_,_,hr,hgr.1,hgr.2,fun g hg => ?_⟩
  simp only [blk,Option.some.injEq] at hg
  subst hg
  exact .inr ⟨Nat.le_refl _,by simp⟩
 ·by_cases hroom : n + m <= cap
  ·have hfit : n * i.size + news.length <= cur.size := by rw [hl,hcs,<- Nat.add_mul]; exact Nat.mul_le_mul_right _ hroom
   have hst := run_storeCells_at P g (n * i.size) e news 0 cur w hg (by simpa using hfit) h1
   simp only [Nat.add_zero] at hst
   have hr : (Builtin.append_ #[t,tn] ty #[.slice (some ⟨g,0,none⟩) n cap,.int k m]).run P w =
     .ok (.slice (some ⟨g,0,none⟩) (n + m) cap) (w.setRow g (cur.toList.take (n * i.size) ++ news ++ cur.toList.drop (n * i.size + news.length)).toArray):= by
    simp [Builtin.append_,run_underlying ht,run_underlying htn,sizeOf,typeInfo,zeroValue,hi,hz,asInt,asIntOf,hw,hneg,hns,h48i,hroom,Addr.add_lit,hnews,hst]
   refine ⟨_,_,hr,⟨hlen,.inr ⟨g,cap,_,rfl,hbg,setRow_heap w g cur _ e _ hg,hroom,hcm,?_,?_⟩⟩,⟨rfl,rfl,rfl,by simp,fun k _ hk => setRow_other w g k _ (fun e => hk (by simp [Value.ownBlock,e]))⟩,fun g' hg' => .inl hg'⟩
   ·simp only [List.size_toArray,List.length_append,List.length_take,List.length_drop,Array.length_toList]
    omega
   ·rw [htake,<- hlen]
    exact List.take_left
  ·have holds : ∀ j u,xs[j]? = some u -> w.cell? ((⟨g,0,none⟩ : Addr).add j) = some u := hown.cells (g := g) rfl
   have hn2 : ¬ (n + m <= cap) := hroom
   have hfits : Builtin.nextslicecap (n + m) cap * i.bytes <= 281474976710656 := growslice_fits (by omega) hbytes
   have h63' : ¬ (9223372036854775807 < ((n : Int) + (m : Int))) := by omega
   have h48' : ¬ (281474976710656 < Builtin.nextslicecap (n + m) cap * i.bytes) := by omega
   have hfo := run_firstCells_some (P := P) w.drew i.size n ⟨g,0,none⟩ n cap xs hown.1 (by simpa using holds)
   have hr : (Builtin.append_ #[t,tn] ty #[.slice (some ⟨g,0,none⟩) n cap,.int k m]).run P w =
     .ok (.slice (some ⟨w.heap.size,0,none⟩) (n + m) (grownCap w (n + m) cap e))
      (w.drew.alloc (.cells (xs.toArray ++ news.toArray ++ Builtin.zeroCells z.cells (grownCap w (n + m) cap e - (n + m))) e)):= by
    simp [Builtin.append_,run_underlying ht,run_underlying htn,sizeOf,typeInfo,zeroValue,hi,hz,asInt,asIntOf,hw,hneg,hns,h48i,hn2,h63',h48',Question.forced,hfo,newRow,grownCap,hnewsA]
    try (congr 2; apply Array.ext'; simp [List.append_assoc])
   have hgr := grown cap (by omega) (Value.ownBlock (.slice (some ⟨g,0,none⟩) n cap))
   refine ⟨_,_,hr,hgr.1,hgr.2,fun g' hg' => ?_⟩
   simp only [blk,Option.some.injEq] at hg'
   subst hg'
   exact .inr ⟨Nat.le_refl _,by simp⟩
end
section
variable {P : Program} {T : Nat -> Option TyI} {nt : Nat} {s : ASt} {o : Oper}
theorem op_appendZ {t tn e id sz m : Nat} {x0 x : Operand} {ti ei : TyI} {es : List (List PV)} {zp : List PV} {k kn : IntKind} (hT : TabOK P T) (htn : P.underlying tn = some (.int kn)) (ho : o.op = .call { callee := .builtin .append,args := #[x0,x],argTypes := #[t,tn] }) (hd : dstB nt o.dst = true)
  (ht : T t = some ti) (hk : ti.kind = .slice e) (he : T e = some ei) (hpos : Nat.blt 0 ei.size = true) (hzl : Nat.beq zp.length ei.size = true) (hz : ei.zero = zp.map .pv) (hx0 : s.ev x0 = some (.arr id)) (hob : s.obj id = some (.arr e sz es)) (hsz : Nat.beq sz ei.size = true)
  (hx : s.ev x = some (.pv (.int k (m : Int)))) (hm : 0 < m) (hmax : es.length + m <= 1099511627776) (hby : Nat.ble ei.bytes 128 = true) :
  OpTo P nt o s (((s.setObj id none).newObj (.arr e sz (es ++ List.replicate m zp))).putO o.dst (some (.arr s.nxt))):= by
 intro ro W0 D0 D φ a w hI hko K Q hK
 have hs : sz = ei.size := Nat.eq_of_beq_eq_true hsz
 have hp : 0 < sz := by rw [hs]; simpa using hpos
 have hzl' := Nat.eq_of_beq_eq_true hzl
 have hby' := Nat.le_of_ble_eq_true hby
 obtain ⟨info,z,i1,i2,i3,i4,i5⟩ := (hT.ty he).info
 have hund := (hT.ty ht).slice hk
 obtain ⟨hid,_,xs,hown,hxr⟩ := hI.objs id _ hob
 have hv0 : a.eval x0 = φ id:= by
  have := (hI.ev hx0).2
  generalize a.eval x0 = v at this
  cases this with
  | arr id n c ad h => exact h.symm
 obtain ⟨z1,z2,z3⟩ := zrepL_ok i5
 have hzc : z.cells.size = sz := by simp [hz] at z1; omega
 have hbytes : (es.length + m) * ei.bytes <= 140737488355328:= by
  have := Nat.mul_le_mul hmax hby'
  omega
 have hml : es.length + m <= maxLen := by simp only [maxLen]; omega
 have hnr : XRep w D sz (Builtin.zeroCells z.cells m).toList (List.replicate m zp) := ⟨fun i el hi => by
   rw [List.getElem?_replicate] at hi; split at hi <;> cases hi; omega,fun i j el p hi hp' => by
   rw [List.getElem?_replicate] at hi
   split at hi <;> cases hi
   rename_i hin
   have hj : j < ei.size := by rw [<- hzl']; exact (List.getElem?_eq_some_iff.1 hp').1
   have hjz : j < z.cells.size := by omega
   have hzp : ei.zero[j]? = some (.pv p) := by rw [hz]; simp [hp']
   obtain ⟨l1,l2⟩ := z3 j z.cells[j] (.pv p) (by simp [hjz]) hzp
   refine ⟨l1,z.cells[j],?_,(l2 w D φ).inv_pv⟩
   have hlt : i * sz + j < m * z.cells.size:= by
    rw [hzc]
    have h2 := Nat.mul_le_mul_right sz (show i + 1 <= m by omega)
    rw [Nat.add_mul] at h2; omega
   have hmod : (i * sz + j) % z.cells.size = j:= by
    rw [hzc,Nat.mul_comm,Nat.mul_add_mod]; exact Nat.mod_eq_of_lt (by omega)
   simp [Builtin.zeroCells,hlt,hmod,hjz]⟩
 have hnl : (Builtin.zeroCells z.cells m).toList.length = (List.replicate m zp).length * sz := by rw [zeros_len,hzc,List.length_replicate]
 have key : ∃ v' w',(Builtin.append_ #[t,tn] o.type #[φ id,.int k m]).run P w = .ok v' w' /\ (∃ xs',w'.ownsRow 0 e sz v' (es ++ List.replicate m zp).length xs' /\ XRep w' D sz xs' (es ++ List.replicate m zp)) /\ w.grownBy w' (φ id).ownBlock /\
   ∀ g,blk v' = some g -> blk (φ id) = some g \/ (w.heap.size <= g /\ g < w'.heap.size):= by
  obtain ⟨v',w',hr,h2,h3,h4⟩ := run_append_zeros (P := P) w (ty := o.type) (k := k) hund htn i1 i4 (by rw [i2,hs]) i3 hzc hp hown (m := m) (hnr.oneCell hnl hp) hm hml hbytes (Nat.zero_le _)
  refine ⟨v',w',hr,⟨xs ++ (Builtin.zeroCells z.cells m).toList,by rw [List.length_append,List.length_replicate]; exact h2,?_⟩,h3,h4⟩
  have hDb : ∀ b,D b -> w'.heap[b]? = w.heap[b]?:= by
   intro b hb
   refine h3.block b (hI.dlt b hb) ?_
   intro e
   obtain ⟨a0,c0,hv,_⟩ := ownsRow_slice hown
   have := blk_own (φ id) ⟨_,_,_,hv⟩
   exact (hI.own id _ b hob (by show blk (φ id) = some b; rw [<- this]; exact e.symm)).1 hb
  exact (hxr.append hown.1 hnr).mono hDb (fun _ h => h)
 obtain ⟨v',w',hr,⟨xs',hown',hxr'⟩,hg,hbk⟩ := key
 obtain ⟨a0,c0,hv,_⟩ := ownsRow_slice hown
 have hbo := blk_own (φ id) ⟨_,_,_,hv⟩
 obtain ⟨a1,c1,hv',_⟩ := ownsRow_slice hown'
 have hvx : a.eval x = .int k m := hI.ev_int hx
 have hrun : (execOp a.eval o).run P w = .ok (.value v') w':= by
  simp only [execOp,ho,resolve,invoke,builtin,Sem.run_bind,Sem.run_pure,Result.andThen_ok,List.map_toArray,List.map_cons,List.map_nil,hv0,hvx,hr]
 refine wpIn_of (by rw [ho]; intro c hc; cases hc) ?_
 unfold Oper.wp
 rw [hrun]
 have hN : Inv W0 D0 nt ((s.setObj id none).newObj (.arr e sz (es ++ List.replicate m zp))) D (addH φ s.nxt v') a w':= by
  refine hI.chg s.nxt (fun j => j = id) ⟨hg.os,hg.tape,hg.output,hg.size,fun k hk => absurd hk (Nat.not_lt_zero _)⟩ ?_ (fun _ h => h) (fun b hb => .inl hb) (fun j hj => addH_old _ _ hj) (Nat.le_succ _) (fun t x hx => hx) ?_ ?_
  ·intro b hb hne
   refine hg.block b hb fun e => ?_
   exact hne id _ rfl hob (by show blk (φ id) = some b; rw [<- hbo]; exact e.symm)
  ·intro id' ob' hne ho'
   rw [ASt.obj_newObj] at ho'
   have hn2 : (s.setObj id none).nxt = s.nxt := rfl
   rw [hn2,if_neg (fun e => hne e.symm),ASt.obj_setObj] at ho'
   by_cases h2 : id = id'
   ·rw [if_pos h2] at ho'; cases ho'
   ·rw [if_neg h2] at ho'; exact ⟨fun e => h2 e.symm,ho'⟩
  ·intro ob' ho'
   rw [ASt.obj_newObj] at ho'
   have hn2 : (s.setObj id none).nxt = s.nxt := rfl
   rw [hn2,if_pos rfl] at ho'
   cases ho'
   refine ⟨Nat.lt_succ_self _,rfl,⟨xs',by rw [addH_new]; exact hown',hxr'⟩,?_⟩
   intro b hb
   have hb2 : blk v' = some b := by simpa [oblk,addH_new] using hb
   rcases hbk b hb2 with h5 | ⟨h5,h6⟩
   ·have hob2 : oblk φ id (.arr e sz es) b := h5
    obtain ⟨g1,g2,g3⟩ := hI.own id _ b hob hob2
    exact ⟨g1,Nat.lt_of_lt_of_le g3 hg.size,.inr ⟨id,_,rfl,hob,hob2⟩⟩
   ·exact ⟨fun h => by have := hI.dlt b h; omega,h6,.inl h5⟩
 refine hK D _ _ _ (hN.put o.dst (dstB_lt hd) _ _ fun x' hx' => ?_)
 cases hx'
 refine ⟨by simp [FV.lt,ASt.newObj,ASt.setObj],?_⟩
 rw [hv']
 refine .arr _ _ _ _ ?_
 rw [addH_new]
end
end Go.Abs
namespace Go.Abs
open Go.RowKit
set_option linter.unusedVariables false
def intsA (l : List Int) : Array Value := (l.map (Value.int .i64)).toArray
structure EqT (P : Program) (d : Nat) (t : TypeId) (len : Nat) where
 val : List Int -> Value
 part : ∀ (l : List Int) (off : Nat) (w : World),off + len <= l.length -> (part t (intsA l) off).run P w = .ok (val ((l.drop off).take len)) w
 eq : ∀ (a b : List Int) (w : World),a.length = len -> b.length = len -> (Op.equalIn d t (val a) (val b)).run P w = .ok (decide (a = b)) w
def layF : List (TypeId × Nat) -> Nat -> List (Bool × TypeId × Nat)
 | [],_ => []
 | (t,len) :: L,off => (false,t,off) :: layF L (off + len)
def lenF (L : List (TypeId × Nat)) : Nat := (L.map (·.2)).sum
theorem run_eqFields {P : Program} (d : Nat) : ∀ (fs : List Field) (L : List (TypeId × Nat)) (off : Nat) (xs ys : List Int) (w : World), fs.map (fun f => (f.name == "_", f.type, f.offset)) = layF L off → (∀ p ∈ L, Nonempty (EqT P d p.1 p.2)) → xs.length = off + lenF L → ys.length = off + lenF L →
  (Op.eqFields d (intsA xs) (intsA ys) fs).run P w = .ok (decide (xs.drop off = ys.drop off)) w
 | [],[],off,xs,ys,w,_,_,hx,hy => by
  simp only [lenF,List.map_nil,List.sum_nil,Nat.add_zero] at hx hy
  rw [List.drop_eq_nil_of_le (by omega),List.drop_eq_nil_of_le (by omega)]
  simp [Op.eqFields]
 | f :: fs,(t,len) :: L,off,xs,ys,w,hf,hE,hx,hy => by
  simp only [List.map_cons,layF,List.cons.injEq,Prod.mk.injEq,beq_eq_false_iff_ne] at hf
  obtain ⟨⟨hn,ht,ho⟩,hf⟩ := hf
  obtain ⟨E⟩ := hE (t,len) (by simp)
  have hl : lenF ((t,len) :: L) = len + lenF L := by simp [lenF]
  rw [hl] at hx hy
  have ih := run_eqFields d fs L (off + len) xs ys w hf (fun p hp => hE p (by simp [hp])) (by omega) (by omega)
  have e1 := E.part xs off w (by omega)
  have e2 := E.part ys off w (by omega)
  have e3 := E.eq ((xs.drop off).take len) ((ys.drop off).take len) w (by simp; omega) (by simp; omega)
  have key : ∀ (l : List Int),l.drop off = (l.drop off).take len ++ l.drop (off + len) := fun l => by
   rw [<- List.drop_drop,List.take_append_drop]
  simp only [Op.eqFields,ne_eq,hn,not_false_eq_true,if_true,ht,ho,Sem.run_bind,e1,e2,e3,Result.andThen_ok]
  by_cases h : (xs.drop off).take len = (ys.drop off).take len
  ·rw [decide_eq_true h]
   simp only [Bool.not_true,Bool.false_eq_true,if_false]
   rw [ih]
   congr 1
   rw [decide_eq_decide]
   constructor
   ·intro h2; rw [key xs,key ys,h,h2]
   ·intro h2
    have := congrArg (List.drop len) h2
    rwa [List.drop_drop,List.drop_drop] at this
  ·rw [decide_eq_false h]
   have : ¬ xs.drop off = ys.drop off := fun h2 => h (by rw [h2])
   simp [this]
 | [],_ :: _,_,_,_,_,hf,_,_,_ => by simp [layF] at hf
 | _ :: _,[],_,_,_,_,hf,_,_,_ => by simp [layF] at hf
section
variable {P : Program} {T : Nat -> Option TyI}
theorem eqT_int {d : Nat} {t : TypeId} {i : TyI} {k : IntKind} (hT : TabOK P T) (ht : T t = some i) (hk : i.kind = .int k) (ha : i.agg = false) : Nonempty (EqT P (d + 1) t 1) := ⟨{
 val := fun l => .int .i64 (l.headD 0)
 part := fun l off w h => by
  have hlt : off < l.length := by omega
  have hg : (intsA l)[off]? = some (.int .i64 l[off]) := by simp [intsA,hlt]
  have he : ((l.drop off).take 1).headD 0 = l[off]:= by
   rw [List.drop_eq_getElem_cons hlt]; rfl
  have e0 : (Go.part t (intsA l) off).run P w = .ok (.int .i64 l[off]) w := by simp [Go.part,(hT.ty ht).run_agg w,ha,hg]
  show _ = Result.ok (Value.int .i64 (((l.drop off).take 1).headD 0)) w
  rw [e0,he]
 eq := fun a b w ha hb => by
  match a,b,ha,hb with
  | [x],[y],_,_ =>
   show (Op.equalIn (d + 1) t (.int .i64 x) (.int .i64 y)).run P w = _
   rw [run_equalIn_int w d t .i64 k x y ((hT.ty ht).int hk)]
   congr 1
   by_cases h : x = y <;> simp [h] }⟩
theorem eqT_struct {d n : Nat} {t : TypeId} {i : TyI} (L : List (TypeId × Nat)) (hT : TabOK P T) (ht : T t = some i) (ha : i.agg = true) (hs : i.size = n) (hu : P.underlying t = some (.struct (P.fieldsOf t))) (hp : P.stoodInHeld t = false)
  (hf : (P.fieldsOf t).toList.map (fun f => (f.name == "_", f.type, f.offset)) = layF L 0) (hn : lenF L = n) (hE : ∀ p ∈ L, Nonempty (EqT P d p.1 p.2)) : ∃ E : EqT P (d + 1) t n, E.val = intsV := ⟨{
 val := intsV
 part := fun l off w h => by
  have : (intsA l).extract off (off + n) = intsA ((l.drop off).take n):= by
   unfold intsA
   apply Array.ext'
   simp
   try rw [List.map_take,List.map_drop]
   try (rw [List.take_drop]; congr 1; omega)
  simp [Go.part,(hT.ty ht).run_agg w,ha,(hT.ty ht).run_size w,hs,this,intsV,intsA]
 eq := fun a b w ha hb => by
  show (Op.equalIn (d + 1) t (.agg (intsA a)) (.agg (intsA b))).run P w = _
  rw [run_equalIn_struct w d t _ _ hu hp,run_eqFields d _ L 0 a b w hf hE (by omega) (by omega)]
  simp },rfl⟩
theorem aggEq_of {n : Nat} {t : TypeId} (hg : P.eqGuardType P.depth t = false) (hE : ∃ E : EqT P 10000 t n,E.val = intsV) : AggEq P t n :=
 ⟨hg,fun xs ys w hx hy => by obtain ⟨E,hv⟩ := hE; have := E.eq xs ys w hx hy; rwa [hv] at this⟩
end
end Go.Abs
namespace Go.Abs
open Go.RowKit
set_option linter.unusedVariables false
section
variable {P : Program} {T : Nat -> Option TyI} {nt : Nat} {s : ASt} {o : Oper} {ops : Array Oper}
theorem op_convBytes {src dst e : TypeId} {x : Operand} {si di ei : TyI} {ns : List Int} (hT : TabOK P T) (ho : o.op = .convert src dst x) (hd : dstB nt o.dst = true) (hs : T src = some si) (hsk : si.kind = .slice e) (he : T e = some ei) (hek : ei.kind = .int .u8) (ht : T dst = some di) (hdk : di.kind = .str)
  (hne : ns ≠ []) (hx : s.evB x = some (.sl (ns.map fun n => [PV.int .u8 n]))) : OpTo P nt o s (s.putO o.dst (some (.pv (.str (strOfNums ns))))) :=
 OpTo.value hd fun W0 D0 D φ a w hI => by
  have hr := hI.evB hx
  generalize hv : a.eval x = v at hr
  have hpos : 0 < ns.length := by cases ns with
   | nil => exact absurd rfl hne
   | cons => simp
  cases hr with
  | sl ad m c sz es us hm hcap hmax hsz ha hlf hr =>
   have hsz1 : sz = 1:= by
    obtain ⟨n,hn⟩ : ∃ n,ns[0]? = some n := ⟨ns[0],by simp [hpos]⟩
    exact (hsz 0 [.int .u8 n] (by simp [hn])).symm
   subst hsz1
   simp only [List.length_map] at hm
   subst hm
   obtain ⟨b,rfl,hDb,hc0⟩ := ha 0 0 hpos (by omega)
   have hspot : b.spot = none:= by
    simp only [Nat.zero_mul,Nat.add_zero,Addr.add,if_true] at hc0
    unfold World.cell? at hc0
    split at hc0
    ·split at hc0
     ·cases hc0
     ·rename_i h; simpa using h
    ·cases hc0
   obtain ⟨bk,off,sp⟩ := b
   simp only at hspot hDb
   subst hspot
   have hrun := run_convert_bytes_arg (P := P) w src e ((hT.ty hs).slice hsk) ((hT.ty he).int hek) bk off ns.length c ns rfl (fun j hj => by
    obtain ⟨b',hb',_,hc⟩ := ha j 0 hj (by omega)
    cases hb'
    have hn : ns[j]? = some ns[j] := by simp [hj]
    have hrep := hr j 0 [.int .u8 ns[j]] (.int .u8 ns[j]) (by simp [hj]) rfl
    rw [addr_add,Nat.mul_one,Nat.add_zero] at hc
    rw [hc,hrep.inv_int]
    simp [List.getD,hj]) dst ((hT.ty ht).str hdk)
   refine ⟨.string (strOfNums ns),by simp only [execOp,ho,hv,Sem.run_bind,hrun,Result.andThen_ok,Sem.run_pure],fun x' hx' => ?_⟩
   cases hx'
   exact ⟨rfl,.pv _ _ (.str _)⟩
end
end Go.Abs
namespace Go.Abs
open Go.RowKit
set_option linter.unusedVariables false
def andNotR (k : IntKind) (m n : Int) : Int := k.wrap ((BitVec.ofInt k.bits m &&& ~~~BitVec.ofInt k.bits n).toNat : Int)
def orR (k : IntKind) (m n : Int) : Int := k.wrap ((BitVec.ofInt k.bits m ||| BitVec.ofInt k.bits n).toNat : Int)
section
variable {P : Program} {T : Nat -> Option TyI} {nt : Nat} {s : ASt} {o : Oper} {ops : Array Oper}
theorem op_andNot {t t' : TypeId} {x y : Operand} {k : IntKind} {m n : Int} (ho : o.op = .binOp .andNot t x y t') (hd : dstB nt o.dst = true)
  (hx : s.ev x = some (.pv (.int k m))) (hy : s.ev y = some (.pv (.int k n))) : OpTo P nt o s (s.putO o.dst (some (.pv (.int k (andNotR k m n))))) :=
 OpTo.value hd fun W0 D0 D φ a w hI => ⟨.int k (andNotR k m n),by
  simp only [execOp,ho,hI.ev_int hx,hI.ev_int hy,eqGuard,binOp,Op.intBits,ne_eq,not_true_eq_false,if_false,Sem.run_bind,Sem.run_pure,Result.andThen_ok,Bool.not_true,Bool.not_false,Bool.false_eq_true,if_true]; rfl,fun x' h => by cases h; exact ⟨rfl,.pv _ _ (.int _ _)⟩⟩
theorem op_or {t t' : TypeId} {x y : Operand} {k : IntKind} {m n : Int} (ho : o.op = .binOp .or t x y t') (hd : dstB nt o.dst = true)
  (hx : s.ev x = some (.pv (.int k m))) (hy : s.ev y = some (.pv (.int k n))) : OpTo P nt o s (s.putO o.dst (some (.pv (.int k (orR k m n))))) :=
 OpTo.value hd fun W0 D0 D φ a w hI => ⟨.int k (orR k m n),by
  simp only [execOp,ho,hI.ev_int hx,hI.ev_int hy,eqGuard,binOp,Op.intBits,ne_eq,not_true_eq_false,if_false,Sem.run_bind,Sem.run_pure,Result.andThen_ok,Bool.not_true,Bool.not_false,Bool.false_eq_true,if_true]; rfl,fun x' h => by cases h; exact ⟨rfl,.pv _ _ (.int _ _)⟩⟩
theorem D_or {t t' : TypeId} {x y : Operand} {k : IntKind} {m n : Int} (hg : guardT ops s o = true) (ho : o.op = .binOp .or t x y t') (hd : dstB nt o.dst = true)
  (hx : s.ev x = some (.pv (.int k m))) (hy : s.ev y = some (.pv (.int k n))) : StepOK P nt ops o s ⟨some (.pv (.int k (orR k m n))),false,[],[]⟩ (s.putO o.dst (some (.pv (.int k (orR k m n))))) :=
 StepOK.mkP hg fun s1 h1 _ => op_or ho hd (by rw [ev_agree h1 (by simp [ho,Op.operands])]; exact hx) (by rw [ev_agree h1 (by simp [ho,Op.operands])]; exact hy)
end
end Go.Abs
namespace Go.Abs
open Go.RowKit
set_option linter.unusedVariables false
section
variable {P : Program} {T : Nat -> Option TyI} {nt : Nat} {s : ASt} {o : Oper} {ops : Array Oper}
end
end Go.Abs
