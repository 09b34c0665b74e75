/- Maps keyed by ints that only remember: each entry is what a function has at its key. -/
import Derived.Test.YtmplfjolcdlipaaGreatDoorJNcG
import Derived.Test.YtmplfjolcdlipaaGreatDoorJNcF
import Derived.Test.YtmplfjolcdlipaaGreatDoorJNcI
set_option linter.unusedVariables false
set_option linter.unusedSimpArgs false
namespace Go.Abs
open Go.RowKit
open Go.ChangeMaps (setBlock)
set_option linter.unusedVariables false
def MemoR (es : Array MapEntry) (f : Int -> Value) : Prop := ∀ e ∈ es.toList,∃ n,e.key = .int .i64 n /\ e.val = f n
def memoE (f : Int -> Value) (l : Nat) : Ext := ⟨[],l,fun _ B _ w => (∀ b,B b ↔ b = l) /\ ∃ es clock,w.heap[l]? = some (.map es clock) /\ MemoR es f⟩
abbrev memoO (f : Int -> Value) (l : Nat) : AObj := .ext (memoE f l) 0 (fun b => b = l)
theorem memoE_mono (f : Int -> Value) (l : Nat) : (memoE f l).Mono := fun k B D D' w w' h hD hw hB => by
 obtain ⟨h1,es,clock,h2,h3⟩ := h
 exact ⟨h1,es,clock,by rw [hB l ((h1 l).2 rfl)]; exact h2,h3⟩
theorem findNow_memo {f : Int -> Value} {n : Int} : ∀ (l : List MapEntry) (i : Nat),(∀ e ∈ l,∃ n,e.key = .int .i64 n /\ e.val = f n) →
  Instr.findNow (.int .i64) (.int .i64 n) l i = some none \/ ∃ j e,Instr.findNow (.int .i64) (.int .i64 n) l i = some (some (i + j,f n)) /\ l[j]? = some e /\ e.key = .int .i64 n /\ e.val = f n
 | [],i,h => .inl rfl
 | e :: l,i,h => by
  obtain ⟨k,h1,h2⟩ := h e (by simp)
  by_cases hk : n = k
  ·subst hk
   right
   refine ⟨0,e,?_,rfl,h1,h2⟩
   simp [Instr.findNow,Instr.sameNow,h1,h2]
  ·have hb : Instr.findNow (.int .i64) (.int .i64 n) (e :: l) i = Instr.findNow (.int .i64) (.int .i64 n) l (i + 1):= by
    have hnk : (n == k) = false := by simpa using hk
    simp [Instr.findNow,Instr.sameNow,h1,hnk]
   rcases findNow_memo (n := n) l (i + 1) (fun e he => h e (by simp [he])) with q | ⟨j,e',q2,q3,q4,q5⟩
   ·exact .inl (by rw [hb]; exact q)
   ·exact .inr ⟨j + 1,e',by rw [hb,q2]; congr 3; omega,by simpa using q3,q4,q5⟩
theorem run_update_memo {P : Program} {t kt et : TypeId} (ht : P.underlying t = some (.map kt et)) (hk : P.underlying kt = some (.int .i64)) {w : World} {r : Nat} {es : Array MapEntry} {clock : Nat} {f : Int -> Value} {n : Int} (hr : w.heap[r]? = some (.map es clock)) (hM : MemoR es f) :
  ∃ es' clock',(Instr.mapUpdate t (.map (some r)) (.int .i64 n) (f n)).run P w = .ok () (setBlock w r (.map es' clock')) /\ MemoR es' f:= by
 have hset : ∀ o',(setObj r o').run P w = .ok () (setBlock w r o') := fun o' => by simp [setObj,Sem.run,hr,setBlock]
 have hck : (Instr.checkKey false 10000 kt (.int .i64 n)).run P w = .ok () w := MapKept.run_checkKey hk (by simp [MapKept.IsKey]) false 9999
 rcases findNow_memo (f := f) (n := n) es.toList 0 hM with q2 | ⟨j,e,q2,q3,q4,q5⟩
 ·have hf := MapKept.run_findKey (P := P) (w := w) hk q2
  refine ⟨es.push { key := .int .i64 n,val := f n,born := clock },clock + 1,?_,?_⟩
  ·simp [Instr.mapUpdate,underlying,ht,getObj,Sem.run,hr,hck,hf,hset]
   try simp [Sem.run_bind,hck,hf,hset]
  ·intro e he
   rw [Array.toList_push] at he
   rcases List.mem_append.1 he with he | he
   ·exact hM e he
   ·simp only [List.mem_singleton] at he; subst he; exact ⟨n,rfl,rfl⟩
 ·have hf := MapKept.run_findKey (P := P) (w := w) hk q2
  rw [Nat.zero_add] at hf
  have hj : es[j]? = some e := by simpa using q3
  have hkey : (Instr.keyThatStays (.int .i64 n) (.int .i64 n)).run P w = .ok (.int .i64 n) w := by simp [Instr.keyThatStays,Instr.sameBits]
  have hmod : es.modify j (fun e => { e with key := .int .i64 n,val := f n }) = es:= by
   apply Array.ext
   ·simp
   ·intro i h1 h2
    rw [Array.getElem_modify]
    split
    ·rename_i hij; subst hij
     have : es[j] = e := by rw [Array.getElem?_eq_getElem h2] at hj; cases hj; rfl
     rw [this]; cases e; simp_all
    ·rfl
  refine ⟨es,clock,?_,hM⟩
  have h2 := hset (.map es clock)
  simp [Instr.mapUpdate,underlying,ht,getObj,Sem.run,hr,hck,hf,hj,q4,hkey,hmod,h2]
  try simp [Sem.run_bind,hck,hf,hj,q4,hkey,hmod,h2]
section
variable {P : Program} {T : Nat -> Option TyI} {nt : Nat} {s : ASt} {o : Oper} {ops : Array Oper} {rest : List Oper} {Q : Exit -> ASt -> Prop}
theorem op_makeMemo (f : Int -> Value) {t : Nat} (ho : o.op = .makeMap t none) (hd : dstB nt o.dst = true) : OpToS P nt o s (fun s' => ∃ l,s' = (s.newObj (memoO f l)).putO o.dst (some (.mp s.nxt))):= by
 intro ro W0 D0 D φ a w hI hko K Q hK
 have hrun : (execOp a.eval o).run P w = .ok (.value (.map (some w.heap.size))) (w.alloc (.map #[] 0)):= by
  simp [execOp,ho,Instr.makeMap]
 refine wpIn_of (by rw [ho]; intro c hc; cases hc) ?_
 unfold Oper.wp
 rw [hrun]
 have hbel : Below w.heap.size w (w.alloc (.map #[] 0)) := (Below.refl _ w).alloc (Nat.le_refl _) _
 have hN : Inv W0 D0 nt (s.newObj (memoO f w.heap.size)) D (addH φ s.nxt (.map (some w.heap.size))) a (w.alloc (.map #[] 0)):= by
  refine hI.chg s.nxt (fun _ => False) (hbel.mono (Nat.zero_le _)) (fun b hlt _ => hbel.block b hlt) (fun _ h => h) (fun b h => .inl h) (fun id hid => addH_old φ _ hid) (Nat.le_succ _) (fun t x hx => hx) ?_ ?_
  ·intro id ob2 hne ho
   rw [ASt.obj_newObj,if_neg (fun e => hne e.symm)] at ho
   exact ⟨fun hf => hf,ho⟩
  ·intro ob2 ho
   rw [ASt.obj_newObj,if_pos rfl] at ho
   cases ho
   refine ⟨Nat.lt_succ_self _,rfl,⟨memoE_mono f _,addH_new _ _ _,rfl,fun b => Iff.rfl,#[],0,heap_alloc_new w _,fun e he => by simp at he⟩,fun b hb => ?_⟩
   have hb : b = w.heap.size := hb
   subst hb
   exact ⟨fun h => Nat.lt_irrefl _ (hI.dlt _ h),by simp,.inl (Nat.le_refl _)⟩
 refine hK _ D _ _ _ ⟨w.heap.size,rfl⟩ (hN.put o.dst (dstB_lt hd) _ _ fun x' hx' => ?_)
 cases hx'
 exact ⟨by simp [FV.lt,ASt.newObj],.mp _ _ (addH_new _ _ _)⟩
theorem memo_block {W0 : World} {D0 : Bas} {D : Nat -> Prop} {φ : Nat -> Value} {a : Act} {w : World} (hI : Inv W0 D0 nt s D φ a w) {x : Operand} {id l : Nat} {f : Int -> Value} (hx : s.ev x = some (.mp id)) (hob : s.obj id = some (memoO f l)) :
  a.eval x = .map (some l) /\ φ id = .map (some l) /\ ∃ es clock,w.heap[l]? = some (.map es clock) /\ MemoR es f:= by
 obtain ⟨hid,_,_,h1,_,_,es,clock,h2,h3⟩ := hI.objs id _ hob
 have hv : a.eval x = .map (some l):= by
  have := (hI.ev hx).2
  generalize a.eval x = v at this
  cases this with
  | mp id r' h => rw [h1] at h; exact h.symm
 exact ⟨hv,h1,es,clock,h2,h3⟩
theorem op_updateMemo {t kt et : TypeId} {x y z : Operand} {id l : Nat} {f : Int -> Value} {n : Int} {p : PV} (hu : P.underlying t = some (.map kt et)) (hkt : P.underlying kt = some (.int .i64)) (ho : o.op = .mapUpdate t x y z) (hd : dstB nt o.dst = true)
  (hx : s.ev x = some (.mp id)) (hob : s.obj id = some (memoO f l)) (hy : s.ev y = some (.pv (.int .i64 n))) (hz : s.evD z = some p) (hp : valP p = some (f n)) : OpTo P nt o s (s.putO o.dst none):= by
 intro ro W0 D0 D φ a w hI hko K Q hK
 obtain ⟨hv,hφ,es,clock,h2,h3⟩ := memo_block hI hx hob
 have hzv : a.eval z = f n := valP_rep (hI.evD hz) hp
 obtain ⟨es',clock',hrun,hM⟩ := run_update_memo (n := n) hu hkt h2 h3
 have hr : (execOp a.eval o).run P w = .ok .skip (setBlock w l (.map es' clock')) \/ ∃ v,(execOp a.eval o).run P w = .ok (.value v) (setBlock w l (.map es' clock')):= by
  simp only [execOp,ho,hv,hI.ev_int hy,hzv,Sem.run_bind,hrun,Result.andThen_ok,Sem.run_pure]
  first | exact .inl trivial | exact .inl rfl | exact .inr ⟨_,rfl⟩
 have hrw : l < w.heap.size := (Array.getElem?_eq_some_iff.1 h2).1
 have hsame : ∀ b,b ≠ l -> (setBlock w l (.map es' clock')).heap[b]? = w.heap[b]? := fun b hb => by
  simp only [setBlock]; rw [Array.getElem?_setIfInBounds,if_neg (fun e => hb e.symm)]
 have hnewb : (setBlock w l (.map es' clock')).heap[l]? = some (.map es' clock') := by simp [setBlock,hrw]
 have hid := (hI.objs id _ hob).1
 have hN : Inv W0 D0 nt s D φ a (setBlock w l (.map es' clock')):= by
  refine hI.chg id (fun j => j = id) ⟨rfl,rfl,rfl,by simp [setBlock],fun k hk => absurd hk (Nat.not_lt_zero _)⟩ ?_ (fun _ h => h) (fun b' hb' => .inl hb') (fun _ _ => rfl) (Nat.le_refl _) (fun t x hx => hx) ?_ ?_
  ·intro b' _ hne
   exact hsame b' (fun e => hne id _ rfl hob (by show b' = l; exact e))
  ·intro id' ob' hne ho'
   exact ⟨hne,ho'⟩
  ·intro ob' ho'
   rw [hob] at ho'
   cases ho'
   refine ⟨hid,rfl,⟨memoE_mono f _,hφ,rfl,fun b => Iff.rfl,es',clock',hnewb,hM⟩,fun b' hb' => ?_⟩
   obtain ⟨g1,g2,g3⟩ := hI.own id _ b' hob hb'
   exact ⟨g1,by simpa [setBlock] using g3,.inr ⟨id,_,rfl,hob,hb'⟩⟩
 refine wpIn_of (by rw [ho]; intro c hc; cases hc) ?_
 unfold Oper.wp
 rcases hr with hr | ⟨v,hr⟩
 ·rw [hr]; exact hK D φ _ _ (hN.put o.dst (dstB_lt hd) undef none (fun _ h => by cases h))
 ·rw [hr]; exact hK D φ _ _ (hN.put o.dst (dstB_lt hd) v none (fun _ h => by cases h))
theorem op_lookMemo {t kt et : TypeId} {x y : Operand} {id l : Nat} {f : Int -> Value} {n : Int} {p z : PV} {zv : Value} (hu : P.underlying t = some (.map kt et)) (hkt : P.underlying kt = some (.int .i64)) (hzr : ∀ w,(zeroValue et).run P w = .ok zv w) (hzv : valP z = some zv) (ho : o.op = .lookup t x y true) (hd : dstB nt o.dst = true)
  (hx : s.ev x = some (.mp id)) (hob : s.obj id = some (memoO f l)) (hy : s.ev y = some (.pv (.int .i64 n))) (hp : valP p = some (f n)) (hrp : ∀ w D,Rep w D (f n) p) (hrz : ∀ w D,Rep w D zv z) :
  OpToS P nt o s (fun s' => s' = s.putO o.dst (some (.tup [.pv p,.pv (.bool true)])) \/ s' = s.putO o.dst (some (.tup [.pv z,.pv (.bool false)]))):= by
 intro ro W0 D0 D φ a w hI hko K Q hK
 obtain ⟨hv,hφ,es,clock,h2,h3⟩ := memo_block hI hx hob
 have hck : (Instr.checkKey es.isEmpty 10000 kt (.int .i64 n)).run P w = .ok () w := MapKept.run_checkKey hkt (by simp [MapKept.IsKey]) es.isEmpty 9999
 refine wpIn_of (by rw [ho]; intro c hc; cases hc) ?_
 unfold Oper.wp
 rcases findNow_memo (f := f) (n := n) es.toList 0 h3 with q2 | ⟨j,e,q2,_,_,_⟩
 ·have hf := MapKept.run_findKey (P := P) (w := w) hkt q2
  have hr : (execOp a.eval o).run P w = .ok (.value (.tuple #[zv,.bool false])) w:= by
   simp [execOp,ho,hv,hI.ev_int hy,Instr.lookup,underlying,hu,getObj,Sem.run,h2,hck,hf,hzr w]
   try simp [Sem.run_bind,hck,hf,hzr w]
  rw [hr]
  refine hK _ D φ _ w (.inr rfl) (hI.put o.dst (dstB_lt hd) _ _ fun x' hx' => ?_)
  cases hx'
  refine ⟨rfl,.tup _ _ rfl fun j v p hv hp => ?_⟩
  match j with
  | 0 => simp at hv hp; subst hv; subst hp; exact .pv _ _ (hrz w D)
  | 1 => simp at hv hp; subst hv; subst hp; exact .pv _ _ (.bool _)
  | j + 2 => simp at hp
 ·have hf := MapKept.run_findKey (P := P) (w := w) hkt q2
  have hr : (execOp a.eval o).run P w = .ok (.value (.tuple #[f n,.bool true])) w:= by
   simp [execOp,ho,hv,hI.ev_int hy,Instr.lookup,underlying,hu,getObj,Sem.run,h2,hck,hf]
   try simp [Sem.run_bind,hck,hf]
  rw [hr]
  refine hK _ D φ _ w (.inl rfl) (hI.put o.dst (dstB_lt hd) _ _ fun x' hx' => ?_)
  cases hx'
  refine ⟨rfl,.tup _ _ rfl fun j v p hv hp => ?_⟩
  match j with
  | 0 => simp at hv hp; subst hv; subst hp; exact .pv _ _ (hrp w D)
  | 1 => simp at hv hp; subst hv; subst hp; exact .pv _ _ (.bool _)
  | j + 2 => simp at hp
theorem evL_agree {s1 : ASt} : ∀ {l : List Operand},(∀ x ∈ l,s1.ev x = s.ev x) -> evL s1 l = evL s l
 | [],_ => rfl
 | x :: l,h => by
  simp only [evL,h x (by simp),evL_agree (l := l) fun y hy => h y (by simp [hy])]
theorem op_callMemo {g id l : Nat} {F : Int -> Value} {args : Array Operand} {ts : Array TypeId} {ys xs : List FV} {p : PV} (ho : o.op = .call { callee := .value (.func g),args,argTypes := ts }) (hd : dstB nt o.dst = true) (ha : evL s args.toList = some ys) (hx : argsX s [(0,id)] ys xs)
  (hxl : FV.ltL 1 xs = true) (hob : s.obj id = some (memoO F l)) (hc : ACallsX P g xs [(0,memoO F l)] 1 (fun sf => sf = mkSt [(0,.pv p)] [(0,memoO F l)] 1) (fun _ _ => False)) : OpTo P nt o s (s.putO o.dst (some (.pv p))):= by
 intro ro W0 D0 D φ a w hI hko K Q hK
 refine op_callXs (objs := [(0,memoO F l)]) (n := 1) [(0,id)] [0] [] (fun av => hc) ho hd (caps := []) (g := g) (ys := ys) rfl ha (by rw [List.append_nil]; exact hx) hxl ⟨hob,Nat.zero_lt_one,rfl,trivial⟩ rfl trivial (by simp)
  (fun av sf h => by subst h; exact ⟨.inr ⟨_,_,_,_,_,rfl,hob⟩,trivial⟩) ro W0 D0 D φ a w hI hko K Q ?_
 rintro s' D' φ' a' w' ⟨av,sf,rfl,rfl⟩ hI'
 have hnl : ∀ t x,(s.putO o.dst (some (.pv p))).get t = some x -> x.lt s.nxt = true := fun t x ht => by
  cases hdd : o.dst with
  | none => rw [hdd] at ht; exact (hI.env t x ht).1
  | some d =>
   rw [hdd] at ht
   simp only [ASt.putO,ASt.get_put] at ht
   split at ht
   ·cases ht; rfl
   ·exact (hI.env t x ht).1
 have hn : ∀ (d : Option Nat),(s.putO d (some (.pv p))).nxt = s.nxt := fun d => by cases d <;> rfl
 have hob2 : ∀ (d : Option Nat) i,(s.putO d (some (.pv p))).obj i = s.obj i := fun d i => by cases d <;> rfl
 refine hK D' φ' a' w' (hI'.weaken (s' := s.putO o.dst (some (.pv p))) ?_ ?_ ?_ ?_)
 ·intro t x ht
  cases hdd : o.dst with
  | none => rw [hdd] at ht; exact ht
  | some d => rw [hdd] at ht; exact ht
 ·intro i ob hi
  rw [hob2] at hi
  have : ∀ (d : Option Nat) (y : Option FV),((afterX s [(0,id)] [0] [0] (mkSt [(0,.pv p)] [(0,memoO F l)] 1)).putO d y).obj i = if id = i then some (memoO F l) else if id = i then none else s.obj i := fun d y => by
   have e : ((afterX s [(0,id)] [0] [0] (mkSt [(0,.pv p)] [(0,memoO F l)] 1)).putO d y).obj i = look ((id,some (memoO F l)) :: (id,none) :: s.objs) i := by cases d <;> rfl
   rw [e]
   by_cases h : id = i
   ·subst h; simp [look_cons_eq]
   ·rw [look_cons_ne _ _ h,look_cons_ne _ _ h,if_neg h,if_neg h]; rfl
  show ((afterX s [(0,id)] [0] [0] (mkSt [(0,.pv p)] [(0,memoO F l)] 1)).putO o.dst _).obj i = some ob
  rw [this]
  by_cases h : id = i
  ·subst h; rw [if_pos rfl]; rw [hob] at hi; exact hi
  ·rw [if_neg h,if_neg h]; exact hi
 ·intro t x ht; rw [hn]; exact hnl t x ht
 ·intro i ob hi
  rw [hob2] at hi
  rw [hn]
  exact ⟨(hI.objs i ob hi).1,(hI.objs i ob hi).2.1⟩
theorem D_callMemo {g id l : Nat} {F : Int -> Value} {args : Array Operand} {ts : Array TypeId} {ys xs : List FV} {p : PV} (hg : guardT ops s o = true) (ho : o.op = .call { callee := .value (.func g),args,argTypes := ts }) (hd : dstB nt o.dst = true) (ha : evL s args.toList = some ys) (hx : ∀ s1 : ASt,argsX s1 [(0,id)] ys xs)
  (hxl : FV.ltL 1 xs = true) (hob : s.obj id = some (memoO F l)) (hc : ACallsX P g xs [(0,memoO F l)] 1 (fun sf => sf = mkSt [(0,.pv p)] [(0,memoO F l)] 1) (fun _ _ => False)) : StepOK P nt ops o s ⟨some (.pv p),false,[id],[]⟩ (s.putO o.dst (some (.pv p))) :=
 StepOK.mkP hg fun s1 h1 h2 => op_callMemo ho hd (by rw [evL_agree fun x hx => ev_agree h1 (by simp [ho,Op.operands,Call.operands]; right; simpa using hx)]; exact ha) (hx s1) hxl (by rw [h2 id (by simp)]; exact hob) hc
end
end Go.Abs
namespace Go.Abs
open Go.RowKit
set_option linter.unusedVariables false
def addD (a : Act) (ds : List Deferred) : Act := { a with defers := a.defers ++ ds }
theorem addD_put (a : Act) (d : Option Nat) (v : Value) (ds : List Deferred) : (addD a ds).put d v = addD (a.put d v) ds := by cases d <;> rfl
theorem addD_eval (a : Act) (ds : List Deferred) : (addD a ds).eval = a.eval := by funext o; cases o <;> rfl
def Kept (Q : Exit -> Act -> World -> Prop) (ds : List Deferred) (K : List Nat) (T : Nat -> Option Value) : Exit -> Act -> World -> Prop := fun e a w => ∃ a1,Q e a1 w /\ (e ≠ .outgrown -> a = addD a1 ds /\ ∀ t ∈ K,a1.tmps[t]? = T t)
theorem put_keep {a : Act} {d : Option Nat} {v : Value} {K : List Nat} {T : Nat -> Option Value} (hT : ∀ t ∈ K,a.tmps[t]? = T t) (hd : ∀ t ∈ K,d ≠ some t) : ∀ t ∈ K,(a.put d v).tmps[t]? = T t:= by
 intro t ht
 rw [<- hT t ht]
 cases d with
 | none => rfl
 | some d =>
  have : d ≠ t := fun e => hd t ht (by rw [e])
  simp only [Act.put,Array.getElem?_setIfInBounds,if_neg this]
theorem upon_keep {F : Fence} {n : Nat} {P : Program} {o : Oper} {a : Act} {ds : List Deferred} {next next' : Act -> World -> Prop} {Q : Exit -> Act -> World -> Prop} {K : List Nat} {T : Nat -> Option Value} (hd : ∀ t ∈ K,o.dst ≠ some t) (hT : ∀ t ∈ K,a.tmps[t]? = T t)
  (hn : ∀ a' w',next a' w' -> (∀ t ∈ K,a'.tmps[t]? = T t) -> next' (addD a' ds) w') (r : Result Next) (h : o.uponIn F n P a next Q r) : o.uponIn F n P (addD a ds) next' (Kept Q ds K T) r:= by
 have key : ∀ v w',next (a.put o.dst v) w' -> next' ((addD a ds).put o.dst v) w' := fun v w' h => by
  rw [addD_put]
  exact hn _ _ h (put_keep hT hd)
 have hlet : LetsOut Q -> LetsOut (Kept Q ds K T) := fun ⟨a,w,h⟩ => ⟨a,w,a,h,fun he => absurd rfl he⟩
 have hpan : ∀ ch w',Q (.panic ch) a w' -> Kept Q ds K T (.panic ch) (addD a ds) w' := fun ch w' h => ⟨a,h,fun _ => ⟨rfl,hT⟩⟩
 match r,h with
 | .ok (.value v) w',h => exact key v w' h
 | .ok .skip w',h => exact key _ w' h
 | .ok (.defer d) w',h =>
  have h : next ({ a with defers := d :: a.defers }.put o.dst undef) w' := h
  show next' ({ addD a ds with defers := d :: (addD a ds).defers }.put o.dst undef) w'
  rw [show ({ addD a ds with defers := d :: (addD a ds).defers } : Act) = addD { a with defers := d :: a.defers } ds from rfl,addD_put]
  exact hn _ _ h (put_keep (a := { a with defers := d :: a.defers }) hT hd)
 | .ok (.enter f args) w',h =>
  refine ⟨h.1,h.2.mono fun e w'' he => ?_⟩
  cases e with
  | returned v => exact key v w'' he
  | panicked ch => exact hpan ch w'' he
  | outgrown => exact hlet he
 | .ok (.row row args) w',h => exact ⟨h.1,h.2.mono fun v w'' he => key v w'' he⟩
 | .ok (.round l f tmps assign body) w',h =>
  refine ⟨h.1,h.2.mono fun e w'' he => ?_⟩
  cases e with
  | returned v => exact key v w'' he
  | panicked ch => exact hpan ch w'' he
  | outgrown => exact hlet he
 | .halt (.panic v) w',h => exact hpan _ w' h
theorem list_keep {F : Fence} {n : Nat} {P : Program} {ops : Array Oper} {ds : List Deferred} {Q : Exit -> Act -> World -> Prop} {K : List Nat} {T : Nat -> Option Value} : ∀ (rest : List Oper) (a : Act) (w : World),(∀ o ∈ rest,∀ t ∈ K,o.dst ≠ some t) -> (∀ t ∈ K,a.tmps[t]? = T t) →
  wpListIn F n P ops Q rest a w -> wpListIn F n P ops (Kept Q ds K T) rest (addD a ds) w
 | [],a,w,_,hT,h => ⟨a,h,fun _ => ⟨rfl,hT⟩⟩
 | o :: rest,a,w,hd,hT,h => by
  unfold wpListIn at h ⊢
  have hy : (addD a ds).tmps = a.tmps := rfl
  have ih := fun a' w' (hT' : ∀ t ∈ K,a'.tmps[t]? = T t) h' => list_keep (F := F) (n := n) (P := P) (ops := ops) (ds := ds) (Q := Q) rest a' w' (fun o ho => hd o (by simp [ho])) hT' h'
  rw [hy]
  split at h
  ·rename_i hw
   rw [if_pos hw]
   unfold Oper.wpIn at h ⊢
   rw [addD_eval]
   exact ⟨h.1,upon_keep (hd o (by simp)) hT (fun a' w' h1 h2 => ih a' w' h2 h1) _ h.2⟩
  ·rename_i hw
   rw [if_neg hw,addD_eval,addD_put]
   exact ⟨h.1,ih _ _ (put_keep hT (hd o (by simp))) h.2⟩
def dstsB (K : List Nat) (l : List Oper) : Bool := l.all fun o => match o.dst with | some d => !K.contains d | none => true
theorem dsts_spec {K : List Nat} {l : List Oper} (h : dstsB K l = true) : ∀ o ∈ l,∀ t ∈ K,o.dst ≠ some t:= by
 intro o ho t ht he
 have := List.all_eq_true.1 h o ho
 rw [he] at this
 simp at this
 exact this ht
mutual
def FV.hnd (n : Nat) : FV -> Bool
 | .pv p => p.flat
 | .nils => true
 | .box id _ => Nat.ble n id
 | .arr id => Nat.ble n id
 | .mp id => Nat.ble n id
 | .agg cs => FV.hndL n cs
 | _ => false
def FV.hndL (n : Nat) : List FV -> Bool
 | [] => true
 | x :: xs => x.hnd n && FV.hndL n xs
end
theorem FV.hndL_mem {n : Nat} : ∀ {xs : List FV} {x : FV},FV.hndL n xs = true -> x ∈ xs -> x.hnd n = true
 | [],_,_,h => by cases h
 | y :: ys,x,h,hx => by
  simp only [FV.hndL,Bool.and_eq_true] at h
  cases hx with
  | head => exact h.1
  | tail _ hx => exact FV.hndL_mem h.2 hx
theorem FRep.hnd {w : World} {D : Nat -> Prop} {φ : Nat -> Value} {n : Nat} {v : Value} {x : FV} (h : FRep w D φ v x) : x.hnd n = true -> ∀ (w' : World) (D' : Nat -> Prop) (φ' : Nat -> Value),(∀ id,n <= id -> φ' id = φ id) -> FRep w' D' φ' v x:= by
 induction h with
 | pv v p h => exact fun hx w' D' φ' _ => .pv v p (h.flat_any hx w' D')
 | box id off b h => exact fun hx w' D' φ' hφ => .box id off b (by rw [hφ id (Nat.le_of_ble_eq_true hx)]; exact h)
 | nils => exact fun _ w' D' φ' _ => .nils
 | arr id n' c a h => exact fun hx w' D' φ' hφ => .arr id n' c a (by rw [hφ id (Nat.le_of_ble_eq_true hx)]; exact h)
 | mp id r h => exact fun hx w' D' φ' hφ => .mp id r (by rw [hφ id (Nat.le_of_ble_eq_true hx)]; exact h)
 | agg vs cs hl hr ih => exact fun hx w' D' φ' hφ => .agg vs cs hl fun j v p hv hp => ih j v p hv hp (FV.hndL_mem (by simpa [FV.hnd] using hx) (List.mem_of_getElem? hp)) w' D' φ' hφ
 | _ => intro hx; simp [FV.hnd] at hx
def AObj.hnd (n : Nat) : AObj -> Prop
 | .box cs => FV.hndL n cs = true
 | .arr _ _ es => ∀ e ∈ es,PV.flatL e = true
 | .ext E k B => ∀ D D' w,E.J k B D w -> E.J k B D' w
 | _ => False
theorem ORep.hnd {w : World} {D : Nat -> Prop} {φ : Nat -> Value} {n base id : Nat} {ob : AObj} (h : ORep w D φ base id ob) (hn : n <= id) (ho : ob.hnd n) (D' : Nat -> Prop) (φ' : Nat -> Value) (hφ : ∀ id,n <= id -> φ' id = φ id) (base' : Nat) : ORep w D' φ' base' id ob:= by
 cases ob with
 | box cs =>
  obtain ⟨b,vs,e,h1,h2,h3,h4⟩ := h
  refine ⟨b,vs,e,by rw [hφ _ hn]; exact h1,h2,h3,fun j v x hv hx => ?_⟩
  obtain ⟨hl,hr⟩ := h4 j v x hv hx
  exact ⟨hl,hr.hnd (FV.hndL_mem ho (List.mem_of_getElem? hx)) _ _ _ hφ⟩
 | arr e sz es =>
  obtain ⟨xs,h1,h2,h3⟩ := h
  refine ⟨xs,by rw [hφ _ hn]; exact h1,h2,fun i j e p he hp => ?_⟩
  obtain ⟨g1,u,g2,g3⟩ := h3 i j e p he hp
  exact ⟨g1,u,g2,g3.flat_any (PV.flatL_mem (ho e (List.mem_of_getElem? he)) (List.mem_of_getElem? hp)) _ _⟩
 | ext E k B =>
  obtain ⟨h1,h2,h3,h4⟩ := h
  exact ⟨h1,by rw [hφ _ hn]; exact h2,h3,ho _ _ _ h4⟩
 | _ => exact ho.elim
theorem memo_hnd (f : Int -> Value) (l n : Nat) : AObj.hnd n (memoO f l) := fun D D' w h => h
def frzS (s : ASt) (ts : List Nat) : ASt := ⟨ts.map fun t => (t,match s.get t with | some x => (s.pvOf true 5 x).map FV.pv | none => none),[],s.nxt⟩
theorem frz_get {s : ASt} : ∀ (ts : List Nat) (t : Nat) (x : FV),look (ts.map fun t => (t,match s.get t with | some x => (s.pvOf true 5 x).map FV.pv | none => none)) t = some x -> ∃ y p,s.get t = some y /\ s.pvOf true 5 y = some p /\ x = .pv p
 | [],t,x,h => by simp [look] at h
 | k :: ts,t,x,h => by
  by_cases hk : k = t
  ·subst hk
   rw [List.map_cons,look_cons_eq] at h
   split at h
   ·rename_i y hy
    rw [Option.map_eq_some_iff] at h
    obtain ⟨p,hp,rfl⟩ := h
    exact ⟨y,p,hy,hp,rfl⟩
   ·cases h
  ·rw [List.map_cons,look_cons_ne _ _ hk] at h
   exact frz_get ts t x h
def thaw (s : ASt) (K : List Nat) (se : ASt) : ASt := ⟨se.env ++ K.map fun t => (t,s.get t),se.objs ++ s.objs,se.nxt⟩
theorem look_keep {s : ASt} : ∀ (K : List Nat) (t : Nat) (x : FV),look (K.map fun t => (t,s.get t)) t = some x -> t ∈ K /\ s.get t = some x
 | [],t,x,h => by simp [look] at h
 | k :: K,t,x,h => by
  by_cases hk : k = t
  ·subst hk
   rw [List.map_cons,look_cons_eq] at h
   exact ⟨by simp,h⟩
  ·rw [List.map_cons,look_cons_ne _ _ hk] at h
   obtain ⟨h1,h2⟩ := look_keep K t x h
   exact ⟨by simp [h1],h2⟩
structure NewOnly (n : Nat) (se : ASt) : Prop where
 nxt : n <= se.nxt
 env : ∀ t x,se.get t = some x -> x.hnd n = true
 objs : ∀ id ob,se.obj id = some ob -> n <= id /\ ob.hnd n
section
variable {P : Program} {nt : Nat} {Q : Exit -> ASt -> Prop} {s : ASt}
theorem Inv.thaw {W0 : World} {D0 : Bas} {D : Nat -> Prop} {φ : Nat -> Value} {a : Act} {w : World} (hI : Inv W0 D0 nt s D φ a w) {K : List Nat} {se : ASt} {D1 : Nat -> Prop} {φ1 : Nat -> Value} {a1 : Act} {w1 : World}
  (h1 : Inv w ⟨inAll s D φ,fun _ => False,none,D0.rnd⟩ nt se D1 φ1 a1 w1) (hk : ∀ t ∈ K,a1.tmps[t]? = a.tmps[t]?) (hN : NewOnly s.nxt se) : ∃ φ2,Inv W0 D0 nt (thaw s K se) D φ2 (addD a1 a.defers) w1:= by
 obtain ⟨φ2,hφ2⟩ : ∃ φ2 : Nat -> Value,φ2 = fun id => if id < s.nxt then φ id else φ1 id := ⟨_,rfl⟩
 have hold : ∀ id,id < s.nxt -> φ2 id = φ id := fun id hid => by rw [hφ2]; simp [hid]
 have hnew : ∀ id,s.nxt <= id -> φ2 id = φ1 id := fun id hid => by rw [hφ2]; simp [Nat.not_lt.2 hid]
 have hw : ∀ b,b < w.heap.size -> w1.heap[b]? = w.heap[b]? := fun b hb => h1.below.block b hb (fun f => f)
 have hsz := h1.below.size
 have hfresh : ∀ id ob b,se.obj id = some ob -> oblk φ1 id ob b -> w.heap.size <= b /\ b < w1.heap.size := fun id ob b ho hb => by
  obtain ⟨_,g2,g3⟩ := h1.own id ob b ho hb
  rcases g2 with g2 | g2
  ·exact g2.elim
  ·exact ⟨g2,g3⟩
 have hobj : ∀ id ob,(Go.Abs.thaw s K se).obj id = some ob -> se.obj id = some ob \/ s.obj id = some ob := fun id ob h => by
  unfold Go.Abs.thaw ASt.obj at h
  simp only [look_append] at h
  split at h
  ·exact .inl h
  ·exact .inr h
 have hb2 : ∀ id ob b,(Go.Abs.thaw s K se).obj id = some ob -> oblk φ2 id ob b -> (se.obj id = some ob /\ oblk φ1 id ob b) \/ (s.obj id = some ob /\ oblk φ id ob b) := fun id ob b h hb => by
  rcases hobj id ob h with h | h
  ·exact .inl ⟨h,(oblk_congr (hnew id (hN.objs id ob h).1) ob b).1 hb⟩
  ·exact .inr ⟨h,(oblk_congr (hold id (hI.objs id ob h).1) ob b).1 hb⟩
 refine ⟨φ2,⟨⟨h1.below.os.trans hI.below.os,h1.below.tape.trans hI.below.tape,h1.below.output.trans hI.below.output,Nat.le_trans hI.below.size hsz,fun k hk' hx => (hw k (Nat.lt_of_lt_of_le hk' hI.below.size)).trans (hI.below.block k hk' hx)⟩,h1.size,?_,fun b hb => Nat.lt_of_lt_of_le (hI.dlt b hb) hsz,hI.dof,hI.d0,?_,?_,?_,?_⟩⟩
 ·obtain ⟨ms,g1,g2,g3⟩ := hI.defers
  obtain ⟨ms0,k1,k2,k3⟩ := h1.defers
  have e0 : a1.defers = ms0 := k1.of_none
  obtain ⟨m1,m2,rfl,e2⟩ := g1
  refine ⟨ms0 ++ (m1 ++ m2),⟨ms0 ++ m1,m2,by simp,by simp [addD,e0,e2]⟩,?_,?_⟩
  ·rw [List.nodup_append]
   refine ⟨k2,g2,fun d hd d' hd' he => ?_⟩
   subst he
   obtain ⟨m,q1,q2,q3,_⟩ := k3 d hd
   obtain ⟨m',r1,r2,_⟩ := g3 d hd'
   rw [q1] at r1
   injection r1 with r1 _
   injection r1 with r1
   subst r1
   have := (Array.getElem?_eq_some_iff.1 r2).1
   have := q3.2
   omega
  ·intro d hd
   rcases List.mem_append.1 hd with hd | hd
   ·obtain ⟨m,q1,q2,q3,q4,q5⟩ := k3 d hd
    have hm : w.heap.size <= m := q3.2
    refine ⟨m,q1,q2,⟨q3.1,Nat.le_trans hI.below.size hm⟩,fun hd' => absurd (hI.dlt m hd') (by omega),fun id ob ho hk' => ?_⟩
    rcases hb2 id ob m ho hk' with ⟨ho,hk'⟩ | ⟨ho,hk'⟩
    ·exact q5 id ob ho hk'
    ·exact absurd (hI.own id ob m ho hk').2.2 (by omega)
   ·obtain ⟨m,q1,q2,q3,q4,q5⟩ := g3 d hd
    have hm : m < w.heap.size := (Array.getElem?_eq_some_iff.1 q2).1
    refine ⟨m,q1,(hw m hm).trans q2,q3,q4,fun id ob ho hk' => ?_⟩
    rcases hb2 id ob m ho hk' with ⟨ho,hk'⟩ | ⟨ho,hk'⟩
    ·have := (hfresh id ob m ho hk').1; omega
    ·exact q5 id ob ho hk'
 ·intro t x hx
  have : se.get t = some x \/ (t ∈ K /\ s.get t = some x):= by
   unfold Go.Abs.thaw ASt.get at hx
   simp only [look_append] at hx
   split at hx
   ·exact .inl hx
   ·exact .inr (look_keep K t x hx)
  rcases this with h | ⟨ht,h⟩
  ·obtain ⟨q1,v,q2,q3⟩ := h1.env t x h
   exact ⟨q1,v,q2,q3.hnd (hN.env t x h) _ _ _ hnew⟩
  ·obtain ⟨q1,v,q2,q3⟩ := hI.env t x h
   refine ⟨x.lt_mono hN.nxt q1,v,(hk t ht).trans q2,q3.mono (fun b hb => hw b (hI.dlt b hb)) (fun _ h => h) hold q1⟩
 ·intro id ob h
  rcases hobj id ob h with h | h
  ·obtain ⟨q1,q2,q3⟩ := h1.objs id ob h
   exact ⟨q1,q2,q3.hnd (hN.objs id ob h).1 (hN.objs id ob h).2 _ _ hnew _⟩
  ·obtain ⟨q1,q2,q3⟩ := hI.objs id ob h
   exact ⟨Nat.lt_of_lt_of_le q1 hN.nxt,AObj.lt_mono hN.nxt ob q2,q3.keep q2 q1 (fun b hb => hw b (hI.dlt b hb)) (fun _ h => h) hold fun b hb => hw b (hI.own id ob b h hb).2.2⟩
 ·intro id ob b h hb
  rcases hb2 id ob b h hb with ⟨h,hb⟩ | ⟨h,hb⟩
  ·obtain ⟨q1,q2⟩ := hfresh id ob b h hb
   exact ⟨fun hd => absurd (hI.dlt b hd) (by omega),.inr (Nat.le_trans hI.below.size q1),q2⟩
  ·obtain ⟨q1,q2,q3⟩ := hI.own id ob b h hb
   exact ⟨q1,q2,Nat.lt_of_lt_of_le q3 hsz⟩
 ·intro id ob id' ob' b h h' hb hb'
  rcases hb2 id ob b h hb with ⟨h,hb⟩ | ⟨h,hb⟩
  ·rcases hb2 id' ob' b h' hb' with ⟨h',hb'⟩ | ⟨h',hb'⟩
   ·exact h1.sep id ob id' ob' b h h' hb hb'
   ·have := (hfresh id ob b h hb).1; have := (hI.own id' ob' b h' hb').2.2; omega
  ·rcases hb2 id' ob' b h' hb' with ⟨h',hb'⟩ | ⟨h',hb'⟩
   ·have := (hfresh id' ob' b h' hb').1; have := (hI.own id ob b h hb).2.2; omega
   ·exact hI.sep id ob id' ob' b h h' hb hb'
theorem Inv.frz {W0 : World} {D0 : Bas} {D : Nat -> Prop} {φ : Nat -> Value} {a : Act} {w : World} (hI : Inv W0 D0 nt s D φ a w) (ts : List Nat) : Inv w ⟨inAll s D φ,fun _ => False,none,D0.rnd⟩ nt (frzS s ts) (inAll s D φ) φ { a with defers := [] } w:= by
 refine ⟨BelowX.refl _ _,hI.size,⟨[],.nil,.nil,by simp⟩,?_,fun b hb => .inl hb,fun b hb => hb,?_,?_,?_,?_⟩
 ·rintro b (hb | ⟨id,ob,h,hb⟩)
  ·exact hI.dlt b hb
  ·exact (hI.own id ob b h hb).2.2
 ·intro t x hx
  obtain ⟨y,p,h1,h2,rfl⟩ := frz_get ts t x hx
  obtain ⟨_,v,h3,h4⟩ := hI.env t y h1
  exact ⟨rfl,v,h3,.pv _ _ (by simpa using pvOf_rep hI true 5 y v p h4 h2)⟩
 ·intro id ob h; simp [frzS,ASt.obj,look] at h
 ·intro id ob b h; simp [frzS,ASt.obj,look] at h
 ·intro id ob id' ob' b h; simp [frzS,ASt.obj,look] at h
theorem AW_thaw {i1 i2 : Nat} {l1 l2 : List Oper} {rest : Code} {ι : Type} (K ts : List Nat) (sf : ASt) (se : ι -> ASt) (hf : Le (frzS s ts) sf) (hd : dstsB K (l1 ++ l2) = true)
  (h : AL P nt l1.toArray l1 (Then (AL P nt l2.toArray l2 (Then (fun s' => ∃ i,Le s' (se i)) (fun _ _ => False))) (fun _ _ => False)) sf) (hN : ∀ i,NewOnly s.nxt (se i)) (hr : ∀ i,AW P nt rest Q (Go.Abs.thaw s K (se i))) :
  AW P nt (.seq (.region i1 l1.toArray false) (.seq (.region i2 l2.toArray false) rest)) Q s:= by
 intro ro W0 D0 D φ a w hRo hI
 obtain ⟨φf,hF⟩ := Le.inv hf (hI.frz ts)
 have hds := dsts_spec hd
 have hRo' : RoOK P ro w ⟨inAll s D φ,fun _ => False,none,D0.rnd⟩ := ⟨hRo.1,fun l hl => (by
  obtain ⟨⟨r,q1⟩,q2⟩ := hRo.2.1 l hl
  exact ⟨⟨r,(hI.below.block l (Array.getElem?_eq_some_iff.1 q1).1 q2).trans q1⟩,fun f => f⟩),hI.kok hRo.2.2 (fun _ hb => .inl hb) (fun _ _ f => f)⟩
 have e0 : a = addD { a with defers := [] } a.defers := rfl
 have k1 := h ro _ _ _ _ _ _ hRo' hF
 have k2 := list_keep (ds := a.defers) (K := K) (T := fun t => a.tmps[t]?) l1 { a with defers := [] } w (fun o ho => hds o (by simp [ho])) (fun _ _ => rfl) k1
 rw [<- e0] at k2
 refine Go.wpIn_seq (Go.wpIn_mono (wpIn_region_lit k2) ?_)
 rintro e a' w' ⟨a1,⟨s1,D1,φ1,hI1,hq1⟩,hk1⟩
 cases e with
 | normal =>
  obtain ⟨rfl,hkn⟩ := hk1 (by simp)
  have k3 := hq1 ro _ _ _ _ _ _ hRo' hI1
  have k4 := list_keep (ds := a.defers) (K := K) (T := fun t => a.tmps[t]?) l2 a1 w' (fun o ho => hds o (by simp [ho])) hkn k3
  refine Go.wpIn_seq (Go.wpIn_mono (wpIn_region_lit k4) ?_)
  rintro e a' w2 ⟨a2,⟨s2,D2,φ2,hI2,hq2⟩,hk2⟩
  cases e with
  | normal =>
   obtain ⟨rfl,hkm⟩ := hk2 (by simp)
   obtain ⟨i,hq2⟩ := hq2
   obtain ⟨φ3,hI3⟩ := Le.inv hq2 hI2
   obtain ⟨φ4,hI4⟩ := hI.thaw hI3 hkm (hN i)
   exact hr i ro W0 D0 D φ4 _ _ hRo hI4
  | _ => exact hq2.elim
 | _ => exact hq1.elim
end
end Go.Abs
