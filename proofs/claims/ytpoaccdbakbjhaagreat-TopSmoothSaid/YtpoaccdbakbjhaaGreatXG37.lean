/- Maps that only remember, whose entries are pure data; a variable that holds a closure which leads back to it. Both are known by their value. -/
import Derived.Test.YtpoaccdbakbjhaaGreatXG24
import Derived.Test.YtpoaccdbakbjhaaGreatXG31
import Derived.Test.YtpoaccdbakbjhaaGreatXG36
set_option linter.unusedVariables false
set_option linter.unusedSimpArgs false
namespace Go.Abs
open Go.RowKit
open Go.ChangeMaps (setBlock)
def MemoP (es:Array MapEntry) (f:Int -> PV) (w:World) (D:Nat -> Prop):Prop:=∀ e ∈ es.toList,∃ n,e.key = .int .i64 n /\ Rep w D e.val (f n)
theorem MemoP.mono {es:Array MapEntry} {f:Int -> PV} {w w':World} {D D':Nat -> Prop} (h:MemoP es f w D) (hw:∀ b,D b -> w'.heap[b]? = w.heap[b]?) (hD:∀ b,D b -> D' b):MemoP es f w' D':=fun e he=>by
 obtain ⟨n,h1,h2⟩:=h e he
 exact ⟨n,h1,h2.mono hw hD⟩
abbrev rawM (l:Nat):PV:=.raw (.map (some l))
abbrev rawB (q:Nat):PV:=.raw (.pointer (some ⟨q,0,none⟩))
def memoQ (f:Int -> PV) (l:Nat):Ext:=⟨[],l,fun _ B D w=>(∀ b,B b ↔ b = l) /\ ∃ es clock,w.heap[l]? = some (.map es clock) /\ MemoP es f w D⟩
def memoK (f:Int -> PV) (l q:Nat) (kp:PV):Ext:=⟨[],l,fun _ B D w=>(∀ b,B b ↔ b = l \/ b = q) /\ q ≠ l /\ (∃ es clock,w.heap[l]? = some (.map es clock) /\ MemoP es f w D) /\
 ∃ V e,w.heap[q]? = some (.cells #[V] e (0,0)) /\ V.oneCell' = true /\ Rep w D V kp⟩
abbrev memoQO (f:Int -> PV) (l:Nat):AObj:=.ext (memoQ f l) 0 (fun b=>b = l)
abbrev memoKO (f:Int -> PV) (l q:Nat) (kp:PV):AObj:=.ext (memoK f l q kp) 0 (fun b=>b = l \/ b = q)
theorem memoQ_mono (f:Int -> PV) (l:Nat):(memoQ f l).Mono:=fun k B D D' w w' h hD hw hB=>by
 obtain ⟨h1,es,clock,h2,h3⟩:=h
 exact ⟨h1,es,clock,by rw [hB l ((h1 l).2 rfl)]; exact h2,h3.mono hw hD⟩
theorem memoK_mono (f:Int -> PV) (l q:Nat) (kp:PV):(memoK f l q kp).Mono:=fun k B D D' w w' h hD hw hB=>by
 obtain ⟨h1,h0,⟨es,clock,h2,h3⟩,V,e,h4,h5,h6⟩:=h
 exact ⟨h1,h0,⟨es,clock,by rw [hB l ((h1 l).2 (.inl rfl))]; exact h2,h3.mono hw hD⟩,V,e,by rw [hB q ((h1 q).2 (.inr rfl))]; exact h4,h5,h6.mono hw hD⟩
def HasMemo (E:Ext) (f:Int -> PV):Prop:=∀ (B D:Nat -> Prop) (w:World),E.J 0 B D w -> ∃ es clock,w.heap[E.l]? = some (.map es clock) /\ MemoP es f w D /\
 ∀ es' clock',(∀ b,D b -> b ≠ E.l) -> MemoP es' f (setBlock w E.l (.map es' clock')) D -> E.J 0 B D (setBlock w E.l (.map es' clock'))
theorem setBlock_other {w:World} {l b:Nat} {o:Obj} (h:b ≠ l):(setBlock w l o).heap[b]? = w.heap[b]?:= by
 simp only [setBlock]; rw [Array.getElem?_setIfInBounds,if_neg (fun e=>h e.symm)]
theorem setBlock_same {w:World} {l:Nat} {o x:Obj} (h:w.heap[l]? = some x):(setBlock w l o).heap[l]? = some o:= by
 have:l < w.heap.size:=(Array.getElem?_eq_some_iff.1 h).1
 simp [setBlock,this]
theorem memoQ_has (f:Int -> PV) (l:Nat):HasMemo (memoQ f l) f:=fun B D w h=>by
 obtain ⟨h1,es,clock,h2,h3⟩:=h
 exact ⟨es,clock,h2,h3,fun es' clock' _ h4=>⟨h1,es',clock',setBlock_same h2,h4⟩⟩
theorem memoK_has (f:Int -> PV) (l q:Nat) (kp:PV):HasMemo (memoK f l q kp) f:=fun B D w h=>by
 obtain ⟨h1,h0,⟨es,clock,h2,h3⟩,V,e,h4,h5,h6⟩:=h
 refine ⟨es,clock,h2,h3,fun es' clock' hD h7=>⟨h1,h0,⟨es',clock',setBlock_same h2,h7⟩,V,e,?_,h5,?_⟩⟩
 ·exact (setBlock_other (w:=w) (o:=.map es' clock') h0).trans h4
 ·exact h6.mono (fun b hb=>setBlock_other (hD b hb)) (fun _ h=>h)
theorem findNow_keys {n:Int}:∀ (l:List MapEntry) (i:Nat),(∀ e ∈ l,∃ n,e.key = .int .i64 n) →
  Instr.findNow (.int .i64) (.int .i64 n) l i = some none \/ ∃ j e,Instr.findNow (.int .i64) (.int .i64 n) l i = some (some (i + j,e.val)) /\ l[j]? = some e /\ e.key = .int .i64 n
 | [],i,h=>.inl rfl
 | e :: l,i,h=>by
  obtain ⟨k,h1⟩:=h e (by simp)
  by_cases hk:n = k
  ·subst hk
   right
   refine ⟨0,e,?_,rfl,h1⟩
   simp [Instr.findNow,Instr.sameNow,h1]
  ·have hb:Instr.findNow (.int .i64) (.int .i64 n) (e :: l) i = Instr.findNow (.int .i64) (.int .i64 n) l (i + 1):= by
    have hnk:(n == k) = false:=by simpa using hk
    simp [Instr.findNow,Instr.sameNow,h1,hnk]
   rcases findNow_keys (n:=n) l (i + 1) (fun e he=>h e (by simp [he])) with q|⟨j,e',q2,q3,q4⟩
   ·exact .inl (by rw [hb]; exact q)
   ·exact .inr ⟨j + 1,e',by rw [hb,q2]; congr 3; omega,by simpa using q3,q4⟩
theorem run_update_memoP {P:Program} {t kt et:TypeId} (ht:P.underlying t = some (.map kt et)) (hk:P.underlying kt = some (.int .i64)) {w:World} {r:Nat} {es:Array MapEntry} {clock:Nat} {n:Int} {v:Value} (hr:w.heap[r]? = some (.map es clock)) (hM:∀ e ∈ es.toList,∃ n,e.key = .int .i64 n) :
  ∃ es' clock',(Instr.mapUpdate t (.map (some r)) (.int .i64 n) v).run P w = .ok () (setBlock w r (.map es' clock')) /\ ∀ e ∈ es'.toList,e ∈ es.toList \/ (e.key = .int .i64 n /\ e.val = v):= by
 have hset:∀ o',(setObj r o').run P w = .ok () (setBlock w r o'):=fun o'=>by simp [setObj,Sem.run,hr,setBlock]
 have hck:(Instr.checkKey false 10000 kt (.int .i64 n)).run P w = .ok () w:=MapKept.run_checkKey hk (by simp [MapKept.IsKey]) false 9999
 rcases findNow_keys (n:=n) es.toList 0 hM with q2|⟨j,e,q2,q3,q4⟩
 ·have hf:=MapKept.run_findKey (P:=P) (w:=w) hk q2
  refine ⟨es.push { key:=.int .i64 n,val:=v,born:=clock },clock + 1,?_,?_⟩
  ·simp [Instr.mapUpdate,underlying,ht,getObj,Sem.run,hr,hck,hf,hset]
   try simp [Sem.run_bind,hck,hf,hset]
  ·intro e he
   rw [Array.toList_push] at he
   rcases List.mem_append.1 he with he|he
   ·exact .inl he
   ·simp only [List.mem_singleton] at he; subst he; exact .inr ⟨rfl,rfl⟩
 ·have hf:=MapKept.run_findKey (P:=P) (w:=w) hk q2
  rw [Nat.zero_add] at hf
  have hj:es[j]? = some e:=by simpa using q3
  have hkey:(Instr.keyThatStays (.int .i64 n) (.int .i64 n)).run P w = .ok (.int .i64 n) w:=by simp [Instr.keyThatStays,Instr.sameBits]
  refine ⟨es.modify j (fun e=>{ e with key:=.int .i64 n,val:=v }),clock,?_,fun e' he'=>?_⟩
  ·simp [Instr.mapUpdate,underlying,ht,getObj,Sem.run,hr,hck,hf,hj,q4,hkey,hset]
   try simp [Sem.run_bind,hck,hf,hj,q4,hkey,hset]
  ·obtain ⟨i,hi⟩:=List.mem_iff_getElem?.1 he'
   have hi':(es.modify j (fun e=>{ e with key:=.int .i64 n,val:=v }))[i]? = some e':=by rw [Array.getElem?_toList] at hi; exact hi
   rw [Array.getElem?_modify] at hi'
   split at hi'
   ·rw [Option.map_eq_some_iff] at hi'
    obtain ⟨e2,_,rfl⟩:=hi'
    exact .inr ⟨rfl,rfl⟩
   ·exact .inl (List.mem_of_getElem? (by simpa using hi'))
section
variable {P:Program} {T:Nat -> Option TyI} {nt:Nat} {s:ASt} {o:Oper} {ops:Array Oper} {rest:List Oper} {Q:Exit -> ASt -> Prop} {c:Code}
variable {W0:World} {D0:Bas} {D:Nat -> Prop} {φ:Nat -> Value} {a:Act} {w:World}
theorem op_makeMemoQ (f:Int -> PV) {t:Nat} (ho:o.op = .makeMap t none) (hd:dstB nt o.dst = true):OpToS P nt o s (fun s'=>∃ l,s' = (s.newObj (memoQO f l)).putO o.dst (some (.pv (rawM l)))):= by
 intro ro W0 D0 D φ a w hI K Q hK
 have hrun:(execOp a.eval o).run P w = .ok (.value (.map (some w.heap.size))) (w.alloc (.map #[] 0)):= by
  simp [execOp,ho,Instr.makeMap]
 refine wpIn_of (by rw [ho]; intro c hc; cases hc) ?_
 unfold Oper.wp
 rw [hrun]
 have hbel:Below w.heap.size w (w.alloc (.map #[] 0)):=(Below.refl _ w).alloc (Nat.le_refl _) _
 have hN:Inv W0 D0 nt (s.newObj (memoQO f w.heap.size)) D (addH φ s.nxt (.map (some w.heap.size))) a (w.alloc (.map #[] 0)):= by
  refine hI.chg s.nxt (fun _=>False) (hbel.mono (Nat.zero_le _)) (fun b hlt _=>hbel.block b hlt) (fun _ h=>h) (fun b h=>.inl h) (fun id hid=>addH_old φ _ hid) (Nat.le_succ _) (fun t x hx=>hx) ?_ ?_
  ·intro id ob2 hne ho
   rw [ASt.obj_newObj,if_neg (fun e=>hne e.symm)] at ho
   exact ⟨fun hf=>hf,ho⟩
  ·intro ob2 ho
   rw [ASt.obj_newObj,if_pos rfl] at ho
   cases ho
   refine ⟨Nat.lt_succ_self _,rfl,⟨memoQ_mono f _,addH_new _ _ _,rfl,fun b=>Iff.rfl,#[],0,heap_alloc_new w _,fun e he=>by simp at he⟩,fun b hb=>?_⟩
   have hb:b = w.heap.size:=hb
   subst hb
   exact ⟨fun h=>Nat.lt_irrefl _ (hI.dlt _ h),by simp,.inl (Nat.le_refl _)⟩
 refine hK _ D _ _ _ ⟨w.heap.size,rfl⟩ (hN.put o.dst (dstB_lt hd) _ _ fun x' hx'=>?_)
 cases hx'
 exact ⟨by simp [FV.lt,ASt.newObj],.pv _ _ (.raw _ rfl)⟩
theorem op_updateMemoR {t kt et:TypeId} {x y z:Operand} {id:Nat} {E:Ext} {B:Nat -> Prop} {f:Int -> PV} {n:Int} {p:PV} (hE:HasMemo E f) (hu:P.underlying t = some (.map kt et)) (hkt:P.underlying kt = some (.int .i64)) (ho:o.op = .mapUpdate t x y z) (hd:dstB nt o.dst = true)
  (hx:s.ev x = some (.pv (rawM E.l))) (hob:s.obj id = some (.ext E 0 B)) (hy:s.ev y = some (.pv (.int .i64 n))) (hz:s.evD z = some p) (hp:p = f n):OpTo P nt o s (s.putO o.dst none):= by
 subst hp
 intro ro W0 D0 D φ a w hI K Q hK
 obtain ⟨hid,_,hmono,hφ,hBl,hJ⟩:=hI.objs id _ hob
 obtain ⟨es,clock,h2,h3,hkeep⟩:=hE B D w hJ
 have hv:a.eval x = .map (some E.l):=(hI.ev hx).2.inv_pv.inv_raw
 have hzr:=hI.evD hz
 obtain ⟨es',clock',hrun,hM⟩:=run_update_memoP (n:=n) (v:=a.eval z) hu hkt h2 (fun e he=>let ⟨n,h,_⟩:=h3 e he; ⟨n,h⟩)
 have hlD:∀ b,D b -> b ≠ E.l:=fun b hb e=>(hI.own id _ E.l hob hBl).1 (e ▸ hb)
 have hDs:∀ b,D b -> (setBlock w E.l (.map es' clock')).heap[b]? = w.heap[b]?:=fun b hb=>setBlock_other (hlD b hb)
 have hM2:MemoP es' f (setBlock w E.l (.map es' clock')) D:=fun e he=>by
  rcases hM e he with h|⟨h4,h5⟩
  ·obtain ⟨n',g1,g2⟩:=h3 e h
   exact ⟨n',g1,g2.mono hDs (fun _ h=>h)⟩
  ·exact ⟨n,h4,by rw [h5]; exact hzr.mono hDs (fun _ h=>h)⟩
 have hr:(execOp a.eval o).run P w = .ok .skip (setBlock w E.l (.map es' clock')) \/ ∃ v,(execOp a.eval o).run P w = .ok (.value v) (setBlock w E.l (.map es' clock')):= by
  simp only [execOp,ho,hv,hI.ev_int hy,Sem.run_bind,hrun,Result.andThen_ok,Sem.run_pure]
  first|exact .inl trivial|exact .inl rfl|exact .inr ⟨_,rfl⟩
 have hN:Inv W0 D0 nt s D φ a (setBlock w E.l (.map es' clock')):= by
  refine hI.chg id (fun j=>j = id) ⟨rfl,rfl,rfl,by simp [setBlock],fun k hk=>absurd hk (Nat.not_lt_zero _)⟩ ?_ (fun _ h=>h) (fun b' hb'=>.inl hb') (fun _ _=>rfl) (Nat.le_refl _) (fun t x hx=>hx) ?_ ?_
  ·intro b' _ hne
   exact setBlock_other (fun e=>hne id _ rfl hob (by show B b'; rw [e]; exact hBl))
  ·intro id' ob' hne ho'
   exact ⟨hne,ho'⟩
  ·intro ob' ho'
   rw [hob] at ho'
   cases ho'
   refine ⟨hid,rfl,⟨hmono,hφ,hBl,hkeep es' clock' hlD hM2⟩,fun b' hb'=>?_⟩
   obtain ⟨g1,g2,g3⟩:=hI.own id _ b' hob hb'
   exact ⟨g1,by simpa [setBlock] using g3,.inr ⟨id,_,rfl,hob,hb'⟩⟩
 refine wpIn_of (by rw [ho]; intro c hc; cases hc) ?_
 unfold Oper.wp
 rcases hr with hr|⟨v,hr⟩
 ·rw [hr]; exact hK D φ _ _ (hN.put o.dst (dstB_lt hd) undef none (fun _ h=>by cases h))
 ·rw [hr]; exact hK D φ _ _ (hN.put o.dst (dstB_lt hd) v none (fun _ h=>by cases h))
theorem op_lookMemoR {t kt et:TypeId} {x y:Operand} {id:Nat} {E:Ext} {B:Nat -> Prop} {f:Int -> PV} {n:Int} {z:PV} {zv:Value} (hE:HasMemo E f) (hu:P.underlying t = some (.map kt et)) (hkt:P.underlying kt = some (.int .i64)) (hzr:∀ w,(zeroValue et).run P w = .ok zv w) (hrz:∀ w D,Rep w D zv z) (ho:o.op = .lookup t x y true) (hd:dstB nt o.dst = true)
  (hx:s.ev x = some (.pv (rawM E.l))) (hob:s.obj id = some (.ext E 0 B)) (hy:s.ev y = some (.pv (.int .i64 n))) :
  OpToS P nt o s (fun s'=>s' = s.putO o.dst (some (.tup [.pv (f n),.pv (.bool true)])) \/ s' = s.putO o.dst (some (.tup [.pv z,.pv (.bool false)]))):= by
 intro ro W0 D0 D φ a w hI K Q hK
 obtain ⟨hid,_,hmono,hφ,hBl,hJ⟩:=hI.objs id _ hob
 obtain ⟨es,clock,h2,h3,hkeep⟩:=hE B D w hJ
 have hv:a.eval x = .map (some E.l):=(hI.ev hx).2.inv_pv.inv_raw
 have hck:(Instr.checkKey es.isEmpty 10000 kt (.int .i64 n)).run P w = .ok () w:=MapKept.run_checkKey hkt (by simp [MapKept.IsKey]) es.isEmpty 9999
 refine wpIn_of (by rw [ho]; intro c hc; cases hc) ?_
 unfold Oper.wp
 rcases findNow_keys (n:=n) es.toList 0 (fun e he=>let ⟨n,h,_⟩:=h3 e he; ⟨n,h⟩) with q2|⟨j,e,q2,q3,q4⟩
 ·have hf:=MapKept.run_findKey (P:=P) (w:=w) hkt q2
  have hr:(execOp a.eval o).run P w = .ok (.value (.tuple #[zv,.bool false])) w:= by
   simp [execOp,ho,hv,hI.ev_int hy,Instr.lookup,underlying,hu,getObj,Sem.run,h2,hck,hf,hzr w]
   try simp [Sem.run_bind,hck,hf,hzr w]
  rw [hr]
  refine hK _ D φ _ w (.inr rfl) (hI.put o.dst (dstB_lt hd) _ _ fun x' hx'=>?_)
  cases hx'
  refine ⟨rfl,.tup _ _ rfl fun j v p hv hp=>?_⟩
  match j with
  | 0=>simp at hv hp; subst hv; subst hp; exact .pv _ _ (hrz w D)
  | 1=>simp at hv hp; subst hv; subst hp; exact .pv _ _ (.bool _)
  | j + 2=>simp at hp
 ·have hf:=MapKept.run_findKey (P:=P) (w:=w) hkt q2
  have hr:(execOp a.eval o).run P w = .ok (.value (.tuple #[e.val,.bool true])) w:= by
   simp [execOp,ho,hv,hI.ev_int hy,Instr.lookup,underlying,hu,getObj,Sem.run,h2,hck,hf]
   try simp [Sem.run_bind,hck,hf]
  rw [hr]
  obtain ⟨n',g1,g2⟩:=h3 e (List.mem_of_getElem? q3)
  have hn:n' = n:=by rw [q4] at g1; cases g1; rfl
  subst hn
  refine hK _ D φ _ w (.inl rfl) (hI.put o.dst (dstB_lt hd) _ _ fun x' hx'=>?_)
  cases hx'
  refine ⟨rfl,.tup _ _ rfl fun j v p hv hp=>?_⟩
  match j with
  | 0=>simp at hv hp; subst hv; subst hp; exact .pv _ _ g2
  | 1=>simp at hv hp; subst hv; subst hp; exact .pv _ _ (.bool _)
  | j + 2=>simp at hp
theorem op_callExt {x:Operand} {g id:Nat} {E:Ext} {B:Nat -> Prop} {args:Array Operand} {ts:Array TypeId} {caps ys xs:List FV} {r:FV} (hrr:∀ ρ,r.ren ρ = r) (hrl:∀ n,r.lt n = true) (ho:o.op = .call { callee:=.value x,args,argTypes:=ts }) (hd:dstB nt o.dst = true) (hf:s.calleeX x = some (g,caps)) (ha:evL s args.toList = some ys) (hx:argsX s [(0,id)] (ys ++ caps) xs)
  (hxl:FV.ltL 1 xs = true) (hob:s.obj id = some (.ext E 0 B)) (hc:ACallsX P g xs [(0,.ext E 0 B)] 1 (fun sf=>sf = mkSt [(0,r)] [(0,.ext E 0 B)] 1) (fun _ _=>False)):OpTo P nt o s (s.putO o.dst (some r)):= by
 intro ro W0 D0 D φ a w hI K Q hK
 refine op_callXs (objs:=[(0,.ext E 0 B)]) (n:=1) [(0,id)] [0] [] (fun av=>hc) ho hd (caps:=caps) (g:=g) (ys:=ys) hf ha hx hxl ⟨hob,Nat.zero_lt_one,rfl,trivial⟩ rfl trivial (by simp)
  (fun av sf h=>by subst h; exact ⟨.inr ⟨_,_,_,_,_,rfl,hob⟩,trivial⟩) ro W0 D0 D φ a w hI K Q ?_
 rintro s' D' φ' a' w' ⟨av,sf,rfl,rfl⟩ hI'
 have hnl:∀ t x,(s.putO o.dst (some r)).get t = some x -> x.lt s.nxt = true:=fun t x ht=>by
  cases hdd:o.dst with
  | none=>rw [hdd] at ht; exact (hI.env t x ht).1
  | some d =>
   rw [hdd] at ht
   simp only [ASt.putO,ASt.get_put] at ht
   split at ht
   ·cases ht; exact hrl _
   ·exact (hI.env t x ht).1
 have hn:∀ (d:Option Nat),(s.putO d (some r)).nxt = s.nxt:=fun d=>by cases d <;> rfl
 have hob2:∀ (d:Option Nat) i,(s.putO d (some r)).obj i = s.obj i:=fun d i=>by cases d <;> rfl
 refine hK D' φ' a' w' (hI'.weaken (s':=s.putO o.dst (some r)) ?_ ?_ ?_ ?_)
 ·intro t x ht
  have hg0:(mkSt [(0,r)] [(0,.ext E 0 B)] 1).get 0 = some r:=rfl
  cases hdd:o.dst with
  | none=>rw [hdd] at ht; exact ht
  | some d =>
   rw [hdd] at ht
   rw [hg0,Option.map_some,hrr]
   exact ht
 ·intro i ob hi
  rw [hob2] at hi
  have:∀ (d:Option Nat) (y:Option FV),((afterX s [(0,id)] [0] [0] (mkSt [(0,r)] [(0,.ext E 0 B)] 1)).putO d y).obj i = if id = i then some (.ext E 0 B) else if id = i then none else s.obj i:=fun d y=>by
   have e:((afterX s [(0,id)] [0] [0] (mkSt [(0,r)] [(0,.ext E 0 B)] 1)).putO d y).obj i = look ((id,some (.ext E 0 B)) :: (id,none) :: s.objs) i:=by cases d <;> rfl
   rw [e]
   by_cases h:id = i
   ·subst h; simp [look_cons_eq]
   ·rw [look_cons_ne _ _ h,look_cons_ne _ _ h,if_neg h,if_neg h]; rfl
  show ((afterX s [(0,id)] [0] [0] (mkSt [(0,r)] [(0,.ext E 0 B)] 1)).putO o.dst _).obj i = some ob
  rw [this]
  by_cases h:id = i
  ·subst h; rw [if_pos rfl]; rw [hob] at hi; exact hi
  ·rw [if_neg h,if_neg h]; exact hi
 ·intro t x ht; rw [hn]; exact hnl t x ht
 ·intro i ob hi
  rw [hob2] at hi
  rw [hn]
  exact ⟨(hI.objs i ob hi).1,(hI.objs i ob hi).2.1⟩
theorem D_callExt {x:Operand} {g id:Nat} {E:Ext} {B:Nat -> Prop} {args:Array Operand} {ts:Array TypeId} {caps ys xs:List FV} {r:FV} (hrr:∀ ρ,r.ren ρ = r) (hrl:∀ n,r.lt n = true) (hg:guardT ops s o = true) (ho:o.op = .call { callee:=.value x,args,argTypes:=ts }) (hd:dstB nt o.dst = true) (hf:s.calleeX x = some (g,caps)) (ha:evL s args.toList = some ys) (hx:∀ s1:ASt,argsX s1 [(0,id)] (ys ++ caps) xs)
  (hxl:FV.ltL 1 xs = true) (hob:s.obj id = some (.ext E 0 B)) (hc:ACallsX P g xs [(0,.ext E 0 B)] 1 (fun sf=>sf = mkSt [(0,r)] [(0,.ext E 0 B)] 1) (fun _ _=>False)):StepOK P nt ops o s ⟨some r,false,[id],[]⟩ (s.putO o.dst (some r)) :=
 StepOK.mkP hg fun s1 h1 h2=>op_callExt hrr hrl ho hd (by unfold ASt.calleeX at hf ⊢; rw [ev_agree h1 (by simp [ho,Op.operands,Call.operands])]; exact hf) (by rw [evL_agree fun x hx=>ev_agree h1 (by simp [ho,Op.operands,Call.operands]; right; simpa using hx)]; exact ha) (hx s1) hxl (by rw [h2 id (by simp)]; exact hob) hc
theorem op_loadKnot {t:Nat} {x:Operand} {i:TyI} {id l q:Nat} {f:Int -> PV} {kp:PV} {B:Nat -> Prop} (hT:TabOK P T) (ho:o.op = .load t x) (hd:dstB nt o.dst = true) (ht:T t = some i) (hag:i.agg = false) (hsz:Nat.beq i.size 1 = true) (hx:s.ev x = some (.pv (rawB q))) (hob:s.obj id = some (.ext (memoK f l q kp) 0 B)):OpTo P nt o s (s.putO o.dst (some (.pv kp))) :=
 OpTo.value hd fun W0 D0 D φ a w hI=>by
  obtain ⟨hid,_,hmono,hφ,hBl,h1,h0,_,V,e,h4,h5,h6⟩:=hI.objs id _ hob
  have hv:a.eval x = .pointer (some ⟨q,0,none⟩):=(hI.ev hx).2.inv_pv.inv_raw
  have hs1:=Nat.eq_of_beq_eq_true hsz
  have hrun:=run_loadVar (hT.ty ht) w ⟨q,0,none⟩ (fun _=>V) (fun j hj=>by
   have hj0:j = 0:=by simp [hag] at hj; omega
   subst hj0
   rw [addr_add]
   simp [World.cell?,h4])
  refine ⟨_,by simp only [execOp,ho,hv,Instr.loadAt,Instr.sureAddr,Sem.run_bind,Sem.run_pure,Result.andThen_ok,hrun]; rfl,?_⟩
  intro x' hx'; cases hx'
  refine ⟨rfl,?_⟩
  rw [hag]
  exact .pv _ _ h6
theorem D_loadKnot {t:Nat} {x:Operand} {i:TyI} {id l q:Nat} {f:Int -> PV} {kp:PV} {B:Nat -> Prop} (hT:TabOK P T) (hg:guardT ops s o = true) (ho:o.op = .load t x) (hd:dstB nt o.dst = true) (ht:T t = some i) (hag:i.agg = false) (hsz:Nat.beq i.size 1 = true) (hx:s.ev x = some (.pv (rawB q))) (hob:s.obj id = some (.ext (memoK f l q kp) 0 B)) :
  StepOK P nt ops o s ⟨some (.pv kp),false,[id],[]⟩ (s.putO o.dst (some (.pv kp))) :=
 StepOK.mkP hg fun s1 h1 h2=>op_loadKnot hT ho hd ht hag hsz (by rw [ev_agree h1 (by simp [ho,Op.operands])]; exact hx) (by rw [h2 id (by simp)]; exact hob)
theorem Inv.boxPtr (hI:Inv W0 D0 nt s D φ a w) {t id:Nat} {ps:List PV} (hx:s.get t = some (.box id 0)) (hob:s.obj id = some (.box (ps.map .pv))):∃ D',Inv W0 D0 nt ((s.setObj id none).put t (some (.pv (.ptr ps)))) D' φ a w:= by
 obtain ⟨hid,_,b,vs,e,h1,h2,h3,h4⟩:=hI.objs id _ hob
 have hbk:oblk φ id (.box (ps.map .pv)) b:=by show blk (φ id) = some b; rw [h1]; rfl
 have hown:=hI.own id _ b hob hbk
 have hmid:Inv W0 D0 nt (s.setObj id none) (fun x=>D x \/ x = b) φ a w:= by
  refine hI.chg id (fun j=>j = id) (Below.refl _ _) (fun _ _ _=>rfl) (fun _ h=>.inl h) ?_ (fun _ _=>rfl) (Nat.le_refl _) (fun t x hx=>hx) ?_ ?_
  ·rintro b' (hb'|rfl)
   ·exact .inl hb'
   ·exact .inr ⟨hown.2.2,.inr ⟨id,_,rfl,hob,hbk⟩⟩
  ·intro id' ob hne ho
   rw [ASt.obj_setObj,if_neg (fun e=>hne e.symm)] at ho
   exact ⟨hne,ho⟩
  ·intro ob ho
   rw [ASt.obj_setObj,if_pos rfl] at ho; cases ho
 refine ⟨_,⟨hmid.below,hmid.size,hmid.defers_of (fun id ob h=>h),hmid.dlt,hmid.dof,hmid.d0,?_,fun id ob h=>hmid.objs id ob h,fun id ob b h=>hmid.own id ob b h,fun id ob id' ob' b h h'=>hmid.sep id ob id' ob' b h h'⟩⟩
 intro t' x' hg'
 rw [ASt.get_put] at hg'
 by_cases ht:t = t'
 ·subst ht
  rw [if_pos rfl] at hg'
  cases hg'
  obtain ⟨_,v,hv,hr⟩:=hI.env t _ hx
  refine ⟨rfl,v,hv,?_⟩
  generalize hq:FV.box id 0 = q at hr
  cases hr <;> cases hq
  rename_i b' hφ
  rw [h1] at hφ; cases hφ
  have hcell:∀ j,j < ps.length -> w.cell? ((⟨b,0,none⟩:Addr).add j) = some (vs.getD j undef):= by
   intro j hj
   have:j < vs.size:=by rw [h3]; simpa using hj
   rw [addr_add]
   simp [World.cell?,h2,this]
  refine .pv _ _ (.ptr ⟨b,0,none⟩ ps (fun j=>vs.getD j undef) (.inr rfl) hcell (fun j p hp=>?_) (fun j p hp=>?_))
  ·have hj:j < vs.size:=by rw [h3]; have:=(List.getElem?_eq_some_iff.1 hp).1; simpa using this
   exact (h4 j vs[j] (.pv p) (by simp [hj]) (by rw [List.getElem?_map,hp]; rfl)).1
  ·have hj:j < vs.size:=by rw [h3]; have:=(List.getElem?_eq_some_iff.1 hp).1; simpa using this
   have:=(h4 j vs[j] (.pv p) (by simp [hj]) (by rw [List.getElem?_map,hp]; rfl)).2.inv_pv
   rw [show vs.getD j undef = vs[j] by simp [hj]]
   exact this.mono (fun _ _=>rfl) (fun _ h=>.inl h)
 ·rw [if_neg ht] at hg'
  exact hmid.env t' x' hg'
theorem AW_boxPtr (t:Nat) {id:Nat} {ps:List PV} (hx:s.get t = some (.box id 0)) (hob:s.obj id = some (.box (ps.map .pv))) (h:AW P nt c Q ((s.setObj id none).put t (some (.pv (.ptr ps))))):AW P nt c Q s:=fun ro W0 D0 D φ a w hr hI=>by
 obtain ⟨D',hI'⟩:=hI.boxPtr hx hob
 exact h ro W0 D0 D' φ a w hr hI'
theorem Inv.knot (hI:Inv W0 D0 nt s D φ a w) {t b m l:Nat} {g:FuncId} {f:Int -> PV} {A C:List PV} (hbm:Nat.beq b m = false) (hx:s.get t = some (.box b 0)) (hb:s.obj b = some (.box [.fn g (A.map .pv ++ .box b 0 :: C.map .pv)])) (hm:s.obj m = some (memoQO f l)) :
  ∃ q,Inv W0 D0 nt (((s.setObj b none).setObj m (some (memoKO f l q (.fn g (A ++ rawB q :: C))))).put t (some (.pv (rawB q)))) D φ a w:= by
 have hbm':b ≠ m:=fun e=>by subst e; simp at hbm
 obtain ⟨hbn,_,q,vs,e,h1,h2,h3,h4⟩:=hI.objs b _ hb
 obtain ⟨hmn,_,g1,g2,g3,g4,es,clock,g5,g6⟩:=hI.objs m _ hm
 have hbk:oblk φ b (.box [.fn g (A.map .pv ++ .box b 0 :: C.map .pv)]) q:=by show blk (φ b) = some q; rw [h1]; rfl
 have hql:q ≠ l:=fun e=>hbm' (hI.sep b _ m _ q hb hm hbk (by show q = l; exact e))
 have hvs:0 < vs.size:=by rw [h3]; exact Nat.one_pos
 obtain ⟨hlf,hr⟩:=h4 0 vs[0] _ (by simp [hvs]) rfl
 have hV:Rep w D vs[0] (.fn g (A ++ rawB q :: C)):= by
  generalize vs[0] = V at hr
  generalize hcs:A.map FV.pv ++ .box b 0 :: C.map .pv = cs at hr
  generalize hx:FV.fn g cs = x at hr
  cases hr <;> cases hx
  rename_i us hl hrr
  subst hcs
  refine .fn g us _ (by rw [hl]; simp) fun j v p hv hp=>?_
  have hcj:∀ y,(A.map FV.pv ++ .box b 0 :: C.map .pv)[j]? = some y -> FRep w D φ v y:=fun y hy=>hrr j v y hv hy
  rcases Nat.lt_trichotomy j A.length with hj|hj|hj
  ·rw [List.getElem?_append_left hj] at hp
   have:=hcj (.pv p) (by rw [List.getElem?_append_left (by simpa using hj),List.getElem?_map,hp]; rfl)
   exact this.inv_pv
  ·subst hj
   rw [List.getElem?_append_right (Nat.le_refl _),Nat.sub_self] at hp
   simp only [List.getElem?_cons_zero,Option.some.injEq] at hp
   subst hp
   have:=hcj (.box b 0) (by rw [List.getElem?_append_right (by simp)]; simp)
   generalize hq:FV.box b 0 = z at this
   cases this <;> cases hq
   rename_i b' hφ
   rw [h1] at hφ; cases hφ
   exact .raw _ rfl
  ·obtain ⟨j',rfl⟩:∃ j',j = A.length + 1 + j':=⟨j - (A.length + 1),by omega⟩
   rw [List.getElem?_append_right (by omega),show A.length + 1 + j' - A.length = j' + 1 by omega,List.getElem?_cons_succ] at hp
   have:=hcj (.pv p) (by rw [List.getElem?_append_right (by simp; omega),List.length_map,show A.length + 1 + j' - A.length = j' + 1 by omega,List.getElem?_cons_succ,List.getElem?_map,hp]; rfl)
   exact this.inv_pv
 have hvs1:vs = #[vs[0]]:= by
  apply Array.ext
  ·rw [h3]; rfl
  ·intro i p1 p2
   have:i = 0:=by simp at p2; exact p2
   subst this; rfl
 have hmid:Inv W0 D0 nt ((s.setObj b none).setObj m (some (memoKO f l q (.fn g (A ++ rawB q :: C))))) D φ a w:= by
  refine hI.chg m (fun j=>j = m \/ j = b) (Below.refl _ _) (fun _ _ _=>rfl) (fun _ h=>h) (fun b hb=>.inl hb) (fun _ _=>rfl) (Nat.le_refl _) (fun t x hx=>hx) ?_ ?_
  ·intro id ob hid ho
   rw [ASt.obj_setObj,if_neg (fun e=>hid e.symm),ASt.obj_setObj] at ho
   split at ho
   ·cases ho
   ·rename_i hri; exact ⟨fun h=>h.elim hid (fun h=>hri h.symm),ho⟩
  ·intro ob ho
   rw [ASt.obj_setObj,if_pos rfl] at ho
   cases ho
   refine ⟨hmn,rfl,⟨memoK_mono _ _ _ _,g2,.inl rfl,fun b=>Iff.rfl,hql,⟨es,clock,g5,g6⟩,vs[0],e,by rw [<- hvs1]; exact h2,?_,hV⟩,fun b' hb'=>?_⟩
   ·exact hr.oneCell hlf
   ·rcases hb' with hb'|hb'
    ·have hk:oblk φ m (memoQO f l) b':=hb'
     obtain ⟨z1,z2,z3⟩:=hI.own m _ b' hm hk
     exact ⟨z1,z3,.inr ⟨m,_,.inl rfl,hm,hk⟩⟩
    ·subst hb'
     obtain ⟨z1,z2,z3⟩:=hI.own b _ b' hb hbk
     exact ⟨z1,z3,.inr ⟨b,_,.inr rfl,hb,hbk⟩⟩
 refine ⟨q,hmid.below,hmid.size,hmid.defers_of (fun id ob h=>h),hmid.dlt,hmid.dof,hmid.d0,?_,fun id ob h=>hmid.objs id ob h,fun id ob b h=>hmid.own id ob b h,fun id ob id' ob' b h h'=>hmid.sep id ob id' ob' b h h'⟩
 intro t' x' hg'
 rw [ASt.get_put] at hg'
 by_cases ht:t = t'
 ·subst ht
  rw [if_pos rfl] at hg'
  cases hg'
  obtain ⟨_,v,hv,hrr⟩:=hI.env t _ hx
  refine ⟨rfl,v,hv,?_⟩
  generalize hq:FV.box b 0 = z at hrr
  cases hrr <;> cases hq
  rename_i b' hφ
  rw [h1] at hφ; cases hφ
  exact .pv _ _ (.raw _ rfl)
 ·rw [if_neg ht] at hg'
  exact hmid.env t' x' hg'
end
end Go.Abs
namespace Go.Abs
open Go.Proofs
set_option maxRecDepth 100000
theorem nils_rep {w:World} {D:Nat -> Prop} {φ:Nat -> Value} {v:Value} (h:FRep w D φ v .nils):FRep w D φ v (.pv (.sl [])):= by
 rw [inv_nils h]
 exact .pv _ _ (.sl none 0 0 0 [] (fun _ _=>undef) rfl (Nat.le_refl _) (by decide) (by simp) (by intro i j hi; omega) (by simp) (by simp))
theorem AL_aggNil {P:Program} {nt:Nat} {s:ASt} {ops:Array Oper} {rest:List Oper} {Q:Exit -> ASt -> Prop} {t:Nat} {p:PV} (hx:s.get t = some (.agg [.nils,.pv p])) (h:AL P nt ops rest Q (s.put t (some (.agg [.pv (.sl []),.pv p])))):AL P nt ops rest Q s:= by
 intro ro W0 D0 D φ a w hr hI
 refine h ro W0 D0 D φ a w hr (hI.reread hx fun v hlt hv=>⟨rfl,?_⟩)
 generalize hq:FV.agg [.nils,.pv p] = x at hv
 cases hv <;> cases hq
 rename_i vs hl hr
 refine .agg vs _ hl fun j u y hu hy=>?_
 match j with
 | 0=>simp only [List.getElem?_cons_zero,Option.some.injEq] at hy; subst hy; exact nils_rep (hr 0 u .nils hu rfl)
 | 1=>simp only [List.getElem?_cons_succ,List.getElem?_cons_zero,Option.some.injEq] at hy; subst hy; exact hr 1 u _ hu rfl
 | j + 2=>simp at hy
abbrev cutF (x:Cut):FV:=.agg [.pv (eBlanks x.blanks),.pv (vi x.worth)]
def cutV0:Value:=.agg #[.slice none 0 0,.int .i64 0]
theorem zero122 (w:World):(zeroValue 122).run Tryz.prog w = .ok cutV0 w:=rfl
theorem cut0_rep (w:World) (D:Nat -> Prop):Rep w D cutV0 (eC ⟨[],0⟩):=.agg _ _ rfl fun j v p hv hp=>by
 match j with
 | 0=>simp at hv; simp [eCut] at hp; subst hv; subst hp; exact .sl none 0 0 0 [] (fun _ _=>undef) rfl (Nat.le_refl _) (by decide) (by simp) (by intro i j hi; omega) (by simp) (by simp)
 | 1=>simp at hv; simp [eCut] at hp; subst hv; subst hp; exact .int _ _
 | j + 2=>simp [eCut] at hp
def memF (w:Work) (row wide:Int) (n:Int):PV:=eC (fromM w row wide n.toNat)
def knotP (w:Work) (row wide:Int) (l q:Nat):PV:=.fn 173 [.ptr (eBndC w (thickM w.map)),.ptr [rawM l],rawB q,.ptr [vi row],.ptr [vi wide]]
abbrev knotA (w:Work) (row wide:Int) (l q:Nat) (c:Int):List FV:=[.pv (vi c),.pv (.ptr (eBndC w (thickM w.map))),.pv (.ptr [rawM l]),.pv (rawB q),.pv (.ptr [vi row]),.pv (.ptr [vi wide])]
abbrev knotO (w:Work) (row wide:Int) (l q:Nat):AObj:=memoKO (memF w row wide) l q (knotP w row wide l q)
def allK (w:Work) (row wide:Int) (c k:Nat):List Cut:=fromM w row wide (c + 1) :: ((optsM w row wide c).take k).map fun b=>thenC (oneC w b) (fromM w row wide (c + wide.toNat))
theorem allK_succ {w:Work} {row wide:Int} {c k:Nat} {b:Blank} (h:(optsM w row wide c)[k]? = some b):allK w row wide c (k + 1) = allK w row wide c k ++ [thenC (oneC w b) (fromM w row wide (c + wide.toNat))]:= by
 rw [allK,allK,List.take_add_one,h]; simp
abbrev bnO (w:Work) (row wide:Int) (l q:Nat) (c:Nat) (av:Nat -> Value) (L:List Cut):List (Nat × AObj):=[(0,knotO w row wide l q),(1,.box [.pv (vi c)]),(2,.box [.nils,.pv (vi 0)]),(4,.arr 122 2 (L.map eCut)),(5,.box [.arr 4]),
 (6,.anc (av 1) (.pv (.ptr (eBndC w (thickM w.map))))),(7,.anc (av 2) (.pv (.ptr [rawM l]))),(8,.anc (av 3) (.pv (rawB q))),(9,.anc (av 5) (.pv (.ptr [vi wide]))),(10,.anc (av 6) (.box 1 0)),(11,.anc (av 7) (.box 2 0)),(12,.anc (av 10) (.box 5 0))]
set_option maxHeartbeats 8000000 in
theorem t173 (w:Work) (hw:WorkP w) (t:List (List Int)) (hs:sizedT w.map t = true) (hf:fitsT w.map t = true) (row wide:Int) (hwd:1 <= wide /\ wide <= 3) (l q:Nat):∀ (d c:Nat),colsN w.map - c <= d -> c <= colsN w.map + 3 →
  ACallsX Tryz.prog 173 (knotA w row wide l q c) [(0,knotO w row wide l q)] 1 (fun sf=>sf = mkSt [(0,cutF (fromM w row wide c))] [(0,knotO w row wide l q)] 1) (fun _ _=>False)
 | 0,c,h,hc3=>by
  have h8:=hw.map.c8
  have k174:=t174 w hw (thickM w.map)
  rw [fromM_out (by omega)]
  refine ACallsX.of_body hT Tryz.func173 rfl (by kernel_rfl) rfl ?_
  (repeat (refine stq ?_))
  (repeat' (first|refine DG_next (StepOK.skipU rfl rfl) ?_|((refine DG_cmp hT rfl (fun hg=>?_) (fun hg=>?_)) <;> (try (exfalso; omega)))|refine DG_next (D_shl rfl rfl rfl rfl rfl (by omega)) ?_|refine DG_next (D_shr rfl rfl rfl rfl rfl (by omega)) ?_|refine sdq ?_|((refine DG_callC (D_call rfl rfl rfl rfl rfl (k174)) (fun hg=>?_) (fun hg=>?_)) <;> (try (exfalso; first|contradiction|omega)))|refine DG_next (D_call rfl rfl rfl rfl rfl (k174)) ?_))
  all_goals (try (exfalso; omega))
  refine DG_end hM (by kernel_rfl) ?_
  iterate 5 (refine stq ?_)
  refine AL_aggNil (t:=18) rfl ?_
  (repeat (refine stq ?_))
  refine ⟨_,mkSt [(0,cutF ⟨[],0⟩)] [(0,knotO w row wide l q)] 1,rfl,?_,rfl⟩
  (refine Le.mk ?_ ?_; all_goals (repeat' (first|exact trivial|refine sle ?_|refine ⟨?_,rfl,?_⟩|refine ⟨?_,by decide,rfl,?_⟩|fail)))
 | d + 1,c,h,hc3=>by
  have h8:=hw.map.c8
  have k174:=t174 w hw (thickM w.map)
  by_cases hc:colsN w.map <= c
  ·rw [fromM_out hc]
   refine ACallsX.of_body hT Tryz.func173 rfl (by kernel_rfl) rfl ?_
   (repeat (refine stq ?_))
   (repeat' (first|refine DG_next (StepOK.skipU rfl rfl) ?_|((refine DG_cmp hT rfl (fun hg=>?_) (fun hg=>?_)) <;> (try (exfalso; omega)))|refine DG_next (D_shl rfl rfl rfl rfl rfl (by omega)) ?_|refine DG_next (D_shr rfl rfl rfl rfl rfl (by omega)) ?_|refine sdq ?_|((refine DG_callC (D_call rfl rfl rfl rfl rfl (k174)) (fun hg=>?_) (fun hg=>?_)) <;> (try (exfalso; first|contradiction|omega)))|refine DG_next (D_call rfl rfl rfl rfl rfl (k174)) ?_))
   all_goals (try (exfalso; omega))
   refine DG_end hM (by kernel_rfl) ?_
   iterate 5 (refine stq ?_)
   refine AL_aggNil (t:=18) rfl ?_
   (repeat (refine stq ?_))
   refine ⟨_,mkSt [(0,cutF ⟨[],0⟩)] [(0,knotO w row wide l q)] 1,rfl,?_,rfl⟩
   (refine Le.mk ?_ ?_; all_goals (repeat' (first|exact trivial|refine sle ?_|refine ⟨?_,rfl,?_⟩|refine ⟨?_,by decide,rfl,?_⟩|fail)))
  ·have ih1:=t173 w hw t hs hf row wide hwd l q d (c + 1) (by omega) (by omega)
   have ih2:=t173 w hw t hs hf row wide hwd l q d (c + wide.toNat) (by omega) (by omega)
   refine ACallsX.of_body hT Tryz.func173 rfl (by kernel_rfl) rfl ?_
   (repeat (refine stq ?_))
   (repeat' (first|refine DG_next (StepOK.skipU rfl rfl) ?_|((refine DG_cmp hT rfl (fun hg=>?_) (fun hg=>?_)) <;> (try (exfalso; omega)))|refine DG_next (D_shl rfl rfl rfl rfl rfl (by omega)) ?_|refine DG_next (D_shr rfl rfl rfl rfl rfl (by omega)) ?_|refine sdq ?_|((refine DG_callC (D_call rfl rfl rfl rfl rfl (k174)) (fun hg=>?_) (fun hg=>?_)) <;> (try (exfalso; first|contradiction|omega)))|refine DG_next (D_call rfl rfl rfl rfl rfl (k174)) ?_))
   all_goals (try (exfalso; omega))
   refine DG_end hM (by kernel_rfl) ?_
   (repeat (refine stq ?_))
   refine AL_doS rfl (op_lookMemoR (id:=0) (memoK_has (memF w row wide) l q (knotP w row wide l q)) und263 und3 zero122 cut0_rep rfl rfl rfl rfl rfl) ?_
   rintro s' (rfl|rfl)
   ·(repeat (refine stq ?_))
    refine ⟨_,mkSt [(0,cutF (fromM w row wide c))] [(0,knotO w row wide l q)] 1,rfl,?_,rfl⟩
    (refine Le.mk ?_ ?_; all_goals (repeat' (first|exact trivial|refine sle ?_|refine ⟨?_,rfl,?_⟩|refine ⟨?_,by decide,rfl,?_⟩|fail)))
   ·have hstep:=fromM_step (w:=w) (row:=row) hwd.1 (c:=c) (by omega)
    have hit:=it202 w hw t hs hf row wide c
    have k175:=t175 w (thickM w.map) row wide c
    have hb1:=fromM_band hw hs hf (row:=row) hwd.1 _ (c + 1) (Nat.le_refl _)
    have hb2:=fromM_band hw hs hf (row:=row) hwd.1 _ (c + wide.toNat) (Nat.le_refl _)
    have l1:=hb1.len; have l2:=hb2.len; have w2:=hb2.w0; have w3:=hb2.w1
    have hol:=opts_len w row wide c w.tubes.length
    have h4:=hw.t4
    rw [show ((c + 1:Nat):Int) = (c:Int) + 1 by omega] at ih1
    rw [show ((c + wide.toNat:Nat):Int) = (c:Int) + wide by omega] at ih2
    (repeat (refine stq ?_))
    refine AL_do2 rfl ⟨_,op_loadKnot (id:=0) hT rfl rfl rfl rfl rfl rfl rfl,?_⟩
    (repeat (refine stq ?_))
    refine AL_do2 rfl ⟨_,op_callExt (id:=0) (fun _=>rfl) (fun _=>rfl) rfl rfl rfl rfl (by (repeat' (first|exact trivial|refine And.intro ?_ ?_)); all_goals (first|rfl|decide)) rfl rfl ih1,?_⟩
    (repeat' (first|refine stq ?_|(refine AL_do2 rfl ?_; first|refine ⟨_,op_call1 rfl rfl rfl rfl (k175),nrmA rfl ?_⟩)|(with_reducible refine AL_id ?_); (fail_if_success (refine glq rfl rfl rfl ?_)); first|refine AL_gdec rfl rfl rfl (fun hg=>?_) (fun hg=>?_)|refine AL_gnot rfl rfl rfl (fun hg=>?_) (fun hg=>?_)|refine AL_gcases rfl rfl rfl (fun hg=>?_) (fun hg=>?_)))
    refine AW_range (gf:=202) (caps:=[.ptr (eBndC w (thickM w.map)),.ptr [vi row],.ptr [vi c],.ptr [vi wide]]) (L:=(optsM w row wide c).map (optY w)) [1,2,3,5,6,7,10] [(1,.pv (.ptr (eBndC w (thickM w.map)))),(2,.pv (.ptr [rawM l])),(3,.pv (rawB q)),(5,.pv (.ptr [vi wide])),(6,.box 1 0),(7,.box 2 0),(10,.box 5 0)]
     (fun av k (_:Unit)=>bnO w row wide l q c av (allK w row wide c k)) (fun _ _=>True) 13 [6,7,8,9,10,11,12] () trivial ?_ hit ?_ ?_ ?_ ?_ ?_ ?_
    ·rfl
    ·intro p hp
     simp only [List.mem_cons,List.not_mem_nil,or_false] at hp; rcases hp with rfl|rfl <;> rfl
    ·intro x hx
     obtain ⟨y,_,rfl⟩:=List.mem_map.1 hx; rfl
    ·intro av j i
     ((repeat' (first|exact trivial|refine And.intro ?_ ?_)); all_goals (first|rfl|decide))
    ·intro av
     (refine Le.mk ?_ ?_; all_goals (repeat' (first|exact trivial|refine sle ?_|refine ⟨?_,rfl,?_⟩|refine ⟨?_,by decide,rfl,?_⟩|fail)))
    ·intro av k _ x _ hx
     obtain ⟨b,hb,rfl⟩:∃ b,(optsM w row wide c)[k]? = some b /\ optY w b = x:= by
      rw [List.getElem?_map,Option.map_eq_some_iff] at hx; exact hx
     have hbm:=opts_at (List.mem_of_getElem? hb)
     have hsb:=surely_bd hw hs hf hbm.1
     have hal:=allK_succ hb
     have hlen:(allK w row wide c k).length <= 5:= by
      rw [allK,List.length_cons,List.length_map,List.length_take,optsM]; omega
     have k112:=t112 (oneC w b) (fromM w row wide (c + wide.toNat)) (by simp [oneC]) (by omega) (by simp only [oneC]; omega) (by omega)
     generalize allK w row wide c k = A at *
     (repeat (refine stq ?_))
     (repeat (refine sdq ?_))
     refine DG_next (D_loadKnot (id:=0) hT rfl rfl rfl rfl rfl rfl rfl rfl) ?_
     (repeat (refine sdq ?_))
     refine DG_next (D_callExt (id:=0) (fun _=>rfl) (fun _=>rfl) rfl rfl rfl rfl rfl (fun s1=>(by (repeat' (first|exact trivial|refine And.intro ?_ ?_)); all_goals (first|rfl|decide))) rfl rfl ih2) ?_
     (repeat (first|refine sdq ?_|refine DG_next (D_call rfl rfl rfl rfl rfl (k112)) ?_))
     refine DG_end hM (by kernel_rfl) ?_
     (repeat (refine stq ?_))
     refine roundQ_intro () trivial ?_
     rw [hal]
     (refine Le.mkR [(4,14)] ?_ ?_ rfl; all_goals (repeat' (first|exact trivial|refine sle ?_|refine ⟨?_,rfl,?_⟩|refine ⟨?_,by decide,rfl,?_⟩|fail)))
     rw [List.map_append]; rfl
    ·intro av _ _
     rw [show ((optsM w row wide c).map (optY w)).length = (optsM w row wide c).length by simp]
     have hall:allK w row wide c (optsM w row wide c).length = fromM w row wide (c + 1) :: (optsM w row wide c).map fun b=>thenC (oneC w b) (fromM w row wide (c + wide.toNat)):=by rw [allK,List.take_length]
     rw [hall]
     have k113:=t113 (fromM w row wide (c + 1)) ((optsM w row wide c).map fun b=>thenC (oneC w b) (fromM w row wide (c + wide.toNat))) (by simp [optsM]; omega) (fun x hx=>by
      rcases List.mem_cons.1 hx with rfl|hx
      ·omega
      ·obtain ⟨b,_,rfl⟩:=List.mem_map.1 hx
       simp only [thenC,oneC,List.length_append,List.length_cons,List.length_nil]
       omega)
     rw [<- hstep] at k113
     generalize fromM w row wide (c + 1) :: (optsM w row wide c).map (fun b=>thenC (oneC w b) (fromM w row wide (c + wide.toNat))) = A at *
     (repeat (refine stq ?_))
     refine AL_pure (t:=52) rfl rfl ?_
     (repeat' (first|refine stq ?_|(refine AL_do2 rfl ?_; first|refine ⟨_,op_call1 rfl rfl rfl rfl (k113),nrmA rfl ?_⟩)|(with_reducible refine AL_id ?_); (fail_if_success (refine glq rfl rfl rfl ?_)); first|refine AL_gdec rfl rfl rfl (fun hg=>?_) (fun hg=>?_)|refine AL_gnot rfl rfl rfl (fun hg=>?_) (fun hg=>?_)|refine AL_gcases rfl rfl rfl (fun hg=>?_) (fun hg=>?_)))
     refine AL_do2 rfl ⟨_,op_updateMemoR (id:=0) (n:=(c:Int)) (p:=eC (fromM w row wide c)) (memoK_has (memF w row wide) l q (knotP w row wide l q)) und263 und3 rfl rfl rfl rfl rfl rfl rfl,?_⟩
     (repeat (refine stq ?_))
     refine ⟨_,mkSt [(0,cutF (fromM w row wide c))] [(0,knotO w row wide l q)] 1,rfl,?_,rfl⟩
     (refine Le.mk ?_ ?_; all_goals (repeat' (first|exact trivial|refine sle ?_|refine ⟨?_,rfl,?_⟩|refine ⟨?_,by decide,rfl,?_⟩|fail)))
theorem AL_boxPtr {P:Program} {nt:Nat} {s:ASt} {ops:Array Oper} {rest:List Oper} {Q:Exit -> ASt -> Prop} (t:Nat) {id:Nat} {ps:List PV} (hx:s.get t = some (.box id 0)) (hob:s.obj id = some (.box (ps.map .pv))) (h:AL P nt ops rest Q ((s.setObj id none).put t (some (.pv (.ptr ps))))):AL P nt ops rest Q s:=fun ro W0 D0 D φ a w hr hI=>by
 obtain ⟨D',hI'⟩:=hI.boxPtr hx hob
 exact h ro W0 D0 D' φ a w hr hI'
theorem AL_knot {P:Program} {nt:Nat} {s:ASt} {ops:Array Oper} {rest:List Oper} {Q:Exit -> ASt -> Prop} (t b m:Nat) {l:Nat} {g:FuncId} {f:Int -> PV} (A C:List PV) (hbm:Nat.beq b m = false) (hx:s.get t = some (.box b 0)) (hb:s.obj b = some (.box [.fn g (A.map .pv ++ .box b 0 :: C.map .pv)])) (hm:s.obj m = some (memoQO f l))
  (h:∀ q,AL P nt ops rest Q (((s.setObj b none).setObj m (some (memoKO f l q (.fn g (A ++ rawB q :: C))))).put t (some (.pv (rawB q))))):AL P nt ops rest Q s:=fun ro W0 D0 D φ a w hr hI=>by
 obtain ⟨q,hI'⟩:=hI.knot hbm hx hb hm
 exact h q ro W0 D0 D φ a w hr hI'
def bandM (w:Work) (row wide:Int):Cut:=fromM w row wide 0
set_option maxHeartbeats 4000000 in
theorem t111 (w:Work) (hw:WorkP w) (t:List (List Int)) (hs:sizedT w.map t = true) (hf:fitsT w.map t = true) (row wide:Int) (hwd:1 <= wide /\ wide <= 3):ACalls Tryz.prog 111 [eBnd w (thickM w.map),vi row,vi wide] (fun r=>r = .pv (eC (bandM w row wide))):= by
 have k173:=fun l q=>t173 w hw t hs hf row wide hwd l q _ 0 (Nat.le_refl _) (by omega)
 refine ACalls.of_body hT Tryz.func111 rfl (by kernel_rfl) rfl ?_
 (repeat (refine stq ?_))
 refine AL_doS rfl (op_makeMemoQ (memF w row wide) rfl rfl) ?_
 rintro s' ⟨l,rfl⟩
 iterate 6 (refine stq ?_)
 refine AL_boxPtr 3 (ps:=eBndC w (thickM w.map)) rfl rfl ?_
 refine AL_boxPtr 4 (ps:=[vi row]) rfl rfl ?_
 refine AL_boxPtr 5 (ps:=[vi wide]) rfl rfl ?_
 refine AL_boxPtr 7 (ps:=[rawM l]) rfl rfl ?_
 iterate 5 (refine stq ?_)
 refine AL_knot 8 6 4 (g:=173) (f:=memF w row wide) [.ptr (eBndC w (thickM w.map)),.ptr [rawM l]] [.ptr [vi row],.ptr [vi wide]] rfl rfl rfl rfl fun q=>?_
 (repeat (refine stq ?_))
 refine AL_do2 rfl ⟨_,op_loadKnot (id:=4) hT rfl rfl rfl rfl rfl rfl rfl,?_⟩
 refine AL_do2 rfl ⟨_,op_callExt (id:=4) (fun _=>rfl) (fun _=>rfl) rfl rfl rfl rfl (by (repeat' (first|exact trivial|refine And.intro ?_ ?_)); all_goals (first|rfl|decide)) rfl rfl (k173 l q),?_⟩
 (repeat (refine stq ?_))
 exact ⟨_,_,rfl,rfl,rfl⟩
end Go.Abs
