/- Interface values: compared with nil, asserted. -/
import Derived.Test.YtpoaccdbakbjhaaGreatXG15
import Derived.ChangeArms
import Derived.ProofKit
import Derived.LaidMore
import Derived.OpenShut
import Derived.Stop.Joined
import Derived.Deep.Slices
import Derived.Laws.StructEq
import Derived.Test.YtpoaccdbakbjhaaGreatXG14
import Derived.Test.YtpoaccdbakbjhaaGreatProg
import Derived.KernelRfl
set_option linter.unusedVariables false
set_option linter.unusedSimpArgs false
namespace Go.Abs
open Go.RowKit
section
variable {P:Program} {T:Nat -> Option TyI} {nt:Nat} {s:ASt} {o:Oper}
def ifcB (P:Program) (t:Nat):Bool:=match P.underlying t with
 | some (.interface _)=>true
 | _=>false
theorem ifcB_spec {t:Nat} (h:ifcB P t = true):∃ ms,P.underlying t = some (.interface ms):= by
 unfold ifcB at h
 split at h
 ·exact ⟨_,by assumption⟩
 ·cases h
theorem equal_nilI {t:Nat} (hu:ifcB P t = true) (w:World):(Op.equal t .nilIface .nilIface).run P w = .ok true w:= by
 obtain ⟨ms,hms⟩:=ifcB_spec hu
 show (Op.equalIn (_ + 1) t .nilIface .nilIface).run P w = _
 rw [Op.equalIn]
 simp [underlying,hms]
theorem equal_iface {t u:Nat} {v:Value} (hu:ifcB P t = true) (w:World):(Op.equal t (.iface u v) .nilIface).run P w = .ok false w:= by
 obtain ⟨ms,hms⟩:=ifcB_spec hu
 show (Op.equalIn (_ + 1) t (.iface u v) .nilIface).run P w = _
 rw [Op.equalIn]
 simp [underlying,hms]
theorem op_eql_nilI {t t':Nat} {x:Operand} (hu:ifcB P t = true) (ho:o.op = .binOp .eql t x (.const .nilIface) t') (hd:dstB nt o.dst = true) (hx:s.ev x = some (.pv .nilIface)):OpTo P nt o s (s.putO o.dst (some (.pv (.bool true)))) :=
 OpTo.value hd fun W0 D0 D φ a w hI=>by
  have hr:=(hI.ev hx).2.inv_pv
  generalize hv:a.eval x = v at hr
  cases hr
  refine ⟨.bool true,?_,fun x' h=>by cases h; exact ⟨rfl,.pv _ _ (.bool _)⟩⟩
  have he:a.eval (.const .nilIface) = .nilIface:=rfl
  simp [execOp,ho,hv,he,eqGuard,binOp,equal_nilI hu]
theorem op_eql_iface {t t' u:Nat} {p:PV} {x:Operand} (hu:ifcB P t = true) (ho:o.op = .binOp .eql t x (.const .nilIface) t') (hd:dstB nt o.dst = true) (hx:s.ev x = some (.pv (.iface u p))):OpTo P nt o s (s.putO o.dst (some (.pv (.bool false)))) :=
 OpTo.value hd fun W0 D0 D φ a w hI=>by
  have hr:=(hI.ev hx).2.inv_pv
  generalize hv:a.eval x = v at hr
  cases hr
  refine ⟨.bool false,?_,fun x' h=>by cases h; exact ⟨rfl,.pv _ _ (.bool _)⟩⟩
  have he:a.eval (.const .nilIface) = .nilIface:=rfl
  simp [execOp,ho,hv,he,eqGuard,binOp,equal_iface hu]
theorem op_assert {xt t:Nat} {x:Operand} {ti:TyI} {p:PV} (hT:TabOK P T) (ho:o.op = .typeAssert x xt t true) (hd:dstB nt o.dst = true) (ht:T t = some ti) (hk:ti.kind.conc = true) (hx:s.ev x = some (.pv (.iface t p))) :
  OpTo P nt o s (s.putO o.dst (some (.tup [.pv p,.pv (.bool true)]))) :=
 OpTo.value hd fun W0 D0 D φ a w hI=>by
  have hr:=(hI.ev hx).2.inv_pv
  generalize hv:a.eval x = v at hr
  cases hr with
  | iface t v p hr =>
   obtain ⟨d,h1,h2,_⟩:=(hT.ty ht).und
   refine ⟨.tuple #[v,.bool true],?_,fun x' h=>?_⟩
   ·simp only [execOp,ho,hv,Instr.typeAssert,Sem.run_bind,(hT.ty ht).run_und w h1,Result.andThen_ok]
    cases d with
    | interface ms =>
     exfalso
     generalize ti.kind = k at h2 hk
     cases k <;> simp_all [kindB,TK.conc]
    | _=>simp
   ·cases h
    refine ⟨rfl,.tup _ _ rfl fun j v' p' hj hp=>?_⟩
    match j with
    | 0=>simp at hj hp; subst hj; subst hp; exact .pv _ _ hr
    | 1=>simp at hj hp; subst hj; subst hp; exact .pv _ _ (.bool _)
    | j + 2=>simp at hp
end
end Go.Abs
namespace Go.Abs
open Go.RowKit
section
variable {P:Program} {T:Nat -> Option TyI} {nt:Nat} {s:ASt} {o:Oper}
theorem op_quo {t t':TypeId} {x y:Operand} {k:IntKind} {m n:Int} (ho:o.op = .binOp .quo t x y t') (hd:dstB nt o.dst = true) (hx:s.ev x = some (.pv (.int k m))) (hy:s.ev y = some (.pv (.int k n))) (hn:¬ n = 0):OpTo P nt o s (s.putO o.dst (some (.pv (.int k (k.wrap (m.tdiv n)))))) :=
 OpTo.value hd fun W0 D0 D φ a w hI=>⟨.int k (k.wrap (m.tdiv n)),by
  simp only [execOp,ho,hI.ev_int hx,hI.ev_int hy,eqGuard,binOp,Op.intDiv,if_neg hn,ne_eq,not_true_eq_false,if_false,Sem.run_bind,Sem.run_pure,Result.andThen_ok,Bool.not_true,Bool.not_false,Bool.false_eq_true,if_true],fun x' h=>by cases h; exact ⟨rfl,.pv _ _ (.int _ _)⟩⟩
theorem op_rem {t t':TypeId} {x y:Operand} {k:IntKind} {m n:Int} (ho:o.op = .binOp .rem t x y t') (hd:dstB nt o.dst = true) (hx:s.ev x = some (.pv (.int k m))) (hy:s.ev y = some (.pv (.int k n))) (hn:¬ n = 0):OpTo P nt o s (s.putO o.dst (some (.pv (.int k (m.tmod n))))) :=
 OpTo.value hd fun W0 D0 D φ a w hI=>⟨.int k (m.tmod n),by
  simp only [execOp,ho,hI.ev_int hx,hI.ev_int hy,eqGuard,binOp,Op.intDiv,if_neg hn,ne_eq,not_true_eq_false,if_false,Sem.run_bind,Sem.run_pure,Result.andThen_ok,Bool.not_true,Bool.not_false,Bool.false_eq_true,if_true],fun x' h=>by cases h; exact ⟨rfl,.pv _ _ (.int _ _)⟩⟩
theorem op_len_str {t:Nat} {x:Operand} {ti:TyI} {u:ByteArray} (hT:TabOK P T) (ho:o.op = .call { callee:=.builtin .len,args:=#[x],argTypes:=#[t] }) (hd:dstB nt o.dst = true) (ht:T t = some ti) (hk:ti.kind = .str) (hx:s.ev x = some (.pv (.str u))):OpTo P nt o s (s.putO o.dst (some (.pv (.int .i64 u.size)))) :=
 OpTo.value hd fun W0 D0 D φ a w hI=>⟨.int .i64 u.size,by
  simp [execOp,ho,resolve,invoke,builtin,Builtin.len_,hI.ev_str hx,(hT.ty ht).run_und w ((hT.ty ht).str hk),goInt],fun x' h=>by cases h; exact ⟨rfl,.pv _ _ (.int _ _)⟩⟩
theorem op_index_str {t:Nat} {x ix:Operand} {ti:TyI} {u:ByteArray} {k:IntKind} {n:Int} {b:UInt8} (hT:TabOK P T) (ho:o.op = .index t x ix) (hd:dstB nt o.dst = true) (ht:T t = some ti) (hk:ti.kind = .str) (hx:s.ev x = some (.pv (.str u))) (hi:s.ev ix = some (.pv (.int k n))) (hn:0 <= n) (hb:u[n.toNat]? = some b) :
  OpTo P nt o s (s.putO o.dst (some (.pv (.int .u8 b.toNat)))) :=
 OpTo.value hd fun W0 D0 D φ a w hI=>⟨.int .u8 b.toNat,by
  simp only [execOp,ho,hI.ev_str hx,hI.ev_int hi,Instr.index,asIntOf,Sem.run_bind,Sem.run_pure,Result.andThen_ok,(hT.ty ht).run_und w ((hT.ty ht).str hk),if_pos hn,hb],fun x' h=>by cases h; exact ⟨rfl,.pv _ _ (.int _ _)⟩⟩
def zvalB (P:Program) (t:Nat) (fvs:List FV):Bool:=match P.info? t with
 | some i=>match i.zero with
  | some (.agg vs)=>zrepL vs.toList fvs
  | _=>false
 | none=>false
theorem zvalB_spec {t:Nat} {fvs:List FV} (h:zvalB P t fvs = true):∃ info vs,P.info? t = some info /\ info.zero = some (.agg vs) /\ zrepL vs.toList fvs = true:= by
 unfold zvalB at h
 split at h
 ·split at h
  ·exact ⟨_,_,by assumption,by assumption,h⟩
  ·cases h
 ·cases h
theorem op_assert_f {xt t u:Nat} {x:Operand} {ti:TyI} {p:PV} {fvs:List FV} (hT:TabOK P T) (ho:o.op = .typeAssert x xt t true) (hd:dstB nt o.dst = true) (ht:T t = some ti) (hk:ti.kind.conc = true) (hx:s.ev x = some (.pv (.iface u p))) (hut:Nat.beq u t = false) (hz:zvalB P t fvs = true) :
  OpTo P nt o s (s.putO o.dst (some (.tup [.agg fvs,.pv (.bool false)]))) :=
 OpTo.value hd fun W0 D0 D φ a w hI=>by
  have hne:¬ u = t:=fun e=>by subst e; simp at hut
  obtain ⟨info,vs,z1,z2,z3⟩:=zvalB_spec hz
  obtain ⟨l1,l2,l3⟩:=zrepL_ok z3
  have hr:=(hI.ev hx).2.inv_pv
  generalize hv:a.eval x = v at hr
  cases hr with
  | iface _ v p hr =>
   obtain ⟨d,h1,h2,_⟩:=(hT.ty ht).und
   refine ⟨.tuple #[.agg vs,.bool false],?_,fun x' h=>?_⟩
   ·simp only [execOp,ho,hv,Instr.typeAssert,Sem.run_bind,(hT.ty ht).run_und w h1,Result.andThen_ok]
    cases d with
    | interface ms =>
     exfalso
     generalize ti.kind = k at h2 hk
     cases k <;> simp_all [kindB,TK.conc]
    | _=>simp [hne,zeroValue,typeInfo,z1,z2]
   ·cases h
    refine ⟨?_,.tup _ _ rfl fun j v' p' hj hp=>?_⟩
    ·show (((FV.agg fvs).lt s.nxt && _):Bool) = true
     simp [FV.lt,FV.ltL,l2]
    ·match j with
     | 0 =>
      simp at hj hp; subst hj; subst hp
      refine .agg _ _ (by simpa using l1) fun j v' p' hj hp=>?_
      exact (l3 j v' p' (by simpa using hj) hp).2 w D φ
     | 1=>simp at hj hp; subst hj; subst hp; exact .pv _ _ (.bool _)
     | j + 2=>simp at hp
end
end Go.Abs
namespace Go.Abs
open Go.RowKit Go.ChangeShapes
section
variable {H:Type} {enc:TypeId × Value -> H} {P:Program} {W:World}
def RdC (enc:TypeId × Value -> H) (P:Program) (W:World) (t:TypeId) {α:Type} (e:α -> List PV):Prop :=
 ∀ fuel cs d,DataW.trod enc P W 0 (fun _=>true) true fuel t cs = some d -> ∃ x:α,cs.length = (e x).length /\ ∀ (j:Nat) v p,cs[j]? = some v -> (e x)[j]? = some p -> p.leaf = true /\ Rep W (fun b=>b < W.heap.size) v p
theorem RdC.map {t:TypeId} {α β:Type} {e:α -> List PV} {e':β -> List PV} (f:α -> β) (hf:∀ x,e' (f x) = e x) (h:RdC enc P W t e):RdC enc P W t e':=fun fuel cs d hd=>by
 obtain ⟨x,h1,h2⟩:=h fuel cs d hd
 exact ⟨f x,by rw [hf]; exact h1,by rw [hf]; exact h2⟩
theorem RdC.int {t:TypeId} {k:IntKind} (ht:P.underlying t = some (.int k)):RdC enc P W t (fun n:Int=>[.int k n]):=fun fuel cs d hd=>by
 obtain ⟨n,rfl,_,_⟩:=DataW.trod_int ht hd
 exact ⟨n,rfl,fun j v p hv hp=>by
  match j with
  | 0=>simp at hv hp; subst hv; subst hp; exact ⟨rfl,.int _ _⟩
  | j + 1=>simp at hv⟩
theorem RdC.str {t:TypeId} (ht:P.underlying t = some .string):RdC enc P W t (fun s:ByteArray=>[.str s]):=fun fuel cs d hd=>by
 obtain ⟨s,rfl,_,_⟩:=DataW.trod_string ht hd
 exact ⟨s,rfl,fun j v p hv hp=>by
  match j with
  | 0=>simp at hv hp; subst hv; subst hp; exact ⟨rfl,.str _⟩
  | j + 1=>simp at hv⟩
theorem list_of_lt {α:Type} {n:Nat} {p:Nat -> α -> Prop} (h:∀ i,i < n -> ∃ x,p i x):∃ l:List α,l.length = n /\ ∀ i x,l[i]? = some x -> p i x:= by
 induction n with
 | zero=>exact ⟨[],rfl,fun i x hx=>by simp at hx⟩
 | succ n ih =>
  obtain ⟨l,h1,h2⟩:=ih fun i hi=>h i (by omega)
  obtain ⟨x,hx⟩:=h n (by omega)
  refine ⟨l ++ [x],by simp [h1],fun i y hy=>?_⟩
  by_cases hi:i < l.length
  ·rw [List.getElem?_append_left hi] at hy; exact h2 i y hy
  ·rw [List.getElem?_append_right (by omega)] at hy
   have:i = n:= by
    rcases Nat.lt_or_ge (i - l.length) 1 with h|h
    ·omega
    ·rw [List.getElem?_eq_none (by simpa using h)] at hy; cases hy
   subst this
   have:i - l.length = 0:=by omega
   rw [this] at hy; simp at hy; subst hy; exact hx
theorem add_add' (a:Addr) (m n:Nat):(a.add m).add n = a.add (m + n):= by
 unfold Addr.add
 by_cases hm:m = 0 <;> by_cases hn:n = 0 <;> simp [hm,hn] <;> omega
theorem cell_lt {a:Addr} {v:Value} (h:W.cell? a = some v):a.block < W.heap.size:= by
 unfold World.cell? at h
 rcases Nat.lt_or_ge a.block W.heap.size with h'|h'
 ·exact h'
 ·rw [Array.getElem?_eq_none (by omega)] at h; simp at h
theorem RdC.sl {t el:TypeId} {α:Type} {e:α -> List PV} (ht:P.underlying t = some (.slice el)) (hs:∀ x,(e x).length = P.cellsOf el) (h:RdC enc P W el e):RdC enc P W t (fun l:List α=>[.sl (l.map e)]):=fun fuel cs d hd=>by
 rcases DataW.trod_slice ht hd with ⟨rfl,_⟩|⟨a,len,cap,elems,rest,n,rfl,rfl,rfl,_,hl,hc,hlen,hel,_⟩
 ·refine ⟨[],rfl,fun j v p hv hp=>?_⟩
  match j with
  | 0 =>
   simp at hv hp; subst hv; subst hp
   exact ⟨rfl,.sl none 0 0 0 [] (fun _ _=>.bool true) rfl (Nat.le_refl _) (Nat.zero_le _) (fun i e h=>by simp at h) (fun i j hi=>by omega) (fun i j e p h=>by simp at h) (fun i j e p h=>by simp at h)⟩
  | j + 1=>simp at hv
 ·have key:∀ i,i < len -> ∃ x:α,∀ j p,(e x)[j]? = some p -> ∃ v,W.cell? (a.add (i * P.cellsOf el + j)) = some v /\ p.leaf = true /\ Rep W (fun b=>b < W.heap.size) v p:=fun i hi=>by
   have h1:=hel i hi
   obtain ⟨y,hy⟩:∃ y,elems[i]? = some y:=⟨elems[i]'(by omega),by simp⟩
   rw [hy,Option.bind_eq_some_iff] at h1
   obtain ⟨cs',hcs,htr⟩:=h1
   obtain ⟨_,g2,g3⟩:=World.cells?_some hcs
   obtain ⟨x,hx1,hx2⟩:=h _ _ _ htr
   refine ⟨x,fun j p hp=>?_⟩
   have hj:j < cs'.length:=by rw [hx1]; exact (List.getElem?_eq_some_iff.1 hp).1
   have:=g3 j (by omega)
   rw [add_add'] at this
   exact ⟨cs'[j],by rw [this]; simp,hx2 j _ _ (by simp) hp⟩
  obtain ⟨l,hl1,hl2⟩:=list_of_lt key
  refine ⟨l,rfl,fun j v p hv hp=>?_⟩
  match j with
  | 0 =>
   simp at hv hp; subst hv; subst hp
   refine ⟨rfl,.sl (some a) len cap (P.cellsOf el) _ (fun i j=>(W.cell? (a.add (i * P.cellsOf el + j))).getD (.bool true)) (by simp [hl1]) hl hc ?_ ?_ ?_ ?_⟩
   ·intro i y hy
    rw [List.getElem?_map,Option.map_eq_some_iff] at hy
    obtain ⟨x,_,rfl⟩:=hy
    exact hs x
   ·intro i j hi hj
    obtain ⟨x,hx⟩:∃ x,l[i]? = some x:=⟨l[i]'(by omega),by simp⟩
    obtain ⟨p,hp⟩:∃ p,(e x)[j]? = some p:=⟨(e x)[j]'(by rw [hs]; exact hj),by simp⟩
    obtain ⟨v,hv,_,_⟩:=hl2 i x hx j p hp
    refine ⟨a,rfl,?_,by rw [hv]; rfl⟩
    have:=cell_lt hv
    unfold Addr.add at this
    split at this <;> exact this
   ·intro i j y p hy hp
    rw [List.getElem?_map,Option.map_eq_some_iff] at hy
    obtain ⟨x,hx,rfl⟩:=hy
    obtain ⟨_,_,h2,_⟩:=hl2 i x hx j p hp
    exact h2
   ·intro i j y p hy hp
    rw [List.getElem?_map,Option.map_eq_some_iff] at hy
    obtain ⟨x,hx,rfl⟩:=hy
    obtain ⟨v,hv,_,h3⟩:=hl2 i x hx j p hp
    simp only [hv,Option.getD_some]
    exact h3
  | j + 1=>simp at hv
def RdF (enc:TypeId × Value -> H) (P:Program) (W:World) (t:TypeId) {α:Type} (e:α -> List PV) (fs:List (Nat × Nat)) (k:Nat):Prop :=
 ∀ cs:List Value,cs.length = P.cellsOf t -> (∀ f ∈ fs,∃ n d,DataW.trod enc P W 0 (fun _=>true) true n f.1 ((cs.drop f.2).take (P.cellsOf f.1)) = some d) →
  ∃ x:α,cs.length = k + (e x).length /\ ∀ (j:Nat) v p,cs[k + j]? = some v -> (e x)[j]? = some p -> p.leaf = true /\ Rep W (fun b=>b < W.heap.size) v p
theorem RdF.nil {t:TypeId} {k:Nat} (hk:P.cellsOf t = k):RdF enc P W t (fun _:Unit=>[]) [] k:=fun cs hl _=>⟨(),by simp; omega,fun j v p _ hp=>by simp at hp⟩
theorem RdF.cons {t:TypeId} {α β:Type} {e:α -> List PV} {e':β -> List PV} {u:Nat} {fs:List (Nat × Nat)} {k:Nat} (m:Nat) (hf:RdC enc P W u e) (hm:P.cellsOf u = m) (hle:k + m <= P.cellsOf t) (h:RdF enc P W t e' fs (k + m)) :
  RdF enc P W t (fun x:α × β=>e x.1 ++ e' x.2) ((u,k) :: fs) k:=fun cs hl hfs=>by
 obtain ⟨n,d,hd⟩:=hfs (u,k) (by simp)
 obtain ⟨x,h1,h2⟩:=hf _ _ _ hd
 obtain ⟨y,h3,h4⟩:=h cs hl fun g hg=>hfs g (by simp [hg])
 have hx:(e x).length = m:=by rw [<- h1,hm]; simp; omega
 refine ⟨(x,y),by simp; omega,fun j v p hv hp=>?_⟩
 change (e x ++ e' y)[j]? = some p at hp
 by_cases hj:j < m
 ·rw [List.getElem?_append_left (by omega)] at hp
  refine h2 j v p ?_ hp
  rw [hm,List.getElem?_take,if_pos hj,List.getElem?_drop]; exact hv
 ·rw [List.getElem?_append_right (by omega),hx] at hp
  refine h4 (j - m) v p ?_ hp
  rw [show k + m + (j - m) = k + j by omega]; exact hv
theorem RdC.strct {t:TypeId} {α:Type} {e:α -> List PV} {fs:List (Nat × Nat)} (ht:P.underlying t = some (.struct (P.fieldsOf t))) (hfs:(P.fieldsOf t).toList.map (fun f=>(f.type,f.offset)) = fs) (h:RdF enc P W t e fs 0):RdC enc P W t e:=fun fuel cs d hd=>by
 obtain ⟨xs,n,rfl,rfl,hl,hlen,hf⟩:=DataW.trod_struct ht hd
 obtain ⟨x,h1,h2⟩:=h cs hl fun g hg=>by
  rw [<- hfs] at hg
  obtain ⟨f,hf',rfl⟩:=List.mem_map.1 hg
  obtain ⟨i,hi,hif⟩:=List.getElem_of_mem hf'
  have:=hf i f (by rw [<- Array.getElem?_toList,List.getElem?_eq_getElem hi,hif])
  obtain ⟨y,hy⟩:∃ y,xs[i]? = some y:=⟨xs[i]'(by rw [hlen]; simpa using hi),by simp⟩
  exact ⟨n,y,by rw [this,hy]⟩
 exact ⟨x,by omega,fun j v p hv hp=>h2 j v p (by simpa using hv) hp⟩
theorem RdC.arg {t:TypeId} {α:Type} {e:α -> List PV} {v:Value} {d:DataW H} {ps:List MemPlace} (h:RdC enc P W t e) (hv:v.cells = #[v]) (he:∀ x,∃ p,e x = [p]) (hd:DataW.Trod enc P W 0 (fun _=>true) true t v d ps):∃ x p,e x = [p] /\ Rep W (fun b=>b < W.heap.size) v p:= by
 obtain ⟨n,hn⟩:=hd
 obtain ⟨x,h1,h2⟩:=h _ _ _ hn
 obtain ⟨p,hp⟩:=he x
 exact ⟨x,p,hp,(h2 0 v p (by simp [hv]) (by simp [hp])).2⟩
theorem RdC.argS {t:TypeId} {α:Type} {e:α -> List PV} {cs:Array Value} {d:DataW H} {ps:List MemPlace} (h:RdC enc P W t e) (hd:DataW.Trod enc P W 0 (fun _=>true) true t (.agg cs) d ps):∃ x,Rep W (fun b=>b < W.heap.size) (.agg cs) (.agg (e x)):= by
 obtain ⟨n,hn⟩:=hd
 obtain ⟨x,h1,h2⟩:=h _ _ _ hn
 exact ⟨x,.agg cs (e x) (by simpa [Value.cells] using h1) fun j v p hv hp=>(h2 j v p (by simpa [Value.cells] using hv) hp).2⟩
theorem cells_slice {t el:TypeId} {v:Value} {r:Reach} {b:Nat} (ht:P.underlying t = some (.slice el)) (h:Value.okWide P W r b t v):v.cells = #[v]:= by
 cases v <;> first|rfl|(simp [Value.okWide,ht,Cell.okWide,Cell.ok] at h)
theorem cells_int {t:TypeId} {k:IntKind} {v:Value} {r:Reach} {b:Nat} (ht:P.underlying t = some (.int k)) (h:Value.okWide P W r b t v):v.cells = #[v]:= by
 cases v <;> first|rfl|(simp [Value.okWide,ht,Cell.okWide,Cell.ok] at h)
theorem agg_of_struct {t:TypeId} {fs:Array Field} {v:Value} {r:Reach} {b:Nat} (ht:P.underlying t = some (.struct fs)) (h:Value.okWide P W r b t v):∃ cs,v = .agg cs:= by
 simp only [Value.okWide,ht] at h
 obtain ⟨cs,h,_⟩:=h
 exact ⟨cs,h⟩
theorem trodAll_lt {ts:List TypeId} {vs:List Value} {ds:List (DataW H)} {ps:List MemPlace} (hl:laidOutB P = true) (hts:∀ t ∈ ts,P.readableRec t = true /\ t < P.types.size) {W':World} {sp:Nat -> Bool}
  (h:DataW.TrodAll enc P W 0 (fun _=>true) true ts vs ds ps) (hb:Below W.heap.size W W') (hlt:∀ p ∈ ps,p.block < W.heap.size) (hsp:∀ p ∈ ps,sp p.block = true):DataW.TrodAll enc P W' 0 sp true ts vs ds ps:= by
 induction ts generalizing vs ds ps with
 | nil =>
  cases vs with
  | nil=>cases ds with
   | nil=>exact h
   | cons=>exact h.elim
  | cons=>exact h.elim
 | cons t ts ih =>
  cases vs with
  | nil=>exact h.elim
  | cons v vs=>cases ds with
   | nil=>exact h.elim
   | cons d ds =>
    obtain ⟨p,q,h1,h2,rfl⟩:=h
    exact ⟨p,q,WideElems.Trod_stays hl (hts t (by simp)).1 (hts t (by simp)).2 h1 (fun x hx=>hb.same (hlt x (by simp [hx]))) (fun x hx=>hsp x (by simp [hx])),
     ih (fun u hu=>hts u (by simp [hu])) h2 (fun x hx=>hlt x (by simp [hx])) (fun x hx=>hsp x (by simp [hx])),rfl⟩
theorem law_post {fn:Func} {s:ChangeSpec} {W':World} {args:Array Value} {ds gs:List (DataW H)} {before:List MemPlace} {t4:TypeId} (hs:s.vars = []) (hfn:s.fn H ds = { results:=[.lit (.bool true)],args:=ds })
  (hres:fn.resultTypes = #[t4]) (ht4:P.underlying t4 = some .bool) (hl:laidOutB P = true) (hts:∀ t ∈ fn.params.toList,P.readableRec t = true /\ t < P.types.size)
  (hW:DataW.Whole enc P fn.params.toList s.vars false W args.toList ds gs before) (hb:Below W.heap.size W W'):s.post enc P fn false true false false W args (.bool true) W':= by
 have hlt:∀ p ∈ before,p.block < W.heap.size:=fun p hp=>hW.lt p hp
 have hW0:=hW
 obtain ⟨p,q,hA,hV,rfl,hfz,hnd⟩:=hW
 rw [hs] at hV
 have hgq:gs = [] /\ q = []:= by
  cases gs with
  | nil=>exact ⟨rfl,hV⟩
  | cons=>exact hV.elim
 obtain ⟨rfl,rfl⟩:=hgq
 refine ⟨ds,[],p ++ [],[],p,[],hW0,?_,?_,?_,?_,fun h=>by cases h⟩
 ·rw [List.append_nil,hfn,hres]
  exact trodAll_mk1 (shut_bool ht4 true)
 ·rw [List.append_nil,hfn]
  exact trodAll_lt hl hts hA hb (fun x hx=>hlt x (by simp [hx])) (fun x hx=>by have:=hlt x (by simp [hx]); simpa using this)
 ·rw [hs,List.append_nil,hfn]; rfl
 ·refine World.keptBut_mono (fun x hx=>⟨hx,?_⟩) (hb.frame (· ∈ p ++ []))
  rw [List.append_nil] at hx
  exact .inr (.inl hx)
end
end Go.Abs
namespace Go.Abs
open Go.Proofs
def tyL:List (Nat × TyI):=[
 (1,⟨1,false,8,[.pv .nilFunc],.other⟩),
 (2,⟨1,false,8,[.pv (.int .i64 0)],.int .i64⟩),
 (3,⟨1,false,8,[.pv (.int .i64 0)],.int .i64⟩),
 (4,⟨1,false,1,[.pv (.bool false)],.bool⟩),
 (5,⟨1,false,1,[.pv (.int .u8 0)],.int .u8⟩),
 (6,⟨1,false,1,[.pv (.int .u8 0)],.int .u8⟩),
 (7,⟨4,true,24,[.pv (.int .i64 0),.pv (.int .i64 0),.pv (.bool false),.pv (.int .u8 0)],.strct [0,1,2,3] [2,3,4,6]⟩),
 (8,⟨4,true,24,[.pv (.int .i64 0),.pv (.int .i64 0),.pv (.bool false),.pv (.int .u8 0)],.strct [0,1,2,3] [2,3,4,6]⟩),
 (9,⟨1,false,16,[.pv (.str .empty)],.str⟩),
 (10,⟨1,false,16,[.pv (.str .empty)],.str⟩),
 (11,⟨1,false,16,[.pv (.str .empty)],.str⟩),
 (12,⟨1,false,8,[.pv (.int .u64 0)],.int .u64⟩),
 (13,⟨2,true,24,[.pv (.str .empty),.pv (.int .u64 0)],.strct [0,1] [9,12]⟩),
 (14,⟨2,true,24,[.pv (.str .empty),.pv (.int .u64 0)],.strct [0,1] [9,12]⟩),
 (15,⟨1,false,8,[.pv .nilPtr],.other⟩),
 (16,⟨1,false,8,[.pv .nilPtr],.other⟩),
 (17,⟨1,false,8,[.pv .nilPtr],.other⟩),
 (18,⟨1,true,8,[.pv .nilPtr],.strct [0] [17]⟩),
 (19,⟨1,true,8,[.pv .nilPtr],.strct [0] [17]⟩),
 (20,⟨1,false,16,[.pv .nilIface],.other⟩),
 (21,⟨1,false,4,[.pv (.int .i32 0)],.int .i32⟩),
 (22,⟨1,false,24,[.nils],.slice 66⟩),
 (23,⟨1,false,24,[.nils],.slice 72⟩),
 (24,⟨1,false,24,[.nils],.slice 184⟩),
 (25,⟨1,false,24,[.nils],.slice 187⟩),
 (26,⟨6,true,112,[.nils,.pv (.int .i64 0),.pv (.int .i64 0),.nils,.nils,.nils],.strct [0,1,2,3,4,5] [22,3,3,23,24,25]⟩),
 (27,⟨6,true,112,[.nils,.pv (.int .i64 0),.pv (.int .i64 0),.nils,.nils,.nils],.strct [0,1,2,3,4,5] [22,3,3,23,24,25]⟩),
 (28,⟨1,false,24,[.nils],.slice 52⟩),
 (29,⟨8,true,144,[.nils,.pv (.int .i64 0),.pv (.int .i64 0),.nils,.nils,.nils,.nils,.pv (.int .i64 0)],.strct [0,6,7] [27,28,3]⟩),
 (30,⟨8,true,144,[.nils,.pv (.int .i64 0),.pv (.int .i64 0),.nils,.nils,.nils,.nils,.pv (.int .i64 0)],.strct [0,6,7] [27,28,3]⟩),
 (31,⟨1,false,24,[.nils],.slice 33⟩),
 (32,⟨1,false,24,[.nils],.slice 111⟩),
 (33,⟨1,false,24,[.nils],.slice 3⟩),
 (34,⟨1,false,24,[.nils],.slice 113⟩),
 (35,⟨1,false,24,[.nils],.slice 54⟩),
 (36,⟨6,true,112,[.nils,.pv (.int .i64 0),.pv (.int .i64 0),.nils,.nils,.nils],.strct [0,1,2,3,4,5] [32,3,3,33,34,35]⟩),
 (37,⟨6,true,112,[.nils,.pv (.int .i64 0),.pv (.int .i64 0),.nils,.nils,.nils],.strct [0,1,2,3,4,5] [32,3,3,33,34,35]⟩),
 (38,⟨2,true,32,[.pv (.int .i64 0),.nils],.strct [0,1] [3,33]⟩),
 (39,⟨2,true,32,[.pv (.int .i64 0),.nils],.strct [0,1] [3,33]⟩),
 (40,⟨1,false,8,[.pv .nilFunc],.other⟩),
 (41,⟨1,false,8,[.pv .nilFunc],.other⟩),
 (42,⟨1,false,8,[.pv .nilFunc],.other⟩),
 (43,⟨1,false,8,[.pv .nilFunc],.other⟩),
 (44,⟨1,false,8,[.pv .nilFunc],.other⟩),
 (45,⟨1,false,8,[.pv .nilFunc],.other⟩),
 (46,⟨1,false,24,[.nils],.slice 91⟩),
 (48,⟨1,false,8,[.pv .nilFunc],.other⟩),
 (50,⟨1,false,8,[.pv .nilFunc],.other⟩),
 (51,⟨3,true,24,[.pv (.int .i64 0),.pv (.int .i64 0),.pv (.int .i64 0)],.strct [0,1,2] [3,3,3]⟩),
 (52,⟨3,true,24,[.pv (.int .i64 0),.pv (.int .i64 0),.pv (.int .i64 0)],.strct [0,1,2] [3,3,3]⟩),
 (53,⟨6,true,48,[.pv (.int .i64 0),.pv (.int .i64 0),.pv (.int .i64 0),.pv (.int .i64 0),.pv (.int .i64 0),.pv (.int .i64 0)],.strct [0,1,2,3,4,5] [3,3,3,3,3,3]⟩),
 (54,⟨6,true,48,[.pv (.int .i64 0),.pv (.int .i64 0),.pv (.int .i64 0),.pv (.int .i64 0),.pv (.int .i64 0),.pv (.int .i64 0)],.strct [0,1,2,3,4,5] [3,3,3,3,3,3]⟩),
 (55,⟨2,true,16,[.pv (.int .i64 0),.pv (.int .i64 0)],.strct [0,1] [3,3]⟩),
 (56,⟨2,true,16,[.pv (.int .i64 0),.pv (.int .i64 0)],.strct [0,1] [3,3]⟩),
 (57,⟨1,false,8,[.pv (.int .i64 0)],.int .i64⟩),
 (59,⟨1,false,8,[.pv .nilFunc],.other⟩),
 (60,⟨1,false,24,[.nils],.slice 64⟩),
 (62,⟨1,false,8,[.pv .nilFunc],.other⟩),
 (63,⟨2,true,16,[.pv (.int .i64 0),.pv (.int .i64 0)],.strct [0,1] [3,3]⟩),
 (64,⟨2,true,16,[.pv (.int .i64 0),.pv (.int .i64 0)],.strct [0,1] [3,3]⟩),
 (65,⟨1,false,8,[.pv .nilFunc],.other⟩),
 (66,⟨1,false,24,[.nils],.slice 68⟩),
 (67,⟨1,false,8,[.pv .nilFunc],.other⟩),
 (68,⟨1,false,8,[.pv (.int .i64 0)],.int .i64⟩),
 (69,⟨1,false,8,[.pv .nilFunc],.other⟩),
 (70,⟨1,false,8,[.pv .nilFunc],.other⟩),
 (71,⟨4,true,32,[.pv (.int .i64 0),.pv (.int .i64 0),.pv (.int .i64 0),.pv (.int .i64 0)],.strct [0,1,2,3] [3,3,3,3]⟩),
 (72,⟨4,true,32,[.pv (.int .i64 0),.pv (.int .i64 0),.pv (.int .i64 0),.pv (.int .i64 0)],.strct [0,1,2,3] [3,3,3,3]⟩),
 (73,⟨1,false,8,[.pv .nilFunc],.other⟩),
 (75,⟨1,false,8,[.pv .nilFunc],.other⟩),
 (76,⟨1,false,8,[.pv .nilFunc],.other⟩),
 (78,⟨1,false,8,[.pv .nilFunc],.other⟩),
 (79,⟨1,false,24,[.nils],.slice 147⟩),
 (80,⟨1,false,24,[.nils],.slice 149⟩),
 (81,⟨1,false,24,[.nils],.slice 136⟩),
 (82,⟨5,true,104,[.pv (.int .i64 0),.nils,.nils,.nils,.nils],.strct [0,1,2,3,4] [3,79,80,33,81]⟩),
 (83,⟨5,true,104,[.pv (.int .i64 0),.nils,.nils,.nils,.nils],.strct [0,1,2,3,4] [3,79,80,33,81]⟩),
 (84,⟨1,false,8,[.pv .nilFunc],.other⟩),
 (86,⟨1,false,8,[.pv .nilFunc],.other⟩),
 (87,⟨1,false,24,[.nils],.slice 152⟩),
 (88,⟨1,false,8,[.pv .nilFunc],.other⟩),
 (89,⟨1,false,8,[.pv .nilFunc],.other⟩),
 (90,⟨3,true,24,[.pv (.int .i64 0),.pv (.int .i64 0),.pv (.int .i64 0)],.strct [0,1,2] [3,3,3]⟩),
 (91,⟨3,true,24,[.pv (.int .i64 0),.pv (.int .i64 0),.pv (.int .i64 0)],.strct [0,1,2] [3,3,3]⟩),
 (92,⟨1,false,8,[.pv .nilFunc],.other⟩),
 (94,⟨1,false,8,[.pv .nilFunc],.other⟩),
 (95,⟨1,false,24,[.nils],.slice 172⟩),
 (97,⟨1,false,8,[.pv .nilFunc],.other⟩),
 (98,⟨1,false,24,[.nils],.slice 56⟩),
 (99,⟨1,false,8,[.pv .nilMap],.imap⟩),
 (100,⟨2,true,32,[.nils,.pv .nilMap],.strct [0,1] [98,99]⟩),
 (101,⟨2,true,32,[.nils,.pv .nilMap],.strct [0,1] [98,99]⟩),
 (102,⟨1,false,8,[.pv .nilFunc],.other⟩),
 (103,⟨1,false,8,[.pv .nilFunc],.other⟩),
 (104,⟨1,false,8,[.pv .nilFunc],.other⟩),
 (105,⟨1,false,8,[.pv .nilFunc],.other⟩),
 (106,⟨1,false,8,[.pv .nilFunc],.other⟩),
 (107,⟨1,false,8,[.pv .nilFunc],.other⟩),
 (108,⟨1,false,8,[.pv .nilFunc],.other⟩),
 (109,⟨1,false,8,[.pv .nilFunc],.other⟩),
 (110,⟨4,true,32,[.pv (.int .i64 0),.pv (.int .i64 0),.pv (.int .i64 0),.pv (.int .i64 0)],.strct [0,2] [56,56]⟩),
 (111,⟨4,true,32,[.pv (.int .i64 0),.pv (.int .i64 0),.pv (.int .i64 0),.pv (.int .i64 0)],.strct [0,2] [56,56]⟩),
 (112,⟨3,true,24,[.pv (.int .i64 0),.pv (.int .i64 0),.pv (.int .i64 0)],.strct [0,1,2] [3,3,3]⟩),
 (113,⟨3,true,24,[.pv (.int .i64 0),.pv (.int .i64 0),.pv (.int .i64 0)],.strct [0,1,2] [3,3,3]⟩),
 (114,⟨1,false,8,[.pv .nilFunc],.other⟩),
 (115,⟨1,false,8,[.pv .nilFunc],.other⟩),
 (116,⟨1,false,24,[.nils],.slice 98⟩),
 (117,⟨9,true,168,[.nils,.pv (.int .i64 0),.pv (.int .i64 0),.nils,.nils,.nils,.nils,.pv (.int .i64 0),.nils],.strct [0,8] [30,116]⟩),
 (118,⟨9,true,168,[.nils,.pv (.int .i64 0),.pv (.int .i64 0),.nils,.nils,.nils,.nils,.pv (.int .i64 0),.nils],.strct [0,8] [30,116]⟩),
 (120,⟨1,false,8,[.pv .nilFunc],.other⟩),
 (121,⟨2,true,32,[.nils,.pv (.int .i64 0)],.strct [0,1] [46,3]⟩),
 (122,⟨2,true,32,[.nils,.pv (.int .i64 0)],.strct [0,1] [46,3]⟩),
 (123,⟨1,false,8,[.pv .nilFunc],.other⟩),
 (124,⟨1,false,8,[.pv .nilFunc],.other⟩),
 (125,⟨1,false,8,[.pv .nilFunc],.other⟩),
 (126,⟨1,false,24,[.nils],.slice 213⟩),
 (127,⟨1,false,8,[.pv .nilMap],.imap⟩),
 (128,⟨7,true,136,[.pv (.int .i64 0),.nils,.nils,.nils,.nils,.nils,.pv .nilMap],.strct [0,5,6] [83,126,127]⟩),
 (129,⟨7,true,136,[.pv (.int .i64 0),.nils,.nils,.nils,.nils,.nils,.pv .nilMap],.strct [0,5,6] [83,126,127]⟩),
 (130,⟨1,false,8,[.pv .nilFunc],.other⟩),
 (131,⟨1,false,24,[.nils],.slice 31⟩),
 (132,⟨1,false,8,[.pv .nilFunc],.other⟩),
 (133,⟨1,false,8,[.pv .nilFunc],.other⟩),
 (134,⟨1,false,8,[.pv .nilFunc],.other⟩),
 (135,⟨2,true,16,[.pv (.int .i64 0),.pv (.int .i64 0)],.strct [0,1] [3,3]⟩),
 (136,⟨2,true,16,[.pv (.int .i64 0),.pv (.int .i64 0)],.strct [0,1] [3,3]⟩),
 (137,⟨1,false,8,[.pv .nilFunc],.other⟩),
 (138,⟨1,false,8,[.pv .nilFunc],.other⟩),
 (139,⟨1,false,8,[.pv .nilFunc],.other⟩),
 (140,⟨1,false,8,[.pv .nilFunc],.other⟩),
 (141,⟨1,false,8,[.pv (.int .u64 0)],.int .u64⟩),
 (142,⟨1,false,8,[.pv .nilFunc],.other⟩),
 (143,⟨1,false,8,[.pv .nilFunc],.other⟩),
 (144,⟨1,false,8,[.pv .nilFunc],.other⟩),
 (145,⟨1,false,8,[.pv .nilFunc],.other⟩),
 (146,⟨5,true,40,[.pv (.int .i64 0),.pv (.int .i64 0),.pv (.int .i64 0),.pv (.int .i64 0),.pv (.int .i64 0)],.strct [0,2,3,4] [56,3,3,3]⟩),
 (147,⟨5,true,40,[.pv (.int .i64 0),.pv (.int .i64 0),.pv (.int .i64 0),.pv (.int .i64 0),.pv (.int .i64 0)],.strct [0,2,3,4] [56,3,3,3]⟩),
 (148,⟨2,true,16,[.pv (.int .i64 0),.pv (.int .i64 0)],.strct [0,1] [3,3]⟩),
 (149,⟨2,true,16,[.pv (.int .i64 0),.pv (.int .i64 0)],.strct [0,1] [3,3]⟩),
 (150,⟨1,false,8,[.pv .nilFunc],.other⟩),
 (151,⟨2,true,16,[.pv (.int .i64 0),.pv (.int .i64 0)],.strct [0,1] [3,3]⟩),
 (152,⟨2,true,16,[.pv (.int .i64 0),.pv (.int .i64 0)],.strct [0,1] [3,3]⟩),
 (153,⟨1,false,8,[.pv .nilFunc],.other⟩),
 (154,⟨2,true,32,[.nils,.pv (.int .i64 0)],.strct [0,1] [33,3]⟩),
 (155,⟨2,true,32,[.nils,.pv (.int .i64 0)],.strct [0,1] [33,3]⟩),
 (156,⟨1,false,8,[.pv .nilMap],.imap⟩),
 (157,⟨2,true,32,[.nils,.pv .nilMap],.strct [0,1] [87,156]⟩),
 (158,⟨2,true,32,[.nils,.pv .nilMap],.strct [0,1] [87,156]⟩),
 (159,⟨1,false,8,[.pv .nilFunc],.other⟩),
 (160,⟨1,false,8,[.pv .nilFunc],.other⟩),
 (161,⟨1,false,8,[.pv .nilFunc],.other⟩),
 (162,⟨2,true,16,[.pv (.int .i64 0),.pv (.int .i64 0)],.array 3 2⟩),
 (163,⟨1,false,8,[.pv .nilFunc],.other⟩),
 (164,⟨2,true,16,[.pv .nilFunc,.pv .nilFunc],.array 163 2⟩),
 (165,⟨1,false,8,[.pv .nilFunc],.other⟩),
 (166,⟨1,false,8,[.pv .nilFunc],.other⟩),
 (167,⟨1,false,8,[.pv .nilFunc],.other⟩),
 (168,⟨1,false,8,[.pv .nilFunc],.other⟩),
 (169,⟨1,false,8,[.pv .nilFunc],.other⟩),
 (170,⟨1,false,8,[.pv .nilFunc],.other⟩),
 (171,⟨8,true,144,[.nils,.pv (.int .i64 0),.pv (.int .i64 0),.nils,.nils,.nils,.pv (.int .i64 0),.nils],.strct [0,6,7] [37,3,98]⟩),
 (172,⟨8,true,144,[.nils,.pv (.int .i64 0),.pv (.int .i64 0),.nils,.nils,.nils,.pv (.int .i64 0),.nils],.strct [0,6,7] [37,3,98]⟩),
 (173,⟨1,false,8,[.pv .nilFunc],.other⟩),
 (174,⟨1,false,8,[.pv .nilFunc],.other⟩),
 (176,⟨1,false,8,[.pv .nilFunc],.other⟩),
 (177,⟨1,false,8,[.pv .nilFunc],.other⟩),
 (178,⟨1,false,8,[.pv .nilFunc],.other⟩),
 (179,⟨1,false,8,[.pv .nilFunc],.other⟩),
 (180,⟨1,false,8,[.pv .nilFunc],.other⟩),
 (181,⟨1,false,8,[.pv .nilFunc],.other⟩),
 (182,⟨1,false,8,[.pv .nilFunc],.other⟩),
 (183,⟨3,true,24,[.pv (.int .i64 0),.pv (.int .i64 0),.pv (.bool false)],.strct [0,1,2] [3,3,4]⟩),
 (184,⟨3,true,24,[.pv (.int .i64 0),.pv (.int .i64 0),.pv (.bool false)],.strct [0,1,2] [3,3,4]⟩),
 (185,⟨1,false,8,[.pv .nilFunc],.other⟩),
 (186,⟨2,true,16,[.pv (.int .i64 0),.pv (.int .i64 0)],.strct [0,1] [3,3]⟩),
 (187,⟨2,true,16,[.pv (.int .i64 0),.pv (.int .i64 0)],.strct [0,1] [3,3]⟩),
 (188,⟨1,false,8,[.pv .nilFunc],.other⟩),
 (189,⟨1,false,8,[.pv .nilFunc],.other⟩),
 (190,⟨1,false,8,[.pv .nilFunc],.other⟩),
 (191,⟨1,false,8,[.pv .nilFunc],.other⟩),
 (192,⟨1,false,24,[.nils],.slice 122⟩),
 (193,⟨1,false,8,[.pv .nilFunc],.other⟩),
 (194,⟨1,false,8,[.pv .nilFunc],.other⟩),
 (195,⟨1,false,8,[.pv .nilFunc],.other⟩),
 (196,⟨1,false,8,[.pv .nilFunc],.other⟩),
 (197,⟨1,false,8,[.pv .nilFunc],.other⟩),
 (198,⟨1,false,8,[.pv .nilFunc],.other⟩),
 (199,⟨1,false,8,[.pv .nilFunc],.other⟩),
 (200,⟨1,false,8,[.pv .nilFunc],.other⟩),
 (201,⟨1,false,8,[.pv .nilFunc],.other⟩),
 (202,⟨1,false,8,[.pv .nilFunc],.other⟩),
 (203,⟨1,false,8,[.pv .nilFunc],.other⟩),
 (204,⟨1,false,8,[.pv .nilFunc],.other⟩),
 (205,⟨1,false,8,[.pv .nilFunc],.other⟩),
 (206,⟨1,false,8,[.pv .nilFunc],.other⟩),
 (207,⟨1,false,8,[.pv .nilFunc],.other⟩),
 (208,⟨1,false,8,[.pv .nilFunc],.other⟩),
 (209,⟨1,false,16,[.pv .nilIface],.other⟩),
 (210,⟨1,false,16,[.pv .nilIface],.other⟩),
 (211,⟨1,false,8,[.pv (.int .i64 0)],.int .i64⟩),
 (212,⟨3,true,24,[.pv (.int .i64 0),.pv (.int .i64 0),.pv (.int .i64 0)],.strct [0,1,2] [211,3,3]⟩),
 (213,⟨3,true,24,[.pv (.int .i64 0),.pv (.int .i64 0),.pv (.int .i64 0)],.strct [0,1,2] [211,3,3]⟩),
 (214,⟨1,false,8,[.pv .nilFunc],.other⟩),
 (215,⟨2,true,48,[.nils,.nils],.strct [0,1] [31,31]⟩),
 (216,⟨2,true,48,[.nils,.nils],.strct [0,1] [31,31]⟩),
 (217,⟨6,true,120,[.pv (.int .i64 0),.nils,.nils,.nils,.nils,.pv .nilIface],.strct [0,5] [83,210]⟩),
 (218,⟨6,true,120,[.pv (.int .i64 0),.nils,.nils,.nils,.nils,.pv .nilIface],.strct [0,5] [83,210]⟩),
 (219,⟨1,false,8,[.pv .nilFunc],.other⟩),
 (220,⟨1,false,8,[.pv .nilFunc],.other⟩),
 (221,⟨8,true,160,[.pv (.int .i64 0),.nils,.nils,.nils,.nils,.nils,.pv .nilMap,.nils],.strct [0,7] [129,33]⟩),
 (222,⟨8,true,160,[.pv (.int .i64 0),.nils,.nils,.nils,.nils,.nils,.pv .nilMap,.nils],.strct [0,7] [129,33]⟩),
 (223,⟨1,false,8,[.pv .nilFunc],.other⟩),
 (224,⟨1,false,8,[.pv .nilFunc],.other⟩),
 (225,⟨1,false,4,[.pv (.int .u32 0)],.int .u32⟩),
 (226,⟨1,false,8,[.pv .nilFunc],.other⟩),
 (227,⟨1,false,8,[.pv (.int .u64 0)],.int .u64⟩),
 (228,⟨1,false,8,[.pv .nilFunc],.other⟩),
 (229,⟨1,false,8,[.pv .nilFunc],.other⟩),
 (231,⟨1,false,24,[.nils],.slice 155⟩),
 (232,⟨1,false,8,[.pv .nilFunc],.other⟩),
 (233,⟨1,false,8,[.pv .nilFunc],.other⟩),
 (234,⟨1,false,8,[.pv .nilFunc],.other⟩),
 (235,⟨1,false,8,[.pv .nilFunc],.other⟩),
 (236,⟨1,false,8,[.pv .nilFunc],.other⟩),
 (237,⟨1,false,8,[.pv .nilFunc],.other⟩),
 (238,⟨1,false,8,[.pv .nilFunc],.other⟩),
 (239,⟨1,false,8,[.pv .nilFunc],.other⟩),
 (240,⟨1,false,8,[.pv .nilFunc],.other⟩),
 (241,⟨1,false,8,[.pv .nilFunc],.other⟩),
 (242,⟨1,false,8,[.pv .nilFunc],.other⟩),
 (243,⟨1,false,8,[.pv .nilFunc],.other⟩),
 (244,⟨1,false,8,[.pv .nilFunc],.other⟩),
 (245,⟨1,false,8,[.pv .nilFunc],.other⟩),
 (246,⟨4,true,32,[.pv (.int .i64 0),.pv (.int .i64 0),.pv (.int .i64 0),.pv (.int .i64 0)],.strct [0,2] [56,56]⟩),
 (247,⟨4,true,32,[.pv (.int .i64 0),.pv (.int .i64 0),.pv (.int .i64 0),.pv (.int .i64 0)],.strct [0,2] [56,56]⟩),
 (248,⟨1,false,8,[.pv .nilFunc],.other⟩),
 (249,⟨1,false,8,[.pv .nilFunc],.other⟩),
 (250,⟨1,false,8,[.pv .nilFunc],.other⟩),
 (251,⟨1,false,8,[.pv .nilFunc],.other⟩),
 (252,⟨1,false,8,[.pv .nilFunc],.other⟩),
 (253,⟨1,false,8,[.pv .nilFunc],.other⟩),
 (254,⟨1,false,8,[.pv .nilFunc],.other⟩),
 (255,⟨1,false,8,[.pv .nilFunc],.other⟩),
 (256,⟨1,false,8,[.pv .nilFunc],.other⟩),
 (257,⟨2,true,16,[.pv (.int .i64 0),.pv (.int .i64 0)],.strct [0,1] [3,3]⟩),
 (258,⟨2,true,16,[.pv (.int .i64 0),.pv (.int .i64 0)],.strct [0,1] [3,3]⟩),
 (259,⟨1,true,16,[.pv (.str .empty)],.strct [0] [9]⟩),
 (260,⟨1,true,16,[.pv (.str .empty)],.strct [0] [9]⟩),
 (261,⟨1,false,8,[.pv .nilFunc],.other⟩),
 (262,⟨1,false,8,[.pv .nilFunc],.other⟩),
 (263,⟨1,false,8,[.pv .nilMap],.imap⟩),
 (265,⟨1,false,8,[.pv .nilFunc],.other⟩),
 (266,⟨1,false,8,[.pv .nilFunc],.other⟩),
 (267,⟨1,false,8,[.pv .nilFunc],.other⟩),
 (268,⟨1,false,8,[.pv .nilFunc],.other⟩),
 (269,⟨1,false,8,[.pv .nilFunc],.other⟩),
 (270,⟨1,false,8,[.pv .nilFunc],.other⟩),
 (271,⟨1,false,8,[.pv .nilFunc],.other⟩),
 (272,⟨1,false,8,[.pv .nilFunc],.other⟩),
 (273,⟨1,false,8,[.pv .nilFunc],.other⟩),
 (274,⟨1,false,8,[.pv .nilFunc],.other⟩),
 (275,⟨0,true,0,[],.strct [] []⟩),
 (276,⟨0,true,0,[],.strct [] []⟩),
 (277,⟨2,true,16,[.pv (.int .i64 0),.pv (.int .i64 0)],.strct [0,1] [3,3]⟩),
 (278,⟨2,true,16,[.pv (.int .i64 0),.pv (.int .i64 0)],.strct [0,1] [3,3]⟩),
 (279,⟨2,true,16,[.pv (.int .i64 0),.pv (.int .i64 0)],.strct [0,1] [3,3]⟩),
 (280,⟨1,false,8,[.pv .nilFunc],.other⟩),
 (281,⟨1,false,8,[.pv .nilFunc],.other⟩),
 (282,⟨1,false,8,[.pv .nilFunc],.other⟩),
 (283,⟨1,false,8,[.pv .nilFunc],.other⟩),
 (284,⟨1,false,8,[.pv .nilFunc],.other⟩),
 (285,⟨1,true,8,[.pv (.int .i64 0)],.strct [0] [3]⟩),
 (286,⟨1,true,8,[.pv (.int .i64 0)],.strct [0] [3]⟩),
 (287,⟨1,true,16,[.pv (.str .empty)],.strct [0] [9]⟩),
 (288,⟨1,true,16,[.pv (.str .empty)],.strct [0] [9]⟩),
 (289,⟨1,false,8,[.pv .nilFunc],.other⟩),
 (290,⟨1,false,8,[.pv .nilFunc],.other⟩),
 (291,⟨4,true,32,[.pv (.int .i64 0),.pv (.int .i64 0),.pv (.int .i64 0),.pv (.int .i64 0)],.array 64 2⟩),
 (292,⟨2,true,16,[.pv .nilFunc,.pv .nilFunc],.array 107 2⟩),
 (293,⟨1,false,8,[.pv .nilFunc],.other⟩),
 (294,⟨1,false,8,[.pv .nilFunc],.other⟩),
 (295,⟨1,false,8,[.pv .nilPtr],.other⟩),
 (296,⟨1,false,8,[.pv .nilFunc],.other⟩),
 (297,⟨1,false,8,[.pv .nilFunc],.other⟩),
 (298,⟨1,false,24,[.nils],.slice 46⟩),
 (299,⟨1,false,8,[.pv .nilFunc],.other⟩),
 (301,⟨1,false,8,[.pv .nilFunc],.other⟩),
 (302,⟨1,false,8,[.pv .nilFunc],.other⟩),
 (303,⟨1,false,8,[.pv (.int .i64 0)],.int .i64⟩),
 (305,⟨1,false,8,[.pv .nilFunc],.other⟩),
 (306,⟨1,false,8,[.pv .nilFunc],.other⟩),
 (307,⟨1,false,8,[.pv .nilFunc],.other⟩),
 (309,⟨1,false,8,[.pv .nilFunc],.other⟩),
 (310,⟨1,false,8,[.pv .nilFunc],.other⟩),
 (312,⟨1,false,8,[.pv .nilFunc],.other⟩),
 (314,⟨1,false,8,[.pv .nilFunc],.other⟩),
 (315,⟨1,false,8,[.pv (.int .u64 0)],.int .u64⟩),
 (316,⟨1,false,8,[.pv .nilFunc],.other⟩),
 (317,⟨1,false,8,[.pv .nilFunc],.other⟩),
 (318,⟨1,false,8,[.pv .nilFunc],.other⟩),
 (319,⟨1,false,8,[.pv .nilPtr],.other⟩),
 (320,⟨1,false,8,[.pv .nilFunc],.other⟩),
 (321,⟨1,false,8,[.pv .nilPtr],.other⟩),
 (322,⟨1,false,8,[.pv .nilFunc],.other⟩),
 (323,⟨1,false,8,[.pv .nilFunc],.other⟩),
 (324,⟨4,true,40,[.pv .nilPtr,.pv .nilPtr,.pv .nilPtr,.pv (.str .empty)],.strct [0,1,2,3] [17,17,17,9]⟩),
 (325,⟨4,true,40,[.pv .nilPtr,.pv .nilPtr,.pv .nilPtr,.pv (.str .empty)],.strct [0,1,2,3] [17,17,17,9]⟩),
 (326,⟨0,true,0,[],.array 16 0⟩),
 (327,⟨0,true,0,[],.strct [0] [326]⟩),
 (328,⟨0,true,0,[],.strct [0] [326]⟩),
 (329,⟨1,false,1,[.pv (.int .u8 0)],.int .u8⟩),
 (330,⟨1,false,1,[.pv (.int .u8 0)],.int .u8⟩),
 (331,⟨1,false,8,[.pv .nilFunc],.other⟩),
 (332,⟨1,false,8,[.pv .nilPtr],.other⟩),
 (333,⟨1,false,4,[.pv (.int .i32 0)],.int .i32⟩),
 (334,⟨1,false,4,[.pv (.int .i32 0)],.int .i32⟩),
 (335,⟨11,true,48,[.pv (.int .u64 0),.pv (.int .u64 0),.pv (.int .u32 0),.pv (.int .u8 0),.pv (.int .u8 0),.pv (.int .u8 0),.pv (.int .u8 0),.pv .nilFunc,.pv .nilPtr,.pv (.int .i32 0),.pv (.int .i32 0)],.strct [0,1,2,3,4,5,6,7,8,9,10] [12,12,225,329,5,5,330,331,332,333,334]⟩),
 (336,⟨11,true,48,[.pv (.int .u64 0),.pv (.int .u64 0),.pv (.int .u32 0),.pv (.int .u8 0),.pv (.int .u8 0),.pv (.int .u8 0),.pv (.int .u8 0),.pv .nilFunc,.pv .nilPtr,.pv (.int .i32 0),.pv (.int .i32 0)],.strct [0,1,2,3,4,5,6,7,8,9,10] [12,12,225,329,5,5,330,331,332,333,334]⟩),
 (337,⟨1,false,8,[.pv .nilFunc],.other⟩),
 (338,⟨1,false,8,[.pv .nilPtr],.other⟩)]
def T:Nat -> Option TyI:=tab tyL
theorem hT:TabOK Tryz.prog T:=tabOK_of (by kernel_rfl)
theorem hM:Tryz.prog.follows .mixedOrders = true:=by kernel_rfl
theorem und99:Tryz.prog.underlying 99 = some (.map 3 56):=by kernel_rfl
theorem und127:Tryz.prog.underlying 127 = some (.map 213 216):=by kernel_rfl
theorem und156:Tryz.prog.underlying 156 = some (.map 3 155):=by kernel_rfl
theorem und263:Tryz.prog.underlying 263 = some (.map 3 122):=by kernel_rfl
theorem und3:Tryz.prog.underlying 3 = some (.int .i64):=by kernel_rfl
end Go.Abs
