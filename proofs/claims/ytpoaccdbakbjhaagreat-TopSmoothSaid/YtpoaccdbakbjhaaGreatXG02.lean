/- Operations that only compute or read: what they do to an abstract state. -/
import Derived.Test.YtpoaccdbakbjhaaGreatXG01
set_option linter.unusedVariables false
set_option linter.unusedSimpArgs false
namespace Go.Abs
open Go.RowKit
inductive TK where
 | int (k:IntKind)
 | bool
 | str
 | slice (e:Nat)
 | strct (offs tys:List Nat)
 | array (e n:Nat)
 | imap
 | other
structure TyI where
 size:Nat
 agg:Bool
 bytes:Nat
 zero:List FV
 kind:TK
def zrep:Value -> FV -> Bool
 | .int k n,.pv (.int k' m)=>decide (k = k') && decide (n = m)
 | .bool b,.pv (.bool c)=>b == c
 | .string s,.pv (.str t)=>decide (s.data.toList = t.data.toList)
 | .slice none 0 0,.nils=>true
 | .nilFunc,.pv .nilFunc=>true
 | .nilIface,.pv .nilIface=>true
 | .map none,.pv .nilMap=>true
 | .pointer none,.pv .nilPtr=>true
 | _,_=>false
def zrepL:List Value -> List FV -> Bool
 | [],[]=>true
 | v :: vs,x :: xs=>zrep v x && zrepL vs xs
 | _,_=>false
def kindB (d:TypeDesc) (k:TK):Bool :=
 match k,d with
 | .int k,.int k'=>decide (k = k')
 | .bool,.bool=>true
 | .str,.string=>true
 | .slice e,.slice e'=>Nat.beq e e'
 | .strct offs tys,.struct fs=>decide (fs.toList.map (·.offset) = offs) && decide (fs.toList.map (·.type) = tys)
 | .imap,.map _ _=>true
 | .array e n,.array n' e'=>Nat.beq e e' && Nat.beq n n'
 | .other,_=>true
 | _,_=>false
def tyB (P:Program) (t:Nat) (i:TyI):Bool :=
 match P.info? t,P.underlying t with
 | some info,some d =>
  Nat.beq info.size i.size && Nat.beq info.bytes i.bytes && (match info.zero with|some z=>zrepL z.cells.toList i.zero|none=>false) && kindB d i.kind &&
   ((match d with|.struct _|.array _ _=>true|_=>false) == i.agg)
 | _,_=>false
def TabOK (P:Program) (T:Nat -> Option TyI):Prop:=∀ t i,T t = some i -> tyB P t i = true
def tabB (P:Program):List (Nat × TyI) -> Bool
 | []=>true
 | (t,i) :: r=>tyB P t i && tabB P r
def tab:List (Nat × TyI) -> Nat -> Option TyI
 | [],_=>none
 | (k,v) :: r,t=>match Nat.beq k t with|true=>some v|false=>tab r t
theorem tabOK_of {P:Program}:∀ {l:List (Nat × TyI)},tabB P l = true -> TabOK P (tab l)
 | [],_,t,i,h=>by simp [tab] at h
 | (k,v) :: r,hb,t,i,h=>by
  simp only [tabB,Bool.and_eq_true] at hb
  unfold tab at h
  split at h
  ·rename_i he
   have:=Nat.eq_of_beq_eq_true he
   subst this; cases h; exact hb.1
  ·exact tabOK_of hb.2 t i h
theorem zrep_ok {v:Value} {x:FV} (h:zrep v x = true):x.leaf = true /\ (∀ n,x.lt n = true) /\ ∀ w D φ,FRep w D φ v x:= by
 unfold zrep at h
 split at h
 ·rename_i k n k' m
  simp only [Bool.and_eq_true,decide_eq_true_eq] at h
  obtain ⟨rfl,rfl⟩:=h
  exact ⟨rfl,fun _=>rfl,fun w D φ=>.pv _ _ (.int _ _)⟩
 ·rename_i b c
  have:b = c:=by simpa using h
  subst this
  exact ⟨rfl,fun _=>rfl,fun w D φ=>.pv _ _ (.bool _)⟩
 ·rename_i s t
  have h':s = t:= by
   have:=of_decide_eq_true h
   cases s; cases t; congr; exact Array.toList_inj.1 this
  subst h'
  exact ⟨rfl,fun _=>rfl,fun w D φ=>.pv _ _ (.str _)⟩
 ·exact ⟨rfl,fun _=>rfl,fun w D φ=>.nils⟩
 ·exact ⟨rfl,fun _=>rfl,fun w D φ=>.pv _ _ .nilFunc⟩
 ·exact ⟨rfl,fun _=>rfl,fun w D φ=>.pv _ _ .nilIface⟩
 ·exact ⟨rfl,fun _=>rfl,fun w D φ=>.pv _ _ .nilMap⟩
 ·exact ⟨rfl,fun _=>rfl,fun w D φ=>.pv _ _ .nilPtr⟩
 ·cases h
theorem zrepL_ok:∀ {vs:List Value} {xs:List FV},zrepL vs xs = true -> vs.length = xs.length /\ (∀ n,FV.ltL n xs = true) /\
  ∀ (j:Nat) (v:Value) (x:FV),vs[j]? = some v -> xs[j]? = some x -> x.leaf = true /\ ∀ w D φ,FRep w D φ v x
 | [],[],_=>⟨rfl,fun _=>rfl,by simp⟩
 | v :: vs,x :: xs,h=>by
  simp only [zrepL,Bool.and_eq_true] at h
  obtain ⟨h1,h2,h3⟩:=zrepL_ok h.2
  obtain ⟨h4,h5,h6⟩:=zrep_ok h.1
  refine ⟨by simp [h1],fun n=>by simp [FV.ltL,h5,h2],?_⟩
  intro j u y hu hy
  cases j with
  | zero=>simp at hu hy; subst hu; subst hy; exact ⟨h4,h6⟩
  | succ j=>exact h3 j u y (by simpa using hu) (by simpa using hy)
 | [],_ :: _,h=>by simp [zrepL] at h
 | _ :: _,[],h=>by simp [zrepL] at h
structure TyOK (P:Program) (t:Nat) (i:TyI):Prop where
 info:∃ info z,P.info? t = some info /\ info.size = i.size /\ info.bytes = i.bytes /\ info.zero = some z /\ zrepL z.cells.toList i.zero = true
 und:∃ d,P.underlying t = some d /\ kindB d i.kind = true /\ (match d with|.struct _|.array _ _=>true|_=>false) = i.agg
theorem TabOK.ty {P:Program} {T:Nat -> Option TyI} (hT:TabOK P T) {t:Nat} {i:TyI} (h:T t = some i):TyOK P t i:= by
 have hb:=hT t i h
 unfold tyB at hb
 split at hb
 ·rename_i info d h1 h2
  simp only [Bool.and_eq_true] at hb
  obtain ⟨⟨⟨⟨b1,b2⟩,b3⟩,b4⟩,b5⟩:=hb
  split at b3
  ·rename_i z hz
   exact ⟨⟨info,z,h1,Nat.eq_of_beq_eq_true b1,Nat.eq_of_beq_eq_true b2,hz,b3⟩,⟨d,h2,b4,by simpa using b5⟩⟩
  ·cases b3
 ·cases hb
section
variable {P:Program} {t:Nat} {i:TyI}
theorem TyOK.run_size (h:TyOK P t i) (w:World):(sizeOf t).run P w = .ok i.size w:= by
 obtain ⟨info,z,h1,h2,_⟩:=h.info
 simp [sizeOf,typeInfo,h1,h2]
theorem TyOK.run_und (h:TyOK P t i) (w:World) {d:TypeDesc} (hd:P.underlying t = some d):(underlying t).run P w = .ok d w:= by
 simp [underlying,hd]
theorem TyOK.run_agg (h:TyOK P t i) (w:World):(isAgg t).run P w = .ok i.agg w:= by
 obtain ⟨d,h1,_,h3⟩:=h.und
 simp only [isAgg,Sem.run_bind,h.run_und w h1,Result.andThen_ok]
 cases d <;> simp_all
theorem TyOK.slice (h:TyOK P t i) {e:Nat} (hk:i.kind = .slice e):P.underlying t = some (.slice e):= by
 obtain ⟨d,h1,h2,_⟩:=h.und
 rw [hk] at h2
 cases d <;> simp [kindB] at h2
 rw [h1,h2]
theorem TyOK.str (h:TyOK P t i) (hk:i.kind = .str):P.underlying t = some .string:= by
 obtain ⟨d,h1,h2,_⟩:=h.und
 rw [hk] at h2
 cases d <;> simp [kindB] at h2
 rw [h1]
theorem TyOK.bool (h:TyOK P t i) (hk:i.kind = .bool):P.underlying t = some .bool:= by
 obtain ⟨d,h1,h2,_⟩:=h.und
 rw [hk] at h2
 cases d <;> simp [kindB] at h2
 rw [h1]
theorem TyOK.int (h:TyOK P t i) {k:IntKind} (hk:i.kind = .int k):P.underlying t = some (.int k):= by
 obtain ⟨d,h1,h2,_⟩:=h.und
 rw [hk] at h2
 cases d <;> simp [kindB] at h2
 rw [h1,h2]
theorem TyOK.strct (h:TyOK P t i) {offs tys:List Nat} (hk:i.kind = .strct offs tys):∃ fs,P.underlying t = some (.struct fs) /\ fs.toList.map (·.offset) = offs /\ fs.toList.map (·.type) = tys:= by
 obtain ⟨d,h1,h2,_⟩:=h.und
 rw [hk] at h2
 cases d <;> simp [kindB] at h2
 exact ⟨_,h1,by simpa using h2.1,by simpa using h2.2⟩
end
def constFV:Value -> Option FV
 | .bool b=>some (.pv (.bool b))
 | .int k n=>some (.pv (.int k n))
 | .string s=>some (.pv (.str s))
 | .slice none 0 0=>some .nils
 | .nilFunc=>some (.pv .nilFunc)
 | .nilIface=>some (.pv .nilIface)
 | .map none=>some (.pv .nilMap)
 | .pointer none=>some (.pv .nilPtr)
 | _=>none
def ASt.ev (s:ASt):Operand -> Option FV
 | .tmp t=>s.get t
 | .const v=>constFV v
 | .func f=>some (.pv (.fn f []))
 | .global _=>none
theorem constFV_ok {v:Value} {x:FV} (h:constFV v = some x):(∀ n,x.lt n = true) /\ ∀ w D φ,FRep w D φ v x:= by
 unfold constFV at h
 split at h <;> first|(cases h; done)|skip
 ·cases h; exact ⟨fun _=>rfl,fun w D φ=>.pv _ _ (.bool _)⟩
 ·cases h; exact ⟨fun _=>rfl,fun w D φ=>.pv _ _ (.int _ _)⟩
 ·cases h; exact ⟨fun _=>rfl,fun w D φ=>.pv _ _ (.str _)⟩
 ·cases h; exact ⟨fun _=>rfl,fun w D φ=>.nils⟩
 ·cases h; exact ⟨fun _=>rfl,fun w D φ=>.pv _ _ .nilFunc⟩
 ·cases h; exact ⟨fun _=>rfl,fun w D φ=>.pv _ _ .nilIface⟩
 ·cases h; exact ⟨fun _=>rfl,fun w D φ=>.pv _ _ .nilMap⟩
 ·cases h; exact ⟨fun _=>rfl,fun w D φ=>.pv _ _ .nilPtr⟩
section
variable {W0:World} {D0:Bas} {nt:Nat} {s:ASt} {D:Nat -> Prop} {φ:Nat -> Value} {a:Act} {w:World}
theorem Inv.ev {o:Operand} {x:FV} (h:Inv W0 D0 nt s D φ a w) (hx:s.ev o = some x):x.lt s.nxt = true /\ FRep w D φ (a.eval o) x:= by
 cases o with
 | tmp t=>exact ⟨(h.env t x hx).1,h.eval hx⟩
 | const v=>exact ⟨(constFV_ok hx).1 _,(constFV_ok hx).2 w D φ⟩
 | func f=>cases hx; exact ⟨rfl,.pv _ _ (.fn f #[] [] rfl (by simp))⟩
 | global g=>cases hx
theorem FRep.inv_pv {v:Value} {p:PV} (h:FRep w D φ v (.pv p)):Rep w D v p:=by cases h; assumption
theorem Rep.inv_int {v:Value} {k:IntKind} {n:Int} (h:Rep w D v (.int k n)):v = .int k n:=by cases h; rfl
theorem Rep.inv_bool {v:Value} {b:Bool} (h:Rep w D v (.bool b)):v = .bool b:=by cases h; rfl
theorem Rep.inv_str {v:Value} {b:ByteArray} (h:Rep w D v (.str b)):v = .string b:=by cases h; rfl
theorem Inv.ev_int {o:Operand} {k:IntKind} {n:Int} (h:Inv W0 D0 nt s D φ a w) (hx:s.ev o = some (.pv (.int k n))):a.eval o = .int k n:=((h.ev hx).2.inv_pv).inv_int
theorem Inv.ev_bool {o:Operand} {b:Bool} (h:Inv W0 D0 nt s D φ a w) (hx:s.ev o = some (.pv (.bool b))):a.eval o = .bool b:=((h.ev hx).2.inv_pv).inv_bool
theorem Inv.ev_str {o:Operand} {b:ByteArray} (h:Inv W0 D0 nt s D φ a w) (hx:s.ev o = some (.pv (.str b))):a.eval o = .string b:=((h.ev hx).2.inv_pv).inv_str
end
def dstB (nt:Nat):Option Nat -> Bool
 | some d=>Nat.blt d nt
 | none=>true
theorem dstB_lt {nt:Nat} {d:Option Nat} (h:dstB nt d = true):∀ d',d = some d' -> d' < nt:= by
 rintro d' rfl
 simpa [dstB] using h
section
variable {P:Program} {nt:Nat} {s:ASt} {o:Oper}
theorem not_defer_of {a:Act} {w w':World} {v:Value} (hr:(execOp a.eval o).run P w = .ok (.value v) w'):∀ c,o.op ≠ .defer c:= by
 intro c hc
 simp only [execOp,hc,Sem.run_bind] at hr
 cases hd:(resolve a.eval c o.type).run P w <;> simp [hd,Result.andThen] at hr
theorem OpTo.value {x:Option FV} (hd:dstB nt o.dst = true)
  (h:∀ W0 D0 D φ a w,Inv W0 D0 nt s D φ a w -> ∃ v,(execOp a.eval o).run P w = .ok (.value v) w /\ ∀ x',x = some x' -> x'.lt s.nxt = true /\ FRep w D φ v x'):OpTo P nt o s (s.putO o.dst x):= by
 intro ro W0 D0 D φ a w hI K Q hK
 obtain ⟨v,hr,hx⟩:=h W0 D0 D φ a w hI
 refine wpIn_of (not_defer_of hr) ?_
 unfold Oper.wp
 rw [hr]
 exact hK D φ _ w (hI.put o.dst (dstB_lt hd) v x hx)
def binI (op:BinOp) (k:IntKind) (a b:Int):Option PV :=
 match op with
 | .add=>some (.int k (k.wrap (a + b)))
 | .sub=>some (.int k (k.wrap (a - b)))
 | .mul=>some (.int k (k.wrap (a * b)))
 | .eql=>some (.bool (decide (a = b)))
 | .neq=>some (.bool (decide (¬ a = b)))
 | .lss=>some (.bool (decide (a < b)))
 | .leq=>some (.bool (decide (a <= b)))
 | .gtr=>some (.bool (decide (a > b)))
 | .geq=>some (.bool (decide (a >= b)))
 | _=>none
theorem op_bin {op:BinOp} {t t':TypeId} {x y:Operand} {k:IntKind} {m n:Int} {p:PV} (ho:o.op = .binOp op t x y t') (hd:dstB nt o.dst = true)
  (hx:s.ev x = some (.pv (.int k m))) (hy:s.ev y = some (.pv (.int k n))) (hp:binI op k m n = some p):OpTo P nt o s (s.putO o.dst (some (.pv p))) :=
 OpTo.value hd fun W0 D0 D φ a w hI=>by
  have e1:(m == n) = decide (m = n):=by by_cases h:m = n <;> simp [h]
  have e2:(m != n) = decide (¬ m = n):=by by_cases h:m = n <;> simp [h]
  cases op <;> simp only [binI,Option.some.injEq,reduceCtorEq] at hp <;> subst hp <;>
   refine ⟨_,by simp only [execOp,ho,hI.ev_int hx,hI.ev_int hy,eqGuard,binOp,Op.intArith,Op.intCmp,ne_eq,not_true_eq_false,if_false,Sem.run_bind,Sem.run_pure,Result.andThen_ok,Bool.not_true,Bool.not_false,Bool.false_eq_true,if_true,e1,e2]; rfl,fun x' h=>by cases h; exact ⟨rfl,.pv _ _ (by constructor)⟩⟩
theorem op_add {t t':TypeId} {x y:Operand} {m n:Int} (ho:o.op = .binOp .add t x y t') (hd:dstB nt o.dst = true)
  (hx:s.ev x = some (.pv (.int .i64 m))) (hy:s.ev y = some (.pv (.int .i64 n))) (h:-9223372036854775808 <= m + n /\ m + n <= 9223372036854775807):OpTo P nt o s (s.putO o.dst (some (.pv (.int .i64 (m + n))))) :=
 op_bin ho hd hx hy (by
  have:IntKind.i64.wrap (m + n) = m + n:=by unfold IntKind.wrap; simp [IntKind.signed,IntKind.bits]; omega
  simp only [binI,this])
theorem op_sub {t t':TypeId} {x y:Operand} {m n:Int} (ho:o.op = .binOp .sub t x y t') (hd:dstB nt o.dst = true)
  (hx:s.ev x = some (.pv (.int .i64 m))) (hy:s.ev y = some (.pv (.int .i64 n))) (h:-9223372036854775808 <= m - n /\ m - n <= 9223372036854775807):OpTo P nt o s (s.putO o.dst (some (.pv (.int .i64 (m - n))))) :=
 op_bin ho hd hx hy (by
  have:IntKind.i64.wrap (m - n) = m - n:=by unfold IntKind.wrap; simp [IntKind.signed,IntKind.bits]; omega
  simp only [binI,this])
theorem op_mul {t t':TypeId} {x y:Operand} {m n:Int} (ho:o.op = .binOp .mul t x y t') (hd:dstB nt o.dst = true)
  (hx:s.ev x = some (.pv (.int .i64 m))) (hy:s.ev y = some (.pv (.int .i64 n))) (h:-9223372036854775808 <= m * n /\ m * n <= 9223372036854775807):OpTo P nt o s (s.putO o.dst (some (.pv (.int .i64 (m * n))))) :=
 op_bin ho hd hx hy (by
  have:IntKind.i64.wrap (m * n) = m * n:= by
   generalize m * n = z at h
   unfold IntKind.wrap; simp [IntKind.signed,IntKind.bits]; omega
  simp only [binI,this])
theorem op_not {t:TypeId} {x:Operand} {b:Bool} (ho:o.op = .unOp .not t x) (hd:dstB nt o.dst = true) (hx:s.ev x = some (.pv (.bool b))):OpTo P nt o s (s.putO o.dst (some (.pv (.bool !b)))) :=
 OpTo.value hd fun W0 D0 D φ a w hI=>⟨.bool !b,by simp [execOp,ho,hI.ev_bool hx,Op.unary],fun x' h=>by cases h; exact ⟨rfl,.pv _ _ (.bool _)⟩⟩
theorem op_neg {t:TypeId} {x:Operand} {n:Int} (ho:o.op = .unOp .neg t x) (hd:dstB nt o.dst = true) (hx:s.ev x = some (.pv (.int .i64 n))) (h:-9223372036854775807 <= n /\ n <= 9223372036854775807) :
  OpTo P nt o s (s.putO o.dst (some (.pv (.int .i64 (-n))))) :=
 OpTo.value hd fun W0 D0 D φ a w hI=>by
  have:IntKind.i64.wrap (0 - n) = -n:=by unfold IntKind.wrap; simp [IntKind.signed,IntKind.bits]; omega
  exact ⟨.int .i64 (-n),by simp only [execOp,ho,hI.ev_int hx,Op.unary,Op.intArith,Sem.run_bind,Sem.run_pure,Result.andThen_ok,this],fun x' h=>by cases h; exact ⟨rfl,.pv _ _ (.int _ _)⟩⟩
theorem op_extract {x:Operand} {ix:Nat} {cs:List FV} {y:FV} (ho:o.op = .extract x ix) (hd:dstB nt o.dst = true) (hx:s.ev x = some (.tup cs)) (hy:cs[ix]? = some y):OpTo P nt o s (s.putO o.dst (some y)) :=
 OpTo.value hd fun W0 D0 D φ a w hI=>by
  obtain ⟨hl,hr⟩:=hI.ev hx
  generalize hv:a.eval x = v at hr
  cases hr with
  | tup vs cs hlen hr =>
   have hlt:ix < vs.size:=by rw [hlen]; exact (List.getElem?_eq_some_iff.1 hy).1
   refine ⟨vs[ix],by simp [execOp,ho,hv,Instr.extract,hlt],fun x' h=>?_⟩
   cases h
   refine ⟨FV.lt_mem (by simpa [FV.lt] using hl) (List.mem_of_getElem? hy),hr ix _ _ (by simp [hlt]) hy⟩
end
end Go.Abs
