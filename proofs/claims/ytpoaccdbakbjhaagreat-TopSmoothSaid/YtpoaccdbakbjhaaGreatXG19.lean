/- slices.IndexFunc and slices.ContainsFunc, at each type at which the program has them. -/
import Derived.Test.YtpoaccdbakbjhaaGreatXG18
import Derived.Test.YtpoaccdbakbjhaaGreatXG16
import Derived.Laws.StructEq
import Derived.Test.YtpoaccdbakbjhaaGreatXG17
import Derived.Test.YtpoaccdbakbjhaaGreatXG14
set_option linter.unusedVariables false
set_option linter.unusedSimpArgs false
namespace Go.Abs
open Go.Proofs
set_option maxRecDepth 100000
theorem u167 (L:List Tube) (g:Nat) (caps:List PV) (p:Tube -> Bool) (hL:L.length <= 1000) (hp:∀ x ∈ L,ACalls Tryz.prog g ([.agg (eTube x)] ++ caps) (fun r=>r = .pv (.bool (p x)))) :
  ACalls Tryz.prog 167 [.sl (L.map eTube),.fn g caps] (fun r=>r = .pv (vi (idxFrom p L 0))):= by
 refine ACalls.of_body hT Tryz.func167 rfl (by kernel_rfl) rfl ?_
 (repeat (refine stp ?_))
 refine AW_loopC (fun k:Nat=>k <= L.length /\ idxFrom p L 0 = idxFrom p (L.drop k) k) (fun k=>mkSt [(0,.pv (.sl (L.map eTube))),(1,.pv (.fn g caps)),(7,.pv (vi L.length)),(8,.pv (vi k))] [] 0) (fun k=>L.length - k) 0 ⟨Nat.zero_le _,rfl⟩ ?_ ?_
 ·exact Le.mk ⟨rfl,rfl,rfl,rfl,rfl,rfl,rfl,rfl,trivial⟩ trivial
 ·rintro k ⟨hk,hi⟩
  (repeat (refine stp ?_))
  refine AW_cond rfl (fun hc=>?_) (fun hc=>?_)
  ·have hk':k < L.length:=by simpa using hc
   obtain ⟨x,hx⟩:∃ x,L[k]? = some x:=⟨L[k],by simp [hk']⟩
   have e1:=get_map eTube hx
   have hxm:=List.mem_of_getElem? hx
   rw [idxFrom_drop p hx] at hi
   (repeat (refine stp ?_))
   refine AL_do rfl (op_call1 rfl rfl rfl rfl (hp x hxm)) ?_
   (repeat (refine stp ?_))
   refine AW_cond rfl (fun hc2=>?_) (fun hc2=>?_)
   ·rw [hc2] at hi
    (repeat (refine stp ?_))
    exact ⟨_,_,rfl,rfl,by rw [hi]; rfl⟩
   ·rw [hc2] at hi
    (repeat (refine stp ?_))
    exact ⟨k + 1,⟨hk',by rw [hi]; simp⟩,by omega,Le.mk ⟨rfl,rfl,rfl,rfl,rfl,rfl,rfl,rfl,trivial⟩ trivial⟩
  ·have hk':k = L.length:=by simp at hc; omega
   subst hk'
   (repeat (refine stp ?_))
   refine ⟨_,_,rfl,rfl,?_⟩
   rw [hi]; simp [idxFrom]
theorem u104 (L:List Tube) (g:Nat) (caps:List PV) (p:Tube -> Bool) (hL:L.length <= 1000) (hp:∀ x ∈ L,ACalls Tryz.prog g ([.agg (eTube x)] ++ caps) (fun r=>r = .pv (.bool (p x)))) :
  ACalls Tryz.prog 104 [.sl (L.map eTube),.fn g caps] (fun r=>r = .pv (.bool (L.any p))):= by
 refine ACalls.of_body hT Tryz.func104 rfl (by kernel_rfl) rfl ?_
 (repeat' (first|refine stp ?_|(refine AL_do2 rfl ?_; first|refine ⟨_,op_call1 rfl rfl rfl rfl (u167 L g caps p hL hp),?_⟩)|refine AL_gdec rfl rfl rfl (fun hg=>?_) (fun hg=>?_)|refine AL_gnot rfl rfl rfl (fun hg=>?_) (fun hg=>?_)|refine AL_gcases rfl rfl rfl (fun hg=>?_) (fun hg=>?_)))
 exact ⟨_,_,rfl,rfl,by rw [idxFrom_ge _ _ _ (Int.le_refl _)]⟩
theorem u191 (L:List Crack) (g:Nat) (caps:List PV) (p:Crack -> Bool) (hL:L.length <= 1000) (hp:∀ x ∈ L,ACalls Tryz.prog g ([.agg (eCrack x)] ++ caps) (fun r=>r = .pv (.bool (p x)))) :
  ACalls Tryz.prog 191 [.sl (L.map eCrack),.fn g caps] (fun r=>r = .pv (vi (idxFrom p L 0))):= by
 refine ACalls.of_body hT Tryz.func191 rfl (by kernel_rfl) rfl ?_
 (repeat (refine stp ?_))
 refine AW_loopC (fun k:Nat=>k <= L.length /\ idxFrom p L 0 = idxFrom p (L.drop k) k) (fun k=>mkSt [(0,.pv (.sl (L.map eCrack))),(1,.pv (.fn g caps)),(7,.pv (vi L.length)),(8,.pv (vi k))] [] 0) (fun k=>L.length - k) 0 ⟨Nat.zero_le _,rfl⟩ ?_ ?_
 ·exact Le.mk ⟨rfl,rfl,rfl,rfl,rfl,rfl,rfl,rfl,trivial⟩ trivial
 ·rintro k ⟨hk,hi⟩
  (repeat (refine stp ?_))
  refine AW_cond rfl (fun hc=>?_) (fun hc=>?_)
  ·have hk':k < L.length:=by simpa using hc
   obtain ⟨x,hx⟩:∃ x,L[k]? = some x:=⟨L[k],by simp [hk']⟩
   have e1:=get_map eCrack hx
   have hxm:=List.mem_of_getElem? hx
   rw [idxFrom_drop p hx] at hi
   (repeat (refine stp ?_))
   refine AL_do rfl (op_call1 rfl rfl rfl rfl (hp x hxm)) ?_
   (repeat (refine stp ?_))
   refine AW_cond rfl (fun hc2=>?_) (fun hc2=>?_)
   ·rw [hc2] at hi
    (repeat (refine stp ?_))
    exact ⟨_,_,rfl,rfl,by rw [hi]; rfl⟩
   ·rw [hc2] at hi
    (repeat (refine stp ?_))
    exact ⟨k + 1,⟨hk',by rw [hi]; simp⟩,by omega,Le.mk ⟨rfl,rfl,rfl,rfl,rfl,rfl,rfl,rfl,trivial⟩ trivial⟩
  ·have hk':k = L.length:=by simp at hc; omega
   subst hk'
   (repeat (refine stp ?_))
   refine ⟨_,_,rfl,rfl,?_⟩
   rw [hi]; simp [idxFrom]
theorem u141 (L:List Crack) (g:Nat) (caps:List PV) (p:Crack -> Bool) (hL:L.length <= 1000) (hp:∀ x ∈ L,ACalls Tryz.prog g ([.agg (eCrack x)] ++ caps) (fun r=>r = .pv (.bool (p x)))) :
  ACalls Tryz.prog 141 [.sl (L.map eCrack),.fn g caps] (fun r=>r = .pv (.bool (L.any p))):= by
 refine ACalls.of_body hT Tryz.func141 rfl (by kernel_rfl) rfl ?_
 (repeat' (first|refine stp ?_|(refine AL_do2 rfl ?_; first|refine ⟨_,op_call1 rfl rfl rfl rfl (u191 L g caps p hL hp),?_⟩)|refine AL_gdec rfl rfl rfl (fun hg=>?_) (fun hg=>?_)|refine AL_gnot rfl rfl rfl (fun hg=>?_) (fun hg=>?_)|refine AL_gcases rfl rfl rfl (fun hg=>?_) (fun hg=>?_)))
 exact ⟨_,_,rfl,rfl,by rw [idxFrom_ge _ _ _ (Int.le_refl _)]⟩
theorem u192 (L:List Gauge) (g:Nat) (caps:List PV) (p:Gauge -> Bool) (hL:L.length <= 1000) (hp:∀ x ∈ L,ACalls Tryz.prog g ([.agg (eGauge x)] ++ caps) (fun r=>r = .pv (.bool (p x)))) :
  ACalls Tryz.prog 192 [.sl (L.map eGauge),.fn g caps] (fun r=>r = .pv (vi (idxFrom p L 0))):= by
 refine ACalls.of_body hT Tryz.func192 rfl (by kernel_rfl) rfl ?_
 (repeat (refine stp ?_))
 refine AW_loopC (fun k:Nat=>k <= L.length /\ idxFrom p L 0 = idxFrom p (L.drop k) k) (fun k=>mkSt [(0,.pv (.sl (L.map eGauge))),(1,.pv (.fn g caps)),(7,.pv (vi L.length)),(8,.pv (vi k))] [] 0) (fun k=>L.length - k) 0 ⟨Nat.zero_le _,rfl⟩ ?_ ?_
 ·exact Le.mk ⟨rfl,rfl,rfl,rfl,rfl,rfl,rfl,rfl,trivial⟩ trivial
 ·rintro k ⟨hk,hi⟩
  (repeat (refine stp ?_))
  refine AW_cond rfl (fun hc=>?_) (fun hc=>?_)
  ·have hk':k < L.length:=by simpa using hc
   obtain ⟨x,hx⟩:∃ x,L[k]? = some x:=⟨L[k],by simp [hk']⟩
   have e1:=get_map eGauge hx
   have hxm:=List.mem_of_getElem? hx
   rw [idxFrom_drop p hx] at hi
   (repeat (refine stp ?_))
   refine AL_do rfl (op_call1 rfl rfl rfl rfl (hp x hxm)) ?_
   (repeat (refine stp ?_))
   refine AW_cond rfl (fun hc2=>?_) (fun hc2=>?_)
   ·rw [hc2] at hi
    (repeat (refine stp ?_))
    exact ⟨_,_,rfl,rfl,by rw [hi]; rfl⟩
   ·rw [hc2] at hi
    (repeat (refine stp ?_))
    exact ⟨k + 1,⟨hk',by rw [hi]; simp⟩,by omega,Le.mk ⟨rfl,rfl,rfl,rfl,rfl,rfl,rfl,rfl,trivial⟩ trivial⟩
  ·have hk':k = L.length:=by simp at hc; omega
   subst hk'
   (repeat (refine stp ?_))
   refine ⟨_,_,rfl,rfl,?_⟩
   rw [hi]; simp [idxFrom]
theorem u147 (L:List Gauge) (g:Nat) (caps:List PV) (p:Gauge -> Bool) (hL:L.length <= 1000) (hp:∀ x ∈ L,ACalls Tryz.prog g ([.agg (eGauge x)] ++ caps) (fun r=>r = .pv (.bool (p x)))) :
  ACalls Tryz.prog 147 [.sl (L.map eGauge),.fn g caps] (fun r=>r = .pv (.bool (L.any p))):= by
 refine ACalls.of_body hT Tryz.func147 rfl (by kernel_rfl) rfl ?_
 (repeat' (first|refine stp ?_|(refine AL_do2 rfl ?_; first|refine ⟨_,op_call1 rfl rfl rfl rfl (u192 L g caps p hL hp),?_⟩)|refine AL_gdec rfl rfl rfl (fun hg=>?_) (fun hg=>?_)|refine AL_gnot rfl rfl rfl (fun hg=>?_) (fun hg=>?_)|refine AL_gcases rfl rfl rfl (fun hg=>?_) (fun hg=>?_)))
 exact ⟨_,_,rfl,rfl,by rw [idxFrom_ge _ _ _ (Int.le_refl _)]⟩
theorem u198 (L:List Int) (g:Nat) (caps:List PV) (p:Int -> Bool) (hL:L.length <= 1000) (hp:∀ x ∈ L,ACalls Tryz.prog g ([vi x] ++ caps) (fun r=>r = .pv (.bool (p x)))) :
  ACalls Tryz.prog 198 [.sl (L.map eInt),.fn g caps] (fun r=>r = .pv (vi (idxFrom p L 0))):= by
 refine ACalls.of_body hT Tryz.func198 rfl (by kernel_rfl) rfl ?_
 (repeat (refine stp ?_))
 refine AW_loopC (fun k:Nat=>k <= L.length /\ idxFrom p L 0 = idxFrom p (L.drop k) k) (fun k=>mkSt [(0,.pv (.sl (L.map eInt))),(1,.pv (.fn g caps)),(7,.pv (vi L.length)),(8,.pv (vi k))] [] 0) (fun k=>L.length - k) 0 ⟨Nat.zero_le _,rfl⟩ ?_ ?_
 ·exact Le.mk ⟨rfl,rfl,rfl,rfl,rfl,rfl,rfl,rfl,trivial⟩ trivial
 ·rintro k ⟨hk,hi⟩
  (repeat (refine stp ?_))
  refine AW_cond rfl (fun hc=>?_) (fun hc=>?_)
  ·have hk':k < L.length:=by simpa using hc
   obtain ⟨x,hx⟩:∃ x,L[k]? = some x:=⟨L[k],by simp [hk']⟩
   have e1:=get_map eInt hx
   have hxm:=List.mem_of_getElem? hx
   rw [idxFrom_drop p hx] at hi
   (repeat (refine stp ?_))
   refine AL_do rfl (op_call1 rfl rfl rfl rfl (hp x hxm)) ?_
   (repeat (refine stp ?_))
   refine AW_cond rfl (fun hc2=>?_) (fun hc2=>?_)
   ·rw [hc2] at hi
    (repeat (refine stp ?_))
    exact ⟨_,_,rfl,rfl,by rw [hi]; rfl⟩
   ·rw [hc2] at hi
    (repeat (refine stp ?_))
    exact ⟨k + 1,⟨hk',by rw [hi]; simp⟩,by omega,Le.mk ⟨rfl,rfl,rfl,rfl,rfl,rfl,rfl,rfl,trivial⟩ trivial⟩
  ·have hk':k = L.length:=by simp at hc; omega
   subst hk'
   (repeat (refine stp ?_))
   refine ⟨_,_,rfl,rfl,?_⟩
   rw [hi]; simp [idxFrom]
theorem u160 (L:List Int) (g:Nat) (caps:List PV) (p:Int -> Bool) (hL:L.length <= 1000) (hp:∀ x ∈ L,ACalls Tryz.prog g ([vi x] ++ caps) (fun r=>r = .pv (.bool (p x)))) :
  ACalls Tryz.prog 160 [.sl (L.map eInt),.fn g caps] (fun r=>r = .pv (.bool (L.any p))):= by
 refine ACalls.of_body hT Tryz.func160 rfl (by kernel_rfl) rfl ?_
 (repeat' (first|refine stp ?_|(refine AL_do2 rfl ?_; first|refine ⟨_,op_call1 rfl rfl rfl rfl (u198 L g caps p hL hp),?_⟩)|refine AL_gdec rfl rfl rfl (fun hg=>?_) (fun hg=>?_)|refine AL_gnot rfl rfl rfl (fun hg=>?_) (fun hg=>?_)|refine AL_gcases rfl rfl rfl (fun hg=>?_) (fun hg=>?_)))
 exact ⟨_,_,rfl,rfl,by rw [idxFrom_ge _ _ _ (Int.le_refl _)]⟩
theorem u199 (L:List Place) (g:Nat) (caps:List PV) (p:Place -> Bool) (hL:L.length <= 1000) (hp:∀ x ∈ L,ACalls Tryz.prog g ([.agg (ePlace x)] ++ caps) (fun r=>r = .pv (.bool (p x)))) :
  ACalls Tryz.prog 199 [.sl (L.map ePlace),.fn g caps] (fun r=>r = .pv (vi (idxFrom p L 0))):= by
 refine ACalls.of_body hT Tryz.func199 rfl (by kernel_rfl) rfl ?_
 (repeat (refine stp ?_))
 refine AW_loopC (fun k:Nat=>k <= L.length /\ idxFrom p L 0 = idxFrom p (L.drop k) k) (fun k=>mkSt [(0,.pv (.sl (L.map ePlace))),(1,.pv (.fn g caps)),(7,.pv (vi L.length)),(8,.pv (vi k))] [] 0) (fun k=>L.length - k) 0 ⟨Nat.zero_le _,rfl⟩ ?_ ?_
 ·exact Le.mk ⟨rfl,rfl,rfl,rfl,rfl,rfl,rfl,rfl,trivial⟩ trivial
 ·rintro k ⟨hk,hi⟩
  (repeat (refine stp ?_))
  refine AW_cond rfl (fun hc=>?_) (fun hc=>?_)
  ·have hk':k < L.length:=by simpa using hc
   obtain ⟨x,hx⟩:∃ x,L[k]? = some x:=⟨L[k],by simp [hk']⟩
   have e1:=get_map ePlace hx
   have hxm:=List.mem_of_getElem? hx
   rw [idxFrom_drop p hx] at hi
   (repeat (refine stp ?_))
   refine AL_do rfl (op_call1 rfl rfl rfl rfl (hp x hxm)) ?_
   (repeat (refine stp ?_))
   refine AW_cond rfl (fun hc2=>?_) (fun hc2=>?_)
   ·rw [hc2] at hi
    (repeat (refine stp ?_))
    exact ⟨_,_,rfl,rfl,by rw [hi]; rfl⟩
   ·rw [hc2] at hi
    (repeat (refine stp ?_))
    exact ⟨k + 1,⟨hk',by rw [hi]; simp⟩,by omega,Le.mk ⟨rfl,rfl,rfl,rfl,rfl,rfl,rfl,rfl,trivial⟩ trivial⟩
  ·have hk':k = L.length:=by simp at hc; omega
   subst hk'
   (repeat (refine stp ?_))
   refine ⟨_,_,rfl,rfl,?_⟩
   rw [hi]; simp [idxFrom]
theorem u165 (L:List Place) (g:Nat) (caps:List PV) (p:Place -> Bool) (hL:L.length <= 1000) (hp:∀ x ∈ L,ACalls Tryz.prog g ([.agg (ePlace x)] ++ caps) (fun r=>r = .pv (.bool (p x)))) :
  ACalls Tryz.prog 165 [.sl (L.map ePlace),.fn g caps] (fun r=>r = .pv (.bool (L.any p))):= by
 refine ACalls.of_body hT Tryz.func165 rfl (by kernel_rfl) rfl ?_
 (repeat' (first|refine stp ?_|(refine AL_do2 rfl ?_; first|refine ⟨_,op_call1 rfl rfl rfl rfl (u199 L g caps p hL hp),?_⟩)|refine AL_gdec rfl rfl rfl (fun hg=>?_) (fun hg=>?_)|refine AL_gnot rfl rfl rfl (fun hg=>?_) (fun hg=>?_)|refine AL_gcases rfl rfl rfl (fun hg=>?_) (fun hg=>?_)))
 exact ⟨_,_,rfl,rfl,by rw [idxFrom_ge _ _ _ (Int.le_refl _)]⟩
end Go.Abs
namespace Go.Abs
open Go.RowKit
section
variable {P:Program} {T:Nat -> Option TyI} {nt:Nat} {s:ASt} {o:Oper} {ops:Array Oper}
def intsV (l:List Int):Value:=.agg (l.map (Value.int .i64)).toArray
theorem ints_of {w:World} {D:Nat -> Prop} {v:Value} {l:List Int} (h:Rep w D v (.agg (l.map (PV.int .i64)))):v = intsV l:= by
 cases h with
 | agg vs cs hl hr =>
  simp only [List.length_map] at hl
  unfold intsV
  congr 1
  apply Array.ext
  ·simpa using hl
  ·intro j h1 h2
   have:=hr j vs[j] (.int .i64 (l[j]'(by omega))) (by simp [h1]) (by simp)
   rw [this.inv_int]
   simp
end
end Go.Abs
namespace Go.Abs
open Go.RowKit
section
variable {P:Program} {T:Nat -> Option TyI} {nt:Nat} {s:ASt} {o:Oper} {ops:Array Oper}
theorem op_append_nil1 {t e sz:Nat} {x0 x:Operand} {ti ei:TyI} {ys:List (List PV)} (hT:TabOK P T) (ho:o.op = .call { callee:=.builtin .append,args:=#[x0,x],argTypes:=#[t,t] }) (hd:dstB nt o.dst = true)
  (ht:T t = some ti) (hk:ti.kind = .slice e) (he:T e = some ei) (hpos:Nat.blt 0 ei.size = true) (hzl:Nat.beq ei.zero.length ei.size = true) (hx0:s.ev x0 = some .nils) (hsz:Nat.beq sz ei.size = true)
  (hy:s.srcOf x = some ys) (hyl:∀ y ∈ ys,y.length = sz) (hmax:ys.length <= 1099511627776) (hby:Nat.ble ei.bytes 128 = true) :
  OpTo P nt o s ((s.newObj (.arr e sz ys)).putO o.dst (some (.arr s.nxt))):= by
 intro ro W0 D0 D φ a w hI K Q hK
 have hs:sz = ei.size:=Nat.eq_of_beq_eq_true hsz
 have hp:0 < sz:=by rw [hs]; simpa using hpos
 have hzl':=Nat.eq_of_beq_eq_true hzl
 have hby':=Nat.le_of_ble_eq_true hby
 obtain ⟨info,z,i1,i2,i3,i4,i5⟩:=(hT.ty he).info
 have hund:=(hT.ty ht).slice hk
 obtain ⟨ad,m,c,hvx,hm,hsrc⟩:=hI.src hy hyl hp
 have hv0:a.eval x0 = .slice none 0 0:= by
  have:=(hI.ev hx0).2
  generalize a.eval x0 = v at this
  cases this; rfl
 have hzc:z.cells.size = sz:= by
  have:=(zrepL_ok i5).1
  simp at this; omega
 have hbytes:(0 + ys.length) * ei.bytes <= 140737488355328:= by
  rw [Nat.zero_add]
  have:=Nat.mul_le_mul hmax hby'
  omega
 have hml:0 + ys.length <= maxLen:=by simp only [maxLen]; omega
 have hown:w.ownsRow w.heap.size e sz (.slice none 0 0) 0 []:=World.ownsRow_nil _ _ _ _
 have key:∃ v' w',(Builtin.append_ #[t,t] o.type #[.slice none 0 0,a.eval x]).run P w = .ok v' w' /\ Below w.heap.size w w' /\ RRep w.heap.size w' D v' (.own e sz ys):= by
  have nilcase:∀ c',(Builtin.append_ #[t,t] o.type #[.slice none 0 0,.slice ad 0 c']).run P w = .ok (.slice none 0 0) w:=fun c'=>run_append_zero w hund i1 none ad 0 0 c' (Nat.le_refl _)
  have nilrep:RRep w.heap.size w D (.slice none 0 0) (.own e sz []):=⟨[],hown,⟨by simp,by simp⟩,fun b hb=>by simp [blk] at hb⟩
  rcases hsrc with rfl|⟨b,news,rfl,hnl,hnc,hnr⟩
  ·refine ⟨_,w,?_,Below.refl _ _,nilrep⟩
   rw [hvx,hm]; exact nilcase c
  ·cases ys with
   | nil =>
    refine ⟨_,w,?_,Below.refl _ _,nilrep⟩
    rw [hvx,hm]; exact nilcase c
   | cons y ys =>
    have hm0:0 < m:=by rw [hm]; simp
    obtain ⟨v',w',hr,h2,h3,h4⟩:=run_append_blk (P:=P) w (ty:=o.type) (c:=c) hund i1 i4 (by rw [i2,hs]) i3 hzc hp hown (by rw [hm]; exact hnl) hnc (hnr.oneCell hnl hp) hm0 (by rw [hm]; exact hml) (by rw [hm]; exact hbytes) (Nat.le_refl _)
    have hbel:Below w.heap.size w w':=(Below.refl _ _).grown h3 (Nat.le_refl _) (fun k hk=>by simp [Value.ownBlock] at hk)
    refine ⟨v',w',by rw [hvx]; exact hr,hbel,[] ++ news,by rw [Nat.zero_add,hm] at h2; exact h2,?_,fun b hb hDb=>?_⟩
    ·rw [List.nil_append]; exact hnr.mono (fun b hb=>hbel.block b (hI.dlt b hb)) (fun _ h=>h)
    ·rcases h4 b hb with h5|⟨h5,_⟩
     ·simp [blk] at h5
     ·have:=hI.dlt b hDb; omega
 obtain ⟨v',w',hr,hbel,hrr⟩:=key
 have hrun:(execOp a.eval o).run P w = .ok (.value v') w':= by
  simp only [execOp,ho,resolve,invoke,builtin,Sem.run_bind,Sem.run_pure,Result.andThen_ok,List.map_toArray,List.map_cons,List.map_nil,hv0,hr]
 refine wpIn_of (by rw [ho]; intro c hc; cases hc) ?_
 unfold Oper.wp
 rw [hrun]
 obtain ⟨φ',hI'⟩:=hI.bind hbel (fun _ h=>h) (fun _ h=>.inl h) hrr o.dst hd
 exact hK _ _ _ _ hI'
end
end Go.Abs
namespace Go.Abs
open Go.RowKit
section
variable {P:Program} {T:Nat -> Option TyI} {nt:Nat} {s:ASt} {o:Oper} {ops:Array Oper}
theorem D_allocE {t:Nat} {i:TyI} (hT:TabOK P T) (hg:guardT ops s o = true) (ho:o.op = .alloc t) (hd:dstB nt o.dst = true) (ht:T t = some i) :
  StepOK P nt ops o s ⟨some (.box s.nxt 0),true,[],[]⟩ ((s.newObj (.box i.zero)).putO o.dst (some (.box s.nxt 0))):= by
 refine StepOK.mkE hg (by cases hd:o.dst <;> rfl) (by cases hd:o.dst <;> exact Nat.le_succ _) (fun id hid _=>?_) fun fr s1 s2 h1 h2 h3 h4 h5 h6 h7=>?_
 ·have:((s.newObj (.box i.zero)).putO o.dst (some (.box s.nxt 0))).obj id = (s.newObj (.box i.zero)).obj id:=by cases hd:o.dst <;> rfl
  rw [this,ASt.obj_newObj,if_neg (by omega)]
 ·have h8:=op_alloc (s:=s1) hT ho hd ht
  refine h8.ext (fun t=>?_) (fun id=>?_) ?_
  ·show look s2.env t = look _ t
   rw [h5,<- h2]; cases hd:o.dst <;> rfl
  ·have q1:((s.newObj (.box i.zero)).putO o.dst (some (.box s.nxt 0))).obj id = (s.newObj (.box i.zero)).obj id:=by cases hd:o.dst <;> rfl
   have q2:((s1.newObj (.box i.zero)).putO o.dst (some (.box s1.nxt 0))).obj id = (s1.newObj (.box i.zero)).obj id:=by cases hd:o.dst <;> rfl
   rw [h7,q1,q2,ASt.obj_newObj,ASt.obj_newObj,h2]
   by_cases hid:id ∈ fr
   ·rw [if_pos hid,if_neg (by have:=(h3 id hid).1; omega)]
   ·rw [if_neg hid,h4 id hid]
  ·rw [h6]; cases hd:o.dst <;> simp [ASt.putO,ASt.put,ASt.newObj,h2]
theorem D_storeE {t id off:Nat} {x y:Operand} {i:TyI} {cs:List FV} {fy:FV} (hT:TabOK P T) (hg:guardT ops s o = true) (ho:o.op = .store t x y) (hd:o.dst = none) (ht:T t = some i) (hx:s.ev x = some (.box id off)) (hob:s.obj id = some (.box cs))
  (hy:s.ev y = some fy) (hlf:leafL (cellsF fy) = true) (hsz:Nat.beq (cellsF fy).length i.size = true) (hfit:Nat.ble (off + (cellsF fy).length) cs.length = true) :
  StepOK P nt ops o s ⟨none,true,[],[id]⟩ ((s.setObj id (some (.box (splice cs off (cellsF fy))))).putO o.dst none):= by
 refine StepOK.mkE hg (by rw [hd]; rfl) (by rw [hd]; exact Nat.le_refl _) (fun id' hid hm=>?_) fun fr s1 s2 h1 h2 h3 h4 h5 h6 h7=>?_
 ·rw [hd]
  show (s.setObj id _).obj id' = _
  rw [ASt.obj_setObj,if_neg (fun e=>hm (by simp [e]))]
 ·have hnf:id ∉ fr:=fun hf=>(h3 id hf).2 (by simp)
  have h8:=op_store_box (nt:=nt) (s:=s1) hT ho hd ht (by rw [ev_agree h1 (by simp [ho,Op.operands])]; exact hx) (by rw [h4 id hnf]; exact hob) (by rw [ev_agree h1 (by simp [ho,Op.operands])]; exact hy) hlf hsz hfit
  rw [hd] at h5 h6 h7
  refine h8.ext (fun t=>?_) (fun id'=>?_) ?_
  ·show look s2.env t = look _ t
   rw [h5]; rfl
  ·rw [h7]
   show (if id' ∈ fr then s1.obj id' else (s.setObj id _).obj id') = _
   rw [ASt.obj_setObj,ASt.obj_setObj]
   by_cases hid:id' ∈ fr
   ·rw [if_pos hid,if_neg (fun e:id = id'=>hnf (by rw [e]; exact hid))]
   ·rw [if_neg hid,h4 id' hid]
  ·rw [h6]
   show s.nxt = s1.nxt
   rw [h2]
theorem FV.ltL_set {n:Nat} {x:FV} (hx:x.lt n = true):∀ (cs:List FV) (i:Nat),FV.ltL n cs = true -> FV.ltL n (cs.set i x) = true
 | [],_,h=>h
 | c :: cs,0,h=>by simp only [FV.ltL,Bool.and_eq_true,List.set_cons_zero] at h ⊢; exact ⟨hx,h.2⟩
 | c :: cs,i + 1,h=>by
  simp only [FV.ltL,Bool.and_eq_true,List.set_cons_succ] at h ⊢
  exact ⟨h.1,FV.ltL_set hx cs i h.2⟩
theorem Inv.boxSet {W0:World} {D0:Bas} {D:Nat -> Prop} {φ:Nat -> Value} {a:Act} {w:World} (hI:Inv W0 D0 nt s D φ a w) {b i:Nat} {fs:List FV} {x x':FV} (hb:s.obj b = some (.box fs)) (hi:fs[i]? = some x) (hlt:x'.lt s.nxt = true) (hleaf:x'.leaf = true)
  (hrep:∀ v,FRep w D φ v x -> FRep w D φ v x'):Inv W0 D0 nt (s.setObj b (some (.box (fs.set i x')))) D φ a w:= by
 obtain ⟨hbn,hbl,bb,vs,e,h1,h2,h3,h4⟩:=hI.objs b _ hb
 refine hI.chg b (fun j=>j = b) (Below.refl _ _) (fun _ _ _=>rfl) (fun _ h=>h) (fun b hb=>.inl hb) (fun _ _=>rfl) (Nat.le_refl _) (fun t x hx=>hx) ?_ ?_
 ·intro id' ob' hne ho'
  rw [ASt.obj_setObj,if_neg (fun e=>hne e.symm)] at ho'
  exact ⟨hne,ho'⟩
 ·intro ob' ho'
  rw [ASt.obj_setObj,if_pos rfl] at ho'
  cases ho'
  refine ⟨hbn,FV.ltL_set hlt fs i hbl,⟨bb,vs,e,h1,h2,by simpa using h3,fun j v y hv hy=>?_⟩,fun b' hb'=>?_⟩
  ·rw [List.getElem?_set] at hy
   split at hy
   ·rename_i hij
    subst hij
    split at hy
    ·cases hy
     exact ⟨hleaf,hrep v (h4 i v x hv hi).2⟩
    ·cases hy
   ·exact h4 j v y hv hy
  ·have hb2:oblk φ b (.box fs) b':=hb'
   obtain ⟨g1,g2,g3⟩:=hI.own b _ b' hb hb2
   exact ⟨g1,g3,.inr ⟨b,_,rfl,hb,hb2⟩⟩
theorem Inv.arrBox {W0:World} {D0:Bas} {D:Nat -> Prop} {φ:Nat -> Value} {a:Act} {w:World} (hI:Inv W0 D0 nt s D φ a w) {b i id e sz:Nat} {fs:List FV} {es:List (List PV)} (hne:Nat.beq b id = false) (hb:s.obj b = some (.box fs)) (hi:fs[i]? = some (.arr id)) (hob:s.obj id = some (.arr e sz es)) :
  ∃ D',Inv W0 D0 nt ((s.setObj id (some (.fro es))).setObj b (some (.box (fs.set i (.pv (.sl es)))))) D' φ a w:= by
 obtain ⟨D',hF⟩:=hI.freeze hob
 have hne':b ≠ id:=fun e=>by subst e; simp at hne
 have hbF:(s.setObj id (some (.fro es))).obj b = some (.box fs):=by rw [ASt.obj_setObj,if_neg (fun e=>hne' e.symm)]; exact hb
 refine ⟨D',hF.boxSet hbF hi rfl rfl fun v hv=>?_⟩
 cases hv with
 | arr id m c ad hφ =>
  have:Rep w D' (φ id) (.sl es):=(hF.objs id (.fro es) (by rw [ASt.obj_setObj,if_pos rfl])).2.2
  rw [hφ] at this
  exact .pv _ _ this
theorem Inv.nilBox {W0:World} {D0:Bas} {D:Nat -> Prop} {φ:Nat -> Value} {a:Act} {w:World} (hI:Inv W0 D0 nt s D φ a w) {b i e sz:Nat} {fs:List FV} (hb:(s.newObj (.arr e sz [])).obj b = some (.box fs)) (hi:fs[i]? = some .nils) :
  ∃ φ',Inv W0 D0 nt ((s.newObj (.arr e sz [])).setObj b (some (.box (fs.set i (.arr s.nxt))))) D φ' a w:= by
 have hN:Inv W0 D0 nt (s.newObj (.arr e sz [])) D (addH φ s.nxt (.slice none 0 0)) a w:= by
  refine hI.new (Below.refl _ _) (fun _ h=>h) (fun _ h=>.inl h) _ _ rfl ⟨[],?_,⟨by simp,by simp⟩⟩ (by intro b hb; simp [blk] at hb)
  rw [addH_new]; exact World.ownsRow_nil _ _ _ _
 refine ⟨_,hN.boxSet hb hi (by simp [FV.lt,ASt.newObj]) rfl fun v hv=>?_⟩
 cases hv
 exact .arr _ _ _ _ (addH_new _ _ _)
section
variable {Q:Exit -> ASt -> Prop} {c:Code} {rest:List Oper} {b i id e sz:Nat} {fs:List FV} {es:List (List PV)}
theorem AW_arrBox (i:Nat) (hne:Nat.beq b id = false) (hb:s.obj b = some (.box fs)) (hi:fs[i]? = some (.arr id)) (hob:s.obj id = some (.arr e sz es)) (h:AW P nt c Q ((s.setObj id (some (.fro es))).setObj b (some (.box (fs.set i (.pv (.sl es))))))):AW P nt c Q s:= by
 intro ro W0 D0 D φ a w hr hI
 obtain ⟨D',hI'⟩:=hI.arrBox hne hb hi hob
 exact h ro W0 D0 D' φ a w hr hI'
theorem AL_arrBox (i:Nat) (hne:Nat.beq b id = false) (hb:s.obj b = some (.box fs)) (hi:fs[i]? = some (.arr id)) (hob:s.obj id = some (.arr e sz es)) (h:AL P nt ops rest Q ((s.setObj id (some (.fro es))).setObj b (some (.box (fs.set i (.pv (.sl es))))))):AL P nt ops rest Q s:= by
 intro ro W0 D0 D φ a w hr hI
 obtain ⟨D',hI'⟩:=hI.arrBox hne hb hi hob
 exact h ro W0 D0 D' φ a w hr hI'
theorem AW_nilBox (b i e sz:Nat) (hb:(s.newObj (.arr e sz [])).obj b = some (.box fs)) (hi:fs[i]? = some .nils) (h:AW P nt c Q ((s.newObj (.arr e sz [])).setObj b (some (.box (fs.set i (.arr s.nxt)))))):AW P nt c Q s:= by
 intro ro W0 D0 D φ a w hr hI
 obtain ⟨φ',hI'⟩:=hI.nilBox hb hi
 exact h ro W0 D0 D φ' a w hr hI'
end
end
end Go.Abs
namespace Go.Abs
open Go.RowKit
section
variable {P:Program} {T:Nat -> Option TyI} {nt:Nat} {s:ASt} {o:Oper} {ops:Array Oper} {rest:List Oper}
theorem D_shl {t t':TypeId} {x y:Operand} {k k':IntKind} {m n:Int} (hg:guardT ops s o = true) (ho:o.op = .binOp .shl t x y t') (hd:dstB nt o.dst = true)
  (hx:s.ev x = some (.pv (.int k m))) (hy:s.ev y = some (.pv (.int k' n))) (hn:0 <= n):StepOK P nt ops o s ⟨some (.pv (.int k (shlR k m n))),false,[],[]⟩ (s.putO o.dst (some (.pv (.int k (shlR k m n))))) :=
 StepOK.mkP hg fun s1 h1 _=>op_shl ho hd (by rw [ev_agree h1 (by simp [ho,Op.operands])]; exact hx) (by rw [ev_agree h1 (by simp [ho,Op.operands])]; exact hy) hn
theorem D_shr {t t':TypeId} {x y:Operand} {k k':IntKind} {m n:Int} (hg:guardT ops s o = true) (ho:o.op = .binOp .shr t x y t') (hd:dstB nt o.dst = true)
  (hx:s.ev x = some (.pv (.int k m))) (hy:s.ev y = some (.pv (.int k' n))) (hn:0 <= n):StepOK P nt ops o s ⟨some (.pv (.int k (shrR k m n))),false,[],[]⟩ (s.putO o.dst (some (.pv (.int k (shrR k m n))))) :=
 StepOK.mkP hg fun s1 h1 _=>op_shr ho hd (by rw [ev_agree h1 (by simp [ho,Op.operands])]; exact hx) (by rw [ev_agree h1 (by simp [ho,Op.operands])]; exact hy) hn
theorem DG_cmp {id k:Nat} {opl:List Oper} {s0:ASt} {l:List DEnt} {Q:Exit -> ASt -> Prop} {p:Prop} [Decidable p] (hT:TabOK P T) (hs:stepD T nt opl.toArray s o = some (s.putO o.dst (some (.pv (.bool (decide p)))),⟨some (.pv (.bool (decide p))),false,[],[]⟩))
  (h1:p -> DG P nt id opl Q s0 (k + 1) rest (s.putO o.dst (some (.pv (.bool true)))) (l ++ [⟨some (.pv (.bool true)),false,[],[]⟩]))
  (h2:¬ p -> DG P nt id opl Q s0 (k + 1) rest (s.putO o.dst (some (.pv (.bool false)))) (l ++ [⟨some (.pv (.bool false)),false,[],[]⟩])):DG P nt id opl Q s0 k (o :: rest) s l:= by
 by_cases h:p
 ·have e:decide p = true:=decide_eq_true h
  rw [e] at hs
  exact DG_step hT hs (h1 h)
 ·have e:decide p = false:=decide_eq_false h
  rw [e] at hs
  exact DG_step hT hs (h2 h)
theorem DG_callC {id k:Nat} {opl:List Oper} {s0:ASt} {l:List DEnt} {Q:Exit -> ASt -> Prop} {c:Bool} (hs:StepOK P nt opl.toArray o s ⟨some (.pv (.bool c)),false,[],[]⟩ (s.putO o.dst (some (.pv (.bool c)))))
  (h1:c = true -> DG P nt id opl Q s0 (k + 1) rest (s.putO o.dst (some (.pv (.bool true)))) (l ++ [⟨some (.pv (.bool true)),false,[],[]⟩]))
  (h2:c = false -> DG P nt id opl Q s0 (k + 1) rest (s.putO o.dst (some (.pv (.bool false)))) (l ++ [⟨some (.pv (.bool false)),false,[],[]⟩])):DG P nt id opl Q s0 k (o :: rest) s l:= by
 cases c with
 | true=>exact DG_next hs (h1 rfl)
 | false=>exact DG_next hs (h2 rfl)
end
end Go.Abs
namespace Go.Abs
open Go.Proofs
set_option maxRecDepth 100000
theorem f87 (x lo hi:Int):ACalls Tryz.prog 40 [vi x,vi lo,vi hi] (fun r=>r = .pv (.bool (inB x lo hi))):= by
 refine ACalls.of_body hT Tryz.func40 rfl (by kernel_rfl) rfl ?_
 (repeat' (first|refine stp ?_|refine AL_gdec rfl rfl rfl (fun hg=>?_) (fun hg=>?_)|refine AL_gnot rfl rfl rfl (fun hg=>?_) (fun hg=>?_)|refine AL_gcases rfl rfl rfl (fun hg=>?_) (fun hg=>?_)))
 all_goals exact ⟨_,_,rfl,rfl,by simp_all [inB]; try omega⟩
theorem f148 (s:Span) (most:Int):ACalls Tryz.prog 92 [eS s,vi most] (fun r=>r = .pv (.bool (spanB s most))):= by
 refine ACalls.of_body hT Tryz.func92 rfl (by kernel_rfl) rfl ?_
 (repeat' (first|refine stp ?_|refine AL_gdec rfl rfl rfl (fun hg=>?_) (fun hg=>?_)|refine AL_gnot rfl rfl rfl (fun hg=>?_) (fun hg=>?_)|refine AL_gcases rfl rfl rfl (fun hg=>?_) (fun hg=>?_)))
 all_goals exact ⟨_,_,rfl,rfl,by simp_all [spanB]; try omega⟩
theorem f147 (a:Acid):ACalls Tryz.prog 91 [.agg (eAcid a)] (fun r=>r = .pv (.bool (!acidB a))):= by
 refine ACalls.of_body hT Tryz.func91 rfl (by kernel_rfl) rfl ?_
 (repeat' (first|refine stp ?_|(refine AL_do2 rfl ?_; first|refine ⟨_,op_call1 rfl rfl rfl rfl (f148 a.strength 100),?_⟩|refine ⟨_,op_call1 rfl rfl rfl rfl (f148 a.fall 20),?_⟩)|refine AL_gdec rfl rfl rfl (fun hg=>?_) (fun hg=>?_)|refine AL_gnot rfl rfl rfl (fun hg=>?_) (fun hg=>?_)|refine AL_gcases rfl rfl rfl (fun hg=>?_) (fun hg=>?_)))
 all_goals exact ⟨_,_,rfl,rfl,by simp_all [acidB]; try omega⟩
theorem f149 (x:Int):ACalls Tryz.prog 93 [vi x] (fun r=>r = .pv (.bool (!inB x 0 100))):= by
 refine ACalls.of_body hT Tryz.func93 rfl (by kernel_rfl) rfl ?_
 (repeat' (first|refine stp ?_|(refine AL_do2 rfl ?_; first|refine ⟨_,op_call1 rfl rfl rfl rfl (f87 x 0 100),?_⟩)|refine AL_gdec rfl rfl rfl (fun hg=>?_) (fun hg=>?_)|refine AL_gnot rfl rfl rfl (fun hg=>?_) (fun hg=>?_)|refine AL_gcases rfl rfl rfl (fun hg=>?_) (fun hg=>?_)))
 all_goals exact ⟨_,_,rfl,rfl,rfl⟩
theorem f150 (d:Drum) (s:Strip) (hh:1 <= d.hours /\ d.hours <= 12):ACalls Tryz.prog 95 [.agg (eStrip s),.ptr (eDrumC d)] (fun r=>r = .pv (.bool (!stripB d.hours s))):= by
 refine ACalls.of_body hT Tryz.func95 rfl (by kernel_rfl) rfl ?_
 (repeat' (first|refine stp ?_|(refine AL_do2 rfl ?_; first|refine ⟨_,op_call1 rfl rfl rfl rfl (f87 s.hour 0 (d.hours - 1)),?_⟩|refine ⟨_,op_call1 rfl rfl rfl rfl (f87 s.seen 0 2000),?_⟩|refine ⟨_,op_call1 rfl rfl rfl rfl (f87 s.off 0 50),?_⟩)|refine AL_gdec rfl rfl rfl (fun hg=>?_) (fun hg=>?_)|refine AL_gnot rfl rfl rfl (fun hg=>?_) (fun hg=>?_)|refine AL_gcases rfl rfl rfl (fun hg=>?_) (fun hg=>?_)))
 all_goals exact ⟨_,_,rfl,rfl,by simp_all [stripB]; try omega⟩
theorem f153 (b:Batch):ACalls Tryz.prog 98 [.agg (eBatch b)] (fun r=>r = .pv (.bool (batchB b))):= by
 refine ACalls.of_body hT Tryz.func98 rfl (by kernel_rfl) rfl ?_
 (repeat' (first|refine stp ?_|(refine AL_do2 rfl ?_; first|refine ⟨_,op_call1 rfl rfl rfl rfl (f87 b.rough 0 1000),?_⟩|refine ⟨_,op_call1 rfl rfl rfl rfl (f87 b.goal 0 1000),?_⟩|refine ⟨_,op_call1 rfl rfl rfl rfl (f87 b.thick 0 1000),?_⟩|refine ⟨_,op_call1 rfl rfl rfl rfl (f87 b.least 0 1000),?_⟩|refine ⟨_,op_call1 rfl rfl rfl rfl (f87 b.polish 0 100),?_⟩|refine ⟨_,op_call1 rfl rfl rfl rfl (f87 b.eat 0 100),?_⟩)|refine AL_gdec rfl rfl rfl (fun hg=>?_) (fun hg=>?_)|refine AL_gnot rfl rfl rfl (fun hg=>?_) (fun hg=>?_)|refine AL_gcases rfl rfl rfl (fun hg=>?_) (fun hg=>?_)))
 all_goals exact ⟨_,_,rfl,rfl,by simp_all [batchB]; try omega⟩
theorem f152 (b:Batch):ACalls Tryz.prog 97 [.agg (eBatch b)] (fun r=>r = .pv (.bool (!batchB b))):= by
 refine ACalls.of_body hT Tryz.func97 rfl (by kernel_rfl) rfl ?_
 (repeat' (first|refine stp ?_|(refine AL_do2 rfl ?_; first|refine ⟨_,op_call1 rfl rfl rfl rfl (f153 b),?_⟩)|refine AL_gdec rfl rfl rfl (fun hg=>?_) (fun hg=>?_)|refine AL_gnot rfl rfl rfl (fun hg=>?_) (fun hg=>?_)|refine AL_gcases rfl rfl rfl (fun hg=>?_) (fun hg=>?_)))
 all_goals exact ⟨_,_,rfl,rfl,rfl⟩
theorem shl_len {n:Nat} (h:inB n 1 4 = true):shlR .i64 1 n = 2 ^ n /\ shlR .i64 1 n <= 16 /\ 1 <= shlR .i64 1 n:= by
 simp only [inB,Bool.and_eq_true,decide_eq_true_eq] at h
 have h1:1 <= n:=by omega
 have h2:n <= 4:=by omega
 match n,h1,h2 with
 | 1,_,_=>decide
 | 2,_,_=>decide
 | 3,_,_=>decide
 | 4,_,_=>decide
def drumOK (d:Drum):Prop:=d.acids.length <= 1000 /\ d.adds.length <= 1000 /\ d.strips.length <= 1000 /\ d.batches.length <= 1000
theorem any_not' {α:Type} (p:α -> Bool) (l:List α):(l.any fun x=>!p x) = !l.all p:= by
 rw [Bool.eq_iff_iff]; simp
set_option maxHeartbeats 4000000 in
theorem f104 (d:Drum) (hd:drumOK d):ACalls Tryz.prog 37 [eDrum d] (fun r=>r = .pv (.bool (drumB d))):= by
 obtain ⟨l1,l2,l3,l4⟩:=hd
 refine ACalls.of_body hT Tryz.func37 rfl (by kernel_rfl) rfl ?_
 cases q1:inB d.acids.length 1 4 with
 | false =>
  have k1:=f87 d.acids.length 1 4
  rw [q1] at k1
  (repeat (refine stp ?_))
  (repeat' (first|refine DG_next (StepOK.skipU rfl rfl) ?_|((refine DG_cmp hT rfl (fun hg=>?_) (fun hg=>?_)) <;> (try (exfalso; omega)))|refine DG_next (D_shl rfl rfl rfl rfl rfl (by omega)) ?_|refine DG_next (D_shr rfl rfl rfl rfl rfl (by omega)) ?_|refine sdr ?_|((refine DG_callC (D_call rfl rfl rfl rfl rfl (k1)) (fun hg=>?_) (fun hg=>?_)) <;> (try (exfalso; first|contradiction|omega)))|refine DG_next (D_call rfl rfl rfl rfl rfl (k1)) ?_))
  refine DG_end hM (by kernel_rfl) ?_
  (repeat (refine stp ?_))
  exact ⟨_,_,rfl,rfl,by simp [drumB,q1]⟩
 | true =>
  obtain ⟨s1,s2,s3⟩:=shl_len q1
  have k1:=f87 d.acids.length 1 4
  rw [q1] at k1
  have k2:=f87 d.known 1 (shlR .i64 1 d.acids.length - 1)
  have k7:=c146 d.acids 91 [] (fun a=>!acidB a) l1 (fun x _=>f147 x)
  have k8:=c115 d.adds 93 [] (fun a=>!inB a 0 100) l2 (fun x _=>f149 x)
  have k10:=c151 d.batches 97 [] (fun a=>!batchB a) l4 (fun x _=>f152 x)
  have e2:inB d.known 1 (shlR .i64 1 d.acids.length - 1) = inB d.known 1 (2 ^ d.acids.length - 1):=by rw [s1]
  cases q2:inB d.known 1 (shlR .i64 1 d.acids.length - 1) with
  | false =>
   rw [q2] at k2
   (repeat (refine stp ?_))
   (repeat' (first|refine DG_next (StepOK.skipU rfl rfl) ?_|((refine DG_cmp hT rfl (fun hg=>?_) (fun hg=>?_)) <;> (try (exfalso; omega)))|refine DG_next (D_shl rfl rfl rfl rfl rfl (by omega)) ?_|refine DG_next (D_shr rfl rfl rfl rfl rfl (by omega)) ?_|refine sdr ?_|((refine DG_callC (D_call rfl rfl rfl rfl rfl (k1)) (fun hg=>?_) (fun hg=>?_)) <;> (try (exfalso; first|contradiction|omega)))|refine DG_next (D_call rfl rfl rfl rfl rfl (k1)) ?_|((refine DG_callC (D_call rfl rfl rfl rfl rfl (k2)) (fun hg=>?_) (fun hg=>?_)) <;> (try (exfalso; first|contradiction|omega)))|refine DG_next (D_call rfl rfl rfl rfl rfl (k2)) ?_))
   all_goals refine DG_end hM (by kernel_rfl) ?_
   all_goals (repeat (refine stp ?_))
   all_goals exact ⟨_,_,rfl,rfl,by simp [drumB,q1,<- e2,q2]⟩
  | true =>
   rw [q2] at k2
   cases q3:inB d.hours 1 12 with
   | false =>
    have k3:=f87 d.hours 1 12
    rw [q3] at k3
    (repeat (refine stp ?_))
    (repeat' (first|refine DG_next (StepOK.skipU rfl rfl) ?_|((refine DG_cmp hT rfl (fun hg=>?_) (fun hg=>?_)) <;> (try (exfalso; omega)))|refine DG_next (D_shl rfl rfl rfl rfl rfl (by omega)) ?_|refine DG_next (D_shr rfl rfl rfl rfl rfl (by omega)) ?_|refine sdr ?_|((refine DG_callC (D_call rfl rfl rfl rfl rfl (k1)) (fun hg=>?_) (fun hg=>?_)) <;> (try (exfalso; first|contradiction|omega)))|refine DG_next (D_call rfl rfl rfl rfl rfl (k1)) ?_|((refine DG_callC (D_call rfl rfl rfl rfl rfl (k2)) (fun hg=>?_) (fun hg=>?_)) <;> (try (exfalso; first|contradiction|omega)))|refine DG_next (D_call rfl rfl rfl rfl rfl (k2)) ?_|((refine DG_callC (D_call rfl rfl rfl rfl rfl (k3)) (fun hg=>?_) (fun hg=>?_)) <;> (try (exfalso; first|contradiction|omega)))|refine DG_next (D_call rfl rfl rfl rfl rfl (k3)) ?_))
    all_goals refine DG_end hM (by kernel_rfl) ?_
    all_goals (repeat (refine stp ?_))
    all_goals exact ⟨_,_,rfl,rfl,by simp [drumB,q1,q3]⟩
   | true =>
    have k3:=f87 d.hours 1 12
    rw [q3] at k3
    have hh:1 <= d.hours /\ d.hours <= 12:=by simpa [inB] using q3
    have k6:=f87 d.batches.length 1 5
    have k9:=c95 d.strips 95 [.ptr (eDrumC d)] (fun s=>!stripB d.hours s) l3 (fun x _=>f150 d x hh)
    rw [any_not'] at k7 k8 k9 k10
    have e:drumB d = (decide ((d.adds.length:Int) = d.hours) && decide (d.strips.length <= 6) && inB d.batches.length 1 5 && d.acids.all acidB && d.adds.all (fun n=>inB n 0 100) && d.strips.all (stripB d.hours) && d.batches.all batchB):= by
     simp only [drumB,q1,<- e2,q2,q3,Bool.true_and]
    rw [e]
    generalize d.acids.all acidB = b7 at *
    generalize (d.adds.all fun n=>inB n 0 100) = b8 at *
    generalize d.strips.all (stripB d.hours) = b9 at *
    generalize d.batches.all batchB = b10 at *
    generalize inB d.batches.length 1 5 = b6 at *
    (repeat (refine stp ?_))
    (repeat' (first|refine DG_next (StepOK.skipU rfl rfl) ?_|((refine DG_cmp hT rfl (fun hg=>?_) (fun hg=>?_)) <;> (try (exfalso; omega)))|refine DG_next (D_shl rfl rfl rfl rfl rfl (by omega)) ?_|refine DG_next (D_shr rfl rfl rfl rfl rfl (by omega)) ?_|refine sdr ?_|((refine DG_callC (D_call rfl rfl rfl rfl rfl (k1)) (fun hg=>?_) (fun hg=>?_)) <;> (try (exfalso; first|contradiction|omega)))|refine DG_next (D_call rfl rfl rfl rfl rfl (k1)) ?_|((refine DG_callC (D_call rfl rfl rfl rfl rfl (k2)) (fun hg=>?_) (fun hg=>?_)) <;> (try (exfalso; first|contradiction|omega)))|refine DG_next (D_call rfl rfl rfl rfl rfl (k2)) ?_|((refine DG_callC (D_call rfl rfl rfl rfl rfl (k3)) (fun hg=>?_) (fun hg=>?_)) <;> (try (exfalso; first|contradiction|omega)))|refine DG_next (D_call rfl rfl rfl rfl rfl (k3)) ?_|((refine DG_callC (D_call rfl rfl rfl rfl rfl (k6)) (fun hg=>?_) (fun hg=>?_)) <;> (try (exfalso; first|contradiction|omega)))|refine DG_next (D_call rfl rfl rfl rfl rfl (k6)) ?_|((refine DG_callC (D_call rfl rfl rfl rfl rfl (k7)) (fun hg=>?_) (fun hg=>?_)) <;> (try (exfalso; first|contradiction|omega)))|refine DG_next (D_call rfl rfl rfl rfl rfl (k7)) ?_|((refine DG_callC (D_call rfl rfl rfl rfl rfl (k8)) (fun hg=>?_) (fun hg=>?_)) <;> (try (exfalso; first|contradiction|omega)))|refine DG_next (D_call rfl rfl rfl rfl rfl (k8)) ?_|((refine DG_callC (D_call rfl rfl rfl rfl rfl (k9)) (fun hg=>?_) (fun hg=>?_)) <;> (try (exfalso; first|contradiction|omega)))|refine DG_next (D_call rfl rfl rfl rfl rfl (k9)) ?_|((refine DG_callC (D_call rfl rfl rfl rfl rfl (k10)) (fun hg=>?_) (fun hg=>?_)) <;> (try (exfalso; first|contradiction|omega)))|refine DG_next (D_call rfl rfl rfl rfl rfl (k10)) ?_))
    all_goals refine DG_end hM (by kernel_rfl) ?_
    all_goals (repeat' (first|refine stp ?_|(refine AL_do2 rfl ?_; first|refine ⟨_,op_callB rfl rfl rfl rfl (k9) rfl,?_⟩|refine ⟨_,op_call1 rfl rfl rfl rfl (k9),?_⟩|refine ⟨_,op_call1 rfl rfl rfl rfl (k10),?_⟩)|refine AL_gdec rfl rfl rfl (fun hg=>?_) (fun hg=>?_)|refine AL_gnot rfl rfl rfl (fun hg=>?_) (fun hg=>?_)|refine AL_gcases rfl rfl rfl (fun hg=>?_) (fun hg=>?_)))
    all_goals exact ⟨_,_,rfl,rfl,by first|(simp_all; done)|(simp_all; intros; exfalso; omega)|(simp_all; intros; omega)|skip⟩
end Go.Abs
