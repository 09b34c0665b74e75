/- Numbers, each once of those that are equal and beside each other. -/
import Derived.Test.YtpoaccdbakbjhaaGreatXG34
import Derived.Test.YtpoaccdbakbjhaaGreatXG15
set_option linter.unusedVariables false
set_option linter.unusedSimpArgs false
namespace Go.Abs
open Go.Proofs
open Go.RowKit
set_option maxRecDepth 100000
section
variable {P:Program} {T:Nat -> Option TyI} {nt:Nat} {s:ASt} {o:Oper} {ops:Array Oper} {rest:List Oper} {Q:Exit -> ASt -> Prop}
theorem AL_arr_sub {t id e sz n:Nat} {es:List (List PV)} (hx:s.get t = some (.arr id)) (hob:s.obj id = some (.arr e sz es)) (hn:es.length = n) (h0:0 < n) (h:AL P nt ops rest Q (s.put t (some (.sub id sz 0 n)))):AL P nt ops rest Q s:= by
 intro ro W0 D0 D φ a w hr hI
 refine h ro W0 D0 D φ a w hr (hI.reread hx fun v hlt hv=>⟨hlt,?_⟩)
 obtain ⟨_,_,xs,hown,_⟩:=hI.objs id _ hob
 cases hv with
 | arr id m c ad hφ =>
  rw [hφ] at hown
  rcases hown.2 with ⟨_,h⟩|⟨g,cap,cur,h,_,_,hc,_⟩
  ·omega
  ·cases h
   have:=FRep.sub (w:=w) (D:=D) id sz 0 es.length g es.length c hφ (by omega)
   rw [Nat.zero_mul,Nat.sub_zero] at this
   rw [<- hn]; exact this
theorem op_indexAddr_sub {t e id sz lo n i:Nat} {x ix:Operand} {ti ei:TyI} {k:IntKind} {m:Int} (hT:TabOK P T) (ho:o.op = .indexAddr t x ix) (hd:dstB nt o.dst = true) (ht:T t = some ti)
  (hk:ti.kind = .slice e) (he:T e = some ei) (hx:s.ev x = some (.sub id sz lo n)) (hi:s.ev ix = some (.pv (.int k m))) (h0:0 <= m) (hlt:m.toNat < n) (hsz:Nat.beq sz ei.size = true) (hio:lo + m.toNat = i) :
  OpTo P nt o s (s.putO o.dst (some (.aptr id sz i 0))) :=
 OpTo.value hd fun W0 D0 D φ a w hI=>by
  obtain ⟨hid,hr⟩:=hI.ev hx
  generalize hv:a.eval x = v at hr
  cases hr with
  | sub id sz lo n g m' c hφ hc =>
   have hs:sz = ei.size:=Nat.eq_of_beq_eq_true hsz
   have hund:=(hT.ty ht).slice hk
   have hilt:m < (n:Int):=by omega
   refine ⟨.pointer (some ((⟨g,lo * sz,none⟩:Addr).add (m.toNat * ei.size))),?_,?_⟩
   ·simp [execOp,ho,hv,hI.ev_int hi,Instr.indexAt,asIntOf,underlying,hund,h0,hilt,(hT.ty he).run_size w]
   ·intro x' hx'; cases hx'
    refine ⟨by simpa [FV.lt] using hid,?_⟩
    rw [addr_add,<- hs,<- Nat.add_mul,hio]
    exact .aptr id sz i 0 g _ _ hφ
theorem D_indexAddr_sub {t e id sz lo n i:Nat} {x ix:Operand} {ti ei:TyI} {k:IntKind} {m:Int} (hT:TabOK P T) (hg:guardT ops s o = true) (ho:o.op = .indexAddr t x ix) (hd:dstB nt o.dst = true) (ht:T t = some ti)
  (hk:ti.kind = .slice e) (he:T e = some ei) (hx:s.ev x = some (.sub id sz lo n)) (hi:s.ev ix = some (.pv (.int k m))) (h0:0 <= m) (hlt:m.toNat < n) (hsz:Nat.beq sz ei.size = true) (hio:lo + m.toNat = i) :
  StepOK P nt ops o s ⟨some (.aptr id sz i 0),false,[],[]⟩ (s.putO o.dst (some (.aptr id sz i 0))) :=
 StepOK.mkP hg fun s1 h1 h2=>op_indexAddr_sub hT ho hd ht hk he (by rw [ev_agree h1 (by simp [ho,Op.operands])]; exact hx) (by rw [ev_agree h1 (by simp [ho,Op.operands])]; exact hi) h0 hlt hsz hio
end
def atI (S:List Int) (i:Nat):Int:=(S[i]?).getD 0
theorem atI_get {S:List Int} {i:Nat} (h:i < S.length):S[i]? = some (atI S i):= by
 rw [atI,show S[i]? = some S[i] by simp]; rfl
def compIn:Nat -> List Int -> Nat -> Nat -> Nat -> List Int × Nat
 | 0,S,k,_,_=>(S,k)
 | d + 1,S,k,k0,k2=>if atI S (k0 + k2) = atI S (k0 + k2 - 1) then compIn d S k k0 (k2 + 1) else compIn d (S.set k (atI S (k0 + k2))) (k + 1) k0 (k2 + 1)
def compGo:Nat -> List Int -> Nat -> List Int
 | 0,S,_=>S
 | d + 1,S,k=>if atI S k = atI S (k - 1) then (compIn (S.length - k - 1) S k k 1).1.take (compIn (S.length - k - 1) S k k 1).2 else compGo d S (k + 1)
def compM (S:List Int):List Int:=if S.length < 2 then S else compGo (S.length - 1) S 1
theorem map_get1 {S:List Int} {i:Nat} {x:Int} (h:S[i]? = some x):(S.map eInt)[i]? = some (eInt x):=by rw [List.getElem?_map,h]; rfl
theorem compIn_mem {p:Int -> Prop}:∀ (d:Nat) (S:List Int) (k k0 k2:Nat),k0 + k2 + d <= S.length -> (∀ x ∈ S,p x) -> (∀ x ∈ (compIn d S k k0 k2).1,p x) /\ (compIn d S k k0 k2).1.length = S.length
 | 0,S,k,k0,k2,_,h=>⟨h,rfl⟩
 | d + 1,S,k,k0,k2,hd,h=>by
  rw [compIn]
  split
  ·exact compIn_mem d S k k0 (k2 + 1) (by omega) h
  ·have h1:=compIn_mem (p:=p) d (S.set k (atI S (k0 + k2))) (k + 1) k0 (k2 + 1) (by simp; omega) (fun x hx=>by
    rcases List.mem_or_eq_of_mem_set hx with h2|h2
    ·exact h x h2
    ·rw [h2]; exact h _ (List.mem_of_getElem? (atI_get (by omega))))
   exact ⟨h1.1,by rw [h1.2]; simp⟩
theorem compGo_mem {p:Int -> Prop}:∀ (d:Nat) (S:List Int) (k:Nat),k + d <= S.length -> (∀ x ∈ S,p x) -> (∀ x ∈ compGo d S k,p x) /\ (compGo d S k).length <= S.length
 | 0,S,k,_,h=>⟨h,Nat.le_refl _⟩
 | d + 1,S,k,hd,h=>by
  rw [compGo]
  split
  ·have h1:=compIn_mem (p:=p) (S.length - k - 1) S k k 1 (by omega) h
   refine ⟨fun x hx=>h1.1 x (List.mem_of_mem_take hx),?_⟩
   rw [List.length_take,h1.2]; omega
  ·exact compGo_mem d S (k + 1) (by omega) h
theorem compM_mem {p:Int -> Prop} {S:List Int} (h:∀ x ∈ S,p x):(∀ x ∈ compM S,p x) /\ (compM S).length <= S.length:= by
 rw [compM]
 split
 ·exact ⟨h,Nat.le_refl _⟩
 ·exact compGo_mem _ S 1 (by omega) h
set_option maxHeartbeats 8000000 in
theorem t172 (v:Value) (L:List Int) (hl:L.length <= 1000):ACallsX Tryz.prog 172 [.pv (.raw v)] [(0,.pool 3 1 [(v,some (L.map eInt))])] 1
  (fun sf=>sf = mkSt [(0,.arr 0)] [(0,.arr 3 1 ((compM L).map eInt))] 1) (fun _ _=>False):= by
 have hll:(L.map eInt).length = L.length:=by simp
 refine ACallsX.of_body hT Tryz.func172 rfl (by kernel_rfl) rfl ?_
 refine AW_poolOut (t:=0) (g:=0) 0 rfl rfl rfl ?_
 (repeat (refine stq ?_))
 refine AW_if rfl (fun h=>?_) (fun h=>?_)
 ·have hc:compM L = L:=by rw [compM,if_pos (by first|omega|(simp at h; omega))]
  (repeat (refine stq ?_))
  refine ⟨_,mkSt [(0,.arr 0)] [(0,.arr 3 1 ((compM L).map eInt))] 1,rfl,?_,rfl⟩
  rw [hc]
  (refine Le.mkR [(0,1)] ?_ ?_ rfl; all_goals (repeat' (first|exact trivial|refine sle ?_|refine ⟨?_,rfl,?_⟩|refine ⟨?_,by decide,rfl,?_⟩|fail)))
 ·have h2:2 <= L.length:=by first|omega|(simp at h; omega)
  have hc:compM L = compGo (L.length - 1) L 1:=by rw [compM,if_neg (by omega)]
  (repeat (refine stq ?_))
  refine AW_loopC (fun k:Nat=>1 <= k /\ k <= L.length /\ compGo (L.length - k) L k = compM L) (fun k=>mkSt [(0,.arr 1),(3,.pv (vi k))] [(1,.arr 3 1 (L.map eInt))] 3) (fun k=>L.length - k) 1 ⟨Nat.le_refl _,by omega,hc.symm⟩ ?_ ?_
  ·(refine Le.mk ?_ ?_; all_goals (repeat' (first|exact trivial|refine sle ?_|refine ⟨?_,rfl,?_⟩|refine ⟨?_,by decide,rfl,?_⟩|fail)))
  ·rintro k ⟨hk1,hk,hgo⟩
   (repeat (refine stq ?_))
   refine AW_if rfl (fun h=>?_) (fun h=>?_)
   ·have hk':k < L.length:=by first|omega|(simp at h; omega)
    have g1:=atI_get hk'
    have g2:=atI_get (S:=L) (i:=k - 1) (by omega)
    have e1:(L.map eInt)[((k:Nat):Int).toNat]? = some (eInt (atI L k)):=get_map eInt g1
    have e2:(L.map eInt)[(((k:Nat):Int) - 1).toNat]? = some (eInt (atI L (k - 1))):=by rw [show (((k:Nat):Int) - 1).toNat = k - 1 by omega,List.getElem?_map,g2]; rfl
    rw [show L.length - k = (L.length - (k + 1)) + 1 by omega,compGo] at hgo
    have hk0:(0:Int) <= (k:Int):=by omega
    (repeat (refine stq ?_))
    iterate 2 (refine sdq ?_)
    refine DG_next (D_indexAddr_arr (n:=(k:Int)) hT rfl rfl rfl rfl rfl rfl rfl rfl rfl (by omega) (by omega) rfl) ?_
    refine DG_next (D_load_aptr (el:=eInt (atI L k)) hT rfl rfl rfl rfl rfl rfl e1 rfl) ?_
    iterate 3 (refine sdq ?_)
    refine DG_next (D_indexAddr_arr (n:=(k:Int) - 1) hT rfl rfl rfl rfl rfl rfl rfl rfl rfl (by omega) (by omega) rfl) ?_
    refine DG_next (D_load_aptr (el:=eInt (atI L (k - 1))) hT rfl rfl rfl rfl rfl rfl e2 rfl) ?_
    refine DG_cmp hT rfl (fun hg=>?_) (fun hg=>?_)
    ·refine DG_end hM (by kernel_rfl) ?_
     rw [if_pos hg] at hgo
     (repeat (refine stq ?_))
     refine AL_arr_sub (t:=26) rfl rfl hll (by omega) ?_
     refine AL_do2 rfl ⟨_,op_slice_sub (lo:=k) (hi:=L.length) hT rfl rfl rfl rfl rfl rfl rfl (.inr ⟨_,_,rfl,rfl⟩) (.inl ⟨rfl,rfl⟩) (by omega) (by omega) (by omega),?_⟩
     (repeat (refine stq ?_))
     obtain ⟨R,hR⟩:∃ R,compIn (L.length - k - 1) L k k 1 = R:=⟨_,rfl⟩
     rw [hR] at hgo
     refine AW_loopC (fun i:Nat × Nat × List Int=>1 <= i.1 /\ i.1 <= L.length - k /\ 1 <= i.2.1 /\ i.2.1 < k + i.1 /\ i.2.2.length = L.length /\ compIn (L.length - k - i.1) i.2.2 i.2.1 k i.1 = R)
      (fun i=>mkSt [(0,.arr 1),(3,.pv (vi i.2.1)),(4,.sub 1 1 k (L.length - k)),(5,.pv (vi i.1))] [(1,.arr 3 1 (i.2.2.map eInt))] 3) (fun i=>L.length - k - i.1) (1,k,L) ⟨Nat.le_refl _,by omega,hk1,by simp only; omega,rfl,hR⟩ ?_ ?_
     ·(refine Le.mk ?_ ?_; all_goals (repeat' (first|exact trivial|refine sle ?_|refine ⟨?_,rfl,?_⟩|refine ⟨?_,by decide,rfl,?_⟩|fail)))
     ·clear e1 e2 g1 g2 hR
      rintro ⟨k2,k',S⟩ ⟨b1,b2,b3,b4,b5,hR⟩
      simp only at b1 b2 b3 b4 b5 hR
      dsimp only
      have hSl:(S.map eInt).length = L.length:=by simp [b5]
      (repeat (refine stq ?_))
      refine AL_do2 rfl ⟨_,op_len_sub hT rfl rfl rfl rfl rfl,?_⟩
      (repeat (refine stq ?_))
      refine AW_if rfl (fun h=>?_) (fun h=>?_)
      ·have hk2:k2 < L.length - k:=by omega
       have g1:=atI_get (S:=S) (i:=k + k2) (by omega)
       have g2:=atI_get (S:=S) (i:=k + k2 - 1) (by omega)
       have g3:=atI_get (S:=S) (i:=k') (by omega)
       have e1:=map_get1 g1
       have e2:=map_get1 g2
       have e3:(S.map eInt)[((k':Nat):Int).toNat]? = some (eInt (atI S k')):=get_map eInt g3
       rw [show L.length - k - k2 = (L.length - k - (k2 + 1)) + 1 by omega,compIn] at hR
       generalize hx:atI S (k + k2) = x at *
       generalize hy:atI S (k + k2 - 1) = y at *
       (repeat (refine stq ?_))
       iterate 2 (refine sdq ?_)
       refine DG_next (D_indexAddr_sub (m:=(k2:Int)) (i:=k + k2) hT rfl rfl rfl rfl rfl rfl rfl rfl (by omega) (by omega) rfl (by omega)) ?_
       refine DG_next (D_load_aptr (el:=eInt x) hT rfl rfl rfl rfl rfl rfl e1 rfl) ?_
       iterate 3 (refine sdq ?_)
       refine DG_next (D_indexAddr_sub (m:=(k2:Int) - 1) (i:=k + k2 - 1) hT rfl rfl rfl rfl rfl rfl rfl rfl (by omega) (by omega) rfl (by omega)) ?_
       refine DG_next (D_load_aptr (el:=eInt y) hT rfl rfl rfl rfl rfl rfl e2 rfl) ?_
       refine DG_cmp hT rfl (fun hg=>?_) (fun hg=>?_)
       ·refine DG_end hM (by kernel_rfl) ?_
        rw [if_neg hg] at hR
        (repeat (refine stq ?_))
        refine AL_do2 rfl ⟨_,op_indexAddr_sub (m:=(k2:Int)) (i:=k + k2) hT rfl rfl rfl rfl rfl rfl rfl (by omega) (by omega) rfl (by omega),?_⟩
        refine AL_do2 rfl ⟨_,op_load_aptr (el:=eInt x) hT rfl rfl rfl rfl rfl e1 rfl,?_⟩
        refine AL_do2 rfl ⟨_,op_indexAddr_arr (n:=(k':Int)) hT rfl rfl rfl rfl rfl rfl rfl rfl (by omega) (by omega) rfl,?_⟩
        refine AL_do2 rfl ⟨_,op_store_aptr (el:=eInt (atI S k')) hT rfl rfl rfl rfl rfl e3 rfl rfl rfl rfl,?_⟩
        (repeat (refine stq ?_))
        refine ⟨(k2 + 1,k' + 1,S.set k' x),⟨by omega,by simp only; omega,by simp,by simp only; omega,by simp [b5],hR⟩,by simp only; omega,?_⟩
        dsimp only
        (refine Le.mk ?_ ?_; all_goals (repeat' (first|exact trivial|refine sle ?_|refine ⟨?_,rfl,?_⟩|refine ⟨?_,by decide,rfl,?_⟩|fail)))
        show some (AObj.arr 3 1 ((S.map eInt).set ((k':Nat):Int).toNat [vi x])) = some (AObj.arr 3 1 ((S.set k' x).map eInt))
        rw [Int.toNat_natCast,List.map_set]; rfl
       ·refine DG_end hM (by kernel_rfl) ?_
        rw [if_pos (by omega)] at hR
        (repeat (refine stq ?_))
        refine ⟨(k2 + 1,k',S),⟨by omega,by simp only; omega,b3,by simp only; omega,b5,hR⟩,by simp only; omega,?_⟩
        (refine Le.mk ?_ ?_; all_goals (repeat' (first|exact trivial|refine sle ?_|refine ⟨?_,rfl,?_⟩|refine ⟨?_,by decide,rfl,?_⟩|fail)))
      ·have hk2:k2 = L.length - k:=by omega
       subst hk2
       rw [Nat.sub_self,compIn] at hR
       (repeat (refine stq ?_))
       refine AL_slice_clear (lo:=k') (zp:=[vi 0]) hT rfl rfl rfl rfl rfl rfl rfl rfl rfl rfl rfl rfl rfl rfl rfl rfl (by omega) ?_
       (repeat (refine stq ?_))
       refine AL_do2 rfl ⟨_,op_slice_own (hi:=k') hT rfl rfl rfl rfl rfl rfl rfl rfl (by simp; omega),?_⟩
       (repeat (refine stq ?_))
       refine ⟨_,mkSt [(0,.arr 0)] [(0,.arr 3 1 ((compM L).map eInt))] 1,rfl,?_,rfl⟩
       rw [<- hgo,<- hR]
       (refine Le.mkR [(0,3)] ?_ ?_ rfl; all_goals (repeat' (first|exact trivial|refine sle ?_|refine ⟨?_,rfl,?_⟩|refine ⟨?_,by decide,rfl,?_⟩|fail)))
       have e:((S.map eInt).take k' ++ List.replicate ((S.map eInt).length - k') [vi 0]).take k' = (S.take k').map eInt:= by
        rw [List.take_append_of_le_length (by simp; omega),List.take_take,Nat.min_self,<- List.map_take]
       rw [<- e]; rfl
    ·refine DG_end hM (by kernel_rfl) ?_
     rw [if_neg hg] at hgo
     (repeat (refine stq ?_))
     refine ⟨k + 1,⟨by omega,hk',by rw [hgo]⟩,by omega,?_⟩
     (refine Le.mk ?_ ?_; all_goals (repeat' (first|exact trivial|refine sle ?_|refine ⟨?_,rfl,?_⟩|refine ⟨?_,by decide,rfl,?_⟩|fail)))
   ·have hkl:k = L.length:=by first|omega|(simp at h; omega)
    subst hkl
    rw [Nat.sub_self,compGo] at hgo
    (repeat (refine stq ?_))
    refine ⟨_,mkSt [(0,.arr 0)] [(0,.arr 3 1 ((compM L).map eInt))] 1,rfl,?_,rfl⟩
    rw [<- hgo]
    (refine Le.mkR [(0,1)] ?_ ?_ rfl; all_goals (repeat' (first|exact trivial|refine sle ?_|refine ⟨?_,rfl,?_⟩|refine ⟨?_,by decide,rfl,?_⟩|fail)))
end Go.Abs
