/- Few numbers are sorted. -/
import Derived.Test.YtpoaccdbakbjhaaGreatXG33
set_option linter.unusedVariables false
set_option linter.unusedSimpArgs false
namespace Go.Abs
open Go.Proofs
open Go.RowKit
set_option maxRecDepth 100000
theorem AW_poolOut {P:Program} {nt:Nat} {s:ASt} {c:Code} {Q:Exit -> ASt -> Prop} {t g e sz:Nat} (k:Nat) {v:Value} {es:List (List PV)} {l:List (Value × Option (List (List PV)))} (hx:s.get t = some (.pv (.raw v))) (hg:s.obj g = some (.pool e sz l)) (hk:l[k]? = some (v,some es))
  (h:AW P nt c Q ((((s.setObj g (some (.pool e sz (l.set k (v,none))))).newObj (.arr e sz es)).newObj (.anc v (.arr s.nxt))).put t (some (.arr s.nxt)))):AW P nt c Q s:=fun ro W0 D0 D φ a w hro hI=>by
 obtain ⟨φ',hI'⟩:=hI.poolOut hx hg hk
 exact h ro W0 D0 D φ' a w hro hI'
theorem op_len_raw {P:Program} {T:Nat -> Option TyI} {nt:Nat} {s:ASt} {o:Oper} {t e g k e' sz:Nat} {x:Operand} {ti:TyI} {v:Value} {es:List (List PV)} {l:List (Value × Option (List (List PV)))} {n:Int} (hT:TabOK P T) (ho:o.op = .call { callee:=.builtin .len,args:=#[x],argTypes:=#[t] }) (hd:dstB nt o.dst = true) (ht:T t = some ti)
  (hk:ti.kind = .slice e) (hx:s.ev x = some (.pv (.raw v))) (hg:s.obj g = some (.pool e' sz l)) (hl:l[k]? = some (v,some es)) (hn:(es.length:Int) = n):OpTo P nt o s (s.putO o.dst (some (.pv (.int .i64 n)))) :=
 OpTo.value hd fun W0 D0 D φ a w hI=>by
  subst hn
  have hv:a.eval x = v:=(hI.ev hx).2.inv_pv.inv_raw
  obtain ⟨_,_,g0,g1,g2⟩:=hI.objs g _ hg
  obtain ⟨xs,q1,q2⟩:=g1 v es (List.mem_of_getElem? hl)
  obtain ⟨a0,c0,hv0,_⟩:=ownsRow_slice q1
  have hund:=(hT.ty ht).slice hk
  refine ⟨.int .i64 es.length,?_,fun x' hx'=>by cases hx'; exact ⟨rfl,.pv _ _ (.int _ _)⟩⟩
  simp [execOp,ho,hv,hv0,resolve,invoke,builtin,Builtin.len_,underlying,hund,goInt]
theorem t214 (x y:Int):ACalls Tryz.prog 214 [vi x,vi y] (fun r=>r = .pv (.bool (decide (x < y)))):= by
 have k1:=t204 x
 have k2:=t204 y
 refine ACalls.of_body hT Tryz.func214 rfl (by kernel_rfl) rfl ?_
 (repeat' (first|refine AL_skip rfl rfl ?_|refine stq ?_|(refine AL_do2 rfl ?_; first|refine ⟨_,op_call1 rfl rfl rfl rfl (k1),nrmA rfl ?_⟩|refine ⟨_,op_call1 rfl rfl rfl rfl (k2),nrmA rfl ?_⟩)|((first|(with_reducible refine AL_id ?_); (fail_if_success (refine glq rfl rfl rfl ?_)); first|refine AL_gdec rfl rfl rfl (fun hg=>?_) (fun hg=>?_)|refine AL_gnot rfl rfl rfl (fun hg=>?_) (fun hg=>?_)|refine AL_gcases rfl rfl rfl (fun hg=>?_) (fun hg=>?_)) <;> (try (exfalso; omega)))|refine AW_if rfl (fun hc=>absurd hc (by omega)) (fun _=>?_)|refine AW_if rfl (fun _=>?_) (fun hc=>absurd (by omega) hc)))
 exact ⟨_,_,rfl,rfl,rfl⟩
def bubN:List Int -> Nat -> List Int
 | L,0=>L
 | L,j + 1=>if (L[j + 1]?).getD 0 < (L[j]?).getD 0 then bubN ((L.set (j + 1) ((L[j]?).getD 0)).set j ((L[j + 1]?).getD 0)) j else L
def sortN (L:List Int):Nat -> List Int
 | 0=>L
 | k + 1=>bubN (sortN L k) k
theorem bub_len:∀ (j:Nat) (L:List Int),(bubN L j).length = L.length
 | 0,L=>rfl
 | j + 1,L=>by
  rw [bubN]
  split
  ·rw [bub_len j]; simp
  ·rfl
theorem bub_mem:∀ (j:Nat) (L:List Int),j < L.length -> ∀ x ∈ bubN L j,x ∈ L
 | 0,L,_,x,h=>h
 | j + 1,L,hj,x,h=>by
  rw [bubN] at h
  split at h
  ·have h2:=bub_mem j _ (by simp; omega) x h
   have e1:L[j]? = some (L[j]'(by omega)):=by simp
   have e2:L[j + 1]? = some (L[j + 1]'(by omega)):=by simp
   rw [e1,e2] at h2
   rcases List.mem_or_eq_of_mem_set h2 with h3|h3
   ·rcases List.mem_or_eq_of_mem_set h3 with h4|h4
    ·exact h4
    ·rw [h4]; exact List.getElem_mem _
   ·rw [h3]; exact List.getElem_mem _
  ·exact h
theorem sort_len (L:List Int):∀ k,(sortN L k).length = L.length
 | 0=>rfl
 | k + 1=>by rw [sortN,bub_len,sort_len L k]
theorem sortN_mem (L:List Int):∀ k,k <= L.length -> ∀ x ∈ sortN L k,x ∈ L
 | 0,_,x,h=>h
 | k + 1,hk,x,h=>sortN_mem L k (by omega) x (bub_mem k _ (by rw [sort_len]; omega) x h)
abbrev srO (v:Value) (S:List Int):List (Nat × AObj):=[(0,.pool 3 1 [(v,none)]),(1,.arr 3 1 (S.map eInt)),(2,.anc v (.arr 1))]
set_option maxHeartbeats 8000000 in
theorem t208 (v:Value) (L:List Int) (hl:L.length <= 12):ACallsX Tryz.prog 208 [.pv (.raw v),.pv (vi 0),.pv (vi L.length)] [(0,.pool 3 1 [(v,some (L.map eInt))])] 1
  (fun sf=>sf = mkSt [(0,.tup [])] [(0,.pool 3 1 [(v,some ((sortN L L.length).map eInt))])] 1) (fun _ _=>False):= by
 refine ACallsX.of_body hT Tryz.func208 rfl (by kernel_rfl) rfl ?_
 refine AW_poolOut (t:=0) (g:=0) 0 rfl rfl rfl ?_
 (repeat (refine stq ?_))
 refine AW_loopC (fun i:Nat=>1 <= i /\ (i <= L.length \/ i = 1)) (fun i=>mkSt [(0,.arr 1),(1,.pv (vi 0)),(2,.pv (vi L.length)),(6,.pv (vi i))] (srO v (sortN L i)) 3) (fun i=>L.length - i) 1 ⟨Nat.le_refl _,.inr rfl⟩ ?_ ?_
 ·(refine Le.mk ?_ ?_; all_goals (repeat' (first|exact trivial|refine sle ?_|refine ⟨?_,rfl,?_⟩|refine ⟨?_,by decide,rfl,?_⟩|fail)))
 ·rintro i ⟨h1i,hi⟩
  have hsl:=sort_len L i
  have hst:sortN L (i + 1) = bubN (sortN L i) i:=rfl
  generalize hS:sortN L i = S at *
  (repeat (refine stq ?_))
  refine AW_if rfl (fun hc=>?_) (fun hc=>?_)
  ·have hi':i < L.length:=by omega
   (repeat (refine stq ?_))
   refine AW_loopC (fun j:Nat × List Int=>j.1 <= i /\ j.2.length = L.length /\ bubN j.2 j.1 = sortN L (i + 1)) (fun j=>mkSt [(0,.arr 1),(1,.pv (vi 0)),(2,.pv (vi L.length)),(6,.pv (vi i)),(7,.pv (vi j.1))] (srO v j.2) 3) (fun j=>j.1) (i,S) ⟨Nat.le_refl _,hsl,hst.symm⟩ ?_ ?_
   ·(refine Le.mk ?_ ?_; all_goals (repeat' (first|exact trivial|refine sle ?_|refine ⟨?_,rfl,?_⟩|refine ⟨?_,by decide,rfl,?_⟩|fail)))
   ·rintro ⟨j,B⟩ ⟨hj,hbl,hb⟩
    simp only at hj hbl hb
    dsimp only
    cases j with
    | zero =>
     (repeat (refine stq ?_))
     iterate 2 (refine sdq ?_)
     refine DG_cmp hT rfl (fun hg=>?_) (fun hg=>?_)
     ·exfalso; omega
     ·(repeat (first|refine DG_next (StepOK.skipU rfl rfl) ?_|refine sdq ?_))
      refine DG_end hM (by kernel_rfl) ?_
      (repeat (refine stq ?_))
      refine ⟨i + 1,⟨by omega,.inl (by omega)⟩,by omega,?_⟩
      rw [<- hb]
      (refine Le.mk ?_ ?_; all_goals (repeat' (first|exact trivial|refine sle ?_|refine ⟨?_,rfl,?_⟩|refine ⟨?_,by decide,rfl,?_⟩|fail)))
    | succ j =>
     obtain ⟨x,hx⟩:∃ x,B[j]? = some x:=⟨B[j]'(by omega),by simp⟩
     obtain ⟨y,hy⟩:∃ x,B[j + 1]? = some x:=⟨B[j + 1]'(by omega),by simp⟩
     have hBl:(B.map eInt).length = L.length:=by rw [List.length_map,hbl]
     have e1:(B.map eInt)[((j:Int) + 1).toNat]? = some (eInt y):=by rw [show ((j:Int) + 1).toNat = j + 1 by omega,List.getElem?_map,hy]; rfl
     have e2:(B.map eInt)[((((j + 1:Nat):Int)) - 1).toNat]? = some (eInt x):=by rw [show ((((j + 1:Nat):Int)) - 1).toNat = j by omega,List.getElem?_map,hx]; rfl
     have e1':(B.map eInt)[(((j + 1:Nat):Int)).toNat]? = some (eInt y):=by rw [show (((j + 1:Nat):Int)).toNat = j + 1 by omega,List.getElem?_map,hy]; rfl
     have k214:=t214 y x
     rw [bubN,hx,hy] at hb
     simp only [Option.getD_some] at hb
     (repeat (refine stq ?_))
     iterate 2 (refine sdq ?_)
     refine DG_cmp hT rfl (fun hg=>?_) (fun hg=>?_)
     ·iterate 3 (refine sdq ?_)
      refine DG_next (D_indexAddr_arr (n:=((j + 1:Nat):Int)) hT rfl rfl rfl rfl rfl rfl rfl rfl rfl (by omega) (by omega) rfl) ?_
      refine DG_next (D_load_aptr (el:=eInt y) hT rfl rfl rfl rfl rfl rfl e1' rfl) ?_
      iterate 3 (refine sdq ?_)
      refine DG_next (D_indexAddr_arr (n:=((j + 1:Nat):Int) - 1) hT rfl rfl rfl rfl rfl rfl rfl rfl rfl (by omega) (by omega) rfl) ?_
      refine DG_next (D_load_aptr (el:=eInt x) hT rfl rfl rfl rfl rfl rfl e2 rfl) ?_
      by_cases hlt:y < x
      ·rw [if_pos hlt] at hb
       rw [decide_eq_true hlt] at k214
       (repeat (first|refine sdq ?_|refine DG_next (D_call rfl rfl rfl rfl rfl (k214)) ?_))
       refine DG_end hM (by kernel_rfl) ?_
       (repeat (refine stq ?_))
       iterate 4 (refine sdq ?_)
       (repeat (refine sdq ?_))
       refine DG_next (D_indexAddr_arr (n:=((j + 1:Nat):Int) - 1) hT rfl rfl rfl rfl rfl rfl rfl rfl rfl (by omega) (by omega) rfl) ?_
       refine DG_next (D_load_aptr (el:=eInt x) hT rfl rfl rfl rfl rfl rfl e2 rfl) ?_
       iterate 2 (refine sdq ?_)
       refine DG_next (D_indexAddr_arr (n:=((j + 1:Nat):Int)) hT rfl rfl rfl rfl rfl rfl rfl rfl rfl (by omega) (by omega) rfl) ?_
       refine DG_next (D_load_aptr (el:=eInt y) hT rfl rfl rfl rfl rfl rfl e1' rfl) ?_
       refine DG_next (D_indexAddr_arr (n:=((j + 1:Nat):Int)) hT rfl rfl rfl rfl rfl rfl rfl rfl rfl (by omega) (by omega) rfl) ?_
       refine DG_next (D_store_aptr (el:=eInt y) hT rfl rfl rfl rfl rfl rfl e1' rfl rfl rfl rfl) ?_
       refine DG_end hM (by kernel_rfl) ?_
       have es1:(B.map eInt).set (((j + 1:Nat):Int)).toNat (splice (eInt y) (0) (cellsP (vi x))) = (B.set (j + 1) x).map eInt:= by
        rw [show (((j + 1:Nat):Int)).toNat = j + 1 by omega,List.map_set]; rfl
       rw [es1]
       have hB1:((B.set (j + 1) x).map eInt).length = L.length:=by simp [hbl]
       have e3:((B.set (j + 1) x).map eInt)[((((j + 1:Nat):Int)) - 1).toNat]? = some (eInt x):= by
        rw [show ((((j + 1:Nat):Int)) - 1).toNat = j by omega,List.getElem?_map,List.getElem?_set,if_neg (by omega),hx]; rfl
       have hB2:(B.set (j + 1) x).length = L.length:=by simp [hbl]
       generalize hBB:B.set (j + 1) x = B1 at *
       refine AL_do2 rfl ⟨_,op_indexAddr_arr (n:=((j + 1:Nat):Int) - 1) hT rfl rfl rfl rfl rfl rfl rfl rfl (by omega) (by omega) rfl,?_⟩
       refine AL_do2 rfl ⟨_,op_store_aptr (el:=eInt x) hT rfl rfl rfl rfl rfl e3 rfl rfl rfl rfl,?_⟩
       (repeat (refine stq ?_))
       refine ⟨(j,B1.set j y),⟨by omega,by simp [hB2],hb⟩,Nat.lt_succ_self j,?_⟩
       dsimp only
       (refine Le.mk ?_ ?_; all_goals (repeat' (first|exact trivial|refine sle ?_|refine ⟨?_,rfl,?_⟩|refine ⟨?_,by decide,rfl,?_⟩|fail)))
       ·exact congrArg (fun n:Int=>some (FV.pv (vi n))) (show (((j + 1:Nat):Int)) - 1 = (j:Int) by omega)
       ·show some (AObj.arr 3 1 ((B1.map eInt).set ((((j + 1:Nat):Int)) - 1).toNat [vi y])) = some (AObj.arr 3 1 ((B1.set j y).map eInt))
        rw [show ((((j + 1:Nat):Int)) - 1).toNat = j by omega,List.map_set]; rfl
      ·rw [if_neg hlt] at hb
       rw [decide_eq_false hlt] at k214
       (repeat (first|refine sdq ?_|refine DG_next (D_call rfl rfl rfl rfl rfl (k214)) ?_))
       refine DG_end hM (by kernel_rfl) ?_
       (repeat (refine stq ?_))
       refine ⟨i + 1,⟨by omega,.inl (by omega)⟩,by omega,?_⟩
       rw [<- hb]
       (refine Le.mk ?_ ?_; all_goals (repeat' (first|exact trivial|refine sle ?_|refine ⟨?_,rfl,?_⟩|refine ⟨?_,by decide,rfl,?_⟩|fail)))
     ·exfalso; omega
  ·have hil:sortN L L.length = S:= by
    by_cases h:i = L.length
    ·rw [<- h,hS]
    ·have h0:L.length = 0:=by omega
     have h1:i = 1:=by omega
     subst h1
     rw [h0,<- hS]; rfl
   refine AW_poolBack 1 2 0 0 rfl rfl rfl rfl rfl rfl ?_
   (repeat (refine stq ?_))
   refine ⟨_,mkSt [(0,.tup [])] [(0,.pool 3 1 [(v,some ((sortN L L.length).map eInt))])] 1,rfl,?_,rfl⟩
   rw [hil]
   (refine Le.mk ?_ ?_; all_goals (repeat' (first|exact trivial|refine sle ?_|refine ⟨?_,rfl,?_⟩|refine ⟨?_,by decide,rfl,?_⟩|fail)))
def lenV (n:Nat):Int:=if n = 0 then 0 else if n = 1 then 1 else if n <= 3 then 2 else 3
theorem t218 (n:Nat) (h1:n <= 4):ACalls Tryz.prog 218 [.int .u64 n] (fun r=>r = .pv (vi (lenV n))):= by
 match n,h1 with
 | 0,_ =>
  refine ACalls.of_body hT Tryz.func218 rfl (by kernel_rfl) rfl ?_
  (repeat (refine stq ?_))
  refine AL_do2 rfl ⟨_,op_index_str (b:=0) hT rfl rfl rfl rfl rfl rfl (by decide) (by kernel_rfl),?_⟩
  (repeat (refine stq ?_))
  rw [show IntKind.i64.wrap ((UInt8.toNat 0:Nat):Int) = 0 from by decide]
  (repeat (refine stq ?_))
  exact ⟨_,_,rfl,rfl,rfl⟩
 | 1,_ =>
  refine ACalls.of_body hT Tryz.func218 rfl (by kernel_rfl) rfl ?_
  (repeat (refine stq ?_))
  refine AL_do2 rfl ⟨_,op_index_str (b:=1) hT rfl rfl rfl rfl rfl rfl (by decide) (by kernel_rfl),?_⟩
  (repeat (refine stq ?_))
  rw [show IntKind.i64.wrap ((UInt8.toNat 1:Nat):Int) = 1 from by decide]
  (repeat (refine stq ?_))
  exact ⟨_,_,rfl,rfl,rfl⟩
 | 2,_ =>
  refine ACalls.of_body hT Tryz.func218 rfl (by kernel_rfl) rfl ?_
  (repeat (refine stq ?_))
  refine AL_do2 rfl ⟨_,op_index_str (b:=2) hT rfl rfl rfl rfl rfl rfl (by decide) (by kernel_rfl),?_⟩
  (repeat (refine stq ?_))
  rw [show IntKind.i64.wrap ((UInt8.toNat 2:Nat):Int) = 2 from by decide]
  (repeat (refine stq ?_))
  exact ⟨_,_,rfl,rfl,rfl⟩
 | 3,_ =>
  refine ACalls.of_body hT Tryz.func218 rfl (by kernel_rfl) rfl ?_
  (repeat (refine stq ?_))
  refine AL_do2 rfl ⟨_,op_index_str (b:=2) hT rfl rfl rfl rfl rfl rfl (by decide) (by kernel_rfl),?_⟩
  (repeat (refine stq ?_))
  rw [show IntKind.i64.wrap ((UInt8.toNat 2:Nat):Int) = 2 from by decide]
  (repeat (refine stq ?_))
  exact ⟨_,_,rfl,rfl,rfl⟩
 | 4,_ =>
  refine ACalls.of_body hT Tryz.func218 rfl (by kernel_rfl) rfl ?_
  (repeat (refine stq ?_))
  refine AL_do2 rfl ⟨_,op_index_str (b:=3) hT rfl rfl rfl rfl rfl rfl (by decide) (by kernel_rfl),?_⟩
  (repeat (refine stq ?_))
  rw [show IntKind.i64.wrap ((UInt8.toNat 3:Nat):Int) = 3 from by decide]
  (repeat (refine stq ?_))
  exact ⟨_,_,rfl,rfl,rfl⟩
theorem t201 (n:Nat) (h1:n <= 4):ACalls Tryz.prog 201 [.int .u64 n] (fun r=>r = .pv (vi (lenV n))):= by
 have k218:=t218 n h1
 refine ACalls.of_body hT Tryz.func201 rfl (by kernel_rfl) rfl ?_
 (repeat (refine stq ?_))
 refine AW_cond_cf ?_
 (repeat' (first|refine stq ?_|(refine AL_do2 rfl ?_; first|refine ⟨_,op_call1 rfl rfl rfl rfl (k218),nrmA rfl ?_⟩)|(with_reducible refine AL_id ?_); (fail_if_success (refine glq rfl rfl rfl ?_)); first|refine AL_gdec rfl rfl rfl (fun hg=>?_) (fun hg=>?_)|refine AL_gnot rfl rfl rfl (fun hg=>?_) (fun hg=>?_)|refine AL_gcases rfl rfl rfl (fun hg=>?_) (fun hg=>?_)))
 exact ⟨_,_,rfl,rfl,rfl⟩
theorem t200 (v:Value) (L:List Int) (hl:L.length <= 12) (lim:Int):ACallsX Tryz.prog 200 [.pv (.raw v),.pv (vi 0),.pv (vi L.length),.pv (vi lim)] [(0,.pool 3 1 [(v,some (L.map eInt))])] 1
  (fun sf=>sf = mkSt [(0,.tup [])] [(0,.pool 3 1 [(v,some ((sortN L L.length).map eInt))])] 1) (fun _ _=>False):= by
 have k208:=t208 v L hl
 refine ACallsX.of_body hT Tryz.func200 rfl (by kernel_rfl) rfl ?_
 (repeat (refine stq ?_))
 refine AW_loopC (fun _:Unit=>True) (fun _=>mkSt [(0,.pv (.raw v)),(1,.pv (vi 0)),(2,.pv (vi L.length)),(3,.pv (vi lim)),(8,.pv (.bool true)),(9,.pv (.bool true))] [(0,.pool 3 1 [(v,some (L.map eInt))])] 1) (fun _=>0) () trivial ?_ ?_
 ·(refine Le.mk ?_ ?_; all_goals (repeat' (first|exact trivial|refine sle ?_|refine ⟨?_,rfl,?_⟩|refine ⟨?_,by decide,rfl,?_⟩|fail)))
 ·intro _ _
  (repeat (refine stq ?_))
  refine AW_if rfl (fun h=>?_) (fun h=>absurd (by omega) h)
  (repeat (refine stq ?_))
  refine AL_doS rfl (op_callXs (objs:=[(0,.pool 3 1 [(v,some (L.map eInt))])]) (n:=1) [(0,0)] [0] [] (fun av=>k208) rfl rfl rfl rfl (by (repeat' (first|exact trivial|refine And.intro ?_ ?_)); all_goals (first|rfl|decide)) rfl (by (repeat' (first|exact trivial|refine And.intro ?_ ?_)); all_goals (first|rfl|decide)) rfl trivial (by simp) (fun av sf h=>by subst h; exact ⟨.inp ⟨_,_,_,_,_,_,rfl,rfl⟩,trivial⟩)) ?_
  rintro s' ⟨av',sf,rfl,rfl⟩
  (repeat (refine stq ?_))
  refine ⟨_,mkSt [(0,.tup [])] [(0,.pool 3 1 [(v,some ((sortN L L.length).map eInt))])] 1,rfl,?_,rfl⟩
  (refine Le.mk ?_ ?_; all_goals (repeat' (first|exact trivial|refine sle ?_|refine ⟨?_,rfl,?_⟩|refine ⟨?_,by decide,rfl,?_⟩|fail)))
theorem t171 (v:Value) (L:List Int) (hl4:L.length <= 4):ACallsX Tryz.prog 171 [.pv (.raw v)] [(0,.pool 3 1 [(v,some (L.map eInt))])] 1
  (fun sf=>sf = mkSt [(0,.tup [])] [(0,.pool 3 1 [(v,some ((sortN L L.length).map eInt))])] 1) (fun _ _=>False):= by
 have k201:=t201 L.length hl4
 have k200:=t200 v L (by omega) (lenV L.length)
 have hw:IntKind.u64.wrap (L.length:Int) = (L.length:Int):= by
  have h4:0 <= (L.length:Int) /\ (L.length:Int) <= 4:=by omega
  generalize (L.length:Int) = q at *
  unfold IntKind.wrap; simp [IntKind.signed,IntKind.bits]; omega
 refine ACallsX.of_body hT Tryz.func171 rfl (by kernel_rfl) rfl ?_
 (repeat (refine stq ?_))
 refine AL_do2 rfl ⟨_,op_len_raw (g:=0) (k:=0) hT rfl rfl rfl rfl rfl rfl rfl (len_map _ _),?_⟩
 (repeat (refine stq ?_))
 rw [hw]
 (repeat' (first|refine stq ?_|(refine AL_do2 rfl ?_; first|refine ⟨_,op_call1 rfl rfl rfl rfl (k201),nrmA rfl ?_⟩)|(with_reducible refine AL_id ?_); (fail_if_success (refine glq rfl rfl rfl ?_)); first|refine AL_gdec rfl rfl rfl (fun hg=>?_) (fun hg=>?_)|refine AL_gnot rfl rfl rfl (fun hg=>?_) (fun hg=>?_)|refine AL_gcases rfl rfl rfl (fun hg=>?_) (fun hg=>?_)))
 refine AL_doS rfl (op_callXs (objs:=[(0,.pool 3 1 [(v,some (L.map eInt))])]) (n:=1) [(0,0)] [0] [] (fun av=>k200) rfl rfl rfl rfl (by (repeat' (first|exact trivial|refine And.intro ?_ ?_)); all_goals (first|rfl|decide)) rfl (by (repeat' (first|exact trivial|refine And.intro ?_ ?_)); all_goals (first|rfl|decide)) rfl trivial (by simp) (fun av sf h=>by subst h; exact ⟨.inp ⟨_,_,_,_,_,_,rfl,rfl⟩,trivial⟩)) ?_
 rintro s' ⟨av',sf,rfl,rfl⟩
 (repeat (refine stq ?_))
 refine ⟨_,mkSt [(0,.tup [])] [(0,.pool 3 1 [(v,some ((sortN L L.length).map eInt))])] 1,rfl,?_,rfl⟩
 (refine Le.mk ?_ ?_; all_goals (repeat' (first|exact trivial|refine sle ?_|refine ⟨?_,rfl,?_⟩|refine ⟨?_,by decide,rfl,?_⟩|fail)))
end Go.Abs
