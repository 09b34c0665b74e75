/- Blanks and cuttings are compared. -/
import Derived.Test.YtpoaccdbakbjhaaGreatXG32
import Derived.Test.YtpoaccdbakbjhaaGreatXG24
import Derived.Test.YtpoaccdbakbjhaaGreatXG16
import Derived.Lib.AppendZeros
set_option linter.unusedVariables false
set_option linter.unusedSimpArgs false
namespace Go.Abs
open Go.Proofs
set_option maxRecDepth 100000
def cpI (a b:Int):Int:=if a < b then -1 else if a > b then 1 else 0
def orI:List Int -> Int
 | []=>0
 | x :: l=>if x = 0 then orI l else x
theorem t204 (x:Int):ACalls Tryz.prog 204 [vi x] (fun r=>r = .pv (.bool false)):= by
 refine ACalls.of_body hT Tryz.func204 rfl (by kernel_rfl) rfl ?_
 (repeat (refine stq ?_))
 exact ⟨_,_,rfl,rfl,by simp⟩
theorem t178 (x y:Int):ACalls Tryz.prog 178 [vi x,vi y] (fun r=>r = .pv (vi (cpI x y))):= by
 have k1:=t204 x
 have k2:=t204 y
 refine ACalls.of_body hT Tryz.func178 rfl (by kernel_rfl) rfl ?_
 (repeat' (first|refine stq ?_|(refine AL_do2 rfl ?_; first|refine ⟨_,op_call1 rfl rfl rfl rfl (k1),nrmA rfl ?_⟩|refine ⟨_,op_call1 rfl rfl rfl rfl (k2),nrmA rfl ?_⟩)|(with_reducible refine AL_id ?_); (fail_if_success (refine glq rfl rfl rfl ?_)); first|refine AL_gdec rfl rfl rfl (fun hg=>?_) (fun hg=>?_)|refine AL_gnot rfl rfl rfl (fun hg=>?_) (fun hg=>?_)|refine AL_gcases rfl rfl rfl (fun hg=>?_) (fun hg=>?_)))
 refine AW_if rfl (fun h=>?_) (fun h=>?_)
 ·(repeat (refine stq ?_))
  exact ⟨_,_,rfl,rfl,by rw [cpI,if_pos h]⟩
 ·(repeat (refine stq ?_))
  refine AW_if rfl (fun h2=>?_) (fun h2=>?_)
  ·(repeat (refine stq ?_))
   exact ⟨_,_,rfl,rfl,by rw [cpI,if_neg h,if_pos h2]⟩
  ·(repeat (refine stq ?_))
   exact ⟨_,_,rfl,rfl,by rw [cpI,if_neg h,if_neg h2]⟩
theorem orI_drop {l:List Int}:∀ k,(∀ (i:Nat) (x:Int),i < k -> l[i]? = some x -> x = 0) -> orI l = orI (l.drop k)
 | 0,_=>by simp
 | k + 1,h=>by
  rw [orI_drop k fun i x hi=>h i x (by omega)]
  cases hk:l[k]? with
  | none =>
   have hlk:l.length <= k:=by simpa using hk
   rw [show l.drop k = [] from List.drop_eq_nil_of_le hlk,show l.drop (k + 1) = [] from List.drop_eq_nil_of_le (by omega)]
  | some x =>
   obtain ⟨h1,h2⟩:=List.getElem?_eq_some_iff.1 hk
   rw [List.drop_eq_getElem_cons h1,orI,if_pos (by rw [h2]; exact h k x (by omega) hk)]
theorem t177 (l:List Int) (hl:l.length <= 1000):ACalls Tryz.prog 177 [eInts l] (fun r=>r = .pv (vi (orI l))):= by
 refine ACalls.of_body hT Tryz.func177 rfl (by kernel_rfl) rfl ?_
 (repeat (refine stq ?_))
 refine AW_loopC (fun k:Nat=>k <= l.length /\ ∀ (i:Nat) (x:Int),i < k -> l[i]? = some x -> x = 0) (fun k=>mkSt [(3,.pv (vi 0)),(6,.pv (eInts l)),(7,.pv (vi l.length)),(8,.pv (vi k))] [] 0) (fun k=>l.length - k) 0 ⟨Nat.zero_le _,fun i x h=>by omega⟩ ?_ ?_
 ·(refine Le.mk ?_ ?_; all_goals (repeat' (first|exact trivial|refine sle ?_|refine ⟨?_,rfl,?_⟩|refine ⟨?_,by decide,rfl,?_⟩|fail)))
 ·rintro k ⟨hk,hall⟩
  (repeat (refine stq ?_))
  refine AW_if rfl (fun hc=>?_) (fun hc=>?_)
  ·have hk':k < l.length:=by omega
   obtain ⟨x,hx⟩:∃ x,l[k]? = some x:=⟨l[k],by simp [hk']⟩
   have e1:=get_map eInt hx
   obtain ⟨h1,h2⟩:=List.getElem?_eq_some_iff.1 hx
   (repeat (refine stq ?_))
   refine AW_if rfl (fun h=>?_) (fun h=>?_)
   ·(repeat (refine stq ?_))
    exact ⟨_,_,rfl,rfl,by rw [orI_drop k hall,List.drop_eq_getElem_cons h1,orI,h2,if_neg h]⟩
   ·(repeat (refine stq ?_))
    refine ⟨k + 1,⟨hk',fun i y hi hy=>?_⟩,by omega,?_⟩
    ·by_cases hik:i = k
     ·subst hik; rw [hx] at hy; cases hy; omega
     ·exact hall i y (by omega) hy
    ·(refine Le.mk ?_ ?_; all_goals (repeat' (first|exact trivial|refine sle ?_|refine ⟨?_,rfl,?_⟩|refine ⟨?_,by decide,rfl,?_⟩|fail)))
  ·(repeat (refine stq ?_))
   exact ⟨_,_,rfl,rfl,by rw [orI_drop k hall,show l.drop k = [] from List.drop_eq_nil_of_le (by omega)]; rfl⟩
def befI (a b:Blank):Int:=orI [cpI a.row b.row,cpI a.col b.col,cpI a.tube b.tube]
theorem t180 (a b:Blank):ACalls Tryz.prog 180 [eB a,eB b] (fun r=>r = .pv (vi (befI a b))):= by
 have k1:=t178 a.row b.row
 have k2:=t178 a.col b.col
 have k3:=t178 a.tube b.tube
 have k4:=t177 [cpI a.row b.row,cpI a.col b.col,cpI a.tube b.tube] (by simp)
 have e:befI a b = orI [cpI a.row b.row,cpI a.col b.col,cpI a.tube b.tube]:=rfl
 rw [e]
 refine ACalls.of_body hT Tryz.func180 rfl (by kernel_rfl) rfl ?_
 (repeat (refine stq ?_))
 (repeat (first|refine sdq ?_|refine DG_next (D_call rfl rfl rfl rfl rfl (k1)) ?_|refine DG_next (D_call rfl rfl rfl rfl rfl (k2)) ?_|refine DG_next (D_call rfl rfl rfl rfl rfl (k3)) ?_|refine DG_next (D_call rfl rfl rfl rfl rfl (k4)) ?_))
 refine DG_end hM (by kernel_rfl) ?_
 (repeat (refine stq ?_))
 exact ⟨_,_,rfl,rfl,rfl⟩
def cmpL:List Blank -> List Blank -> Int
 | [],[]=>0
 | [],_ :: _=>-1
 | _ :: _,[]=>1
 | a :: l,b :: m=>if befI a b = 0 then cmpL l m else befI a b
theorem cmpL_drop {l m:List Blank}:∀ k,k <= l.length -> k <= m.length -> (∀ (i:Nat) (a b:Blank),i < k -> l[i]? = some a -> m[i]? = some b -> befI a b = 0) -> cmpL l m = cmpL (l.drop k) (m.drop k)
 | 0,_,_,_=>by simp
 | k + 1,h1,h2,h=>by
  rw [cmpL_drop k (by omega) (by omega) fun i a b hi=>h i a b (by omega)]
  rw [List.drop_eq_getElem_cons (by omega:k < l.length),List.drop_eq_getElem_cons (by omega:k < m.length),cmpL,if_pos (h k _ _ (by omega) (by simp) (by simp))]
set_option maxHeartbeats 4000000 in
theorem t179 (l m:List Blank) (hl:l.length <= 1000) (hm:m.length <= 1000):ACalls Tryz.prog 179 [eBlanks l,eBlanks m,.fn 180 []] (fun r=>r = .pv (vi (cmpL l m))):= by
 refine ACalls.of_body hT Tryz.func179 rfl (by kernel_rfl) rfl ?_
 (repeat (refine stq ?_))
 refine AW_loopC (fun k:Nat=>k <= l.length /\ k <= m.length /\ ∀ (i:Nat) (a b:Blank),i < k -> l[i]? = some a -> m[i]? = some b -> befI a b = 0) (fun k=>mkSt [(0,.pv (eBlanks l)),(1,.pv (eBlanks m)),(2,.pv (.fn 180 [])),(11,.pv (eBlanks l)),(12,.pv (vi l.length)),(13,.pv (vi k))] [] 0) (fun k=>l.length - k) 0
  ⟨Nat.zero_le _,Nat.zero_le _,fun i a b h=>by omega⟩ ?_ ?_
 ·(refine Le.mk ?_ ?_; all_goals (repeat' (first|exact trivial|refine sle ?_|refine ⟨?_,rfl,?_⟩|refine ⟨?_,by decide,rfl,?_⟩|fail)))
 ·rintro k ⟨hk,hk2,hall⟩
  (repeat (refine stq ?_))
  refine AW_if rfl (fun hc=>?_) (fun hc=>?_)
  ·have hk':k < l.length:=by omega
   obtain ⟨a,ha⟩:∃ x,l[k]? = some x:=⟨l[k],by simp [hk']⟩
   have e1:=get_map eBlank ha
   obtain ⟨a1,a2⟩:=List.getElem?_eq_some_iff.1 ha
   (repeat (refine stq ?_))
   refine AW_if rfl (fun h=>?_) (fun h=>?_)
   ·(repeat (refine stq ?_))
    exact ⟨_,_,rfl,rfl,by rw [cmpL_drop k hk hk2 hall,List.drop_eq_getElem_cons a1,show m.drop k = [] from List.drop_eq_nil_of_le (by omega)]; rfl⟩
   ·have hk3:k < m.length:=by omega
    obtain ⟨b,hb⟩:∃ x,m[k]? = some x:=⟨m[k],by simp [hk3]⟩
    have e2:=get_map eBlank hb
    obtain ⟨b1,b2⟩:=List.getElem?_eq_some_iff.1 hb
    have k180:=t180 a b
    have hcd:cmpL l m = if befI a b = 0 then cmpL (l.drop (k + 1)) (m.drop (k + 1)) else befI a b:= by
     rw [cmpL_drop k hk hk2 hall,List.drop_eq_getElem_cons a1,List.drop_eq_getElem_cons b1,cmpL,a2,b2]
    (repeat' (first|refine stq ?_|(refine AL_do2 rfl ?_; first|refine ⟨_,op_call1 rfl rfl rfl rfl (k180),nrmA rfl ?_⟩)|(with_reducible refine AL_id ?_); (fail_if_success (refine glq rfl rfl rfl ?_)); first|refine AL_gdec rfl rfl rfl (fun hg=>?_) (fun hg=>?_)|refine AL_gnot rfl rfl rfl (fun hg=>?_) (fun hg=>?_)|refine AL_gcases rfl rfl rfl (fun hg=>?_) (fun hg=>?_)))
    refine AW_if rfl (fun h2=>?_) (fun h2=>?_)
    ·(repeat (refine stq ?_))
     exact ⟨_,_,rfl,rfl,by rw [hcd,if_neg h2]⟩
    ·(repeat (refine stq ?_))
     refine ⟨k + 1,⟨hk',hk3,fun i x y hi hx hy=>?_⟩,by omega,?_⟩
     ·by_cases hik:i = k
      ·subst hik; rw [ha] at hx; rw [hb] at hy; cases hx; cases hy; omega
      ·exact hall i x y (by omega) hx hy
     ·(refine Le.mk ?_ ?_; all_goals (repeat' (first|exact trivial|refine sle ?_|refine ⟨?_,rfl,?_⟩|refine ⟨?_,by decide,rfl,?_⟩|fail)))
  ·have hkl:k = l.length:=by omega
   subst hkl
   (repeat (refine stq ?_))
   refine AW_if rfl (fun h=>?_) (fun h=>?_)
   ·(repeat (refine stq ?_))
    have h3:l.length < m.length:=by omega
    exact ⟨_,_,rfl,rfl,by rw [cmpL_drop l.length (Nat.le_refl _) hk2 hall,List.drop_length,List.drop_eq_getElem_cons h3]; rfl⟩
   ·(repeat (refine stq ?_))
    exact ⟨_,_,rfl,rfl,by rw [cmpL_drop l.length (Nat.le_refl _) hk2 hall,List.drop_length,show m.drop l.length = [] from List.drop_eq_nil_of_le (by omega)]; rfl⟩
structure Cut where
 blanks:List Blank
 worth:Int
 deriving DecidableEq
def eCut (c:Cut):List PV:=[eBlanks c.blanks,vi c.worth]
def eC (c:Cut):PV:=.agg (eCut c)
def betterM (a b:Cut):Bool:=decide (orI [cpI b.worth a.worth,cpI a.blanks.length b.blanks.length,cmpL a.blanks b.blanks] < 0)
theorem t114 (a b:Cut) (ha:a.blanks.length <= 1000) (hb:b.blanks.length <= 1000):ACalls Tryz.prog 114 [eC a,eC b] (fun r=>r = .pv (.bool (betterM a b))):= by
 have k1:=t178 b.worth a.worth
 have k2:=t178 a.blanks.length b.blanks.length
 have k3:=t179 a.blanks b.blanks ha hb
 have k4:=t177 [cpI b.worth a.worth,cpI a.blanks.length b.blanks.length,cmpL a.blanks b.blanks] (by simp)
 have e:betterM a b = decide (orI [cpI b.worth a.worth,cpI a.blanks.length b.blanks.length,cmpL a.blanks b.blanks] < 0):=rfl
 rw [e]
 refine ACalls.of_body hT Tryz.func114 rfl (by kernel_rfl) rfl ?_
 (repeat (refine stq ?_))
 (repeat (first|refine sdq ?_|refine DG_next (D_call rfl rfl rfl rfl rfl (k1)) ?_|refine DG_next (D_call rfl rfl rfl rfl rfl (k2)) ?_|refine DG_next (D_call rfl rfl rfl rfl rfl (k3)) ?_|refine DG_next (D_call rfl rfl rfl rfl rfl (k4)) ?_))
 refine DG_end hM (by kernel_rfl) ?_
 (repeat (refine stq ?_))
 exact ⟨_,_,rfl,rfl,rfl⟩
def bestM:Cut -> List Cut -> Cut
 | out,[]=>out
 | out,x :: l=>bestM (if betterM x out then x else out) l
def bestC (l:List Cut):Cut:=match l with
 | []=>⟨[],0⟩
 | x :: _=>bestM x l
theorem best_mem:∀ {l:List Cut} {out:Cut},bestM out l = out \/ bestM out l ∈ l
 | [],out=>.inl rfl
 | x :: l,out=>by
  rw [bestM]
  split
  ·rcases best_mem (l:=l) (out:=x) with h|h
   ·exact .inr (by rw [h]; exact .head _)
   ·exact .inr (.tail _ h)
  ·rcases best_mem (l:=l) (out:=out) with h|h
   ·exact .inl h
   ·exact .inr (.tail _ h)
theorem bestC_mem {x:Cut} {l:List Cut}:bestC (x :: l) ∈ x :: l:= by
 rw [bestC]
 rcases best_mem (l:=x :: l) (out:=x) with h|h
 ·rw [h]; exact .head _
 ·exact h
theorem bestM_snoc (l:List Cut) (out x:Cut):bestM out (l ++ [x]) = if betterM x (bestM out l) then x else bestM out l:= by
 induction l generalizing out with
 | nil=>rfl
 | cons y l ih=>rw [List.cons_append,bestM,bestM,ih]
set_option maxHeartbeats 4000000 in
theorem t113 (x0:Cut) (l0:List Cut) (hl:(x0 :: l0).length <= 1000) (hb:∀ c ∈ x0 :: l0,c.blanks.length <= 1000):ACalls Tryz.prog 113 [.sl ((x0 :: l0).map eCut),.fn 114 []] (fun r=>r = .pv (eC (bestC (x0 :: l0)))):= by
 generalize hd:x0 :: l0 = l at *
 have h0:l[0]? = some x0:=by rw [<- hd]; rfl
 have hbc:bestC l = bestM x0 l:=by rw [<- hd]; rfl
 have e0:(l.map eCut)[(0:Int).toNat]? = some (eCut x0):=get_map eCut h0
 refine ACalls.of_body hT Tryz.func113 rfl (by kernel_rfl) rfl ?_
 (repeat (refine stq ?_))
 refine AW_loopC (fun k:Nat=>k <= l.length) (fun k=>mkSt [(1,.pv (.fn 114 [])),(4,.box 0 0),(5,.box 1 0),(11,.pv (.sl (l.map eCut))),(12,.pv (vi l.length)),(13,.pv (vi k))] [(0,.box [.nils,.pv (vi 0)]),(1,.box ((eCut (bestM x0 (l.take k))).map FV.pv))] 2) (fun k=>l.length - k) 0 (Nat.zero_le _) ?_ ?_
 ·(refine Le.mk ?_ ?_; all_goals (repeat' (first|exact trivial|refine sle ?_|refine ⟨?_,rfl,?_⟩|refine ⟨?_,by decide,rfl,?_⟩|fail)))
 ·intro k hk
  have hbm:(bestM x0 (l.take k)).blanks.length <= 1000:= by
   rcases best_mem (l:=l.take k) (out:=x0) with h|h
   ·rw [h]; exact hb x0 (List.mem_of_getElem? h0)
   ·exact hb _ (List.mem_of_mem_take h)
  have hst:∀ x,l[k]? = some x -> bestM x0 (l.take (k + 1)) = if betterM x (bestM x0 (l.take k)) then x else bestM x0 (l.take k):=fun x hx=>by
   rw [List.take_add_one,hx]; exact bestM_snoc _ _ _
  generalize hB:bestM x0 (l.take k) = B at *
  (repeat (refine stq ?_))
  refine AW_if rfl (fun hc=>?_) (fun hc=>?_)
  ·have hk':k < l.length:=by omega
   obtain ⟨x,hx⟩:∃ x,l[k]? = some x:=⟨l[k],by simp [hk']⟩
   have e1:=get_map eCut hx
   have k114:=t114 x B (hb x (List.mem_of_getElem? hx)) hbm
   have hs:=hst x hx
   cases q:betterM x B with
   | true =>
    rw [q] at k114 hs
    rw [if_pos rfl] at hs
    (repeat' (first|refine stq ?_|(refine AL_do2 rfl ?_; first|refine ⟨_,op_call1 rfl rfl rfl rfl (k114),nrmA rfl ?_⟩)|(with_reducible refine AL_id ?_); (fail_if_success (refine glq rfl rfl rfl ?_)); first|refine AL_gdec rfl rfl rfl (fun hg=>?_) (fun hg=>?_)|refine AL_gnot rfl rfl rfl (fun hg=>?_) (fun hg=>?_)|refine AL_gcases rfl rfl rfl (fun hg=>?_) (fun hg=>?_)))
    refine ⟨k + 1,hk',by omega,?_⟩
    rw [hs]
    (refine Le.mk ?_ ?_; all_goals (repeat' (first|exact trivial|refine sle ?_|refine ⟨?_,rfl,?_⟩|refine ⟨?_,by decide,rfl,?_⟩|fail)))
   | false =>
    rw [q] at k114 hs
    rw [if_neg (by simp)] at hs
    (repeat' (first|refine stq ?_|(refine AL_do2 rfl ?_; first|refine ⟨_,op_call1 rfl rfl rfl rfl (k114),nrmA rfl ?_⟩)|(with_reducible refine AL_id ?_); (fail_if_success (refine glq rfl rfl rfl ?_)); first|refine AL_gdec rfl rfl rfl (fun hg=>?_) (fun hg=>?_)|refine AL_gnot rfl rfl rfl (fun hg=>?_) (fun hg=>?_)|refine AL_gcases rfl rfl rfl (fun hg=>?_) (fun hg=>?_)))
    refine ⟨k + 1,hk',by omega,?_⟩
    rw [hs]
    (refine Le.mk ?_ ?_; all_goals (repeat' (first|exact trivial|refine sle ?_|refine ⟨?_,rfl,?_⟩|refine ⟨?_,by decide,rfl,?_⟩|fail)))
  ·have hkl:k = l.length:=by omega
   subst hkl
   rw [List.take_length] at hB
   rw [hbc,hB]
   (repeat (refine stq ?_))
   exact ⟨_,_,rfl,rfl,rfl⟩
end Go.Abs
namespace Go.Abs
open Go.RowKit
mutual
def FV.hnd (n:Nat):FV -> Bool
 | .pv p=>p.flat
 | .nils=>true
 | .box id _=>Nat.ble n id
 | .arr id=>Nat.ble n id
 | .mp id=>Nat.ble n id
 | .agg cs=>FV.hndL n cs
 | _=>false
def FV.hndL (n:Nat):List FV -> Bool
 | []=>true
 | x :: xs=>x.hnd n && FV.hndL n xs
end
theorem FV.hndL_mem {n:Nat}:∀ {xs:List FV} {x:FV},FV.hndL n xs = true -> x ∈ xs -> x.hnd n = true
 | [],_,_,h=>by cases h
 | y :: ys,x,h,hx=>by
  simp only [FV.hndL,Bool.and_eq_true] at h
  cases hx with
  | head=>exact h.1
  | tail _ hx=>exact FV.hndL_mem h.2 hx
theorem FRep.hnd {w:World} {D:Nat -> Prop} {φ:Nat -> Value} {n:Nat} {v:Value} {x:FV} (h:FRep w D φ v x):x.hnd n = true -> ∀ (w':World) (D':Nat -> Prop) (φ':Nat -> Value),(∀ id,n <= id -> φ' id = φ id) -> FRep w' D' φ' v x:= by
 induction h with
 | pv v p h=>exact fun hx w' D' φ' _=>.pv v p (h.flat_any hx w' D')
 | box id off b h=>exact fun hx w' D' φ' hφ=>.box id off b (by rw [hφ id (Nat.le_of_ble_eq_true hx)]; exact h)
 | nils=>exact fun _ w' D' φ' _=>.nils
 | arr id n' c a h=>exact fun hx w' D' φ' hφ=>.arr id n' c a (by rw [hφ id (Nat.le_of_ble_eq_true hx)]; exact h)
 | mp id r h=>exact fun hx w' D' φ' hφ=>.mp id r (by rw [hφ id (Nat.le_of_ble_eq_true hx)]; exact h)
 | agg vs cs hl hr ih=>exact fun hx w' D' φ' hφ=>.agg vs cs hl fun j v p hv hp=>ih j v p hv hp (FV.hndL_mem (by simpa [FV.hnd] using hx) (List.mem_of_getElem? hp)) w' D' φ' hφ
 | _=>intro hx; simp [FV.hnd] at hx
def AObj.hnd (n:Nat):AObj -> Prop
 | .box cs=>FV.hndL n cs = true
 | .arr _ _ es=>∀ e ∈ es,PV.flatL e = true
 | .ext E k B=>∀ D D' w,E.J k B D w -> E.J k B D' w
 | _=>False
theorem ORep.hnd {w:World} {D:Nat -> Prop} {φ:Nat -> Value} {n base id:Nat} {ob:AObj} (h:ORep w D φ base id ob) (hn:n <= id) (ho:ob.hnd n) (D':Nat -> Prop) (φ':Nat -> Value) (hφ:∀ id,n <= id -> φ' id = φ id) (base':Nat):ORep w D' φ' base' id ob:= by
 cases ob with
 | box cs =>
  obtain ⟨b,vs,e,h1,h2,h3,h4⟩:=h
  refine ⟨b,vs,e,by rw [hφ _ hn]; exact h1,h2,h3,fun j v x hv hx=>?_⟩
  obtain ⟨hl,hr⟩:=h4 j v x hv hx
  exact ⟨hl,hr.hnd (FV.hndL_mem ho (List.mem_of_getElem? hx)) _ _ _ hφ⟩
 | arr e sz es =>
  obtain ⟨xs,h1,h2,h3⟩:=h
  refine ⟨xs,by rw [hφ _ hn]; exact h1,h2,fun i j e p he hp=>?_⟩
  obtain ⟨g1,u,g2,g3⟩:=h3 i j e p he hp
  exact ⟨g1,u,g2,g3.flat_any (PV.flatL_mem (ho e (List.mem_of_getElem? he)) (List.mem_of_getElem? hp)) _ _⟩
 | ext E k B =>
  obtain ⟨h1,h2,h3,h4⟩:=h
  exact ⟨h1,by rw [hφ _ hn]; exact h2,h3,ho _ _ _ h4⟩
 | _=>exact ho.elim
section
variable {P:Program} {nt:Nat} {Q:Exit -> ASt -> Prop} {s:ASt}
end
end Go.Abs
namespace Go.Abs
open Go.RowKit
section
variable {P:Program}
theorem zeros_len (z:Array Value) (n:Nat):(Builtin.zeroCells z n).toList.length = n * z.size:=by simp [Builtin.zeroCells]
theorem run_append_zeros (w:World) {base:Nat} {t tn ty e:TypeId} {i:TypeInfo} {z:Value} {size bytes:Nat} {k kn:IntKind} (ht:P.underlying t = some (.slice e)) (htn:P.underlying tn = some (.int kn)) (hi:P.info? e = some i) (hz:i.zero = some z)
  (hsize:i.size = size) (hby:i.bytes = bytes) (hzs:z.cells.size = size) (hsz:0 < size) {v:Value} {n:Nat} {xs:List Value} (hown:w.ownsRow base e size v n xs)
  {m:Nat} (h1:∀ u ∈ (Builtin.zeroCells z.cells m).toList,u.oneCell' = true) (hm:0 < m) (h63:n + m <= maxLen) (hbytes:(n + m) * bytes <= 140737488355328) (hbase:base <= w.heap.size) :
  ∃ v' w',(Builtin.append_ #[t,tn] ty #[v,.int k m]).run P w = .ok v' w' /\ w'.ownsRow base e size v' (n + m) (xs ++ (Builtin.zeroCells z.cells m).toList) /\ w.grownBy w' v.ownBlock /\
   ∀ g,blk v' = some g -> blk v = some g \/ (w.heap.size <= g /\ g < w'.heap.size):= by
 subst hsize
 subst hby
 have hsmall:n + m <= 9223372036854775807:=by simp only [maxLen] at h63; omega
 have hl:(Builtin.zeroCells z.cells m).toList.length = m * i.size:=by rw [zeros_len,hzs]
 have hmb:m * i.bytes <= 140737488355328:= by
  have:=Nat.mul_le_mul_right i.bytes (show m <= n + m by omega)
  omega
 generalize hnews:(Builtin.zeroCells z.cells m).toList = news at *
 have hnewsA:Builtin.zeroCells z.cells m = news.toArray:=by rw [<- hnews]
 have hlen:(xs ++ news).length = (n + m) * i.size:=by rw [List.length_append,hown.1,hl,Nat.add_mul]
 have grown:∀ (old:Nat),old < n + m -> ∀ (row:Option Nat),
   (w.drew.alloc (.cells (xs.toArray ++ news.toArray ++ Builtin.zeroCells z.cells (grownCap w (n + m) old e - (n + m))) e)).ownsRow base e i.size
    (.slice (some ⟨w.heap.size,0,none⟩) (n + m) (grownCap w (n + m) old e)) (n + m) (xs ++ news) /\
   w.grownBy (w.drew.alloc (.cells (xs.toArray ++ news.toArray ++ Builtin.zeroCells z.cells (grownCap w (n + m) old e - (n + m))) e)) row:= by
  intro old ho row
  have hge:=grownCap_ge w (n + m) old e
  have hcm:grownCap w (n + m) old e <= maxLen:=grownCap_le_maxLen w (n + m) old e h63
  refine ⟨⟨hlen,.inr ⟨w.heap.size,_,_,rfl,hbase,heap_alloc_new w.drew _,hge,hcm,?_,?_⟩⟩,⟨rfl,rfl,rfl,by simp,fun k hk _=>Below.heap_alloc w.drew _ _ hk⟩⟩
  ·simp only [Array.size_append,List.size_toArray,size_zeroCells,hzs,hown.1,hl,<- Nat.add_mul]
   congr 1
   omega
  ·simp only [Array.toList_append,List.append_assoc]
   rw [<- List.append_assoc,<- hlen]
   exact List.take_left
 have hw:IntKind.i64.wrap (m:Int) = m:=by rw [IntKind.wrap_i64]; omega
 have hneg:¬ ((m:Int) < 0):=by omega
 have h48i:¬ (281474976710656 < (m:Int) * (i.bytes:Int)):= by
  rw [<- Int.natCast_mul]; omega
 have hns:¬ (m * i.size = 0):=Nat.mul_ne_zero (by omega) (by omega)
 rcases hown.2 with ⟨rfl,rfl⟩|⟨g,cap,cur,rfl,hbg,hg,hnc,hcm,hcs,htake⟩
 ·have hx:xs = []:=List.eq_nil_of_length_eq_zero (by simpa using hown.1)
  subst hx
  have hr:=Lib.run_append_nil_zeros (P:=P) w t tn ty e i z k kn ht htn hi hz m hm hsz (by omega) (by omega)
  have hgr:=grown 0 (by omega) (Value.ownBlock (.slice none 0 0))
  simp only [Nat.zero_add,List.nil_append,Array.empty_append] at hgr hr ⊢
  rw [hnewsA] at hr
  refine ⟨_,_,hr,hgr.1,hgr.2,fun g hg=>?_⟩
  simp only [blk,Option.some.injEq] at hg
  subst hg
  exact .inr ⟨Nat.le_refl _,by simp⟩
 ·by_cases hroom:n + m <= cap
  ·have hfit:n * i.size + news.length <= cur.size:=by rw [hl,hcs,<- Nat.add_mul]; exact Nat.mul_le_mul_right _ hroom
   have hst:=run_storeCells_at P g (n * i.size) e news 0 cur w hg (by simpa using hfit) h1
   simp only [Nat.add_zero] at hst
   have hr:(Builtin.append_ #[t,tn] ty #[.slice (some ⟨g,0,none⟩) n cap,.int k m]).run P w =
     .ok (.slice (some ⟨g,0,none⟩) (n + m) cap) (w.setRow g (cur.toList.take (n * i.size) ++ news ++ cur.toList.drop (n * i.size + news.length)).toArray):= by
    simp [Builtin.append_,run_underlying ht,run_underlying htn,sizeOf,typeInfo,zeroValue,hi,hz,asInt,asIntOf,hw,hneg,hns,h48i,hroom,Addr.add_lit,hnews,hst]
   refine ⟨_,_,hr,⟨hlen,.inr ⟨g,cap,_,rfl,hbg,setRow_heap w g cur _ e _ hg,hroom,hcm,?_,?_⟩⟩,⟨rfl,rfl,rfl,by simp,fun k _ hk=>setRow_other w g k _ (fun e=>hk (by simp [Value.ownBlock,e]))⟩,fun g' hg'=>.inl hg'⟩
   ·simp only [List.size_toArray,List.length_append,List.length_take,List.length_drop,Array.length_toList]
    omega
   ·rw [htake,<- hlen]
    exact List.take_left
  ·have holds:∀ j u,xs[j]? = some u -> w.cell? ((⟨g,0,none⟩:Addr).add j) = some u:=hown.cells (g:=g) rfl
   have hn2:¬ (n + m <= cap):=hroom
   have hfits:Builtin.nextslicecap (n + m) cap * i.bytes <= 281474976710656:=growslice_fits (by omega) hbytes
   have h63':¬ (9223372036854775807 < ((n:Int) + (m:Int))):=by omega
   have h48':¬ (281474976710656 < Builtin.nextslicecap (n + m) cap * i.bytes):=by omega
   have hfo:=run_firstCells_some (P:=P) w.drew i.size n ⟨g,0,none⟩ n cap xs hown.1 (by simpa using holds)
   have hr:(Builtin.append_ #[t,tn] ty #[.slice (some ⟨g,0,none⟩) n cap,.int k m]).run P w =
     .ok (.slice (some ⟨w.heap.size,0,none⟩) (n + m) (grownCap w (n + m) cap e))
      (w.drew.alloc (.cells (xs.toArray ++ news.toArray ++ Builtin.zeroCells z.cells (grownCap w (n + m) cap e - (n + m))) e)):= by
    simp [Builtin.append_,run_underlying ht,run_underlying htn,sizeOf,typeInfo,zeroValue,hi,hz,asInt,asIntOf,hw,hneg,hns,h48i,hn2,h63',h48',Question.forced,hfo,newRow,grownCap,hnewsA]
    try (congr 2; apply Array.ext'; simp [List.append_assoc])
   have hgr:=grown cap (by omega) (Value.ownBlock (.slice (some ⟨g,0,none⟩) n cap))
   refine ⟨_,_,hr,hgr.1,hgr.2,fun g' hg'=>?_⟩
   simp only [blk,Option.some.injEq] at hg'
   subst hg'
   exact .inr ⟨Nat.le_refl _,by simp⟩
end
section
variable {P:Program} {T:Nat -> Option TyI} {nt:Nat} {s:ASt} {o:Oper}
theorem op_appendZ {t tn e id sz m:Nat} {x0 x:Operand} {ti ei:TyI} {es:List (List PV)} {zp:List PV} {k kn:IntKind} (hT:TabOK P T) (htn:P.underlying tn = some (.int kn)) (ho:o.op = .call { callee:=.builtin .append,args:=#[x0,x],argTypes:=#[t,tn] }) (hd:dstB nt o.dst = true)
  (ht:T t = some ti) (hk:ti.kind = .slice e) (he:T e = some ei) (hpos:Nat.blt 0 ei.size = true) (hzl:Nat.beq zp.length ei.size = true) (hz:ei.zero = zp.map .pv) (hx0:s.ev x0 = some (.arr id)) (hob:s.obj id = some (.arr e sz es)) (hsz:Nat.beq sz ei.size = true)
  (hx:s.ev x = some (.pv (.int k (m:Int)))) (hm:0 < m) (hmax:es.length + m <= 1099511627776) (hby:Nat.ble ei.bytes 128 = true) :
  OpTo P nt o s (((s.setObj id none).newObj (.arr e sz (es ++ List.replicate m zp))).putO o.dst (some (.arr s.nxt))):= by
 intro ro W0 D0 D φ a w hI K Q hK
 have hs:sz = ei.size:=Nat.eq_of_beq_eq_true hsz
 have hp:0 < sz:=by rw [hs]; simpa using hpos
 have hzl':=Nat.eq_of_beq_eq_true hzl
 have hby':=Nat.le_of_ble_eq_true hby
 obtain ⟨info,z,i1,i2,i3,i4,i5⟩:=(hT.ty he).info
 have hund:=(hT.ty ht).slice hk
 obtain ⟨hid,_,xs,hown,hxr⟩:=hI.objs id _ hob
 have hv0:a.eval x0 = φ id:= by
  have:=(hI.ev hx0).2
  generalize a.eval x0 = v at this
  cases this with
  | arr id n c ad h=>exact h.symm
 obtain ⟨z1,z2,z3⟩:=zrepL_ok i5
 have hzc:z.cells.size = sz:=by simp [hz] at z1; omega
 have hbytes:(es.length + m) * ei.bytes <= 140737488355328:= by
  have:=Nat.mul_le_mul hmax hby'
  omega
 have hml:es.length + m <= maxLen:=by simp only [maxLen]; omega
 have hnr:XRep w D sz (Builtin.zeroCells z.cells m).toList (List.replicate m zp):=⟨fun i el hi=>by
   rw [List.getElem?_replicate] at hi; split at hi <;> cases hi; omega,fun i j el p hi hp'=>by
   rw [List.getElem?_replicate] at hi
   split at hi <;> cases hi
   rename_i hin
   have hj:j < ei.size:=by rw [<- hzl']; exact (List.getElem?_eq_some_iff.1 hp').1
   have hjz:j < z.cells.size:=by omega
   have hzp:ei.zero[j]? = some (.pv p):=by rw [hz]; simp [hp']
   obtain ⟨l1,l2⟩:=z3 j z.cells[j] (.pv p) (by simp [hjz]) hzp
   refine ⟨l1,z.cells[j],?_,(l2 w D φ).inv_pv⟩
   have hlt:i * sz + j < m * z.cells.size:= by
    rw [hzc]
    have h2:=Nat.mul_le_mul_right sz (show i + 1 <= m by omega)
    rw [Nat.add_mul] at h2; omega
   have hmod:(i * sz + j) % z.cells.size = j:= by
    rw [hzc,Nat.mul_comm,Nat.mul_add_mod]; exact Nat.mod_eq_of_lt (by omega)
   simp [Builtin.zeroCells,hlt,hmod,hjz]⟩
 have hnl:(Builtin.zeroCells z.cells m).toList.length = (List.replicate m zp).length * sz:=by rw [zeros_len,hzc,List.length_replicate]
 have key:∃ v' w',(Builtin.append_ #[t,tn] o.type #[φ id,.int k m]).run P w = .ok v' w' /\ (∃ xs',w'.ownsRow 0 e sz v' (es ++ List.replicate m zp).length xs' /\ XRep w' D sz xs' (es ++ List.replicate m zp)) /\ w.grownBy w' (φ id).ownBlock /\
   ∀ g,blk v' = some g -> blk (φ id) = some g \/ (w.heap.size <= g /\ g < w'.heap.size):= by
  obtain ⟨v',w',hr,h2,h3,h4⟩:=run_append_zeros (P:=P) w (ty:=o.type) (k:=k) hund htn i1 i4 (by rw [i2,hs]) i3 hzc hp hown (m:=m) (hnr.oneCell hnl hp) hm hml hbytes (Nat.zero_le _)
  refine ⟨v',w',hr,⟨xs ++ (Builtin.zeroCells z.cells m).toList,by rw [List.length_append,List.length_replicate]; exact h2,?_⟩,h3,h4⟩
  have hDb:∀ b,D b -> w'.heap[b]? = w.heap[b]?:= by
   intro b hb
   refine h3.block b (hI.dlt b hb) ?_
   intro e
   obtain ⟨a0,c0,hv,_⟩:=ownsRow_slice hown
   have:=blk_own (φ id) ⟨_,_,_,hv⟩
   exact (hI.own id _ b hob (by show blk (φ id) = some b; rw [<- this]; exact e.symm)).1 hb
  exact (hxr.append hown.1 hnr).mono hDb (fun _ h=>h)
 obtain ⟨v',w',hr,⟨xs',hown',hxr'⟩,hg,hbk⟩:=key
 obtain ⟨a0,c0,hv,_⟩:=ownsRow_slice hown
 have hbo:=blk_own (φ id) ⟨_,_,_,hv⟩
 obtain ⟨a1,c1,hv',_⟩:=ownsRow_slice hown'
 have hvx:a.eval x = .int k m:=hI.ev_int hx
 have hrun:(execOp a.eval o).run P w = .ok (.value v') w':= by
  simp only [execOp,ho,resolve,invoke,builtin,Sem.run_bind,Sem.run_pure,Result.andThen_ok,List.map_toArray,List.map_cons,List.map_nil,hv0,hvx,hr]
 refine wpIn_of (by rw [ho]; intro c hc; cases hc) ?_
 unfold Oper.wp
 rw [hrun]
 have hN:Inv W0 D0 nt ((s.setObj id none).newObj (.arr e sz (es ++ List.replicate m zp))) D (addH φ s.nxt v') a w':= by
  refine hI.chg s.nxt (fun j=>j = id) ⟨hg.os,hg.tape,hg.output,hg.size,fun k hk=>absurd hk (Nat.not_lt_zero _)⟩ ?_ (fun _ h=>h) (fun b hb=>.inl hb) (fun j hj=>addH_old _ _ hj) (Nat.le_succ _) (fun t x hx=>hx) ?_ ?_
  ·intro b hb hne
   refine hg.block b hb fun e=>?_
   exact hne id _ rfl hob (by show blk (φ id) = some b; rw [<- hbo]; exact e.symm)
  ·intro id' ob' hne ho'
   rw [ASt.obj_newObj] at ho'
   have hn2:(s.setObj id none).nxt = s.nxt:=rfl
   rw [hn2,if_neg (fun e=>hne e.symm),ASt.obj_setObj] at ho'
   by_cases h2:id = id'
   ·rw [if_pos h2] at ho'; cases ho'
   ·rw [if_neg h2] at ho'; exact ⟨fun e=>h2 e.symm,ho'⟩
  ·intro ob' ho'
   rw [ASt.obj_newObj] at ho'
   have hn2:(s.setObj id none).nxt = s.nxt:=rfl
   rw [hn2,if_pos rfl] at ho'
   cases ho'
   refine ⟨Nat.lt_succ_self _,rfl,⟨xs',by rw [addH_new]; exact hown',hxr'⟩,?_⟩
   intro b hb
   have hb2:blk v' = some b:=by simpa [oblk,addH_new] using hb
   rcases hbk b hb2 with h5|⟨h5,h6⟩
   ·have hob2:oblk φ id (.arr e sz es) b:=h5
    obtain ⟨g1,g2,g3⟩:=hI.own id _ b hob hob2
    exact ⟨g1,Nat.lt_of_lt_of_le g3 hg.size,.inr ⟨id,_,rfl,hob,hob2⟩⟩
   ·exact ⟨fun h=>by have:=hI.dlt b h; omega,h6,.inl h5⟩
 refine hK D _ _ _ (hN.put o.dst (dstB_lt hd) _ _ fun x' hx'=>?_)
 cases hx'
 refine ⟨by simp [FV.lt,ASt.newObj,ASt.setObj],?_⟩
 rw [hv']
 refine .arr _ _ _ _ ?_
 rw [addH_new]
end
end Go.Abs
namespace Go.Abs
open Go.Proofs
open Go.RowKit
set_option maxRecDepth 100000
section
variable {P:Program} {T:Nat -> Option TyI} {nt:Nat} {s:ASt} {o:Oper}
theorem inv_nils {w:World} {D:Nat -> Prop} {φ:Nat -> Value} {v:Value} (h:FRep w D φ v .nils):v = .slice none 0 0:=by cases h; rfl
theorem op_cap_nils {t e:Nat} {x:Operand} {ti:TyI} (hT:TabOK P T) (ho:o.op = .call { callee:=.builtin .cap,args:=#[x],argTypes:=#[t] }) (hd:dstB nt o.dst = true) (ht:T t = some ti)
  (hk:ti.kind = .slice e) (hx:s.ev x = some .nils):OpTo P nt o s (s.putO o.dst (some (.pv (.int .i64 0)))) :=
 OpTo.value hd fun W0 D0 D φ a w hI=>by
  have hv:=inv_nils (hI.ev hx).2
  have hund:=(hT.ty ht).slice hk
  refine ⟨.int .i64 0,?_,fun x' hx'=>by cases hx'; exact ⟨rfl,.pv _ _ (.int _ _)⟩⟩
  simp [execOp,ho,hv,resolve,invoke,builtin,Builtin.cap_,underlying,hund,goInt]
theorem op_len_nils {t e:Nat} {x:Operand} {ti:TyI} (hT:TabOK P T) (ho:o.op = .call { callee:=.builtin .len,args:=#[x],argTypes:=#[t] }) (hd:dstB nt o.dst = true) (ht:T t = some ti)
  (hk:ti.kind = .slice e) (hx:s.ev x = some .nils):OpTo P nt o s (s.putO o.dst (some (.pv (.int .i64 0)))) :=
 OpTo.value hd fun W0 D0 D φ a w hI=>by
  have hv:=inv_nils (hI.ev hx).2
  have hund:=(hT.ty ht).slice hk
  refine ⟨.int .i64 0,?_,fun x' hx'=>by cases hx'; exact ⟨rfl,.pv _ _ (.int _ _)⟩⟩
  simp [execOp,ho,hv,resolve,invoke,builtin,Builtin.len_,underlying,hund,goInt]
theorem op_slice_nils {t e:Nat} {x y:Operand} {k:IntKind} {ti ei:TyI} (hT:TabOK P T) (ho:o.op = .slice t x none (some y) none) (hd:dstB nt o.dst = true) (ht:T t = some ti) (hk:ti.kind = .slice e) (he:T e = some ei)
  (hx:s.ev x = some .nils) (hy:s.ev y = some (.pv (.int k 0))):OpTo P nt o s (s.putO o.dst (some .nils)) :=
 OpTo.value hd fun W0 D0 D φ a w hI=>by
  have hv:=inv_nils (hI.ev hx).2
  have hrun0:=run_sliceAt hT ht hk he w none 0 0 0 0 (Nat.zero_le _) (Nat.le_refl _) none (some (a.eval y)) (.inl ⟨rfl,rfl⟩) (.inr ⟨k,by rw [hI.ev_int hy]; rfl⟩)
  refine ⟨.slice none 0 0,?_,fun x' hx'=>by cases hx'; exact ⟨rfl,.nils⟩⟩
  simp only [execOp,ho,hv,Option.map_none,Option.map_some,Sem.run_bind,hrun0,Result.andThen_ok,Sem.run_pure]
  rfl
end
theorem t203 (n:Nat) (hn:n <= 100000):ACallsX Tryz.prog 203 [.nils,.pv (vi n)] [] 0 (fun sf=>sf = mkSt [(0,.arr 0)] [(0,.arr 91 3 [])] 1) (fun _ _=>False):= by
 refine ACallsX.of_body hT Tryz.func203 rfl (by kernel_rfl) rfl ?_
 (repeat (refine stq ?_))
 refine AL_do2 rfl ⟨_,op_cap_nils hT rfl rfl rfl rfl rfl,?_⟩
 (repeat (refine stq ?_))
 refine AL_do2 rfl ⟨_,op_len_nils hT rfl rfl rfl rfl rfl,?_⟩
 (repeat (refine stq ?_))
 refine AW_if rfl (fun h=>?_) (fun h=>?_)
 ·(repeat (refine stq ?_))
  refine AL_do2 rfl ⟨_,op_cap_nils hT rfl rfl rfl rfl rfl,?_⟩
  (repeat (refine stq ?_))
  refine AL_do2 rfl ⟨_,op_slice_nils hT rfl rfl rfl rfl rfl rfl rfl,?_⟩
  refine AL_own_nil (t:=20) (e:=91) (sz:=3) rfl rfl ?_
  (repeat (refine stq ?_))
  refine AL_do2 rfl ⟨_,op_appendZ (m:=n) (zp:=[vi 0,vi 0,vi 0]) hT und3 rfl rfl rfl rfl rfl rfl rfl rfl rfl rfl rfl rfl (by omega) (by simp; omega) rfl,?_⟩
  (repeat (refine stq ?_))
  refine AL_do2 rfl ⟨_,op_len_nils hT rfl rfl rfl rfl rfl,?_⟩
  (repeat (refine stq ?_))
  refine AL_do2 rfl ⟨_,op_slice_own (hi:=0) hT rfl rfl rfl rfl rfl rfl rfl rfl (by simp),?_⟩
  (repeat (refine stq ?_))
  refine ⟨_,mkSt [(0,.arr 0)] [(0,.arr 91 3 [])] 1,rfl,?_,rfl⟩
  (refine Le.mkR [(0,2)] ?_ ?_ rfl; all_goals (repeat' (first|exact trivial|refine sle ?_|refine ⟨?_,rfl,?_⟩|refine ⟨?_,by decide,rfl,?_⟩|fail)))
 ·refine AW_own_nil (t:=0) (e:=91) (sz:=3) rfl rfl ?_
  (repeat (refine stq ?_))
  refine ⟨_,mkSt [(0,.arr 0)] [(0,.arr 91 3 [])] 1,rfl,?_,rfl⟩
  (refine Le.mk ?_ ?_; all_goals (repeat' (first|exact trivial|refine sle ?_|refine ⟨?_,rfl,?_⟩|refine ⟨?_,by decide,rfl,?_⟩|fail)))
def eBl (l:List Blank):List PV:=[eBlanks l]
theorem flat_succ {α:Type} {L:List (List α)} {i:Nat} {x:List α} (h:L[i]? = some x):(L.take (i + 1)).flatten = (L.take i).flatten ++ x:= by
 rw [List.take_add_one,h]; simp
theorem flat_len {α:Type} {L:List (List α)} (i:Nat):(L.take i).flatten.length <= L.flatten.length:= by
 have h:L.flatten = (L.take i).flatten ++ (L.drop i).flatten:=by rw [<- List.flatten_append,List.take_append_drop]
 have:=congrArg List.length h
 rw [List.length_append] at this
 omega
set_option maxHeartbeats 4000000 in
theorem t176 (L:List (List Blank)) (hL:L.length <= 1000) (hl:L.flatten.length <= 100000):ACalls Tryz.prog 176 [.sl (L.map eBl)] (fun r=>r = .own 91 3 (L.flatten.map eBlank)):= by
 have k203:=t203 L.flatten.length hl
 refine ACalls.of_body hT Tryz.func176 rfl (by kernel_rfl) rfl ?_
 (repeat (refine stq ?_))
 refine AW_loopC (fun i:Nat=>i <= L.length) (fun i=>mkSt [(3,.pv (vi ((L.take i).flatten.length:Nat))),(9,.pv (.sl (L.map eBl))),(10,.pv (vi L.length)),(11,.pv (vi i)),(0,.pv (.sl (L.map eBl)))] [] 0) (fun i=>L.length - i) 0 (Nat.zero_le _) ?_ ?_
 ·(refine Le.mk ?_ ?_; all_goals (repeat' (first|exact trivial|refine sle ?_|refine ⟨?_,rfl,?_⟩|refine ⟨?_,by decide,rfl,?_⟩|fail)))
 ·intro i hi
  have hfl:=flat_len (L:=L) i
  have hst:∀ x,L[i]? = some x -> ((L.take (i + 1)).flatten.length:Nat) = (L.take i).flatten.length + x.length:=fun x hx=>by rw [flat_succ hx,List.length_append]
  have hfl2:=flat_len (L:=L) (i + 1)
  generalize hN:(L.take i).flatten.length = N at *
  (repeat (refine stq ?_))
  refine AW_if rfl (fun hc=>?_) (fun hc=>?_)
  ·have hi':i < L.length:=by omega
   obtain ⟨x,hx⟩:∃ x,L[i]? = some x:=⟨L[i],by simp [hi']⟩
   have e1:=get_map eBl hx
   have hs:=hst x hx
   (repeat (refine stq ?_))
   refine ⟨i + 1,hi',by omega,?_⟩
   rw [hs,show (((N + x.length:Nat)):Int) = (N:Int) + x.length by omega]
   (refine Le.mk ?_ ?_; all_goals (repeat' (first|exact trivial|refine sle ?_|refine ⟨?_,rfl,?_⟩|refine ⟨?_,by decide,rfl,?_⟩|fail)))
  ·have hil:i = L.length:=by omega
   subst hil
   rw [List.take_length] at hN
   rw [hN] at k203
   (repeat (refine stq ?_))
   refine AL_doS rfl (op_callXs (objs:=[]) (n:=0) [] [] [] (fun av=>k203) rfl rfl rfl rfl (by (repeat' (first|exact trivial|refine And.intro ?_ ?_)); all_goals (first|rfl|decide)) rfl (by (repeat' (first|exact trivial|refine And.intro ?_ ?_)); all_goals (first|rfl|decide)) rfl trivial (by simp) (fun av sf h=>trivial)) ?_
   rintro s' ⟨av',sf,rfl,rfl⟩
   (repeat (refine stq ?_))
   refine AW_loopC (fun i:Nat=>i <= L.length) (fun i=>mkSt [(6,.arr 0),(25,.pv (.sl (L.map eBl))),(26,.pv (vi L.length)),(27,.pv (vi i))] [(0,.arr 91 3 ((L.take i).flatten.map eBlank))] 1) (fun i=>L.length - i) 0 (Nat.zero_le _) ?_ ?_
   ·(refine Le.mkR [(0,0)] ?_ ?_ rfl; all_goals (repeat' (first|exact trivial|refine sle ?_|refine ⟨?_,rfl,?_⟩|refine ⟨?_,by decide,rfl,?_⟩|fail)))
   ·intro i hi
    have hfl:=flat_len (L:=L) i
    have hst:∀ x,L[i]? = some x -> (L.take (i + 1)).flatten = (L.take i).flatten ++ x:=fun x hx=>flat_succ hx
    have hfl2:=flat_len (L:=L) (i + 1)
    (repeat (refine stq ?_))
    refine AW_if rfl (fun hc=>?_) (fun hc=>?_)
    ·have hi':i < L.length:=by omega
     obtain ⟨x,hx⟩:∃ x,L[i]? = some x:=⟨L[i],by simp [hi']⟩
     have e1:=get_map eBl hx
     have hs:=hst x hx
     rw [hs,List.length_append] at hfl2
     generalize (L.take i).flatten = R at *
     (repeat (refine stq ?_))
     refine ⟨i + 1,hi',by omega,?_⟩
     rw [hs]
     (refine Le.mkR [(0,1)] ?_ ?_ rfl; all_goals (repeat' (first|exact trivial|refine sle ?_|refine ⟨?_,rfl,?_⟩|refine ⟨?_,by decide,rfl,?_⟩|fail)))
     rw [List.map_append]; rfl
    ·have hil:i = L.length:=by omega
     subst hil
     rw [List.take_length]
     (repeat (refine stq ?_))
     exact ⟨_,_,rfl,rfl,rfl⟩
def thenC (a b:Cut):Cut:=⟨a.blanks ++ b.blanks,a.worth + b.worth⟩
theorem t112 (a b:Cut) (ha:a.blanks.length <= 1000) (hb:b.blanks.length <= 1000) (wa:0 <= a.worth /\ a.worth <= 1000000) (wb:0 <= b.worth /\ b.worth <= 1000000):ACalls Tryz.prog 112 [eC a,eC b] (fun r=>r = .pv (eC (thenC a b))):= by
 have k176:=t176 [a.blanks,b.blanks] (by simp) (by simp; omega)
 rw [show [a.blanks,b.blanks].flatten = a.blanks ++ b.blanks by simp] at k176
 have e:eC (thenC a b) = .agg [.sl ((a.blanks ++ b.blanks).map eBlank),vi (a.worth + b.worth)]:=rfl
 rw [e]
 refine ACalls.of_body hT Tryz.func112 rfl (by kernel_rfl) rfl ?_
 (repeat (refine stq ?_))
 (repeat (first|refine DG_next (D_call_own_p rfl rfl rfl rfl rfl rfl k176) ?_|refine sdq ?_))
 refine DG_end hM (by kernel_rfl) ?_
 (repeat (refine stq ?_))
 exact ⟨_,_,rfl,rfl,rfl⟩
end Go.Abs
