/- Coat: chosen, price, the order of the sets. -/
import Derived.Test.YtkmclnjmabljdaaGreatDoorKNdG
import Derived.Test.YtkmclnjmabljdaaGreatDoorKNcG
set_option linter.unusedVariables false
set_option linter.unusedSimpArgs false
namespace Go.Abs
open Go.Proofs
set_option linter.unusedVariables false
set_option linter.unusedSimpArgs false
set_option maxRecDepth 100000
def bitI (set : Int) (i : Nat) : Bool := decide (andR .i64 (shrR .i64 set i) 1 = 1)
def chosenL (l : List Stock) (set : Int) : List Stock := (l.zipIdx.filter fun p => bitI set p.2).map (·.1)
theorem chosenL_succ {l : List Stock} {k : Nat} {x : Stock} (set : Int) (h : l[k]? = some x) : chosenL (l.take (k + 1)) set = if bitI set k then chosenL (l.take k) set ++ [x] else chosenL (l.take k) set:= by
 have hk : k < l.length := (List.getElem?_eq_some_iff.1 h).1
 have hx : l[k] = x := (List.getElem?_eq_some_iff.1 h).2
 rw [List.take_add_one,h]
 simp only [Option.toList,chosenL,List.zipIdx_append,List.filter_append,List.map_append,List.length_take,Nat.min_eq_left (Nat.le_of_lt hk),List.zipIdx_cons,List.zipIdx_nil]
 cases hb : bitI set k <;> simp [hb]
theorem chosenL_len (l : List Stock) (set : Int) : (chosenL l set).length <= l.length:= by
 simp only [chosenL,List.length_map]
 exact Nat.le_trans (List.length_filter_le _ _) (by simp)
theorem chosenL_mem {l : List Stock} {set : Int} {x : Stock} (h : x ∈ chosenL l set) : x ∈ l:= by
 simp only [chosenL,List.mem_map,List.mem_filter] at h
 obtain ⟨p,⟨hp,_⟩,rfl⟩ := h
 exact (List.mem_zipIdx hp).2.2 ▸ List.getElem_mem _
set_option maxHeartbeats 1000000 in
theorem f129 (l : List Stock) (set : Int) (hl : l.length <= 1000) : ACalls Tryz.prog 129 [eStocks l,vi set] (fun r => r = .own 95 3 ((chosenL l set).map eStock)):= by
 refine ACalls.of_body hT Tryz.func129 rfl (by kernel_rfl) rfl ?_
 (repeat (refine stp ?_))
 refine AW_own_nil (e := 95) (sz := 3) (t := 5) rfl rfl ?_
 refine AW_loopC (fun k : Nat => k <= l.length) (fun k => mkSt [(1,.pv (vi set)),(5,.arr 0),(8,.pv (eStocks l)),(9,.pv (vi l.length)),(10,.pv (vi k))]
  [(0,.arr 95 3 ((chosenL (l.take k) set).map eStock))] 1) (fun k => l.length - k) 0 (Nat.zero_le _) ?_ ?_
 ·(refine Le.mkR [(0,0)] ?_ ?_ rfl; all_goals (repeat' (first | exact trivial | refine sle ?_ | refine ⟨?_,rfl,?_⟩ | refine ⟨?_,by decide,rfl,?_⟩ | fail)))
 ·intro k hk
  (repeat (refine stp ?_))
  refine AW_if rfl (fun hc => ?_) (fun hc => ?_)
  ·have hk' : k < l.length := by omega
   obtain ⟨x,hx⟩ : ∃ x,l[k]? = some x := ⟨l[k],by simp [hk']⟩
   have e1 := get_map eStock hx
   have hs := chosenL_succ set hx
   have hcl := chosenL_len (l.take k) set
   simp only [List.length_take] at hcl
   (repeat (refine stp ?_))
   refine AW_cond rfl (fun hc2 => ?_) (fun hc2 => ?_)
   ·have hb : bitI set k = true := hc2
    (repeat (refine stp ?_))
    refine ⟨k + 1,hk',by omega,?_⟩
    rw [hs,hb]
    (refine Le.mkR [(0,3)] ?_ ?_ rfl; all_goals (repeat' (first | exact trivial | refine sle ?_ | refine ⟨?_,rfl,?_⟩ | refine ⟨?_,by decide,rfl,?_⟩ | fail)))
    simp; rfl
   ·have hb : bitI set k = false := hc2
    (repeat (refine stp ?_))
    refine ⟨k + 1,hk',by omega,?_⟩
    rw [hs,hb]
    (refine Le.mkR [(0,0)] ?_ ?_ rfl; all_goals (repeat' (first | exact trivial | refine sle ?_ | refine ⟨?_,rfl,?_⟩ | refine ⟨?_,by decide,rfl,?_⟩ | fail)))
  ·have hk' : k = l.length := by omega
   subst hk'
   (repeat (refine stp ?_))
   exact ⟨_,_,rfl,rfl,by rw [List.take_length]⟩
end Go.Abs
namespace Go.Abs
open Go.Proofs
set_option linter.unusedVariables false
set_option linter.unusedSimpArgs false
set_option maxRecDepth 100000
def priceI (l : List Stock) (set : Int) : Int := sumI ((chosenL l set).map fun s : Stock => s.price)
def priceOK (l : List Stock) : Prop := ∀ s ∈ l,-1000000000 <= s.price /\ s.price <= 1000000000
set_option maxHeartbeats 1000000 in
theorem f128 (l : List Stock) (set : Int) (hl : l.length <= 1000) (hp : priceOK l) : ACalls Tryz.prog 128 [vi set,.ptr [eStocks l]] (fun r => r = .pv (vi (priceI l set))):= by
 refine ACalls.of_body hT Tryz.func128 rfl (by kernel_rfl) rfl ?_
 (repeat (refine stp ?_))
 refine AL_do2 rfl ⟨_,op_call1 rfl rfl rfl rfl (f129 l set hl),?_⟩
 refine AL_pure (t := 9) rfl rfl ?_
 have hcl := chosenL_len l set
 (repeat (refine stp ?_))
 refine AW_own_nil (e := 3) (sz := 1) (t := 4) rfl rfl ?_
 refine AW_loopC (fun k : Nat => k <= (chosenL l set).length) (fun k => mkSt [(4,.arr 1),(9,.pv (eStocks (chosenL l set))),(10,.pv (vi (chosenL l set).length)),(11,.pv (vi k))]
  [(1,.arr 3 1 ((((chosenL l set).take k).map fun s : Stock => s.price).map eInt))] 2) (fun k => (chosenL l set).length - k) 0 (Nat.zero_le _) ?_ ?_
 ·(refine Le.mkR [(1,1)] ?_ ?_ rfl; all_goals (repeat' (first | exact trivial | refine sle ?_ | refine ⟨?_,rfl,?_⟩ | refine ⟨?_,by decide,rfl,?_⟩ | fail)))
 ·intro k hk
  (repeat (refine stp ?_))
  refine AW_if rfl (fun hc => ?_) (fun hc => ?_)
  ·have hk' : k < (chosenL l set).length := by omega
   obtain ⟨x,hx⟩ : ∃ x,(chosenL l set)[k]? = some x := ⟨(chosenL l set)[k],by simp [hk']⟩
   have e1 := get_map eStock hx
   have hs := map_take_succ (fun s : Stock => s.price) hx
   (repeat (refine stp ?_))
   refine ⟨k + 1,hk',by omega,?_⟩
   (refine Le.mkR [(1,4)] ?_ ?_ rfl; all_goals (repeat' (first | exact trivial | refine sle ?_ | refine ⟨?_,rfl,?_⟩ | refine ⟨?_,by decide,rfl,?_⟩ | fail)))
   rw [hs]; simp; rfl
  ·have hk' : k = (chosenL l set).length := by omega
   rw [hk',List.take_length]
   (repeat' (first | refine stp ?_ | (refine AL_do2 rfl ?_; first | refine ⟨_,op_callB rfl rfl rfl rfl (f130 ((chosenL l set).map fun s : Stock => s.price) (by simp; omega) (by intro x hx; obtain ⟨s,hs,rfl⟩ := List.mem_map.1 hx; exact hp s (chosenL_mem hs))) rfl,?_⟩) | refine AL_gdec rfl rfl rfl (fun hg => ?_) (fun hg => ?_) | refine AL_gnot rfl rfl rfl (fun hg => ?_) (fun hg => ?_) | refine AL_gcases rfl rfl rfl (fun hg => ?_) (fun hg => ?_)))
   exact ⟨_,_,rfl,rfl,rfl⟩
theorem f183 (x : Int) : ACalls Tryz.prog 183 [vi x] (fun r => r = .pv (.bool false)):= by
 refine ACalls.of_body hT Tryz.func183 rfl (by kernel_rfl) rfl ?_
 (repeat (refine stp ?_))
 exact ⟨_,_,rfl,rfl,by simp⟩
def compI (x y : Int) : Int := if x < y then -1 else if y < x then 1 else 0
theorem f135 (x y : Int) : ACalls Tryz.prog 135 [vi x,vi y] (fun r => r = .pv (vi (compI x y))):= by
 refine ACalls.of_body hT Tryz.func135 rfl (by kernel_rfl) rfl ?_
 (repeat' (first | refine stp ?_ | (refine AL_do2 rfl ?_; first | refine ⟨_,op_call1 rfl rfl rfl rfl (f183 x),?_⟩ | refine ⟨_,op_call1 rfl rfl rfl rfl (f183 y),?_⟩) | refine AL_gdec rfl rfl rfl (fun hg => ?_) (fun hg => ?_) | refine AL_gnot rfl rfl rfl (fun hg => ?_) (fun hg => ?_) | refine AL_gcases rfl rfl rfl (fun hg => ?_) (fun hg => ?_)))
 refine AW_if rfl (fun hc => ?_) (fun hc => ?_)
 ·(repeat (refine stp ?_))
  exact ⟨_,_,rfl,rfl,by simp [compI,hc]⟩
 ·(repeat (refine stp ?_))
  refine AW_if rfl (fun hc2 => ?_) (fun hc2 => ?_)
  all_goals (repeat (refine stp ?_))
  all_goals exact ⟨_,_,rfl,rfl,by simp_all [compI]; try omega⟩
def orI : List Int -> Int
 | [] => 0
 | x :: l => if x ≠ 0 then x else orI l
theorem f134 (a b c : Int) : ACalls Tryz.prog 134 [eInts [a,b,c]] (fun r => r = .pv (vi (orI [a,b,c]))):= by
 refine ACalls.of_body hT Tryz.func134 rfl (by kernel_rfl) rfl ?_
 (repeat (refine stp ?_))
 refine AW_loopC (fun k : Nat => k <= 3 /\ orI [a,b,c] = orI (([a,b,c] : List Int).drop k)) (fun k => mkSt [(3,.pv (vi 0)),(6,.pv (eInts [a,b,c])),(7,.pv (vi 3)),(8,.pv (vi k))] [] 0) (fun k => 3 - k) 0 ⟨by omega,rfl⟩ ?_ ?_
 ·(refine Le.mk ?_ ?_; all_goals (repeat' (first | exact trivial | refine sle ?_ | refine ⟨?_,rfl,?_⟩ | refine ⟨?_,by decide,rfl,?_⟩ | fail)))
 ·rintro k ⟨hk,hi⟩
  (repeat (refine stp ?_))
  refine AW_if rfl (fun hc => ?_) (fun hc => ?_)
  ·have hk' : k < 3 := by omega
   obtain ⟨x,hx⟩ : ∃ x,([a,b,c] : List Int)[k]? = some x := ⟨([a,b,c] : List Int)[k],by simp [hk']⟩
   have e1 := get_map eInt hx
   have h3 : k < ([a,b,c] : List Int).length := by simpa using hk'
   have hx' : ([a,b,c] : List Int)[k] = x := (List.getElem?_eq_some_iff.1 hx).2
   have hi : orI [a,b,c] = if x ≠ 0 then x else orI (([a,b,c] : List Int).drop (k + 1)) := by rw [hi,List.drop_eq_getElem_cons h3,hx']; rfl
   (repeat (refine stp ?_))
   refine AW_if rfl (fun hc2 => ?_) (fun hc2 => ?_)
   ·(repeat (refine stp ?_))
    exact ⟨_,_,rfl,rfl,by rw [hi,if_pos hc2]⟩
   ·(repeat (refine stp ?_))
    refine ⟨k + 1,⟨by omega,by rw [hi,if_neg hc2]⟩,by omega,?_⟩
    (refine Le.mk ?_ ?_; all_goals (repeat' (first | exact trivial | refine sle ?_ | refine ⟨?_,rfl,?_⟩ | refine ⟨?_,by decide,rfl,?_⟩ | fail)))
  ·have hk' : k = 3 := by omega
   subst hk'
   (repeat (refine stp ?_))
   exact ⟨_,_,rfl,rfl,by rw [hi]; rfl⟩
def w64 (x : Int) : Int := IntKind.u64.wrap x
def ones64 (x0 : Int) : Int :=
 let x1 := w64 (andR .u64 (shrR .u64 x0 1) 6148914691236517205 + andR .u64 x0 6148914691236517205)
 let x2 := w64 (andR .u64 (shrR .u64 x1 2) 3689348814741910323 + andR .u64 x1 3689348814741910323)
 let x3 := andR .u64 (w64 (shrR .u64 x2 4 + x2)) 1085102592571150095
 let x4 := w64 (x3 + shrR .u64 x3 8)
 let x5 := w64 (x4 + shrR .u64 x4 16)
 let x6 := w64 (x5 + shrR .u64 x5 32)
 andR .i64 (IntKind.i64.wrap x6) 127
theorem f185 (x : Int) : ACalls Tryz.prog 185 [.int .u64 x] (fun r => r = .pv (vi (ones64 x))):= by
 refine ACalls.of_body hT Tryz.func185 rfl (by kernel_rfl) rfl ?_
 (repeat (refine stp ?_))
 exact ⟨_,_,rfl,rfl,rfl⟩
theorem f136 (x : Int) : ACalls Tryz.prog 136 [.int .u64 x] (fun r => r = .pv (vi (ones64 x))):= by
 refine ACalls.of_body hT Tryz.func136 rfl (by kernel_rfl) rfl ?_
 (repeat (refine stp ?_))
 refine AW_cond_cf ?_
 (repeat' (first | refine stp ?_ | (refine AL_do2 rfl ?_; first | refine ⟨_,op_call1 rfl rfl rfl rfl (f185 x),?_⟩) | refine AL_gdec rfl rfl rfl (fun hg => ?_) (fun hg => ?_) | refine AL_gnot rfl rfl rfl (fun hg => ?_) (fun hg => ?_) | refine AL_gcases rfl rfl rfl (fun hg => ?_) (fun hg => ?_)))
 exact ⟨_,_,rfl,rfl,rfl⟩
def betterI (l : List Stock) (a b : Int) : Bool := decide (orI [compI (ones64 (w64 a)) (ones64 (w64 b)),compI (priceI l a) (priceI l b),compI a b] < 0)
set_option maxHeartbeats 1000000 in
theorem f133 (l : List Stock) (a b : Int) (hl : l.length <= 1000) (hp : priceOK l) : ACalls Tryz.prog 133 [vi a,vi b,.ptr [.fn 128 [.ptr [eStocks l]]]] (fun r => r = .pv (.bool (betterI l a b))):= by
 refine ACalls.of_body hT Tryz.func133 rfl (by kernel_rfl) rfl ?_
 (repeat (refine stp ?_))
 (repeat (first | refine sdr ?_ | refine DG_next (D_call rfl rfl rfl rfl rfl (f136 (w64 a))) ?_ | refine DG_next (D_call rfl rfl rfl rfl rfl (f136 (w64 b))) ?_ | refine DG_next (D_call rfl rfl rfl rfl rfl (f135 (ones64 (w64 a)) (ones64 (w64 b)))) ?_ | refine DG_next (D_call rfl rfl rfl rfl rfl (f128 l a hl hp)) ?_ | refine DG_next (D_call rfl rfl rfl rfl rfl (f128 l b hl hp)) ?_ | refine DG_next (D_call rfl rfl rfl rfl rfl (f135 (priceI l a) (priceI l b))) ?_ | refine DG_next (D_call rfl rfl rfl rfl rfl (f135 a b)) ?_ | refine DG_next (D_call rfl rfl rfl rfl rfl (f134 (compI (ones64 (w64 a)) (ones64 (w64 b))) (compI (priceI l a) (priceI l b)) (compI a b))) ?_))
 refine DG_end hM (by kernel_rfl) ?_
 (repeat (refine stp ?_))
 exact ⟨_,_,rfl,rfl,rfl⟩
end Go.Abs
namespace Go.Abs
open Go.Proofs
set_option linter.unusedVariables false
set_option linter.unusedSimpArgs false
set_option maxRecDepth 100000
def allIdx {α : Type} (p : Nat -> α -> Bool) : List α -> Nat -> Bool
 | [],_ => true
 | x :: l,i => p i x && allIdx p l (i + 1)
theorem allIdx_drop {α : Type} (p : Nat -> α -> Bool) {l : List α} {k : Nat} {x : α} (h : l[k]? = some x) (i : Nat) : allIdx p (l.drop k) i = (p i x && allIdx p (l.drop (k + 1)) (i + 1)):= by
 have hk : k < l.length := (List.getElem?_eq_some_iff.1 h).1
 have hx : l[k] = x := (List.getElem?_eq_some_iff.1 h).2
 rw [List.drop_eq_getElem_cons hk,hx]; rfl
theorem allIdx_nil {α : Type} (p : Nat -> α -> Bool) (l : List α) (i : Nat) : allIdx p (l.drop l.length) i = true := by rw [List.drop_length]; rfl
theorem lookI_bd {h : List Dye} {lamp : List Int} {l : List Bath} (hh : HouseP h) (hlamp : LampP h lamp) (hl : BatchP h l) : spanB 2700 (lookI h lamp l):= by
 have := sumS_bd (n := 3) (Nat.le_trans (termsL_len l h lamp 0) (by have := hh.1; have := hlamp.1; omega)) (termsL_bd hh hl h lamp 0 (fun _ h => h) hlamp.2)
 unfold spanB at *; unfold lookI; omega
def pairI (h : List Dye) (c : Coat) (own : List Stock) (i : Nat) (s : Stock) (k : Nat) (x : List Int) : Bool :=
 decide (¬ max ((lookI h x s.baths).high - (c.old.getD k ⟨0,0⟩).low) ((c.old.getD k ⟨0,0⟩).high - (lookI h x s.baths).low) > c.eye.low) &&
 !(own.take i).any (fun o => decide (¬ alikeI h x o.baths s.baths c.eye = 3))
def stockI (h : List Dye) (c : Coat) (own : List Stock) (i : Nat) (s : Stock) : Bool := allIdx (pairI h c own i s) c.lamps 0
def suitsI (h : List Dye) (c : Coat) (l : List Stock) (set : Int) : Bool := allIdx (stockI h c (chosenL l set)) (chosenL l set) 0 && decide (sumI ((chosenL l set).map fun s : Stock => s.many) >= c.need)
def StockP (h : List Dye) (s : Stock) : Prop := BatchP h s.baths /\ 0 <= s.many /\ s.many <= 99 /\ 0 <= s.price /\ s.price <= 999
structure CoatP (h : List Dye) (c : Coat) : Prop where
 len : c.lamps.length <= 3
 lamps : ∀ x ∈ c.lamps,LampP h x
 old : c.old.length = c.lamps.length
 oldb : ∀ s ∈ c.old,-3000 <= s.low /\ s.low <= 3000 /\ -3000 <= s.high /\ s.high <= 3000
 need : 1 <= c.need /\ c.need <= 300
theorem f182 (h : List Dye) (x : List Int) (s o : Stock) (c : Coat) (hh : HouseP h) (hx : LampP h x) (hs : BatchP h s.baths) (ho : BatchP h o.baths) :
  ACalls Tryz.prog 182 [.agg (eStock o),.ptr [.sl (h.map eDye),eInts x],.ptr (eStock s),.ptr [eLamps c.lamps,vi c.eye.low,vi c.eye.high,eSpans c.old,vi c.need]] (fun r => r = .pv (.bool (decide (¬ alikeI h x o.baths s.baths c.eye = 3)))):= by
 refine ACalls.of_body hT Tryz.func182 rfl (by kernel_rfl) rfl ?_
 (repeat' (first | refine stp ?_ | (refine AL_do2 rfl ?_; first | refine ⟨_,op_call1 rfl rfl rfl rfl (f118 h x o.baths s.baths c.eye hh hx ho hs),?_⟩) | refine AL_gdec rfl rfl rfl (fun hg => ?_) (fun hg => ?_) | refine AL_gnot rfl rfl rfl (fun hg => ?_) (fun hg => ?_) | refine AL_gcases rfl rfl rfl (fun hg => ?_) (fun hg => ?_)))
 exact ⟨_,_,rfl,rfl,rfl⟩
set_option maxHeartbeats 8000000 in
theorem f131 (h : List Dye) (c : Coat) (l : List Stock) (set : Int) (hh : HouseP h) (hc : CoatP h c) (hl : l.length <= 1000) (hs : ∀ s ∈ l,StockP h s) :
  ACalls Tryz.prog 131 [eHouse h,eCoat c,eStocks l,vi set] (fun r => r = .pv (.bool (suitsI h c l set))):= by
 have hcl := chosenL_len l set
 have hcm : ∀ s ∈ chosenL l set,StockP h s := fun s hm => hs s (chosenL_mem hm)
 refine ACalls.of_body hT Tryz.func131 rfl (by kernel_rfl) rfl ?_
 (repeat (refine stp ?_))
 refine AL_do2 rfl ⟨_,op_call1 rfl rfl rfl rfl (f129 l set hl),?_⟩
 refine AL_pure (t := 19) rfl rfl ?_
 rw [suitsI]
 generalize chosenL l set = own at hcl hcm ⊢
 have hneed := hc.need
 have hclen := hc.len
 (repeat (refine stp ?_))
 refine AW_loopC (fun i : Nat => i <= own.length /\ allIdx (stockI h c own) own 0 = allIdx (stockI h c own) (own.drop i) i) (fun i => mkSt [(4,.box 0 0),(5,.box 1 0),(9,.pv (eStocks own)),(10,.pv (vi (sumI ((own.take i).map fun s : Stock => s.many)))),(20,.pv (eStocks own)),(21,.pv (vi own.length)),(22,.pv (vi i))]
  [(0,.box [.pv (.sl (h.map eDye))]),(1,.box [.pv (eLamps c.lamps),.pv (vi c.eye.low),.pv (vi c.eye.high),.pv (eSpans c.old),.pv (vi c.need)])] 2) (fun i => own.length - i) 0 ⟨Nat.zero_le _,rfl⟩ ?_ ?_
 ·(refine Le.mkR [(0,0),(1,1)] ?_ ?_ rfl; all_goals (repeat' (first | exact trivial | refine sle ?_ | refine ⟨?_,rfl,?_⟩ | refine ⟨?_,by decide,rfl,?_⟩ | fail)))
 ·rintro i ⟨hi,hia⟩
  (repeat (refine stp ?_))
  refine AW_if rfl (fun hc1 => ?_) (fun hc1 => ?_)
  ·have hi' : i < own.length := by omega
   obtain ⟨s,hsx⟩ : ∃ s,own[i]? = some s := ⟨own[i],by simp [hi']⟩
   have e1 := get_map eStock hsx
   have hsm := List.mem_of_getElem? hsx
   have hsp := hcm s hsm
   have hsu : sumI ((own.take (i + 1)).map fun s : Stock => s.many) = sumI ((own.take i).map fun s : Stock => s.many) + s.many:= by
    rw [map_take_succ (fun s : Stock => s.many) hsx,sumI_append]; simp [sumI]
   have hsb := sumI_bd (c := 99) (l := (own.take i).map fun s : Stock => s.many) (by
    intro x hx
    obtain ⟨t,ht,rfl⟩ := List.mem_map.1 hx
    have := hcm t (List.mem_of_mem_take ht)
    unfold StockP at this; omega)
   have hsn : ((own.take i).map fun s : Stock => s.many).length <= 1000 := by simp; omega
   have hsp2 : 0 <= s.many /\ s.many <= 99 := ⟨hsp.2.1,hsp.2.2.1⟩
   rw [allIdx_drop _ hsx] at hia
   (repeat (refine stp ?_))
   refine AW_loopC (fun k : Nat => k <= c.lamps.length /\ stockI h c own i s = allIdx (pairI h c own i s) (c.lamps.drop k) k) (fun k => mkSt [(4,.box 0 0),(5,.box 1 0),(9,.pv (eStocks own)),(10,.pv (vi (sumI ((own.take (i + 1)).map fun s : Stock => s.many)))),(11,.pv (vi i)),(12,.box 2 0),(20,.pv (eStocks own)),(21,.pv (vi own.length)),(22,.pv (vi i)),
     (32,.pv (eLamps c.lamps)),(33,.pv (vi c.lamps.length)),(34,.pv (vi k))]
    [(0,.box [.pv (.sl (h.map eDye))]),(1,.box [.pv (eLamps c.lamps),.pv (vi c.eye.low),.pv (vi c.eye.high),.pv (eSpans c.old),.pv (vi c.need)]),(2,.box [.pv (eBaths s.baths),.pv (vi s.many),.pv (vi s.price)])] 3) (fun k => c.lamps.length - k) 0 ⟨Nat.zero_le _,rfl⟩ ?_ ?_
   ·rw [hsu]; (refine Le.mk ?_ ?_; all_goals (repeat' (first | exact trivial | refine sle ?_ | refine ⟨?_,rfl,?_⟩ | refine ⟨?_,by decide,rfl,?_⟩ | fail)))
   ·rintro k ⟨hk,hka⟩
    (repeat (refine stp ?_))
    refine AW_if rfl (fun hc2 => ?_) (fun hc2 => ?_)
    ·have hk' : k < c.lamps.length := by omega
     obtain ⟨x,hx⟩ : ∃ x,c.lamps[k]? = some x := ⟨c.lamps[k],by simp [hk']⟩
     have hol := hc.old
     obtain ⟨od,hod⟩ : ∃ od,c.old[k]? = some od := ⟨c.old[k]'(by omega),by simp⟩
     have e2 := get_map eLampC hx
     have e3 := get_map eSpan hod
     have hxl := hc.lamps x (List.mem_of_getElem? hx)
     have hob := hc.oldb od (List.mem_of_getElem? hod)
     have hlb := lookI_bd hh hxl hsp.1
     unfold spanB at hlb
     rw [allIdx_drop _ hx] at hka
     have hpair : pairI h c own i s k x = (decide (¬ max ((lookI h x s.baths).high - od.low) (od.high - (lookI h x s.baths).low) > c.eye.low) && !(own.take i).any (fun o => decide (¬ alikeI h x o.baths s.baths c.eye = 3))):= by
      simp only [pairI,List.getD_eq_getElem?_getD,hod,Option.getD_some]
     (repeat' (first | refine stp ?_ | (refine AL_do2 rfl ?_; first | refine ⟨_,op_call1 rfl rfl rfl rfl (f123 h x s.baths hh hxl hsp.1),?_⟩) | refine AL_gdec rfl rfl rfl (fun hg => ?_) (fun hg => ?_) | refine AL_gnot rfl rfl rfl (fun hg => ?_) (fun hg => ?_) | refine AL_gcases rfl rfl rfl (fun hg => ?_) (fun hg => ?_)))
     (repeat (refine sdr ?_))
     refine DG_end hM (by kernel_rfl) ?_
     (repeat (refine stp ?_))
     refine AW_cond rfl (fun hb => ?_) (fun hb => ?_)
     ·(repeat (refine stp ?_))
      exact ⟨_,_,rfl,rfl,by rw [hia,hka,hpair]; simp at hb; simp [hb]⟩
     ·(repeat (refine stp ?_))
      refine AL_do rfl (op_slice_sl (lo := 0) (hi := i) hT rfl rfl rfl rfl rfl rfl (by intro y hy; obtain ⟨_,_,rfl⟩ := List.mem_map.1 hy; rfl) (.inl ⟨rfl,rfl⟩) (.inr ⟨_,_,rfl,rfl⟩) (by omega) (by simp; omega)) ?_
      rw [show ((own.map eStock).take i).drop 0 = (own.take i).map eStock by rw [List.drop_zero,List.map_take]]
      (repeat' (first | refine stp ?_ | (refine AL_do2 rfl ?_; first | refine ⟨_,op_callB rfl rfl rfl rfl (c180 (own.take i) 182 [.ptr [.sl (h.map eDye),eInts x],.ptr (eStock s),.ptr [eLamps c.lamps,vi c.eye.low,vi c.eye.high,eSpans c.old,vi c.need]] (fun o => decide (¬ alikeI h x o.baths s.baths c.eye = 3)) (by simp; omega) (fun o ho => f182 h x s o c hh hxl hsp.1 (hcm o (List.mem_of_mem_take ho)).1)) rfl,?_⟩) | refine AL_gdec rfl rfl rfl (fun hg => ?_) (fun hg => ?_) | refine AL_gnot rfl rfl rfl (fun hg => ?_) (fun hg => ?_) | refine AL_gcases rfl rfl rfl (fun hg => ?_) (fun hg => ?_)))
      refine AW_cond rfl (fun hb2 => ?_) (fun hb2 => ?_)
      ·(repeat (refine stp ?_))
       exact ⟨_,_,rfl,rfl,by rw [hia,hka,hpair,hb2]; simp⟩
      ·(repeat (refine stp ?_))
       refine ⟨k + 1,⟨hk',by rw [hka,hpair,hb2]; simp at hb; simp [hb]⟩,by omega,?_⟩
       (refine Le.mk ?_ ?_; all_goals (repeat' (first | exact trivial | refine sle ?_ | refine ⟨?_,rfl,?_⟩ | refine ⟨?_,by decide,rfl,?_⟩ | fail)))
    ·have hk' : k = c.lamps.length := by omega
     subst hk'
     (repeat (refine stp ?_))
     rw [List.drop_length] at hka
     refine ⟨i + 1,⟨by omega,by rw [hia,hka]; simp [allIdx]⟩,by omega,?_⟩
     (refine Le.mk ?_ ?_; all_goals (repeat' (first | exact trivial | refine sle ?_ | refine ⟨?_,rfl,?_⟩ | refine ⟨?_,by decide,rfl,?_⟩ | fail)))
  ·have hi' : i = own.length := by omega
   rw [hi',List.take_length]
   rw [hi',allIdx_nil] at hia
   (repeat (refine stp ?_))
   exact ⟨_,_,rfl,rfl,by rw [hia]; simp⟩
end Go.Abs
namespace Go.Abs
open Go.Proofs
set_option linter.unusedVariables false
set_option linter.unusedSimpArgs false
set_option maxRecDepth 100000
def bestI (p : Int -> Int -> Bool) : List Int -> Int
 | [] => 0
 | x :: l => l.foldl (fun out x => bif p x out then x else out) x
theorem bestI_snoc (p : Int -> Int -> Bool) (l : List Int) (x : Int) : bestI p (l ++ [x]) = if l.length = 0 then x else bif p x (bestI p l) then x else bestI p l:= by
 cases l with
 | nil => rfl
 | cons y l =>
  rw [List.cons_append]
  simp only [bestI,List.foldl_append,List.foldl_cons,List.foldl_nil]
  rfl
set_option maxHeartbeats 1000000 in
theorem f132 (l : List Int) (g : Nat) (caps : List PV) (p : Int -> Int -> Bool) (hl : l.length <= 1000) (hp : ∀ a b,ACalls Tryz.prog g ([vi a,vi b] ++ caps) (fun r => r = .pv (.bool (p a b)))) :
  ACalls Tryz.prog 132 [eInts l,.fn g caps] (fun r => r = .tup [vi (bestI p l),.bool (decide (l.length > 0))]):= by
 refine ACalls.of_body hT Tryz.func132 rfl (by kernel_rfl) rfl ?_
 (repeat (refine stp ?_))
 refine AW_loopC (fun k : Nat => k <= l.length) (fun k => mkSt [(0,.pv (eInts l)),(1,.pv (.fn g caps)),(6,.pv (vi (bestI p (l.take k)))),(9,.pv (eInts l)),(10,.pv (vi l.length)),(11,.pv (vi k))] [] 0) (fun k => l.length - k) 0 (Nat.zero_le _) ?_ ?_
 ·(refine Le.mk ?_ ?_; all_goals (repeat' (first | exact trivial | refine sle ?_ | refine ⟨?_,rfl,?_⟩ | refine ⟨?_,by decide,rfl,?_⟩ | fail)))
 ·intro k hk
  (repeat (refine stp ?_))
  refine AW_if rfl (fun hc => ?_) (fun hc => ?_)
  ·have hk' : k < l.length := by omega
   obtain ⟨x,hx⟩ : ∃ x,l[k]? = some x := ⟨l[k],by simp [hk']⟩
   have e1 := get_map eInt hx
   have htk : l.take (k + 1) = l.take k ++ [x] := by rw [List.take_add_one,hx]; rfl
   have hs := bestI_snoc p (l.take k) x
   rw [<- htk,List.length_take,Nat.min_eq_left hk] at hs
   (repeat' (first | refine stp ?_ | (refine AL_do2 rfl ?_; first | refine ⟨_,op_call1 rfl rfl rfl rfl (hp x (bestI p (l.take k))),?_⟩) | refine AL_gdec rfl rfl rfl (fun hg => ?_) (fun hg => ?_) | refine AL_gnot rfl rfl rfl (fun hg => ?_) (fun hg => ?_) | refine AL_gcases rfl rfl rfl (fun hg => ?_) (fun hg => ?_)))
   ·have hk0 : k = 0 := by omega
    rw [if_pos hk0] at hs
    refine ⟨k + 1,hk',by omega,?_⟩
    rw [hs]
    (refine Le.mk ?_ ?_; all_goals (repeat' (first | exact trivial | refine sle ?_ | refine ⟨?_,rfl,?_⟩ | refine ⟨?_,by decide,rfl,?_⟩ | fail)))
   ·have hk0 : ¬ k = 0 := by omega
    rw [if_neg hk0] at hs
    refine AW_cond rfl (fun hb => ?_) (fun hb => ?_)
    ·rw [hb] at hs
     (repeat (refine stp ?_))
     refine ⟨k + 1,hk',by omega,?_⟩
     rw [hs]
     (refine Le.mk ?_ ?_; all_goals (repeat' (first | exact trivial | refine sle ?_ | refine ⟨?_,rfl,?_⟩ | refine ⟨?_,by decide,rfl,?_⟩ | fail)))
    ·rw [hb] at hs
     (repeat (refine stp ?_))
     refine ⟨k + 1,hk',by omega,?_⟩
     rw [hs]
     (refine Le.mk ?_ ?_; all_goals (repeat' (first | exact trivial | refine sle ?_ | refine ⟨?_,rfl,?_⟩ | refine ⟨?_,by decide,rfl,?_⟩ | fail)))
  ·have hk' : k = l.length := by omega
   rw [hk',List.take_length]
   (repeat (refine stp ?_))
   exact ⟨_,_,rfl,rfl,by simp⟩
def setsI (h : List Dye) (c : Coat) (l : List Stock) (n : Nat) : List Int := ((List.range n).map Int.ofNat).filter (suitsI h c l)
theorem setsI_succ (h : List Dye) (c : Coat) (l : List Stock) (n : Nat) : setsI h c l (n + 1) = if suitsI h c l n then setsI h c l n ++ [(n : Int)] else setsI h c l n:= by
 rw [setsI,List.range_succ,List.map_append,List.filter_append]
 simp only [List.map_cons,List.map_nil,List.filter_cons,List.filter_nil,Int.ofNat_eq_natCast]
 cases suitsI h c l n <;> simp [setsI]
theorem setsI_len (h : List Dye) (c : Coat) (l : List Stock) (n : Nat) : (setsI h c l n).length <= n:= by
 simpa [setsI] using List.length_filter_le (suitsI h c l) ((List.range n).map Int.ofNat)
def coatE (h : List Dye) (c : Coat) (l : List Stock) : Int × Int :=
 if isHouseB h && isCoatB h c && areStocksB h l 1 then
  if (setsI h c l (2 ^ l.length)).length > 0 then (bestI (betterI l) (setsI h c l (2 ^ l.length)),0) else (0,5)
 else (0,2)
theorem coatP_of {h : List Dye} {c : Coat} (hc : isCoatB h c = true) : CoatP h c:= by
 simp only [isCoatB,inB,isWishB,isSpanB,Bool.and_eq_true,decide_eq_true_eq,Bool.not_eq_true',List.any_eq_false,Bool.not_eq_false] at hc
 obtain ⟨⟨⟨⟨⟨c1,c2⟩,c3⟩,c4⟩,c5⟩,c6⟩ := hc
 exact ⟨by omega,fun x hx => lampP_of (c2 x hx),c4,fun s hs => by have := c5 s hs; omega,c6⟩
theorem stocksP_of {h : List Dye} {l : List Stock} {lo : Int} (hl : areStocksB h l lo = true) : l.length <= 5 /\ ∀ s ∈ l,StockP h s:= by
 simp only [areStocksB,isStockB,inB,Bool.and_eq_true,decide_eq_true_eq,Bool.not_eq_true',List.any_eq_false,Bool.not_eq_false] at hl
 exact ⟨by omega,fun s hs => by
  have := hl.2 s hs
  exact ⟨batchP_of this.1.1,this.1.2.1,this.1.2.2,this.2.1,this.2.2⟩⟩
theorem shl_len {n : Nat} (h : n <= 5) : shlR .i64 1 n = ((2 ^ n : Nat) : Int) /\ (2 ^ n : Nat) <= 32:= by
 rcases n with _ | _ | _ | _ | _ | _ | n <;> first | (exact ⟨by decide,by decide⟩) | omega
set_option maxHeartbeats 8000000 in
theorem f48 (h : List Dye) (c : Coat) (l : List Stock) (hh : houseOK h) (hc : coatOK c) (hl : stocksOK l) :
  ACalls Tryz.prog 48 [eHouse h,eCoat c,eStocks l] (fun r => r = .tup [vi (coatE h c l).1,vi (coatE h c l).2]):= by
 refine ACalls.of_body hT Tryz.func48 rfl (by kernel_rfl) rfl ?_
 (repeat' (first | refine stp ?_ | (refine AL_do2 rfl ?_; first | refine ⟨_,op_call1 rfl rfl rfl rfl (f105 h hh.1 hh.2),?_⟩ | refine ⟨_,op_call1 rfl rfl rfl rfl (f126 h c hh.1 hc),?_⟩ | refine ⟨_,op_call1 rfl rfl rfl rfl (f127 h l 1 hh.1 hl),?_⟩) | refine AL_gdec rfl rfl rfl (fun hg => ?_) (fun hg => ?_) | refine AL_gnot rfl rfl rfl (fun hg => ?_) (fun hg => ?_) | refine AL_gcases rfl rfl rfl (fun hg => ?_) (fun hg => ?_)))
 all_goals (try exact ⟨_,_,rfl,rfl,by simp_all [coatE]⟩)
 refine AW_cond rfl (fun hb => ?_) (fun hb => ?_)
 ·(repeat (refine stp ?_))
  exact ⟨_,_,rfl,rfl,by simp_all [coatE]⟩
 ·have c1 : isHouseB h = true := by simp_all
  have c2 : isCoatB h c = true := by simp_all
  have c3 : areStocksB h l 1 = true := by simp_all
  have hH := houseP_of c1
  have hC := coatP_of c2
  have hS := stocksP_of c3
  have hsh := shl_len hS.1
  have hn5 := hS.1
  have hspec : coatE h c l = if (setsI h c l (2 ^ l.length)).length > 0 then (bestI (betterI l) (setsI h c l (2 ^ l.length)),0) else (0,5) := by simp [coatE,c1,c2,c3]
  rw [hspec]
  have hpr : priceOK l := fun s hs => by have := hS.2 s hs; unfold StockP at this; omega
  (repeat (refine stp ?_))
  refine AW_own_nil (e := 3) (sz := 1) (t := 9) rfl rfl ?_
  rw [hsh.1]
  generalize hN : (2 ^ l.length : Nat) = N at *
  refine AW_loopC (fun k : Nat => k <= N) (fun k => mkSt [(3,.box 0 0),(4,.box 1 0),(5,.box 2 0),(8,.box 3 0),(9,.arr 4),(31,.pv (vi N)),(32,.pv (vi k))]
   [(0,.box [.pv (.sl (h.map eDye))]),(1,.box [.pv (eLamps c.lamps),.pv (vi c.eye.low),.pv (vi c.eye.high),.pv (eSpans c.old),.pv (vi c.need)]),(2,.box [.pv (eStocks l)]),(3,.box [.fn 128 [.box 2 0]]),(4,.arr 3 1 ((setsI h c l k).map eInt))] 5) (fun k => N - k) 0 (Nat.zero_le _) ?_ ?_
  ·(refine Le.mkR [(0,0),(1,1),(2,2),(3,3),(4,4)] ?_ ?_ rfl; all_goals (repeat' (first | exact trivial | refine sle ?_ | refine ⟨?_,rfl,?_⟩ | refine ⟨?_,by decide,rfl,?_⟩ | fail)))
  ·intro k hk
   (repeat (refine stp ?_))
   refine AW_if rfl (fun hc2 => ?_) (fun hc2 => ?_)
   ·have hk' : k < N := by omega
    have hs := setsI_succ h c l k
    have hsl := setsI_len h c l k
    (repeat' (first | refine stp ?_ | (refine AL_do2 rfl ?_; first | refine ⟨_,op_call1 rfl rfl rfl rfl (f131 h c l k hH hC (by omega) hS.2),?_⟩) | refine AL_gdec rfl rfl rfl (fun hg => ?_) (fun hg => ?_) | refine AL_gnot rfl rfl rfl (fun hg => ?_) (fun hg => ?_) | refine AL_gcases rfl rfl rfl (fun hg => ?_) (fun hg => ?_)))
    refine AW_cond rfl (fun hb2 => ?_) (fun hb2 => ?_)
    ·rw [hb2] at hs
     (repeat (refine stp ?_))
     refine ⟨k + 1,hk',by omega,?_⟩
     rw [hs]
     (refine Le.mkR [(0,0),(1,1),(2,2),(3,3),(4,6)] ?_ ?_ rfl; all_goals (repeat' (first | exact trivial | refine sle ?_ | refine ⟨?_,rfl,?_⟩ | refine ⟨?_,by decide,rfl,?_⟩ | fail)))
     simp; rfl
    ·rw [hb2] at hs
     (repeat (refine stp ?_))
     refine ⟨k + 1,hk',by omega,?_⟩
     rw [hs]
     (refine Le.mkR [(0,0),(1,1),(2,2),(3,3),(4,4)] ?_ ?_ rfl; all_goals (repeat' (first | exact trivial | refine sle ?_ | refine ⟨?_,rfl,?_⟩ | refine ⟨?_,by decide,rfl,?_⟩ | fail)))
   ·have hk' : k = N := by omega
    subst hk'
    have hsl := setsI_len h c l k
    (repeat' (first | refine stp ?_ | (refine AL_do2 rfl ?_; first | refine ⟨_,op_callB rfl rfl rfl rfl (f132 (setsI h c l k) 133 [.ptr [.fn 128 [.ptr [eStocks l]]]] (betterI l) (by omega) (fun a b => f133 l a b (by omega) hpr)) rfl,?_⟩) | refine AL_gdec rfl rfl rfl (fun hg => ?_) (fun hg => ?_) | refine AL_gnot rfl rfl rfl (fun hg => ?_) (fun hg => ?_) | refine AL_gcases rfl rfl rfl (fun hg => ?_) (fun hg => ?_)))
    refine AW_cond rfl (fun hb2 => ?_) (fun hb2 => ?_)
    all_goals (repeat (refine stp ?_))
    all_goals exact ⟨_,_,rfl,rfl,by simp_all⟩
end Go.Abs
