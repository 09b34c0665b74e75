/- The reference's Read, of any text of at most 600 bytes: the walk. -/
import Derived.Test.YtkmclnjmabljdaaGreatDoorKNiN
set_option linter.unusedVariables false
set_option linter.unusedSimpArgs false
namespace Go.Abs
open Go.Proofs Go.RowKit
set_option linter.unusedVariables false
set_option linter.unusedSimpArgs false
set_option maxRecDepth 100000
abbrev od96 (h : List Dye) : List (Nat × AObj) := [(0,.box [.nils]),(1,.box [.arr 2]),(2,.arr 90 2 (h.map eDye))]
abbrev es96 (s : List UInt8) (L : Lines) (k a : Nat) : List (Nat × FV) := [(0,.pv (.str (bytesOf s))),(2,.box 0 0),(5,.box 1 0),(6,.arr a),(7,.pv (eLs L)),(8,.pv (vi ((k + 1 : Nat) : Int)))]
abbrev os96 (es : List Stock) (bs : List Bath) (m p : Int) : List (Nat × AObj) := [(3,.lst 95 3 (es.map eStock) (.arr 4) [m,p]),(4,.arr 154 4 (bs.map eBath))]
abbrev st96n (s : List UInt8) (L : Lines) (k : Nat) (h : List Dye) : ASt := mkSt (es96 s L k 3) (od96 h ++ [(3,.arr 95 3 (([] : List Stock).map eStock))]) 4
abbrev st96s (s : List UInt8) (L : Lines) (k : Nat) (h : List Dye) (es : List Stock) (bs : List Bath) (m p : Int) : ASt := mkSt (es96 s L k 3) (od96 h ++ os96 es bs m p) 5
abbrev I96 := Nat × List Dye × LastS
def st96 (s : List UInt8) (L : Lines) (i : I96) : ASt := match i.2.2 with
 | none => st96n s L i.1 i.2.1
 | some (es,bs,m,p) => st96s s L i.1 i.2.1 es bs m p
theorem f93K {h : List Dye} {l : List Stock} (H : SmallT h l) (h8 : 1 + h.length + stLines l <= 900) : ACalls Tryz.prog 93 [eHouse h,eStocks l] (fun r => r = .pv (.str (textB h l))):= by
 have h1 := H.cnt
 have h2 := len_stLines l
 have hb : ∀ s ∈ l,s.baths.length <= 900 := fun s hs => by have := bath_stLines hs; omega
 have hsm : ∀ ns ∈ rowsNums h l,SmallL ns:= by
  intro ns hns x hx
  simp only [rowsNums,List.mem_cons,List.mem_append,List.mem_map,List.mem_flatMap] at hns
  have : 0 <= x /\ x <= 999:= by
   rcases hns with rfl | ⟨d,hd,rfl⟩ | ⟨s,hs,rfl | ⟨b,hb,rfl⟩⟩
   ·exact H.top x hx
   ·exact H.dy hd x hx
   ·exact H.st hs x hx
   ·exact H.ba hs hb x hx
  omega
 exact f93w h l (by omega) (by omega) (fun d hd => by have := (H.dye d hd).1; omega) hb (lines_OK H.dye H.stock h8) hsm
set_option maxHeartbeats 64000000 in
theorem f96 (s : List UInt8) (hs : s.length <= 600) : ACalls Tryz.prog 96 [.str (bytesOf s)] (fun r => r = .tup [eHouse (readF s).1,eStocks (readF s).2.1,.bool (readF s).2.2]):= by
 have k161 := f161 s 10 (by omega)
 have hMl := midL_len s
 have hLl := splitS_len 10 s
 unfold readF
 have hMdef : midL s = ((splitS 10 s).drop 1).take ((splitS 10 s).length - 3) := rfl
 generalize splitS 10 s = L at *
 have hMg : ∀ k x,(midL s)[k]? = some x -> L[k + 1]? = some x:= by
  intro k x h
  rw [hMdef,List.getElem?_take] at h
  split at h
  ·rw [List.getElem?_drop] at h; rwa [Nat.add_comm 1 k] at h
  ·cases h
 have hML : (midL s).length = L.length - 3 := by rw [hMdef]; simp; omega
 generalize midL s = M at *
 obtain ⟨hM6,hMe⟩ := hMl
 refine ACalls.of_body hT Tryz.func96 rfl (by kernel_rfl) rfl ?_
 (repeat (refine stq ?_))
 refine AL_do2 rfl ⟨_,op_call1 rfl rfl rfl rfl k161,?_⟩
 refine AL_pure (t := 16) rfl rfl ?_
 (repeat (refine stq ?_))
 refine AW_own_nil (e := 95) (sz := 3) (t := 6) rfl rfl ?_
 refine AW_nilBox 1 0 90 2 rfl rfl ?_
 refine AW_loopC (fun i : I96 => i.1 <= M.length /\ stepsR ([],none) (M.take i.1) = some (i.2.1,i.2.2)) (st96 s L) (fun i => M.length - i.1) (0,[],none) ⟨Nat.zero_le _,rfl⟩ ?_ ?_
 ·show Le _ (st96n s L 0 [])
  (refine Le.mkR [(0,0),(1,1),(2,4),(3,3)] ?_ ?_ rfl; all_goals (repeat' (first | exact trivial | refine sle ?_ | refine ⟨?_,rfl,?_⟩ | refine ⟨?_,by decide,rfl,?_⟩ | fail)))
 ·rintro ⟨k,h,o⟩ ⟨hk,hst⟩
  dsimp only at hk hst ⊢
  obtain ⟨hsm1,hsm2,hcnt⟩ := stepsR_ok _ small0 hst
  simp only [List.length_take,Nat.zero_add] at hcnt hsm1 hsm2
  have hhl : h.length <= 700 := by omega
  cases o with
  | none =>
   by_cases hk3 : k = M.length
   ·subst hk3
    rw [List.take_length] at hst
    rw [hst]
    have hcn : h.length + stLines ([] : List Stock) <= M.length := Nat.le_trans (show h.length + stLines ([] : List Stock) <= min M.length M.length from hcnt) (Nat.min_le_right _ _)
    obtain ⟨l,hl⟩ : ∃ l,stL none = l := ⟨_,rfl⟩
    have hle : ([] : List Stock) = l := hl
    rw [hle] at hcn
    have hsl : ∀ s ∈ l,SmallSt s := by rw [<- hl]; exact hsm2
    have k93 := f93K (h := h) (l := l) ⟨hsm1,hsl,by omega⟩ (by omega)
    show AW _ _ _ _ (st96n s L M.length h)
    (repeat (refine stq ?_))
    refine AW_if rfl (fun hc => absurd hc (show ¬ ((((M.length + 1 : Nat) : Int)) + 2 < L.length) by omega)) (fun _ => ?_)
    refine AW_pure (t := 6) rfl rfl ?_
    rw [show ([] : List Stock).map eStock = l.map eStock by rw [<- hle]]
    refine AW_arrBox (b := 1) 0 rfl rfl rfl rfl ?_
    (repeat (refine stq ?_))
    iterate 4 (refine sdq ?_)
    refine DG_next (D_call rfl rfl rfl rfl rfl k93) ?_
    refine sdq ?_
    refine DG_next (D_streq (u := textB h l) (v := bytesOf s) rfl rfl rfl rfl rfl) ?_
    refine DG_next (D_store hT rfl rfl rfl rfl rfl rfl rfl rfl rfl rfl) ?_
    (repeat (first | refine sdq ?_))
    refine DG_end hM (by kernel_rfl) ?_
    (repeat (refine stq ?_))
    refine ⟨_,_,rfl,rfl,?_⟩
    show _ = RV.tup [eHouse h,eStocks (stL none),.bool ((textB h (stL none)).toList == (bytesOf s).toList)]
    rw [hl]
    rfl
   ·have hk' : k < M.length := by omega
    obtain ⟨x,hx⟩ : ∃ x,M[k]? = some x := ⟨M[k],by simp [hk']⟩
    have hxl := hMe x (List.mem_of_getElem? hx)
    have e1 : (L.map eStrL)[(((k + 1 : Nat) : Int)).toNat]? = some (eStrL x) := get_map eStrL (hMg k x hx)
    obtain ⟨hbad,hgo⟩ := stepsR_at hx hst
    have kD : ACalls Tryz.prog 162 [.str (bytesOf x),.str (bytesOf wDye),vi 7] (fun r => r = .pv (eInts (toldR wDye 7 x))) := f162 x wDye 7 (by omega) (by omega)
    have kS : ACalls Tryz.prog 162 [.str (bytesOf x),.str (bytesOf wStock),vi 3] (fun r => r = .pv (eInts (toldR wStock 3 x))) := f162 x wStock 3 (by omega) (by omega)
    have kB : ACalls Tryz.prog 162 [.str (bytesOf x),.str (bytesOf wBath),vi 4] (fun r => r = .pv (eInts (toldR wBath 4 x))) := f162 x wBath 4 (by omega) (by omega)
    show AW _ _ _ _ (st96n s L k h)
    (repeat (refine stq ?_))
    refine AW_if rfl (fun _ => ?_) (fun hc => absurd (show (((k + 1 : Nat) : Int)) + 2 < L.length by omega) hc)
    (repeat (refine stq ?_))
    rw [show ((([] : List Stock).length : Nat) : Int) = 0 from rfl]
    (repeat (refine stq ?_))
    by_cases c1 : 0 < (toldR wDye 7 x).length
    ·skip
     obtain ⟨n0,n1,n2,n3,n4,n5,n6,hns⟩ : ∃ n0 n1 n2 n3 n4 n5 n6,toldR wDye 7 x = [n0,n1,n2,n3,n4,n5,n6]:= by
      have := (told_ok c1).1
      match toldR wDye 7 x,this with | [n0,n1,n2,n3,n4,n5,n6],_ => exact ⟨n0,n1,n2,n3,n4,n5,n6,rfl⟩
     have hgo' := hgo _ (show stepR (h,none) x = some (h ++ [dyeOf (toldR wDye 7 x)],none) by unfold stepR; rw [if_pos c1])
     rw [hns] at kD hgo'
     have q0 : ([n0,n1,n2,n3,n4,n5,n6].map eInt)[(0 : Int).toNat]? = some (eInt n0) := rfl
     (repeat' (first | refine stq ?_ | (refine AL_do2 rfl ?_; first | refine ⟨_,op_call1 rfl rfl rfl rfl (kD),nrmA rfl ?_⟩) | (with_reducible refine AL_id ?_); (fail_if_success (refine AL_glit rfl rfl rfl (by first | exact .inl (by with_reducible rfl) | exact .inr (by with_reducible rfl)) ?_)); first | refine AL_gdec rfl rfl rfl (fun hg => ?_) (fun hg => ?_) | refine AL_gnot rfl rfl rfl (fun hg => ?_) (fun hg => ?_) | refine AL_gcases rfl rfl rfl (fun hg => ?_) (fun hg => ?_)))
     refine AW_nilBox 4 0 37 2 rfl rfl ?_
     refine AW_loopC (fun j : Nat => j <= 3) (fun j => mkSt (es96 s L k 3 ++ [(10,.pv (eInts [n0,n1,n2,n3,n4,n5,n6])),(11,.box 4 0),(12,.pv (vi j))])
      (od96 h ++ [(3,.arr 95 3 (([] : List Stock).map eStock))] ++ [(4,.box [.arr 5,.pv (vi n0)]),(5,.arr 37 2 (([⟨n1,n2⟩,⟨n3,n4⟩,⟨n5,n6⟩] : List Span).take j |>.map eSpan))]) 6) (fun j => 3 - j) 0 (by omega) ?_ ?_
     ·(refine Le.mk ?_ ?_; all_goals (repeat' (first | exact trivial | refine sle ?_ | refine ⟨?_,rfl,?_⟩ | refine ⟨?_,by decide,rfl,?_⟩ | fail)))
     ·intro j hj
      (repeat (refine stq ?_))
      refine AW_if rfl (fun hc => ?_) (fun hc => ?_)
      ·have hj' : j < 3 := by omega
       obtain ⟨v,hv,g1,g2⟩ : ∃ v : Span,([⟨n1,n2⟩,⟨n3,n4⟩,⟨n5,n6⟩] : List Span)[j]? = some v /\ ([n0,n1,n2,n3,n4,n5,n6].map eInt)[(1 + 2 * (j : Int)).toNat]? = some (eInt v.low) /\ ([n0,n1,n2,n3,n4,n5,n6].map eInt)[(2 + 2 * (j : Int)).toNat]? = some (eInt v.high):= by
        rcases (by omega : j = 0 \/ j = 1 \/ j = 2) with rfl | rfl | rfl
        ·exact ⟨⟨n1,n2⟩,rfl,rfl,rfl⟩
        ·exact ⟨⟨n3,n4⟩,rfl,rfl,rfl⟩
        ·exact ⟨⟨n5,n6⟩,rfl,rfl,rfl⟩
       have hs1 : (([⟨n1,n2⟩,⟨n3,n4⟩,⟨n5,n6⟩] : List Span).take (j + 1)) = ([⟨n1,n2⟩,⟨n3,n4⟩,⟨n5,n6⟩] : List Span).take j ++ [v] := by rw [List.take_add_one,hv]; rfl
       have htl : (([⟨n1,n2⟩,⟨n3,n4⟩,⟨n5,n6⟩] : List Span).take j).length <= 1000 := by simp; omega
       have hmul : -9223372036854775808 <= 2 * (j : Int) /\ 2 * (j : Int) <= 9223372036854775807 := by omega
       (repeat (refine stq ?_))
       (repeat (first | refine sdq ?_))
       refine DG_end hM (by kernel_rfl) ?_
       (repeat (refine stq ?_))
       refine ⟨j + 1,hj',by omega,?_⟩
       (refine Le.mkR [(0,0),(1,1),(2,2),(3,3),(4,4),(5,6)] ?_ ?_ rfl; all_goals (repeat' (first | exact trivial | refine sle ?_ | refine ⟨?_,rfl,?_⟩ | refine ⟨?_,by decide,rfl,?_⟩ | fail)))
       show some (AObj.arr 37 2 ((([⟨n1,n2⟩,⟨n3,n4⟩,⟨n5,n6⟩] : List Span).take j).map eSpan ++ [eSpan v])) = some (AObj.arr 37 2 ((([⟨n1,n2⟩,⟨n3,n4⟩,⟨n5,n6⟩] : List Span).take (j + 1)).map eSpan))
       rw [hs1,List.map_append]; rfl
      ·have hj' : j = 3 := by omega
       subst hj'
       refine AW_arrBox (b := 4) 0 rfl rfl rfl rfl ?_
       (repeat (refine stq ?_))
       refine ⟨(k + 1,h ++ [dyeOf [n0,n1,n2,n3,n4,n5,n6]],none),⟨hk',hgo'⟩,by dsimp only; omega,?_⟩
       show Le _ (st96n s L (k + 1) (h ++ [dyeOf [n0,n1,n2,n3,n4,n5,n6]]))
       (refine Le.mkR [(0,0),(1,1),(2,7),(3,3)] ?_ ?_ rfl; all_goals (repeat' (first | exact trivial | refine sle ?_ | refine ⟨?_,rfl,?_⟩ | refine ⟨?_,by decide,rfl,?_⟩ | fail)))
       show some (AObj.arr 90 2 (h.map eDye ++ [eDye (dyeOf [n0,n1,n2,n3,n4,n5,n6])])) = some (AObj.arr 90 2 ((h ++ [dyeOf [n0,n1,n2,n3,n4,n5,n6]]).map eDye))
       rw [List.map_append]; rfl
    ·have z1 : toldR wDye 7 x = [] := List.eq_nil_of_length_eq_zero (by omega)
     rw [z1] at kD
     (repeat' (first | refine stq ?_ | (refine AL_do2 rfl ?_; first | refine ⟨_,op_call1 rfl rfl rfl rfl (kD),nrmA rfl ?_⟩) | (with_reducible refine AL_id ?_); (fail_if_success (refine AL_glit rfl rfl rfl (by first | exact .inl (by with_reducible rfl) | exact .inr (by with_reducible rfl)) ?_)); first | refine AL_gdec rfl rfl rfl (fun hg => ?_) (fun hg => ?_) | refine AL_gnot rfl rfl rfl (fun hg => ?_) (fun hg => ?_) | refine AL_gcases rfl rfl rfl (fun hg => ?_) (fun hg => ?_)))
     by_cases c2 : 0 < (toldR wStock 3 x).length
     ·skip
      obtain ⟨m0,m1,m2,hns⟩ : ∃ m0 m1 m2,toldR wStock 3 x = [m0,m1,m2]:= by
       have := (told_ok c2).1
       match toldR wStock 3 x,this with | [m0,m1,m2],_ => exact ⟨m0,m1,m2,rfl⟩
      have hgo' := hgo _ (show stepR (h,none) x = some (h,some ([],[],(toldR wStock 3 x).getD 0 0,(toldR wStock 3 x).getD 1 0)) by unfold stepR; rw [if_neg c1,if_pos c2]; rfl)
      rw [hns] at kS hgo'
      have hgo' : stepsR ([],none) (M.take (k + 1)) = some (h,some ([],[],m0,m1)) := hgo'
      have q0 : ([m0,m1,m2].map eInt)[(0 : Int).toNat]? = some (eInt m0) := rfl
      have q1 : ([m0,m1,m2].map eInt)[(1 : Int).toNat]? = some (eInt m1) := rfl
      (repeat' (first | refine stq ?_ | (refine AL_do2 rfl ?_; first | refine ⟨_,op_call1 rfl rfl rfl rfl (kS),nrmA rfl ?_⟩) | (with_reducible refine AL_id ?_); (fail_if_success (refine AL_glit rfl rfl rfl (by first | exact .inl (by with_reducible rfl) | exact .inr (by with_reducible rfl)) ?_)); first | refine AL_gdec rfl rfl rfl (fun hg => ?_) (fun hg => ?_) | refine AL_gnot rfl rfl rfl (fun hg => ?_) (fun hg => ?_) | refine AL_gcases rfl rfl rfl (fun hg => ?_) (fun hg => ?_)))
      iterate 8 (refine sdq ?_)
      refine DG_next (D_buildLst hT rfl rfl rfl rfl rfl rfl rfl rfl rfl) ?_
      refine DG_next (D_appendLst hT rfl rfl rfl rfl rfl rfl rfl rfl rfl rfl rfl rfl (by first | (simp; done) | (simp; omega)) rfl) ?_
      refine DG_end hM (by kernel_rfl) ?_
      refine AL_lstNil 154 4 5 rfl ?_
      (repeat (refine stq ?_))
      refine ⟨(k + 1,h,some ([],[],m0,m1)),⟨hk',hgo'⟩,by dsimp only; omega,?_⟩
      show Le _ (st96s s L (k + 1) h ([]) [] m0 m1)
      (refine Le.mkR [(0,0),(1,1),(2,2),(3,5),(4,6)] ?_ ?_ rfl; all_goals (repeat' (first | exact trivial | refine sle ?_ | refine ⟨?_,rfl,?_⟩ | refine ⟨?_,by decide,rfl,?_⟩ | fail)))
     ·have z2 : toldR wStock 3 x = [] := List.eq_nil_of_length_eq_zero (by omega)
      rw [z2] at kS
      (repeat' (first | refine stq ?_ | (refine AL_do2 rfl ?_; first | refine ⟨_,op_call1 rfl rfl rfl rfl (kS),nrmA rfl ?_⟩) | (with_reducible refine AL_id ?_); (fail_if_success (refine AL_glit rfl rfl rfl (by first | exact .inl (by with_reducible rfl) | exact .inr (by with_reducible rfl)) ?_)); first | refine AL_gdec rfl rfl rfl (fun hg => ?_) (fun hg => ?_) | refine AL_gnot rfl rfl rfl (fun hg => ?_) (fun hg => ?_) | refine AL_gcases rfl rfl rfl (fun hg => ?_) (fun hg => ?_)))
      by_cases c3 : 0 < (toldR wBath 4 x).length
      ·have hsn : stepR (h,none) x = none := by unfold stepR; rw [if_neg c1,if_neg c2,if_pos c3]
       (repeat' (first | refine stq ?_ | (refine AL_do2 rfl ?_; first | refine ⟨_,op_call1 rfl rfl rfl rfl (kB),nrmA rfl ?_⟩) | ((first | (with_reducible refine AL_id ?_); (fail_if_success (refine AL_glit rfl rfl rfl (by first | exact .inl (by with_reducible rfl) | exact .inr (by with_reducible rfl)) ?_)); first | refine AL_gdec rfl rfl rfl (fun hg => ?_) (fun hg => ?_) | refine AL_gnot rfl rfl rfl (fun hg => ?_) (fun hg => ?_) | refine AL_gcases rfl rfl rfl (fun hg => ?_) (fun hg => ?_)) <;> (try (exfalso; omega))) | refine AW_if rfl (fun hc => absurd hc (by omega)) (fun _ => ?_) | refine AW_if rfl (fun _ => ?_) (fun hc => absurd (by omega) hc)))
       all_goals (try (exfalso; omega))
       rw [hbad hsn]
       exact ⟨_,_,rfl,rfl,rfl⟩
      ·have z3 : toldR wBath 4 x = [] := List.eq_nil_of_length_eq_zero (by omega)
       have hsn : stepR (h,none) x = none := by unfold stepR; rw [if_neg c1,if_neg c2,if_neg c3]
       rw [z3] at kB
       (repeat' (first | refine stq ?_ | (refine AL_do2 rfl ?_; first | refine ⟨_,op_call1 rfl rfl rfl rfl (kB),nrmA rfl ?_⟩) | ((first | (with_reducible refine AL_id ?_); (fail_if_success (refine AL_glit rfl rfl rfl (by first | exact .inl (by with_reducible rfl) | exact .inr (by with_reducible rfl)) ?_)); first | refine AL_gdec rfl rfl rfl (fun hg => ?_) (fun hg => ?_) | refine AL_gnot rfl rfl rfl (fun hg => ?_) (fun hg => ?_) | refine AL_gcases rfl rfl rfl (fun hg => ?_) (fun hg => ?_)) <;> (try (exfalso; omega))) | refine AW_if rfl (fun hc => absurd hc (by omega)) (fun _ => ?_) | refine AW_if rfl (fun _ => ?_) (fun hc => absurd (by omega) hc)))
       all_goals (try (exfalso; omega))
       rw [hbad hsn]
       exact ⟨_,_,rfl,rfl,rfl⟩
  | some q =>
   obtain ⟨es,bs,m,p⟩ := q
   have hcm : h.length + stLines (es ++ [⟨bs,m,p⟩]) <= M.length := Nat.le_trans (show h.length + stLines (es ++ [⟨bs,m,p⟩]) <= min k M.length from hcnt) (Nat.min_le_right _ _)
   have hes : es.length <= 700 := by have := len_stLines (es ++ [⟨bs,m,p⟩]); simp only [List.length_append,List.length_singleton] at this; omega
   have hbsl : bs.length <= 700 := by have := bath_stLines (l := es ++ [⟨bs,m,p⟩]) (s := ⟨bs,m,p⟩) (by simp); simp only at this; omega
   have hml : (es.map eStock).length <= 700 := by rw [List.length_map]; exact hes
   by_cases hk3 : k = M.length
   ·subst hk3
    rw [List.take_length] at hst
    rw [hst]
    have hcn : h.length + stLines (es ++ [⟨bs,m,p⟩]) <= M.length := Nat.le_trans (show h.length + stLines (es ++ [⟨bs,m,p⟩]) <= min M.length M.length from hcnt) (Nat.min_le_right _ _)
    obtain ⟨l,hl⟩ : ∃ l,stL (some (es,bs,m,p)) = l := ⟨_,rfl⟩
    have hle : (es ++ [⟨bs,m,p⟩]) = l := hl
    rw [hle] at hcn
    have hsl : ∀ s ∈ l,SmallSt s := by rw [<- hl]; exact hsm2
    have k93 := f93K (h := h) (l := l) ⟨hsm1,hsl,by omega⟩ (by omega)
    show AW _ _ _ _ (st96s s L M.length h es bs m p)
    (repeat (refine stq ?_))
    refine AW_if rfl (fun hc => absurd hc (show ¬ ((((M.length + 1 : Nat) : Int)) + 2 < L.length) by omega)) (fun _ => ?_)
    refine AW_lstEnd 3 4 (l.map eStock) (by rw [<- hle,List.map_append]; rfl) rfl rfl rfl ?_
    refine AW_pure (t := 6) rfl rfl ?_
    refine AW_arrBox (b := 1) 0 rfl rfl rfl rfl ?_
    (repeat (refine stq ?_))
    iterate 4 (refine sdq ?_)
    refine DG_next (D_call rfl rfl rfl rfl rfl k93) ?_
    refine sdq ?_
    refine DG_next (D_streq (u := textB h l) (v := bytesOf s) rfl rfl rfl rfl rfl) ?_
    refine DG_next (D_store hT rfl rfl rfl rfl rfl rfl rfl rfl rfl rfl) ?_
    (repeat (first | refine sdq ?_))
    refine DG_end hM (by kernel_rfl) ?_
    (repeat (refine stq ?_))
    refine ⟨_,_,rfl,rfl,?_⟩
    show _ = RV.tup [eHouse h,eStocks (stL (some (es,bs,m,p))),.bool ((textB h (stL (some (es,bs,m,p)))).toList == (bytesOf s).toList)]
    rw [hl]
    rfl
   ·have hk' : k < M.length := by omega
    obtain ⟨x,hx⟩ : ∃ x,M[k]? = some x := ⟨M[k],by simp [hk']⟩
    have hxl := hMe x (List.mem_of_getElem? hx)
    have e1 : (L.map eStrL)[(((k + 1 : Nat) : Int)).toNat]? = some (eStrL x) := get_map eStrL (hMg k x hx)
    obtain ⟨hbad,hgo⟩ := stepsR_at hx hst
    have kD : ACalls Tryz.prog 162 [.str (bytesOf x),.str (bytesOf wDye),vi 7] (fun r => r = .pv (eInts (toldR wDye 7 x))) := f162 x wDye 7 (by omega) (by omega)
    have kS : ACalls Tryz.prog 162 [.str (bytesOf x),.str (bytesOf wStock),vi 3] (fun r => r = .pv (eInts (toldR wStock 3 x))) := f162 x wStock 3 (by omega) (by omega)
    have kB : ACalls Tryz.prog 162 [.str (bytesOf x),.str (bytesOf wBath),vi 4] (fun r => r = .pv (eInts (toldR wBath 4 x))) := f162 x wBath 4 (by omega) (by omega)
    show AW _ _ _ _ (st96s s L k h es bs m p)
    (repeat (refine stq ?_))
    refine AW_if rfl (fun _ => ?_) (fun hc => absurd (show (((k + 1 : Nat) : Int)) + 2 < L.length by omega) hc)
    (repeat (refine stq ?_))
    refine AL_do2 rfl ⟨_,op_lstLen hT rfl rfl rfl rfl rfl rfl,?_⟩
    (repeat (refine stq ?_))
    by_cases c1 : 0 < (toldR wDye 7 x).length
    ·skip
     obtain ⟨n0,n1,n2,n3,n4,n5,n6,hns⟩ : ∃ n0 n1 n2 n3 n4 n5 n6,toldR wDye 7 x = [n0,n1,n2,n3,n4,n5,n6]:= by
      have := (told_ok c1).1
      match toldR wDye 7 x,this with | [n0,n1,n2,n3,n4,n5,n6],_ => exact ⟨n0,n1,n2,n3,n4,n5,n6,rfl⟩
     have hgo' := hgo _ (show stepR (h,some (es,bs,m,p)) x = some (h ++ [dyeOf (toldR wDye 7 x)],some (es,bs,m,p)) by unfold stepR; rw [if_pos c1])
     rw [hns] at kD hgo'
     have q0 : ([n0,n1,n2,n3,n4,n5,n6].map eInt)[(0 : Int).toNat]? = some (eInt n0) := rfl
     (repeat' (first | refine stq ?_ | (refine AL_do2 rfl ?_; first | refine ⟨_,op_call1 rfl rfl rfl rfl (kD),nrmA rfl ?_⟩) | (with_reducible refine AL_id ?_); (fail_if_success (refine AL_glit rfl rfl rfl (by first | exact .inl (by with_reducible rfl) | exact .inr (by with_reducible rfl)) ?_)); first | refine AL_gdec rfl rfl rfl (fun hg => ?_) (fun hg => ?_) | refine AL_gnot rfl rfl rfl (fun hg => ?_) (fun hg => ?_) | refine AL_gcases rfl rfl rfl (fun hg => ?_) (fun hg => ?_)))
     refine AW_nilBox 5 0 37 2 rfl rfl ?_
     refine AW_loopC (fun j : Nat => j <= 3) (fun j => mkSt (es96 s L k 3 ++ [(10,.pv (eInts [n0,n1,n2,n3,n4,n5,n6])),(11,.box 5 0),(12,.pv (vi j))])
      (od96 h ++ os96 es bs m p ++ [(5,.box [.arr 6,.pv (vi n0)]),(6,.arr 37 2 (([⟨n1,n2⟩,⟨n3,n4⟩,⟨n5,n6⟩] : List Span).take j |>.map eSpan))]) 7) (fun j => 3 - j) 0 (by omega) ?_ ?_
     ·(refine Le.mk ?_ ?_; all_goals (repeat' (first | exact trivial | refine sle ?_ | refine ⟨?_,rfl,?_⟩ | refine ⟨?_,by decide,rfl,?_⟩ | fail)))
     ·intro j hj
      (repeat (refine stq ?_))
      refine AW_if rfl (fun hc => ?_) (fun hc => ?_)
      ·have hj' : j < 3 := by omega
       obtain ⟨v,hv,g1,g2⟩ : ∃ v : Span,([⟨n1,n2⟩,⟨n3,n4⟩,⟨n5,n6⟩] : List Span)[j]? = some v /\ ([n0,n1,n2,n3,n4,n5,n6].map eInt)[(1 + 2 * (j : Int)).toNat]? = some (eInt v.low) /\ ([n0,n1,n2,n3,n4,n5,n6].map eInt)[(2 + 2 * (j : Int)).toNat]? = some (eInt v.high):= by
        rcases (by omega : j = 0 \/ j = 1 \/ j = 2) with rfl | rfl | rfl
        ·exact ⟨⟨n1,n2⟩,rfl,rfl,rfl⟩
        ·exact ⟨⟨n3,n4⟩,rfl,rfl,rfl⟩
        ·exact ⟨⟨n5,n6⟩,rfl,rfl,rfl⟩
       have hs1 : (([⟨n1,n2⟩,⟨n3,n4⟩,⟨n5,n6⟩] : List Span).take (j + 1)) = ([⟨n1,n2⟩,⟨n3,n4⟩,⟨n5,n6⟩] : List Span).take j ++ [v] := by rw [List.take_add_one,hv]; rfl
       have htl : (([⟨n1,n2⟩,⟨n3,n4⟩,⟨n5,n6⟩] : List Span).take j).length <= 1000 := by simp; omega
       have hmul : -9223372036854775808 <= 2 * (j : Int) /\ 2 * (j : Int) <= 9223372036854775807 := by omega
       (repeat (refine stq ?_))
       (repeat (first | refine sdq ?_))
       refine DG_end hM (by kernel_rfl) ?_
       (repeat (refine stq ?_))
       refine ⟨j + 1,hj',by omega,?_⟩
       (refine Le.mkR [(0,0),(1,1),(2,2),(3,3),(4,4),(5,5),(6,7)] ?_ ?_ rfl; all_goals (repeat' (first | exact trivial | refine sle ?_ | refine ⟨?_,rfl,?_⟩ | refine ⟨?_,by decide,rfl,?_⟩ | fail)))
       show some (AObj.arr 37 2 ((([⟨n1,n2⟩,⟨n3,n4⟩,⟨n5,n6⟩] : List Span).take j).map eSpan ++ [eSpan v])) = some (AObj.arr 37 2 ((([⟨n1,n2⟩,⟨n3,n4⟩,⟨n5,n6⟩] : List Span).take (j + 1)).map eSpan))
       rw [hs1,List.map_append]; rfl
      ·have hj' : j = 3 := by omega
       subst hj'
       refine AW_arrBox (b := 5) 0 rfl rfl rfl rfl ?_
       (repeat (refine stq ?_))
       refine ⟨(k + 1,h ++ [dyeOf [n0,n1,n2,n3,n4,n5,n6]],some (es,bs,m,p)),⟨hk',hgo'⟩,by dsimp only; omega,?_⟩
       show Le _ (st96s s L (k + 1) (h ++ [dyeOf [n0,n1,n2,n3,n4,n5,n6]]) es bs m p)
       (refine Le.mkR [(0,0),(1,1),(2,8),(3,3),(4,4)] ?_ ?_ rfl; all_goals (repeat' (first | exact trivial | refine sle ?_ | refine ⟨?_,rfl,?_⟩ | refine ⟨?_,by decide,rfl,?_⟩ | fail)))
       show some (AObj.arr 90 2 (h.map eDye ++ [eDye (dyeOf [n0,n1,n2,n3,n4,n5,n6])])) = some (AObj.arr 90 2 ((h ++ [dyeOf [n0,n1,n2,n3,n4,n5,n6]]).map eDye))
       rw [List.map_append]; rfl
    ·have z1 : toldR wDye 7 x = [] := List.eq_nil_of_length_eq_zero (by omega)
     rw [z1] at kD
     (repeat' (first | refine stq ?_ | (refine AL_do2 rfl ?_; first | refine ⟨_,op_call1 rfl rfl rfl rfl (kD),nrmA rfl ?_⟩) | (with_reducible refine AL_id ?_); (fail_if_success (refine AL_glit rfl rfl rfl (by first | exact .inl (by with_reducible rfl) | exact .inr (by with_reducible rfl)) ?_)); first | refine AL_gdec rfl rfl rfl (fun hg => ?_) (fun hg => ?_) | refine AL_gnot rfl rfl rfl (fun hg => ?_) (fun hg => ?_) | refine AL_gcases rfl rfl rfl (fun hg => ?_) (fun hg => ?_)))
     by_cases c2 : 0 < (toldR wStock 3 x).length
     ·skip
      obtain ⟨m0,m1,m2,hns⟩ : ∃ m0 m1 m2,toldR wStock 3 x = [m0,m1,m2]:= by
       have := (told_ok c2).1
       match toldR wStock 3 x,this with | [m0,m1,m2],_ => exact ⟨m0,m1,m2,rfl⟩
      have hgo' := hgo _ (show stepR (h,some (es,bs,m,p)) x = some (h,some ((es ++ [⟨bs,m,p⟩]),[],(toldR wStock 3 x).getD 0 0,(toldR wStock 3 x).getD 1 0)) by unfold stepR; rw [if_neg c1,if_pos c2]; rfl)
      rw [hns] at kS hgo'
      have hgo' : stepsR ([],none) (M.take (k + 1)) = some (h,some ((es ++ [⟨bs,m,p⟩]),[],m0,m1)) := hgo'
      have q0 : ([m0,m1,m2].map eInt)[(0 : Int).toNat]? = some (eInt m0) := rfl
      have q1 : ([m0,m1,m2].map eInt)[(1 : Int).toNat]? = some (eInt m1) := rfl
      refine AL_lstEnd 3 4 ((es ++ [⟨bs,m,p⟩] : List Stock).map eStock) (by rw [List.map_append]; rfl) rfl rfl rfl ?_
      (repeat' (first | refine stq ?_ | (refine AL_do2 rfl ?_; first | refine ⟨_,op_call1 rfl rfl rfl rfl (kS),nrmA rfl ?_⟩) | (with_reducible refine AL_id ?_); (fail_if_success (refine AL_glit rfl rfl rfl (by first | exact .inl (by with_reducible rfl) | exact .inr (by with_reducible rfl)) ?_)); first | refine AL_gdec rfl rfl rfl (fun hg => ?_) (fun hg => ?_) | refine AL_gnot rfl rfl rfl (fun hg => ?_) (fun hg => ?_) | refine AL_gcases rfl rfl rfl (fun hg => ?_) (fun hg => ?_)))
      iterate 8 (refine sdq ?_)
      refine DG_next (D_buildLst hT rfl rfl rfl rfl rfl rfl rfl rfl rfl) ?_
      refine DG_next (D_appendLst hT rfl rfl rfl rfl rfl rfl rfl rfl rfl rfl rfl rfl (by first | (simp; done) | (simp; omega)) rfl) ?_
      refine DG_end hM (by kernel_rfl) ?_
      refine AL_lstNil 154 4 6 rfl ?_
      (repeat (refine stq ?_))
      refine ⟨(k + 1,h,some ((es ++ [⟨bs,m,p⟩]),[],m0,m1)),⟨hk',hgo'⟩,by dsimp only; omega,?_⟩
      show Le _ (st96s s L (k + 1) h ((es ++ [⟨bs,m,p⟩])) [] m0 m1)
      (refine Le.mkR [(0,0),(1,1),(2,2),(3,6),(4,7)] ?_ ?_ rfl; all_goals (repeat' (first | exact trivial | refine sle ?_ | refine ⟨?_,rfl,?_⟩ | refine ⟨?_,by decide,rfl,?_⟩ | fail)))
     ·have z2 : toldR wStock 3 x = [] := List.eq_nil_of_length_eq_zero (by omega)
      rw [z2] at kS
      (repeat' (first | refine stq ?_ | (refine AL_do2 rfl ?_; first | refine ⟨_,op_call1 rfl rfl rfl rfl (kS),nrmA rfl ?_⟩) | (with_reducible refine AL_id ?_); (fail_if_success (refine AL_glit rfl rfl rfl (by first | exact .inl (by with_reducible rfl) | exact .inr (by with_reducible rfl)) ?_)); first | refine AL_gdec rfl rfl rfl (fun hg => ?_) (fun hg => ?_) | refine AL_gnot rfl rfl rfl (fun hg => ?_) (fun hg => ?_) | refine AL_gcases rfl rfl rfl (fun hg => ?_) (fun hg => ?_)))
      by_cases c3 : 0 < (toldR wBath 4 x).length
      ·have hsn : stepR (h,some (es,bs,m,p)) x = some (h,some (es,bs ++ [bathOf (toldR wBath 4 x)],m,p)) := by unfold stepR; rw [if_neg c1,if_neg c2,if_pos c3]
       have hgo' := hgo _ hsn
       obtain ⟨c0,c1',c2',c3',hns⟩ : ∃ a b c d,toldR wBath 4 x = [a,b,c,d]:= by
        have := (told_ok c3).1
        match toldR wBath 4 x,this with | [a,b,c,d],_ => exact ⟨a,b,c,d,rfl⟩
       rw [hns] at kB hgo'
       have e0 : ([c0,c1',c2',c3'].map eInt)[(0 : Int).toNat]? = some (eInt c0) := rfl
       have e1 : ([c0,c1',c2',c3'].map eInt)[(1 : Int).toNat]? = some (eInt c1') := rfl
       have e2 : ([c0,c1',c2',c3'].map eInt)[(2 : Int).toNat]? = some (eInt c2') := rfl
       have e3 : ([c0,c1',c2',c3'].map eInt)[(3 : Int).toNat]? = some (eInt c3') := rfl
       (repeat' (first | refine stq ?_ | (refine AL_do2 rfl ?_; first | refine ⟨_,op_call1 rfl rfl rfl rfl (kB),nrmA rfl ?_⟩) | ((first | (with_reducible refine AL_id ?_); (fail_if_success (refine AL_glit rfl rfl rfl (by first | exact .inl (by with_reducible rfl) | exact .inr (by with_reducible rfl)) ?_)); first | refine AL_gdec rfl rfl rfl (fun hg => ?_) (fun hg => ?_) | refine AL_gnot rfl rfl rfl (fun hg => ?_) (fun hg => ?_) | refine AL_gcases rfl rfl rfl (fun hg => ?_) (fun hg => ?_)) <;> (try (exfalso; omega))) | refine AW_if rfl (fun hc => absurd hc (by omega)) (fun _ => ?_) | refine AW_if rfl (fun _ => ?_) (fun hc => absurd (by omega) hc)))
       all_goals (try (exfalso; first | omega | (simp at hg; done)))
       iterate 4 (refine sdq ?_)
       refine DG_next (D_lstAddr hT rfl rfl rfl rfl rfl rfl rfl rfl rfl rfl (by omega) (by omega)) ?_
       refine sdq ?_
       refine DG_next (D_lstLoad hT rfl rfl rfl rfl rfl rfl rfl (by omega)) ?_
       (repeat (first | refine sdq ?_))
       refine DG_end hM (by kernel_rfl) ?_
       refine AL_do2 rfl ⟨_,op_lstAddr hT rfl rfl rfl rfl rfl rfl rfl rfl rfl (by omega) (by omega),?_⟩
       (repeat (refine stq ?_))
       refine AL_do2 rfl ⟨_,op_lstStore hT rfl rfl rfl rfl rfl rfl rfl rfl (by omega) rfl,?_⟩
       (repeat (refine stq ?_))
       refine ⟨(k + 1,h,some (es,bs ++ [bathOf [c0,c1',c2',c3']],m,p)),⟨hk',hgo'⟩,by dsimp only; omega,?_⟩
       show Le _ (st96s s L (k + 1) h es (bs ++ [bathOf [c0,c1',c2',c3']]) m p)
       (refine Le.mkR [(0,0),(1,1),(2,2),(3,3),(4,5)] ?_ ?_ rfl; all_goals (repeat' (first | exact trivial | refine sle ?_ | refine ⟨?_,rfl,?_⟩ | refine ⟨?_,by decide,rfl,?_⟩ | fail)))
       show some (AObj.arr 154 4 (bs.map eBath ++ [eBath (bathOf [c0,c1',c2',c3'])])) = some (AObj.arr 154 4 ((bs ++ [bathOf [c0,c1',c2',c3']]).map eBath))
       rw [List.map_append]; rfl
      ·have z3 : toldR wBath 4 x = [] := List.eq_nil_of_length_eq_zero (by omega)
       have hsn : stepR (h,some (es,bs,m,p)) x = none := by unfold stepR; rw [if_neg c1,if_neg c2,if_neg c3]
       rw [z3] at kB
       (repeat' (first | refine stq ?_ | (refine AL_do2 rfl ?_; first | refine ⟨_,op_call1 rfl rfl rfl rfl (kB),nrmA rfl ?_⟩) | ((first | (with_reducible refine AL_id ?_); (fail_if_success (refine AL_glit rfl rfl rfl (by first | exact .inl (by with_reducible rfl) | exact .inr (by with_reducible rfl)) ?_)); first | refine AL_gdec rfl rfl rfl (fun hg => ?_) (fun hg => ?_) | refine AL_gnot rfl rfl rfl (fun hg => ?_) (fun hg => ?_) | refine AL_gcases rfl rfl rfl (fun hg => ?_) (fun hg => ?_)) <;> (try (exfalso; omega))) | refine AW_if rfl (fun hc => absurd hc (by omega)) (fun _ => ?_) | refine AW_if rfl (fun _ => ?_) (fun hc => absurd (by omega) hc)))
       all_goals (try (exfalso; omega))
       rw [hbad hsn]
       exact ⟨_,_,rfl,rfl,rfl⟩
end Go.Abs
