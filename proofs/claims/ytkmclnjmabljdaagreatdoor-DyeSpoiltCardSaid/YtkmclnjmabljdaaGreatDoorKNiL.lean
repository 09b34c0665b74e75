/- The text of a house with stocks, as the reference writes it. -/
import Derived.Test.YtkmclnjmabljdaaGreatDoorKNiG
import Derived.Test.YtkmclnjmabljdaaGreatDoorKNiJ
import Derived.Test.YtkmclnjmabljdaaGreatDoorKNcG
import Derived.Test.YtkmclnjmabljdaaGreatDoorKNeB
import Derived.Test.YtkmclnjmabljdaaGreatDoorKNcK
import Derived.Test.YtkmclnjmabljdaaGreatDoorKNhA
set_option linter.unusedVariables false
set_option linter.unusedSimpArgs false
namespace Go.Abs
open Go.Proofs Go.RowKit
set_option linter.unusedVariables false
set_option linter.unusedSimpArgs false
set_option maxRecDepth 100000
def sB (L : List ByteArray) : ByteArray := L.foldl (fun s x => (s ++ x) ++ nlB) ByteArray.empty
theorem sB_snoc (L : List ByteArray) (x : ByteArray) : sB (L ++ [x]) = (sB L ++ x) ++ nlB := by simp [sB]
def jl (L : List ByteArray) : List UInt8 := L.flatMap fun x => x.data.toList ++ [10]
theorem sB_data (L : List ByteArray) : (sB L).data.toList = jl L:= by
 induction L using snocInd with
 | h0 => rfl
 | h1 L x ih =>
  rw [sB_snoc]
  simp only [ByteArray.data_append,Array.toList_append,ih,jl,List.flatMap_append,List.flatMap_cons,List.flatMap_nil,List.append_nil,List.append_assoc]
  rfl
theorem tail_jl (r : List (List UInt8)) (e : List UInt8) : Lib.joinTail [10] (r ++ [e]) = [10] ++ (r.flatMap fun x => x ++ [10]) ++ e:= by
 induction r with
 | nil => simp [Lib.joinTail]
 | cons x r ih =>
  have hc : Lib.joinTail [10] (x :: r ++ [e]) = ([10] ++ x) ++ Lib.joinTail [10] (r ++ [e]) := rfl
  rw [hc,ih,List.flatMap_cons]
  simp only [List.append_assoc]
theorem sB_join (L : List ByteArray) (E : ByteArray) : sB L ++ E = joinB (L ++ [E]) nlB:= by
 apply bytes_ext
 rw [ByteArray.data_append,Array.toList_append,sB_data]
 show _ = Lib.join ((L ++ [E]).map (·.data.toList)) [10]
 cases L with
 | nil => simp [jl,Lib.join_one]
 | cons x r =>
  rw [List.cons_append,List.map_cons,Lib.join_cons,List.map_append,List.map_cons,List.map_nil,tail_jl]
  simp [jl,List.flatMap_map]
theorem sB_sz (L : List ByteArray) (h : ∀ x ∈ L,x.size <= 500) : (sB L).size <= 501 * L.length:= by
 induction L using snocInd with
 | h0 => simp [sB]
 | h1 L x ih =>
  have h1 := ih fun y hy => h y (by simp [hy])
  have h2 := h x (by simp)
  have h3 : nlB.size = 1 := rfl
  rw [sB_snoc,app_size,app_size,List.length_append,List.length_singleton]; omega
def endR : ByteArray := bytesOf [101,110,100,32]
theorem sum_snoc : ∀ (l : List Int) (x : Int),sumI (l ++ [x]) = sumI l + x
 | [],x => by simp [sumI]
 | y :: l,x => by simp only [List.cons_append,sumI,sum_snoc l x]; omega
theorem sB_end {L : List ByteArray} (hL : L ≠ []) : joinB L nlB ++ endB = sB L ++ endR:= by
 rw [sB_join]
 apply bytes_ext
 rw [ByteArray.data_append,Array.toList_append]
 show Lib.join (L.map (·.data.toList)) [10] ++ [10,101,110,100,32] = Lib.join ((L ++ [endR]).map (·.data.toList)) [10]
 match L,hL with
 | x :: r,_ =>
  have e : ∀ r : List (List UInt8),Lib.joinTail [10] r ++ [10,101,110,100,32] = Lib.joinTail [10] (r ++ [[101,110,100,32]]):= by
   intro r
   induction r with
   | nil => rfl
   | cons y r ih =>
    have hc : ∀ (y : List UInt8) (r : List (List UInt8)),Lib.joinTail [10] (y :: r) = ([10] ++ y) ++ Lib.joinTail [10] r := fun _ _ => rfl
    rw [List.cons_append,hc,hc,List.append_assoc,ih]
  rw [List.cons_append,List.map_cons,List.map_cons,Lib.join_cons,Lib.join_cons,List.map_append,List.append_assoc,e]
  rfl
abbrev boH (h : List Dye) : AObj := .box [.pv (.sl (h.map eDye))]
theorem nums_take {d : Dye} {j : Nat} {sp : Span} (h : d.takes[j]? = some sp) : (d.full :: (d.takes.take (j + 1)).flatMap fun s => [s.low,s.high]) = (d.full :: (d.takes.take j).flatMap fun s => [s.low,s.high]) ++ [sp.low,sp.high]:= by
 rw [List.take_add_one,h]; simp
set_option maxHeartbeats 16000000 in
theorem f93w (h : List Dye) (l : List Stock) (hh : h.length <= 900) (hl : l.length <= 900) (htk : ∀ d ∈ h,d.takes.length <= 10) (hbt : ∀ s ∈ l,s.baths.length <= 900) (hOK : SizesOK (linesB h l)) (hn : ∀ ns ∈ rowsNums h l,SmallL ns) : ACalls Tryz.prog 93 [eHouse h,eStocks l] (fun r => r = .pv (.str (textB h l))):= by
 have z1 : nmTop.size <= 100 := by decide
 have z2 : nmDye.size <= 100 := by decide
 have z3 : nmStock.size <= 100 := by decide
 have z4 : nmBath.size <= 100 := by decide
 have hnTop : SmallL (topNums h l) := hn _ (by simp [rowsNums])
 have hnDye : ∀ d ∈ h,SmallL (dyeNums d) := fun d hd => hn _ (by simp only [rowsNums,List.mem_cons,List.mem_append,List.mem_map]; exact .inr (.inl ⟨d,hd,rfl⟩))
 have hnSt : ∀ s ∈ l,SmallL (stNums s) := fun s hs => hn _ (by simp only [rowsNums,List.mem_cons,List.mem_append,List.mem_flatMap]; exact .inr (.inr ⟨s,hs,.inl rfl⟩))
 have hnBa : ∀ s ∈ l,∀ b ∈ s.baths,SmallL (baNums b) := fun s hs b hb => hn _ (by simp only [rowsNums,List.mem_cons,List.mem_append,List.mem_flatMap,List.mem_map]; exact .inr (.inr ⟨s,hs,.inr ⟨b,hb,rfl⟩⟩))
 have kT : ACalls Tryz.prog 159 [.str nmTop,eInts [(h.length : Int),(l.length : Int)]] (fun r => r = .pv (.str (lineB nmTop (topNums h l)))) := f159 nmTop (topNums h l) hnTop z1 (by simp [topNums])
 refine ACalls.of_body hT Tryz.func93 rfl (by kernel_rfl) rfl ?_
 (repeat' (first | refine stq ?_ | (refine AL_do2 rfl ?_; first | refine ⟨_,op_callB rfl rfl rfl rfl (kT) rfl,nrmA rfl ?_⟩) | (with_reducible refine AL_id ?_); (fail_if_success (refine AL_glit rfl rfl rfl (by first | exact .inl (by with_reducible rfl) | exact .inr (by with_reducible rfl)) ?_)); first | refine AL_gdec rfl rfl rfl (fun hg => ?_) (fun hg => ?_) | refine AL_gnot rfl rfl rfl (fun hg => ?_) (fun hg => ?_) | refine AL_gcases rfl rfl rfl (fun hg => ?_) (fun hg => ?_)))
 refine AW_loopC (fun k : Nat => k <= h.length) (fun k => mkSt [(1,.pv (eStocks l)),(2,.box 0 0),(5,.arr 1),(6,.pv (vi k))]
  [(0,boH h),(1,.arr 9 1 ((lineB nmTop (topNums h l) :: (h.take k).map fun d => lineB nmDye (dyeNums d)).map eStrC))] 2) (fun k => h.length - k) 0 (Nat.zero_le _) ?_ ?_
 ·(refine Le.mkR [(0,0),(1,2)] ?_ ?_ rfl; all_goals (repeat' (first | exact trivial | refine sle ?_ | refine ⟨?_,rfl,?_⟩ | refine ⟨?_,by decide,rfl,?_⟩ | fail)))
 ·intro k hk
  have hLl : (lineB nmTop (topNums h l) :: (h.take k).map fun d => lineB nmDye (dyeNums d)).length <= 3000 := by simp; omega
  generalize hL : (lineB nmTop (topNums h l) :: (h.take k).map fun d => lineB nmDye (dyeNums d)) = L at hLl ⊢
  (repeat (refine stq ?_))
  refine AW_if rfl (fun hc => ?_) (fun hc => ?_)
  ·have hk' : k < h.length := by omega
   obtain ⟨d,hd⟩ : ∃ d,h[k]? = some d := ⟨h[k],by simp [hk']⟩
   have e1 : (h.map eDye)[((k : Nat) : Int).toNat]? = some (eDye d) := get_map eDye hd
   have hm := List.mem_of_getElem? hd
   have ht10 := htk d hm
   have hdl : (dyeNums d).length <= 21 := by rw [dyeNums,List.length_cons,flatMap_const_len (c := 2) (fun _ => rfl)]; omega
   have kD : ACalls Tryz.prog 159 [.str nmDye,eInts (dyeNums d)] (fun r => r = .pv (.str (lineB nmDye (dyeNums d)))) := f159 nmDye (dyeNums d) (hnDye d hm) z2 (by omega)
   (repeat (refine stq ?_))
   refine AW_loopC (fun j : Nat => j <= d.takes.length) (fun j => mkSt [(1,.pv (eStocks l)),(2,.box 0 0),(5,.arr 1),(6,.pv (vi k)),(7,.arr 2),(8,.pv (vi j))]
    [(0,boH h),(1,.arr 9 1 (L.map eStrC)),(2,.arr 3 1 ((d.full :: (d.takes.take j).flatMap fun s => [s.low,s.high]).map eInt))] 3) (fun j => d.takes.length - j) 0 (Nat.zero_le _) ?_ ?_
   ·(refine Le.mk ?_ ?_; all_goals (repeat' (first | exact trivial | refine sle ?_ | refine ⟨?_,rfl,?_⟩ | refine ⟨?_,by decide,rfl,?_⟩ | fail)))
   ·intro j hj
    have hnl : (d.full :: (d.takes.take j).flatMap fun s => [s.low,s.high]).length <= 100:= by
     rw [List.length_cons,flatMap_const_len (c := 2) (fun _ => rfl),List.length_take]; omega
    (repeat (refine stq ?_))
    refine AW_if rfl (fun hc2 => ?_) (fun hc2 => ?_)
    ·have hj' : j < d.takes.length := by omega
     obtain ⟨sp,hsp⟩ : ∃ sp,d.takes[j]? = some sp := ⟨d.takes[j],by simp [hj']⟩
     have e2 : (d.takes.map eSpan)[((j : Nat) : Int).toNat]? = some (eSpan sp) := get_map eSpan hsp
     have hsn := nums_take hsp
     generalize (d.full :: (d.takes.take j).flatMap fun s => [s.low,s.high]) = N at hnl hsn ⊢
     (repeat (refine stq ?_))
     (repeat (first | refine sdq ?_))
     refine DG_end hM (by kernel_rfl) ?_
     (repeat (refine stq ?_))
     refine ⟨j + 1,hj',by omega,?_⟩
     rw [hsn]
     (refine Le.mkR [(0,0),(1,1),(2,3)] ?_ ?_ rfl; all_goals (repeat' (first | exact trivial | refine sle ?_ | refine ⟨?_,rfl,?_⟩ | refine ⟨?_,by decide,rfl,?_⟩ | fail)))
     show some (AObj.arr 3 1 (N.map eInt ++ [eInt sp.low,eInt sp.high])) = some (AObj.arr 3 1 ((N ++ [sp.low,sp.high]).map eInt))
     rw [List.map_append]; rfl
    ·have hj' : j = d.takes.length := by omega
     subst hj'
     rw [List.take_length]
     rw [show (d.full :: d.takes.flatMap fun s => [s.low,s.high]) = dyeNums d from rfl]
     (repeat' (first | refine stq ?_ | (refine AL_do2 rfl ?_; first | refine ⟨_,op_callB rfl rfl rfl rfl (kD) rfl,nrmA rfl ?_⟩) | (with_reducible refine AL_id ?_); (fail_if_success (refine AL_glit rfl rfl rfl (by first | exact .inl (by with_reducible rfl) | exact .inr (by with_reducible rfl)) ?_)); first | refine AL_gdec rfl rfl rfl (fun hg => ?_) (fun hg => ?_) | refine AL_gnot rfl rfl rfl (fun hg => ?_) (fun hg => ?_) | refine AL_gcases rfl rfl rfl (fun hg => ?_) (fun hg => ?_)))
     refine ⟨k + 1,hk',by omega,?_⟩
     (refine Le.mkR [(0,0),(1,4)] ?_ ?_ rfl; all_goals (repeat' (first | exact trivial | refine sle ?_ | refine ⟨?_,rfl,?_⟩ | refine ⟨?_,by decide,rfl,?_⟩ | fail)))
     rw [map_take_succ _ hd,<- List.cons_append,hL,List.map_append]; rfl
  ·have hk' : k = h.length := by omega
   rw [hk',List.take_length] at hL
   change headB h l = L at hL
   subst hL
   (repeat (refine stq ?_))
   refine AW_loopC (fun k : Nat => k <= l.length) (fun k => mkSt [(1,.pv (eStocks l)),(5,.arr 1),(9,.pv (vi k))] [(1,.arr 9 1 ((headB h l ++ (l.take k).flatMap blkB).map eStrC))] 2) (fun k => l.length - k) 0 (Nat.zero_le _) ?_ ?_
   ·(refine Le.mk ?_ ?_; all_goals (repeat' (first | exact trivial | refine sle ?_ | refine ⟨?_,rfl,?_⟩ | refine ⟨?_,by decide,rfl,?_⟩ | fail)))
    show some (AObj.arr 9 1 ((headB h l).map eStrC)) = some (AObj.arr 9 1 ((headB h l ++ (l.take 0).flatMap blkB).map eStrC)); simp
   ·intro k hk
    (repeat (refine stq ?_))
    refine AW_if rfl (fun hc => ?_) (fun hc => ?_)
    ·have hk' : k < l.length := by omega
     obtain ⟨s,hs⟩ : ∃ s,l[k]? = some s := ⟨l[k],by simp [hk']⟩
     have e1 : (l.map eStock)[((k : Nat) : Int).toNat]? = some (eStock s) := get_map eStock hs
     have hm := List.mem_of_getElem? hs
     have hb10 := hbt s hm
     have hfl : (headB h l ++ (l.take k).flatMap blkB).length <= 900:= by
      have h1 := hOK.2.1
      have h2 : l.flatMap blkB = (l.take k).flatMap blkB ++ (l.drop k).flatMap blkB := by rw [<- List.flatMap_append,List.take_append_drop]
      rw [linesB,h2] at h1
      simp only [List.length_append] at h1 ⊢; omega
     have hsn : headB h l ++ (l.take (k + 1)).flatMap blkB = (headB h l ++ (l.take k).flatMap blkB) ++ blkB s:= by
      rw [List.take_add_one,hs]; simp
     generalize hL0 : (headB h l ++ (l.take k).flatMap blkB) = L0 at hfl hsn ⊢
     have kS : ACalls Tryz.prog 159 [.str nmStock,.sl [[vi s.many],[vi s.price],[vi (s.baths.length : Int)]]] (fun r => r = .pv (.str (lineB nmStock (stNums s)))) := f159 nmStock (stNums s) (hnSt s hm) z3 (by simp [stNums])
     (repeat (refine stq ?_))
     (repeat (first | refine sdq ?_ | refine DG_next (D_call rfl rfl rfl rfl rfl (kS)) ?_))
     refine DG_end hM (by kernel_rfl) ?_
     (repeat (refine stq ?_))
     refine AW_loopC (fun j : Nat => j <= s.baths.length) (fun j => mkSt [(1,.pv (eStocks l)),(5,.arr 1),(9,.pv (vi k)),(10,.pv (vi j))] [(1,.arr 9 1 (((L0 ++ [lineB nmStock (stNums s)]) ++ (s.baths.take j).map fun b => lineB nmBath (baNums b)).map eStrC))] 2) (fun j => s.baths.length - j) 0 (Nat.zero_le _) ?_ ?_
     ·(refine Le.mkR [(1,2)] ?_ ?_ rfl; all_goals (repeat' (first | exact trivial | refine sle ?_ | refine ⟨?_,rfl,?_⟩ | refine ⟨?_,by decide,rfl,?_⟩ | fail)))
      show some (AObj.arr 9 1 (L0.map eStrC ++ [eStrC (lineB nmStock (stNums s))])) = some (AObj.arr 9 1 (((L0 ++ [lineB nmStock (stNums s)]) ++ (s.baths.take 0).map fun b => lineB nmBath (baNums b)).map eStrC))
      simp
     ·intro j hj
      have hLl : ((L0 ++ [lineB nmStock (stNums s)]) ++ (s.baths.take j).map fun b => lineB nmBath (baNums b)).length <= 3000 := by simp; omega
      generalize hL1 : ((L0 ++ [lineB nmStock (stNums s)]) ++ (s.baths.take j).map fun b => lineB nmBath (baNums b)) = L1 at hLl ⊢
      (repeat (refine stq ?_))
      refine AW_if rfl (fun hc2 => ?_) (fun hc2 => ?_)
      ·have hj' : j < s.baths.length := by omega
       obtain ⟨b,hb⟩ : ∃ b,s.baths[j]? = some b := ⟨s.baths[j],by simp [hj']⟩
       have e2 : (s.baths.map eBath)[((j : Nat) : Int).toNat]? = some (eBath b) := get_map eBath hb
       have kB : ACalls Tryz.prog 159 [.str nmBath,.sl [[vi b.dye],[vi b.temper],[vi b.hours.low],[vi b.hours.high]]] (fun r => r = .pv (.str (lineB nmBath (baNums b)))) := f159 nmBath (baNums b) (hnBa s hm b (List.mem_of_getElem? hb)) z4 (by simp [baNums])
       (repeat' (first | refine stq ?_ | (refine AL_do2 rfl ?_; first | refine ⟨_,op_callB rfl rfl rfl rfl (kB) rfl,nrmA rfl ?_⟩) | (with_reducible refine AL_id ?_); (fail_if_success (refine AL_glit rfl rfl rfl (by first | exact .inl (by with_reducible rfl) | exact .inr (by with_reducible rfl)) ?_)); first | refine AL_gdec rfl rfl rfl (fun hg => ?_) (fun hg => ?_) | refine AL_gnot rfl rfl rfl (fun hg => ?_) (fun hg => ?_) | refine AL_gcases rfl rfl rfl (fun hg => ?_) (fun hg => ?_)))
       refine ⟨j + 1,hj',by omega,?_⟩
       (refine Le.mkR [(1,5)] ?_ ?_ rfl; all_goals (repeat' (first | exact trivial | refine sle ?_ | refine ⟨?_,rfl,?_⟩ | refine ⟨?_,by decide,rfl,?_⟩ | fail)))
       rw [map_take_succ _ hb,<- List.append_assoc,hL1,List.map_append]; rfl
      ·have hj' : j = s.baths.length := by omega
       rw [hj',List.take_length] at hL1
       have hL2 : headB h l ++ (l.take (k + 1)).flatMap blkB = L1 := by rw [hsn,<- hL1,blkB,List.append_assoc]; rfl
       (repeat (refine stq ?_))
       refine ⟨k + 1,hk',by omega,?_⟩
       rw [hL2]
       (refine Le.mk ?_ ?_; all_goals (repeat' (first | exact trivial | refine sle ?_ | refine ⟨?_,rfl,?_⟩ | refine ⟨?_,by decide,rfl,?_⟩ | fail)))
    ·have hk' : k = l.length := by omega
     rw [hk',List.take_length]
     rw [show headB h l ++ l.flatMap blkB = linesB h l from rfl]
     unfold textB
     clear hn hnTop hnDye hnSt hnBa kT
     generalize linesB h l = L' at *
     obtain ⟨hne,hLl',hsz⟩ := hOK
     refine AW_pure (t := 5) rfl rfl ?_
     (repeat (refine stq ?_))
     refine AW_loopC (fun i : Nat => i <= L'.length) (fun i => mkSt [(5,.pv (.sl (L'.map eStrC))),(12,.pv (.str (sB (L'.take i)))),(13,.pv (vi (checkI (L'.take i)))),(14,.pv (vi i))] [] 2) (fun i => L'.length - i) 0 (Nat.zero_le _) ?_ ?_
     ·(refine Le.mk ?_ ?_; all_goals (repeat' (first | exact trivial | refine sle ?_ | refine ⟨?_,rfl,?_⟩ | refine ⟨?_,by decide,rfl,?_⟩ | fail)))
     ·intro i hi
      (repeat (refine stq ?_))
      refine AW_if rfl (fun hc => ?_) (fun hc => ?_)
      ·have hi' : i < L'.length := by omega
       obtain ⟨x,hx⟩ : ∃ x,L'[i]? = some x := ⟨L'[i],by simp [hi']⟩
       have e3 : (L'.map eStrC)[((i : Nat) : Int).toNat]? = some (eStrC x) := get_map eStrC hx
       have hxs := hsz x (List.mem_of_getElem? hx)
       have hcb := checkI_bd (L := L'.take i) (by simp; omega) fun y hy => hsz y (List.mem_of_mem_take hy)
       have hxl : x.data.toList.length = x.size := rfl
       have hss := sB_sz (L'.take i) fun y hy => hsz y (List.mem_of_mem_take hy)
       have htl : (L'.take i).length <= 900 := by simp; omega
       (repeat (refine stq ?_))
       refine AW_loopC (fun j : Nat => j <= x.size) (fun j => mkSt [(5,.pv (.sl (L'.map eStrC))),(12,.pv (.str (sB (L'.take i)))),(13,.pv (vi (checkI (L'.take i) + bsum (x.data.toList.take j) 1))),(14,.pv (vi i)),(15,.pv (vi j))] [] 2) (fun j => x.size - j) 0 (Nat.zero_le _) ?_ ?_
       ·(refine Le.mk ?_ ?_; all_goals (repeat' (first | exact trivial | refine sle ?_ | refine ⟨?_,rfl,?_⟩ | refine ⟨?_,by decide,rfl,?_⟩ | fail)))
        show some (FV.pv (vi (checkI (L'.take i)))) = some (FV.pv (vi (checkI (L'.take i) + bsum (x.data.toList.take 0) 1))); simp [bsum]
       ·intro j hj
        (repeat' (first | refine stq ?_ | (refine AL_do2 rfl ?_; first | refine ⟨_,op_len_str hT rfl rfl rfl rfl rfl,?_⟩) | (with_reducible refine AL_id ?_); (fail_if_success (refine AL_glit rfl rfl rfl (by first | exact .inl (by with_reducible rfl) | exact .inr (by with_reducible rfl)) ?_)); first | refine AL_gdec rfl rfl rfl (fun hg => ?_) (fun hg => ?_) | refine AL_gnot rfl rfl rfl (fun hg => ?_) (fun hg => ?_) | refine AL_gcases rfl rfl rfl (fun hg => ?_) (fun hg => ?_)))
        refine AW_if rfl (fun hc => ?_) (fun hc => ?_)
        ·have hj' : j < x.size := by omega
         obtain ⟨b,hb⟩ : ∃ b,x.data.toList[j]? = some b := ⟨x.data.toList[j],by simp [hxl,hj']⟩
         have hb' : x[((j : Nat) : Int).toNat]? = some b:= by
          rw [Int.toNat_natCast]
          rw [List.getElem?_eq_getElem (by omega)] at hb
          rw [getElem?_pos x j hj']
          have hb3 : x.data[j]'hj' = b := by simpa using hb
          exact congrArg some hb3
         have hsb := bsum_bd (x.data.toList.take j) 1 (by omega) (by simp; omega)
         have hj2 : ((x.data.toList.take j).length : Int) = j := by simp; omega
         have hsn : bsum (x.data.toList.take (j + 1)) 1 = bsum (x.data.toList.take j) 1 + (b.toNat : Int) * ((j : Int) + 1):= by
          rw [List.take_add_one,hb,bsum_append,hj2]
          simp only [Option.toList_some,bsum]
          rw [show (1 : Int) + j = j + 1 by omega]; omega
         have hbt : (b.toNat : Int) <= 255 := by have := b.toNat_lt; omega
         have hm1 : 0 <= (b.toNat : Int) * ((j : Int) + 1) := Int.mul_nonneg (by omega) (by omega)
         have hm2 : (b.toNat : Int) * ((j : Int) + 1) <= 255 * 1001 := Int.mul_le_mul hbt (by omega) (by omega) (by omega)
         have hw := byte_wrap b
         have hmul : -9223372036854775808 <= IntKind.i64.wrap (b.toNat : Int) * ((j : Int) + 1) /\ IntKind.i64.wrap (b.toNat : Int) * ((j : Int) + 1) <= 9223372036854775807 := by rw [hw]; omega
         have hmul2 : 0 <= IntKind.i64.wrap (b.toNat : Int) * ((j : Int) + 1) /\ IntKind.i64.wrap (b.toNat : Int) * ((j : Int) + 1) <= 255 * 1001 := by rw [hw]; omega
         (repeat' (first | refine stq ?_ | (refine AL_do2 rfl ?_; first | refine ⟨_,op_index_str hT rfl rfl rfl rfl rfl rfl (by omega) hb',?_⟩) | (with_reducible refine AL_id ?_); (fail_if_success (refine AL_glit rfl rfl rfl (by first | exact .inl (by with_reducible rfl) | exact .inr (by with_reducible rfl)) ?_)); first | refine AL_gdec rfl rfl rfl (fun hg => ?_) (fun hg => ?_) | refine AL_gnot rfl rfl rfl (fun hg => ?_) (fun hg => ?_) | refine AL_gcases rfl rfl rfl (fun hg => ?_) (fun hg => ?_)))
         refine ⟨j + 1,hj',by omega,?_⟩
         (refine Le.mk ?_ ?_; all_goals (repeat' (first | exact trivial | refine sle ?_ | refine ⟨?_,rfl,?_⟩ | refine ⟨?_,by decide,rfl,?_⟩ | fail)))
         show some (FV.pv (vi (checkI (L'.take i) + bsum (x.data.toList.take j) 1 + IntKind.i64.wrap (b.toNat : Int) * ((j : Int) + 1)))) = some (FV.pv (vi (checkI (L'.take i) + bsum (x.data.toList.take (j + 1)) 1)))
         rw [hsn,hw,Int.add_assoc]
        ·have hj' : j = x.size := by omega
         have hsn : checkI (L'.take (i + 1)) = checkI (L'.take i) + bsum (x.data.toList.take j) 1:= by
          rw [checkI,map_take_succ _ hx,sum_snoc,hj',<- hxl,List.take_length]; rfl
         have hsB : sB (L'.take (i + 1)) = (sB (L'.take i) ++ x) ++ nlB := by rw [List.take_add_one,hx]; exact sB_snoc _ _
         have hs2 : (sB (L'.take i) ++ x).size <= 460000 := by rw [app_size]; omega
         have hn1 : nlB.size = 1 := rfl
         rw [<- hsn]
         (repeat (refine stq ?_))
         refine AL_do2 rfl ⟨_,op_strcat (u := sB (L'.take i)) (v := x) rfl rfl rfl rfl (by omega),?_⟩
         refine AL_do2 rfl ⟨_,op_strcat (u := sB (L'.take i) ++ x) (v := nlB) rfl rfl rfl rfl (by omega),?_⟩
         rw [<- hsB]
         (repeat (refine stq ?_))
         refine ⟨i + 1,hi',by omega,?_⟩
         (refine Le.mk ?_ ?_; all_goals (repeat' (first | exact trivial | refine sle ?_ | refine ⟨?_,rfl,?_⟩ | refine ⟨?_,by decide,rfl,?_⟩ | fail)))
      ·have hi' : i = L'.length := by omega
       rw [hi',List.take_length]
       have hcb := checkI_bd hLl' hsz
       have hss := sB_sz L' hsz
       obtain ⟨c,hc,hc2⟩ : ∃ c : Nat,(checkI L').tmod 113 = c /\ c < 113 := ⟨((checkI L').tmod 113).toNat,by
        have := Int.tmod_nonneg 113 hcb.1; omega,by
        have := Int.tmod_nonneg 113 hcb.1; have := Int.tmod_lt_of_pos (checkI L') (b := 113) (by omega); omega⟩
       have hcm : checkI L' % 113 = (c : Int) := by rw [<- hc,Int.tmod_eq_emod_of_nonneg hcb.1]
       have hq1 : IntKind.i64.wrap ((c : Int).tdiv 100) = ((c / 100 : Nat) : Int) := by rw [show (c : Int).tdiv 100 = ((c / 100 : Nat) : Int) from rfl,nat_wrap (by omega)]
       have hq2 : (IntKind.i64.wrap ((c : Int).tdiv 10)).tmod 10 = ((c / 10 % 10 : Nat) : Int) := by rw [show (c : Int).tdiv 10 = ((c / 10 : Nat) : Int) from rfl,nat_wrap (by omega)]; rfl
       have hq3 : (c : Int).tmod 10 = ((c % 10 : Nat) : Int) := rfl
       have i1 := itoa_size (n := c / 100) (by omega)
       have i2 := itoa_size (n := c / 10 % 10) (by omega)
       have i3 := itoa_size (n := c % 10) (by omega)
       have e0 : endR.size = 4 := rfl
       have n0 : nlB.size = 1 := rfl
       have k1 : ACalls Tryz.prog 160 [vi (c / 100 : Nat)] (fun r => r = .pv (.str (itoaB (c / 100 : Nat)))) := f160 (c / 100) (by omega)
       have k2 : ACalls Tryz.prog 160 [vi (c / 10 % 10 : Nat)] (fun r => r = .pv (.str (itoaB (c / 10 % 10 : Nat)))) := f160 (c / 10 % 10) (by omega)
       have k3 : ACalls Tryz.prog 160 [vi (c % 10 : Nat)] (fun r => r = .pv (.str (itoaB (c % 10 : Nat)))) := f160 (c % 10) (by omega)
       have w0 : (sB L' ++ endR).size <= 460000 := by rw [app_size]; omega
       have w1 : ((sB L' ++ endR) ++ itoaB (c / 100 : Nat)).size <= 460010 := by rw [app_size]; omega
       have w2 : (((sB L' ++ endR) ++ itoaB (c / 100 : Nat)) ++ itoaB (c / 10 % 10 : Nat)).size <= 460020 := by rw [app_size]; omega
       have w3 : ((((sB L' ++ endR) ++ itoaB (c / 100 : Nat)) ++ itoaB (c / 10 % 10 : Nat)) ++ itoaB (c % 10 : Nat)).size <= 460030 := by rw [app_size]; omega
       (repeat (refine stq ?_))
       refine AL_do2 rfl ⟨_,op_rem rfl rfl rfl rfl (by decide),?_⟩
       rw [hc]
       (repeat (refine stq ?_))
       refine AL_do2 rfl ⟨_,op_strcat (u := sB L') (v := endR) rfl rfl rfl rfl (by omega),?_⟩
       (repeat (refine stq ?_))
       refine AL_do2 rfl ⟨_,op_quo rfl rfl rfl rfl (by decide),?_⟩
       rw [hq1]
       (repeat' (first | refine stq ?_ | (refine AL_do2 rfl ?_; first | refine ⟨_,op_call1 rfl rfl rfl rfl (k1),nrmA rfl ?_⟩) | (with_reducible refine AL_id ?_); (fail_if_success (refine AL_glit rfl rfl rfl (by first | exact .inl (by with_reducible rfl) | exact .inr (by with_reducible rfl)) ?_)); first | refine AL_gdec rfl rfl rfl (fun hg => ?_) (fun hg => ?_) | refine AL_gnot rfl rfl rfl (fun hg => ?_) (fun hg => ?_) | refine AL_gcases rfl rfl rfl (fun hg => ?_) (fun hg => ?_)))
       refine AL_do2 rfl ⟨_,op_strcat (u := sB L' ++ endR) (v := itoaB (c / 100 : Nat)) rfl rfl rfl rfl (by omega),?_⟩
       (repeat (refine stq ?_))
       refine AL_do2 rfl ⟨_,op_quo rfl rfl rfl rfl (by decide),?_⟩
       refine AL_do2 rfl ⟨_,op_rem rfl rfl rfl rfl (by decide),?_⟩
       rw [hq2]
       (repeat' (first | refine stq ?_ | (refine AL_do2 rfl ?_; first | refine ⟨_,op_call1 rfl rfl rfl rfl (k2),nrmA rfl ?_⟩) | (with_reducible refine AL_id ?_); (fail_if_success (refine AL_glit rfl rfl rfl (by first | exact .inl (by with_reducible rfl) | exact .inr (by with_reducible rfl)) ?_)); first | refine AL_gdec rfl rfl rfl (fun hg => ?_) (fun hg => ?_) | refine AL_gnot rfl rfl rfl (fun hg => ?_) (fun hg => ?_) | refine AL_gcases rfl rfl rfl (fun hg => ?_) (fun hg => ?_)))
       refine AL_do2 rfl ⟨_,op_strcat (u := (sB L' ++ endR) ++ itoaB (c / 100 : Nat)) (v := itoaB (c / 10 % 10 : Nat)) rfl rfl rfl rfl (by omega),?_⟩
       (repeat (refine stq ?_))
       refine AL_do2 rfl ⟨_,op_rem rfl rfl rfl rfl (by decide),?_⟩
       rw [hq3]
       (repeat' (first | refine stq ?_ | (refine AL_do2 rfl ?_; first | refine ⟨_,op_call1 rfl rfl rfl rfl (k3),nrmA rfl ?_⟩) | (with_reducible refine AL_id ?_); (fail_if_success (refine AL_glit rfl rfl rfl (by first | exact .inl (by with_reducible rfl) | exact .inr (by with_reducible rfl)) ?_)); first | refine AL_gdec rfl rfl rfl (fun hg => ?_) (fun hg => ?_) | refine AL_gnot rfl rfl rfl (fun hg => ?_) (fun hg => ?_) | refine AL_gcases rfl rfl rfl (fun hg => ?_) (fun hg => ?_)))
       refine AL_do2 rfl ⟨_,op_strcat (u := ((sB L' ++ endR) ++ itoaB (c / 100 : Nat)) ++ itoaB (c / 10 % 10 : Nat)) (v := itoaB (c % 10 : Nat)) rfl rfl rfl rfl (by omega),?_⟩
       refine AL_do2 rfl ⟨_,op_strcat (u := (((sB L' ++ endR) ++ itoaB (c / 100 : Nat)) ++ itoaB (c / 10 % 10 : Nat)) ++ itoaB (c % 10 : Nat)) (v := nlB) rfl rfl rfl rfl (by omega),?_⟩
       (repeat (refine stq ?_))
       refine ⟨_,_,rfl,rfl,?_⟩
       unfold textOf
       rw [hcm,sB_end hne]
       rfl
end Go.Abs
namespace Go.Abs
open Go.Proofs Go.RowKit
set_option linter.unusedVariables false
set_option linter.unusedSimpArgs false
set_option maxRecDepth 100000
theorem eqI3 (d : Nat) : Nonempty (EqT Tryz.prog (d + 1) 3 1) := eqT_int hT (t := 3) rfl rfl rfl
theorem eqS37 (d : Nat) : ∃ E : EqT Tryz.prog (d + 2) 37 2,E.val = intsV := eqT_struct [(3,1),(3,1)] hT rfl rfl rfl (by kernel_rfl) (by kernel_rfl) (by kernel_rfl) rfl (fun p hp => by simp only [List.mem_cons,List.not_mem_nil,or_false] at hp; rcases hp with rfl | rfl <;> exact eqI3 d)
theorem aggEq154 : AggEq Tryz.prog 154 4 := aggEq_of (by kernel_rfl) (eqT_struct [(3,1),(3,1),(37,2)] hT rfl rfl rfl (by kernel_rfl) (by kernel_rfl) (by kernel_rfl) rfl (fun p hp => by simp only [List.mem_cons,List.not_mem_nil,or_false] at hp; rcases hp with rfl | rfl | rfl <;> first | exact eqI3 9998 | exact ⟨(eqS37 9997).choose⟩))
set_option maxHeartbeats 8000000 in
theorem f94s (h : List Dye) (hh : houseOK h) : ACalls Tryz.prog 94 [eHouse h,eHouse h] (fun r => r = .pv (.bool true)):= by
 obtain ⟨hh1,hh2⟩ := hh
 refine ACalls.of_body hT Tryz.func94 rfl (by kernel_rfl) rfl ?_
 (repeat' (first | refine stq ?_ | ((first | (with_reducible refine AL_id ?_); (fail_if_success (refine AL_glit rfl rfl rfl (by first | exact .inl (by with_reducible rfl) | exact .inr (by with_reducible rfl)) ?_)); first | refine AL_gdec rfl rfl rfl (fun hg => ?_) (fun hg => ?_) | refine AL_gnot rfl rfl rfl (fun hg => ?_) (fun hg => ?_) | refine AL_gcases rfl rfl rfl (fun hg => ?_) (fun hg => ?_)) <;> (try (exfalso; omega))) | refine AW_if rfl (fun hc => absurd hc (by omega)) (fun _ => ?_) | refine AW_if rfl (fun _ => ?_) (fun hc => absurd (by omega) hc)))
 all_goals (try (exfalso; first | omega | (simp at hg; done)))
 (repeat (refine stq ?_))
 refine AW_loopC (fun k : Nat => k <= h.length) (fun k => mkSt [(2,.box 0 0),(3,.box 1 0),(5,.pv (vi k))] [(0,boH h),(1,boH h)] 2) (fun k => h.length - k) 0 (Nat.zero_le _) ?_ ?_
 ·(refine Le.mk ?_ ?_; all_goals (repeat' (first | exact trivial | refine sle ?_ | refine ⟨?_,rfl,?_⟩ | refine ⟨?_,by decide,rfl,?_⟩ | fail)))
 ·intro k hk
  (repeat (refine stq ?_))
  refine AW_if rfl (fun hc => ?_) (fun hc => ?_)
  ·have hk' : k < h.length := by omega
   obtain ⟨x,hx⟩ : ∃ x,h[k]? = some x := ⟨h[k],by simp [hk']⟩
   have e1 : (h.map eDye)[((k : Nat) : Int).toNat]? = some (eDye x) := get_map eDye hx
   have k32 : ACalls Tryz.prog 32 [eSpans x.takes,eSpans x.takes] (fun r => r = .pv (.bool true)):= by
    have := f32 x.takes x.takes (hh2 x (List.mem_of_getElem? hx))
    rwa [decide_eq_true rfl] at this
   (repeat (refine stq ?_))
   iterate 12 (refine sdq ?_)
   refine DG_boolF hT rfl (decide_eq_false (by simp)) ?_
   (repeat (first | refine sdq ?_ | refine DG_next (D_call rfl rfl rfl rfl rfl (k32)) ?_))
   refine DG_end hM (by kernel_rfl) ?_
   (repeat (refine stq ?_))
   refine ⟨k + 1,hk',by omega,?_⟩
   (refine Le.mk ?_ ?_; all_goals (repeat' (first | exact trivial | refine sle ?_ | refine ⟨?_,rfl,?_⟩ | refine ⟨?_,by decide,rfl,?_⟩ | fail)))
  ·have hk' : k = h.length := by omega
   subst hk'
   (repeat (refine stq ?_))
   exact ⟨_,_,rfl,rfl,rfl⟩
set_option maxHeartbeats 8000000 in
theorem f95s (l : List Stock) (hl : stocksOK l) : ACalls Tryz.prog 95 [eStocks l,eStocks l] (fun r => r = .pv (.bool true)):= by
 obtain ⟨hl1,hl2⟩ := hl
 refine ACalls.of_body hT Tryz.func95 rfl (by kernel_rfl) rfl ?_
 (repeat' (first | refine stq ?_ | ((first | (with_reducible refine AL_id ?_); (fail_if_success (refine AL_glit rfl rfl rfl (by first | exact .inl (by with_reducible rfl) | exact .inr (by with_reducible rfl)) ?_)); first | refine AL_gdec rfl rfl rfl (fun hg => ?_) (fun hg => ?_) | refine AL_gnot rfl rfl rfl (fun hg => ?_) (fun hg => ?_) | refine AL_gcases rfl rfl rfl (fun hg => ?_) (fun hg => ?_)) <;> (try (exfalso; omega))) | refine AW_if rfl (fun hc => absurd hc (by omega)) (fun _ => ?_) | refine AW_if rfl (fun _ => ?_) (fun hc => absurd (by omega) hc)))
 all_goals (try (exfalso; first | omega | (simp at hg; done)))
 (repeat (refine stq ?_))
 refine AW_loopC (fun k : Nat => k <= l.length) (fun k => mkSt [(0,.pv (eStocks l)),(1,.pv (eStocks l)),(5,.pv (vi k))] [] 0) (fun k => l.length - k) 0 (Nat.zero_le _) ?_ ?_
 ·(refine Le.mk ?_ ?_; all_goals (repeat' (first | exact trivial | refine sle ?_ | refine ⟨?_,rfl,?_⟩ | refine ⟨?_,by decide,rfl,?_⟩ | fail)))
 ·intro k hk
  (repeat (refine stq ?_))
  refine AW_if rfl (fun hc => ?_) (fun hc => ?_)
  ·have hk' : k < l.length := by omega
   obtain ⟨x,hx⟩ : ∃ x,l[k]? = some x := ⟨l[k],by simp [hk']⟩
   have e1 : (l.map eStock)[((k : Nat) : Int).toNat]? = some (eStock x) := get_map eStock hx
   have hb := hl2 x (List.mem_of_getElem? hx)
   (repeat (refine stq ?_))
   iterate 10 (refine sdq ?_)
   refine DG_boolF hT rfl (decide_eq_false (by simp)) ?_
   iterate 11 (refine sdq ?_)
   refine DG_boolF hT rfl (decide_eq_false (by simp)) ?_
   iterate 14 (refine sdq ?_)
   refine DG_boolF hT rfl (decide_eq_false (by simp)) ?_
   (repeat (first | refine sdq ?_))
   refine DG_end hM (by kernel_rfl) ?_
   (repeat (refine stq ?_))
   refine AW_loopC (fun j : Nat => j <= x.baths.length) (fun j => mkSt [(0,.pv (eStocks l)),(1,.pv (eStocks l)),(5,.pv (vi k)),(6,.pv (vi j))] [] 0) (fun j => x.baths.length - j) 0 (Nat.zero_le _) ?_ ?_
   ·(refine Le.mk ?_ ?_; all_goals (repeat' (first | exact trivial | refine sle ?_ | refine ⟨?_,rfl,?_⟩ | refine ⟨?_,by decide,rfl,?_⟩ | fail)))
   ·intro j hj
    (repeat (refine stq ?_))
    refine AW_if rfl (fun hc2 => ?_) (fun hc2 => ?_)
    ·have hj' : j < x.baths.length := by omega
     obtain ⟨y,hy⟩ : ∃ y,x.baths[j]? = some y := ⟨x.baths[j],by simp [hj']⟩
     have e2 : (x.baths.map eBath)[((j : Nat) : Int).toNat]? = some (eBath y) := get_map eBath hy
     (repeat (refine stq ?_))
     iterate 16 (refine sdq ?_)
     refine DG_next (D_neqS (ms := [y.dye,y.temper,y.hours.low,y.hours.high]) (ns := [y.dye,y.temper,y.hours.low,y.hours.high]) aggEq154 rfl rfl rfl rfl rfl rfl rfl) ?_
     refine DG_end hM (by kernel_rfl) ?_
     (repeat (refine stq ?_))
     refine AW_cond rfl (fun hc2 => absurd hc2 (by simp)) (fun hc2 => ?_)
     (repeat (refine stq ?_))
     refine ⟨j + 1,hj',by omega,?_⟩
     (refine Le.mk ?_ ?_; all_goals (repeat' (first | exact trivial | refine sle ?_ | refine ⟨?_,rfl,?_⟩ | refine ⟨?_,by decide,rfl,?_⟩ | fail)))
    ·have hj' : j = x.baths.length := by omega
     (repeat (refine stq ?_))
     refine ⟨k + 1,hk',by omega,?_⟩
     (refine Le.mk ?_ ?_; all_goals (repeat' (first | exact trivial | refine sle ?_ | refine ⟨?_,rfl,?_⟩ | refine ⟨?_,by decide,rfl,?_⟩ | fail)))
  ·have hk' : k = l.length := by omega
   subst hk'
   (repeat (refine stq ?_))
   exact ⟨_,_,rfl,rfl,rfl⟩
end Go.Abs
