/- Print: the text. -/
import Derived.Test.YtkmclnjmabljdaaGreatDoorKNeA
import Derived.Test.YtkmclnjmabljdaaGreatDoorKNdH
set_option linter.unusedVariables false
set_option linter.unusedSimpArgs false
namespace Go.Abs
open Go.Proofs
set_option linter.unusedVariables false
set_option linter.unusedSimpArgs false
set_option maxRecDepth 100000
def nmTop : ByteArray := "house".toUTF8
def nmDye : ByteArray := "dye".toUTF8
def nmStock : ByteArray := "stock".toUTF8
def nmBath : ByteArray := "bath".toUTF8
def topNums (h : List Dye) (l : List Stock) : List Int := [(h.length : Int),(l.length : Int)]
def stNums (s : Stock) : List Int := [s.many,s.price,(s.baths.length : Int)]
def baNums (b : Bath) : List Int := [b.dye,b.temper,b.hours.low,b.hours.high]
def rowsNums (h : List Dye) (l : List Stock) : List (List Int) := topNums h l :: (h.map dyeNums ++ l.flatMap fun s => stNums s :: s.baths.map baNums)
def blkB (s : Stock) : List ByteArray := lineB nmStock (stNums s) :: s.baths.map fun b => lineB nmBath (baNums b)
def headB (h : List Dye) (l : List Stock) : List ByteArray := lineB nmTop (topNums h l) :: h.map fun d => lineB nmDye (dyeNums d)
def linesB (h : List Dye) (l : List Stock) : List ByteArray := headB h l ++ l.flatMap blkB
def bsum : List UInt8 -> Int -> Int
 | [],_ => 0
 | b :: r,p => (b.toNat : Int) * p + bsum r (p + 1)
theorem bsum_append : ∀ (l m : List UInt8) (p : Int),bsum (l ++ m) p = bsum l p + bsum m (p + l.length)
 | [],m,p => by simp [bsum]
 | x :: l,m,p => by
  simp only [List.cons_append,bsum,bsum_append l m,List.length_cons,Int.natCast_add,Int.natCast_one]
  rw [show p + 1 + (l.length : Int) = p + ((l.length : Int) + 1) by omega]; omega
theorem bsum_bd : ∀ (l : List UInt8) (p : Int),0 <= p -> p + l.length <= 1001 -> 0 <= bsum l p /\ bsum l p <= 300000 * l.length
 | [],p,_,_ => by simp [bsum]
 | b :: l,p,h0,h1 => by
  simp only [List.length_cons,Int.natCast_add,Int.natCast_one] at h1 ⊢
  have ih := bsum_bd l (p + 1) (by omega) (by omega)
  have hb : (b.toNat : Int) <= 255 := by have := b.toNat_lt; omega
  have h2 : 0 <= (b.toNat : Int) * p := Int.mul_nonneg (by omega) h0
  have h3 : (b.toNat : Int) * p <= 255 * 1001 := Int.mul_le_mul hb (by omega) h0 (by omega)
  simp only [bsum]; omega
def lineSum (x : ByteArray) : Int := bsum x.data.toList 1
def checkI (L : List ByteArray) : Int := sumI (L.map lineSum)
def nlB : ByteArray := ⟨#[10]⟩
def endB : ByteArray := ⟨#[10,101,110,100,32]⟩
def textOf (L : List ByteArray) : ByteArray := (((joinB L nlB ++ endB) ++ itoaB (checkI L % 113 / 100)) ++ itoaB (checkI L % 113 / 10 % 10)) ++ itoaB (checkI L % 113 % 10) ++ nlB
def textB (h : List Dye) (l : List Stock) : ByteArray := textOf (linesB h l)
def eStrC (x : ByteArray) : List PV := [.str x]
theorem itoa_size {n : Nat} (h : n < 100) : (itoaB n).size <= 2:= by
 have : ∀ m : Fin 100,(Lib.decDigits m.1).length <= 2:= by
  intro m
  unfold Lib.decDigits
  split
  ·simp
  ·unfold Lib.decDigits
   split
   ·simp
   ·have := m.2; omega
 exact this ⟨n,h⟩
theorem join_size {L : List ByteArray} (hL : L.length <= 900) (hs : ∀ x ∈ L,x.size <= 500) : (joinB L nlB).size <= 500000:= by
 have key : ∀ (L : List ByteArray),(∀ x ∈ L,x.size <= 500) -> Lib.lens (L.map (·.data.toList)) <= 500 * L.length:= by
  intro L
  induction L with
  | nil => intro _; simp [Lib.lens]
  | cons x L ih =>
   intro h
   have h1 := ih fun y hy => h y (by simp [hy])
   have h2 : x.data.toList.length <= 500 := h x (by simp)
   simp only [Lib.lens,List.map_cons,List.sum_cons,List.length_cons] at h1 ⊢
   omega
 show (Lib.join (L.map (·.data.toList)) nlB.data.toList).toArray.size <= _
 cases L with
 | nil => simp [Lib.join_nil]
 | cons x L =>
  have := key (x :: L) hs
  simp only [List.map_cons,List.size_toArray,Lib.join_length,List.length_map,List.length_cons] at this hL ⊢
  have h1 : nlB.data.toList.length = 1 := rfl
  rw [h1]; omega
def SizesOK (L : List ByteArray) : Prop := L ≠ [] /\ L.length <= 900 /\ ∀ x ∈ L,x.size <= 500
theorem lineSum_bd {x : ByteArray} (h : x.size <= 500) : 0 <= lineSum x /\ lineSum x <= 150000000:= by
 have h1 : x.data.toList.length = x.size := rfl
 have := bsum_bd x.data.toList 1 (by omega) (by omega)
 unfold lineSum; omega
theorem checkI_bd {L : List ByteArray} (hL : L.length <= 900) (hs : ∀ x ∈ L,x.size <= 500) : 0 <= checkI L /\ checkI L <= 150000000 * 900:= by
 have key : ∀ (L : List ByteArray),(∀ x ∈ L,x.size <= 500) -> 0 <= checkI L /\ checkI L <= 150000000 * L.length:= by
  intro L
  induction L with
  | nil => intro _; simp [checkI,sumI]
  | cons x L ih =>
   intro h
   have h1 := ih fun y hy => h y (by simp [hy])
   have h2 := lineSum_bd (h x (by simp))
   simp only [checkI,List.map_cons,sumI,List.length_cons,Int.natCast_add,Int.natCast_one] at h1 ⊢
   omega
 have := key L hs
 omega
theorem byte_wrap (b : UInt8) : IntKind.i64.wrap (b.toNat : Int) = b.toNat:= by
 have := b.toNat_lt
 unfold IntKind.wrap; simp [IntKind.signed,IntKind.bits]; omega
theorem nat_wrap {n : Nat} (h : n < 1000) : IntKind.i64.wrap (n : Int) = n:= by
 unfold IntKind.wrap; simp [IntKind.signed,IntKind.bits]; omega
set_option maxHeartbeats 8000000 in
theorem f156w (h : List Dye) (l : List Stock) (hh : h.length <= 900) (hl : l.length <= 900) (htk : ∀ d ∈ h,d.takes.length <= 10) (hbt : ∀ s ∈ l,s.baths.length <= 900) (hOK : SizesOK (linesB h l)) (hn : ∀ ns ∈ rowsNums h l,NumsOK ns) : ACalls Tryz.prog 156 [eHouse h,eStocks l] (fun r => r = .pv (.str (textB h l))):= by
 have hnTop : NumsOK (topNums h l) := hn _ (by simp [rowsNums])
 have hnDye : ∀ d ∈ h,NumsOK (dyeNums d) := fun d hd => hn _ (by simp only [rowsNums,List.mem_cons,List.mem_append,List.mem_map]; exact .inr (.inl ⟨d,hd,rfl⟩))
 have hnSt : ∀ s ∈ l,NumsOK (stNums s) := fun s hs => hn _ (by simp only [rowsNums,List.mem_cons,List.mem_append,List.mem_flatMap]; exact .inr (.inr ⟨s,hs,.inl rfl⟩))
 have hnBa : ∀ s ∈ l,∀ b ∈ s.baths,NumsOK (baNums b) := fun s hs b hb => hn _ (by simp only [rowsNums,List.mem_cons,List.mem_append,List.mem_flatMap,List.mem_map]; exact .inr (.inr ⟨s,hs,.inr ⟨b,hb,rfl⟩⟩))
 have hdl : ∀ d ∈ h,(dyeNums d).length <= 21 := fun d hd => by
  have := htk d hd
  rw [dyeNums,List.length_cons,flatMap_const_len (c := 2) (fun _ => rfl)]; omega
 refine ACalls.of_body hT Tryz.func156 rfl (by kernel_rfl) rfl ?_
 (repeat' (first | refine stp ?_ | refine stz ?_ | (refine AL_do2 rfl ?_; first | refine ⟨_,op_call1 rfl rfl rfl rfl (f199top (h.length : Int) (l.length : Int) hnTop (by simp)),?_⟩) | refine AL_gdec rfl rfl rfl (fun hg => ?_) (fun hg => ?_) | refine AL_gnot rfl rfl rfl (fun hg => ?_) (fun hg => ?_) | refine AL_gcases rfl rfl rfl (fun hg => ?_) (fun hg => ?_)))
 refine AW_loopC (fun k : Nat => k <= h.length) (fun k => mkSt [(1,.pv (eStocks l)),(5,.arr 1),(26,.pv (.sl (h.map eDye))),(27,.pv (vi h.length)),(28,.pv (vi k))]
  [(1,.arr 9 1 ((lineB nmTop (topNums h l) :: (h.take k).map fun d => lineB nmDye (dyeNums d)).map eStrC))] 2) (fun k => h.length - k) 0 (Nat.zero_le _) ?_ ?_
 ·(refine Le.mk ?_ ?_; all_goals (repeat' (first | exact trivial | refine sle ?_ | refine ⟨?_,rfl,?_⟩ | refine ⟨?_,by decide,rfl,?_⟩ | fail)))
 ·intro k hk
  have hLl : (lineB nmTop (topNums h l) :: (h.take k).map fun d => lineB nmDye (dyeNums d)).length <= 3000 := by simp; omega
  generalize hL : (lineB nmTop (topNums h l) :: (h.take k).map fun d => lineB nmDye (dyeNums d)) = L at hLl ⊢
  (repeat (refine stp ?_))
  refine AW_if rfl (fun hc => ?_) (fun hc => ?_)
  ·have hk' : k < h.length := by omega
   obtain ⟨d,hd⟩ : ∃ d,h[k]? = some d := ⟨h[k],by simp [hk']⟩
   have e1 := get_map eDye hd
   have hm := List.mem_of_getElem? hd
   (repeat' (first | refine stp ?_ | refine stz ?_ | (refine AL_do2 rfl ?_; first | refine ⟨_,op_call1 rfl rfl rfl rfl (f199kind d (by have := htk d hm; omega) (hnDye d hm) (by have := hdl d hm; omega)),?_⟩) | refine AL_gdec rfl rfl rfl (fun hg => ?_) (fun hg => ?_) | refine AL_gnot rfl rfl rfl (fun hg => ?_) (fun hg => ?_) | refine AL_gcases rfl rfl rfl (fun hg => ?_) (fun hg => ?_)))
   refine ⟨k + 1,hk',by omega,?_⟩
   (refine Le.mkR [(1,4)] ?_ ?_ rfl; all_goals (repeat' (first | exact trivial | refine sle ?_ | refine ⟨?_,rfl,?_⟩ | refine ⟨?_,by decide,rfl,?_⟩ | fail)))
   rw [map_take_succ _ hd,<- List.cons_append,hL,List.map_append]; rfl
  ·have hk' : k = h.length := by omega
   rw [hk',List.take_length] at hL
   change headB h l = L at hL
   subst hL
   (repeat (refine stp ?_))
   refine AW_loopC (fun k : Nat => k <= l.length) (fun k => mkSt [(5,.arr 1),(40,.pv (eStocks l)),(41,.pv (vi l.length)),(42,.pv (vi k))] [(1,.arr 9 1 ((headB h l ++ (l.take k).flatMap blkB).map eStrC))] 2) (fun k => l.length - k) 0 (Nat.zero_le _) ?_ ?_
   ·(refine Le.mk ?_ ?_; all_goals (repeat' (first | exact trivial | refine sle ?_ | refine ⟨?_,rfl,?_⟩ | refine ⟨?_,by decide,rfl,?_⟩ | fail)))
    show some (AObj.arr 9 1 ((headB h l).map eStrC)) = some (AObj.arr 9 1 ((headB h l ++ (l.take 0).flatMap blkB).map eStrC)); simp
   ·intro k hk
    (repeat (refine stp ?_))
    refine AW_if rfl (fun hc => ?_) (fun hc => ?_)
    ·have hk' : k < l.length := by omega
     obtain ⟨s,hs⟩ : ∃ s,l[k]? = some s := ⟨l[k],by simp [hk']⟩
     have e1 := get_map eStock hs
     have hm := List.mem_of_getElem? hs
     have hb10 := hbt s hm
     have hfl : (headB h l ++ (l.take k).flatMap blkB).length <= 900:= by
      have h1 := hOK.2.1
      have h2 : l.flatMap blkB = (l.take k).flatMap blkB ++ (l.drop k).flatMap blkB := by rw [<- List.flatMap_append,List.take_append_drop]
      rw [linesB,h2] at h1
      simp only [List.length_append] at h1 ⊢; omega
     generalize hL0 : (headB h l ++ (l.take k).flatMap blkB) = L0 at hfl ⊢
     (repeat' (first | refine stp ?_ | refine stz ?_ | (refine AL_do2 rfl ?_; first | refine ⟨_,op_call1 rfl rfl rfl rfl (f199lot s (by omega) (hnSt s hm) (by simp)),?_⟩) | refine AL_gdec rfl rfl rfl (fun hg => ?_) (fun hg => ?_) | refine AL_gnot rfl rfl rfl (fun hg => ?_) (fun hg => ?_) | refine AL_gcases rfl rfl rfl (fun hg => ?_) (fun hg => ?_)))
     refine AW_loopC (fun j : Nat => j <= s.baths.length) (fun j => mkSt [(5,.arr 2),(40,.pv (eStocks l)),(41,.pv (vi l.length)),(42,.pv (vi k)),(54,.pv (eBaths s.baths)),(55,.pv (vi s.baths.length)),(56,.pv (vi j))]
      [(2,.arr 9 1 ((L0 ++ (lineB nmStock (stNums s) :: (s.baths.take j).map fun b => lineB nmBath (baNums b))).map eStrC))] 3) (fun j => s.baths.length - j) 0 (Nat.zero_le _) ?_ ?_
     ·(refine Le.mkR [(2,4)] ?_ ?_ rfl; all_goals (repeat' (first | exact trivial | refine sle ?_ | refine ⟨?_,rfl,?_⟩ | refine ⟨?_,by decide,rfl,?_⟩ | fail)))
      show some (AObj.arr 9 1 (L0.map eStrC ++ [eStrC (lineB nmStock (stNums s))])) = some (AObj.arr 9 1 ((L0 ++ (lineB nmStock (stNums s) :: (s.baths.take 0).map fun b => lineB nmBath (baNums b))).map eStrC)); simp
     ·intro j hj
      have hLl : (L0 ++ (lineB nmStock (stNums s) :: (s.baths.take j).map fun b => lineB nmBath (baNums b))).length <= 3000 := by simp; omega
      generalize hL : (L0 ++ (lineB nmStock (stNums s) :: (s.baths.take j).map fun b => lineB nmBath (baNums b))) = L at hLl ⊢
      (repeat (refine stp ?_))
      refine AW_if rfl (fun hc => ?_) (fun hc => ?_)
      ·have hj' : j < s.baths.length := by omega
       obtain ⟨b,hb⟩ : ∃ b,s.baths[j]? = some b := ⟨s.baths[j],by simp [hj']⟩
       have e2 := get_map eBath hb
       have hm2 := List.mem_of_getElem? hb
       (repeat' (first | refine stp ?_ | refine stz ?_ | (refine AL_do2 rfl ?_; first | refine ⟨_,op_call1 rfl rfl rfl rfl (f199bath b (hnBa s hm b hm2) (by simp)),?_⟩) | refine AL_gdec rfl rfl rfl (fun hg => ?_) (fun hg => ?_) | refine AL_gnot rfl rfl rfl (fun hg => ?_) (fun hg => ?_) | refine AL_gcases rfl rfl rfl (fun hg => ?_) (fun hg => ?_)))
       refine ⟨j + 1,hj',by omega,?_⟩
       (refine Le.mkR [(2,5)] ?_ ?_ rfl; all_goals (repeat' (first | exact trivial | refine sle ?_ | refine ⟨?_,rfl,?_⟩ | refine ⟨?_,by decide,rfl,?_⟩ | fail)))
       rw [map_take_succ _ hb,<- List.cons_append,<- List.append_assoc,hL,List.map_append]; rfl
      ·have hj' : j = s.baths.length := by omega
       rw [hj',List.take_length] at hL
       (repeat (refine stp ?_))
       refine ⟨k + 1,hk',by omega,?_⟩
       (refine Le.mkR [(1,2)] ?_ ?_ rfl; all_goals (repeat' (first | exact trivial | refine sle ?_ | refine ⟨?_,rfl,?_⟩ | refine ⟨?_,by decide,rfl,?_⟩ | fail)))
       show some (AObj.arr 9 1 (L.map eStrC)) = some (AObj.arr 9 1 ((headB h l ++ (l.take (k + 1)).flatMap blkB).map eStrC))
       rw [<- hL,List.take_add_one,hs,<- hL0]
       simp [blkB]
    ·have hk' : k = l.length := by omega
     rw [hk',List.take_length]
     rw [show headB h l ++ l.flatMap blkB = linesB h l from rfl]
     unfold textB
     generalize linesB h l = L at hOK ⊢
     obtain ⟨hne,hLl,hsz⟩ := hOK
     refine AW_pure (t := 5) rfl rfl ?_
     (repeat (refine stp ?_))
     refine AW_loopC (fun i : Nat => i <= L.length) (fun i => mkSt [(5,.pv (eStrs L)),(12,.pv (vi (checkI (L.take i)))),(69,.pv (eStrs L)),(70,.pv (vi L.length)),(71,.pv (vi i))] [] 2) (fun i => L.length - i) 0 (Nat.zero_le _) ?_ ?_
     ·(refine Le.mk ?_ ?_; all_goals (repeat' (first | exact trivial | refine sle ?_ | refine ⟨?_,rfl,?_⟩ | refine ⟨?_,by decide,rfl,?_⟩ | fail)))
     ·intro i hi
      (repeat (refine stp ?_))
      refine AW_if rfl (fun hc => ?_) (fun hc => ?_)
      ·have hi' : i < L.length := by omega
       obtain ⟨x,hx⟩ : ∃ x,L[i]? = some x := ⟨L[i],by simp [hi']⟩
       have e3 := get_map eStrC hx
       have hxs := hsz x (List.mem_of_getElem? hx)
       have hcb := checkI_bd (L := L.take i) (by simp; omega) fun y hy => hsz y (List.mem_of_mem_take hy)
       have hxl : x.data.toList.length = x.size := rfl
       (repeat' (first | refine stp ?_ | refine stz ?_ | refine AL_gdec rfl rfl rfl (fun hg => ?_) (fun hg => ?_) | refine AL_gnot rfl rfl rfl (fun hg => ?_) (fun hg => ?_) | refine AL_gcases rfl rfl rfl (fun hg => ?_) (fun hg => ?_)))
       refine AW_loopC (fun j : Nat => j <= x.size) (fun j => mkSt [(5,.pv (eStrs L)),(12,.pv (vi (checkI (L.take i) + bsum (x.data.toList.take j) 1))),(14,.pv (.str x)),(69,.pv (eStrs L)),(70,.pv (vi L.length)),(71,.pv (vi i)),(76,.pv (vi x.size)),(77,.pv (vi j))] [] 2) (fun j => x.size - j) 0 (Nat.zero_le _) ?_ ?_
       ·(refine Le.mk ?_ ?_; all_goals (repeat' (first | exact trivial | refine sle ?_ | refine ⟨?_,rfl,?_⟩ | refine ⟨?_,by decide,rfl,?_⟩ | fail)))
        show some (FV.pv (vi (checkI (L.take i)))) = some (FV.pv (vi (checkI (L.take i) + bsum (x.data.toList.take 0) 1))); simp [bsum]
       ·intro j hj
        (repeat (refine stp ?_))
        refine AW_if rfl (fun hc => ?_) (fun hc => ?_)
        ·have hj' : j < x.size := by omega
         obtain ⟨b,hb⟩ : ∃ b,x.data.toList[j]? = some b := ⟨x.data.toList[j],by simp [hxl,hj']⟩
         have hb' : x[((j : Nat) : Int).toNat]? = some b:= by
          rw [Int.toNat_natCast]
          rw [List.getElem?_eq_getElem (by omega)] at hb
          rw [getElem?_pos x j hj']
          have hb3 : x.data[j]'hj' = b := by simpa using hb
          exact congrArg some hb3
         have hsb := bsum_bd (x.data.toList.take j) 1 (by omega) (by simp; omega)
         have hj2 : ((x.data.toList.take j).length : Int) = j := by simp; omega
         have hsn : bsum (x.data.toList.take (j + 1)) 1 = bsum (x.data.toList.take j) 1 + (b.toNat : Int) * ((j : Int) + 1):= by
          rw [List.take_add_one,hb,bsum_append,hj2]
          simp only [Option.toList_some,bsum]
          rw [show (1 : Int) + j = j + 1 by omega]; omega
         have hbt : (b.toNat : Int) <= 255 := by have := b.toNat_lt; omega
         have hm1 : 0 <= (b.toNat : Int) * ((j : Int) + 1) := Int.mul_nonneg (by omega) (by omega)
         have hm2 : (b.toNat : Int) * ((j : Int) + 1) <= 255 * 501 := Int.mul_le_mul hbt (by omega) (by omega) (by omega)
         have hw := byte_wrap b
         have hmul : -9223372036854775808 <= IntKind.i64.wrap (b.toNat : Int) * ((j : Int) + 1) /\ IntKind.i64.wrap (b.toNat : Int) * ((j : Int) + 1) <= 9223372036854775807 := by rw [hw]; omega
         have hmul2 : 0 <= IntKind.i64.wrap (b.toNat : Int) * ((j : Int) + 1) /\ IntKind.i64.wrap (b.toNat : Int) * ((j : Int) + 1) <= 255 * 501 := by rw [hw]; omega
         (repeat (refine stp ?_))
         refine AL_do2 rfl ⟨_,op_index_str hT rfl rfl rfl rfl rfl rfl (by omega) hb',?_⟩
         (repeat (refine stp ?_))
         refine ⟨j + 1,hj',by omega,?_⟩
         (refine Le.mk ?_ ?_; all_goals (repeat' (first | exact trivial | refine sle ?_ | refine ⟨?_,rfl,?_⟩ | refine ⟨?_,by decide,rfl,?_⟩ | fail)))
         show some (FV.pv (vi (checkI (L.take i) + bsum (x.data.toList.take j) 1 + IntKind.i64.wrap (b.toNat : Int) * ((j : Int) + 1)))) = some (FV.pv (vi (checkI (L.take i) + bsum (x.data.toList.take (j + 1)) 1)))
         rw [hsn,hw,Int.add_assoc]
        ·have hj' : j = x.size := by omega
         have hsn : checkI (L.take (i + 1)) = checkI (L.take i) + bsum (x.data.toList.take j) 1:= by
          rw [checkI,map_take_succ _ hx,sumI_append,hj',<- hxl,List.take_length]; simp [sumI,checkI,lineSum]
         rw [<- hsn]
         (repeat (refine stp ?_))
         refine ⟨i + 1,hi',by omega,?_⟩
         (refine Le.mk ?_ ?_; all_goals (repeat' (first | exact trivial | refine sle ?_ | refine ⟨?_,rfl,?_⟩ | refine ⟨?_,by decide,rfl,?_⟩ | fail)))
      ·have hi' : i = L.length := by omega
       rw [hi',List.take_length]
       have hcb := checkI_bd hLl hsz
       have hjs := join_size hLl hsz
       obtain ⟨c,hc,hc2⟩ : ∃ c : Nat,(checkI L).tmod 113 = c /\ c < 113 := ⟨((checkI L).tmod 113).toNat,by
        have := Int.tmod_nonneg 113 hcb.1; omega,by
        have := Int.tmod_nonneg 113 hcb.1; have := Int.tmod_lt_of_pos (checkI L) (b := 113) (by omega); omega⟩
       have hcm : checkI L % 113 = (c : Int) := by rw [<- hc,Int.tmod_eq_emod_of_nonneg hcb.1]
       have hq1 : IntKind.i64.wrap ((c : Int).tdiv 100) = ((c / 100 : Nat) : Int) := by rw [show (c : Int).tdiv 100 = ((c / 100 : Nat) : Int) from rfl,nat_wrap (by omega)]
       have hq2 : (IntKind.i64.wrap ((c : Int).tdiv 10)).tmod 10 = ((c / 10 % 10 : Nat) : Int) := by rw [show (c : Int).tdiv 10 = ((c / 10 : Nat) : Int) from rfl,nat_wrap (by omega)]; rfl
       have hq3 : (c : Int).tmod 10 = ((c % 10 : Nat) : Int) := rfl
       have i1 := itoa_size (n := c / 100) (by omega)
       have i2 := itoa_size (n := c / 10 % 10) (by omega)
       have i3 := itoa_size (n := c % 10) (by omega)
       have e0 : endB.size = 5 := rfl
       have n0 : nlB.size = 1 := rfl
       have hx0 : (joinB L nlB ++ endB).size <= 500010 := by rw [app_size]; omega
       have hx1 : ((joinB L nlB ++ endB) ++ itoaB (c / 100 : Nat)).size <= 500020 := by rw [app_size]; omega
       have hx2 : (((joinB L nlB ++ endB) ++ itoaB (c / 100 : Nat)) ++ itoaB (c / 10 % 10 : Nat)).size <= 500030 := by rw [app_size]; omega
       have hx3 : ((((joinB L nlB ++ endB) ++ itoaB (c / 100 : Nat)) ++ itoaB (c / 10 % 10 : Nat)) ++ itoaB (c % 10 : Nat)).size <= 500040 := by rw [app_size]; omega
       have j1 : (Lib.join (L.map (·.data.toList)) nlB.data.toList).length <= 140737488355328:= by
        have : (joinB L nlB).size = (Lib.join (L.map (·.data.toList)) nlB.data.toList).length := rfl
        omega
       (repeat (refine stp ?_))
       refine AL_do2 rfl ⟨_,op_rem rfl rfl rfl rfl (by decide),?_⟩
       rw [hc]
       (repeat' (first | refine stp ?_ | (refine AL_do2 rfl ?_; first | refine ⟨_,op_call1 rfl rfl rfl rfl (f200 L nlB (by omega) hne j1),?_⟩) | refine AL_gdec rfl rfl rfl (fun hg => ?_) (fun hg => ?_) | refine AL_gnot rfl rfl rfl (fun hg => ?_) (fun hg => ?_) | refine AL_gcases rfl rfl rfl (fun hg => ?_) (fun hg => ?_)))
       refine AL_do2 rfl ⟨_,op_strcat (u := joinB L nlB) (v := endB) rfl rfl rfl rfl (by omega),?_⟩
       (repeat (refine stp ?_))
       refine AL_do2 rfl ⟨_,op_quo rfl rfl rfl rfl (by decide),?_⟩
       rw [hq1]
       (repeat' (first | refine stp ?_ | (refine AL_do2 rfl ?_; first | refine ⟨_,op_call1 rfl rfl rfl rfl (f201 (c / 100) (by omega)),?_⟩) | refine AL_gdec rfl rfl rfl (fun hg => ?_) (fun hg => ?_) | refine AL_gnot rfl rfl rfl (fun hg => ?_) (fun hg => ?_) | refine AL_gcases rfl rfl rfl (fun hg => ?_) (fun hg => ?_)))
       refine AL_do2 rfl ⟨_,op_strcat (u := joinB L nlB ++ endB) (v := itoaB (c / 100 : Nat)) rfl rfl rfl rfl (by omega),?_⟩
       (repeat (refine stp ?_))
       refine AL_do2 rfl ⟨_,op_quo rfl rfl rfl rfl (by decide),?_⟩
       refine AL_do2 rfl ⟨_,op_rem rfl rfl rfl rfl (by decide),?_⟩
       rw [hq2]
       (repeat' (first | refine stp ?_ | (refine AL_do2 rfl ?_; first | refine ⟨_,op_call1 rfl rfl rfl rfl (f201 (c / 10 % 10) (by omega)),?_⟩) | refine AL_gdec rfl rfl rfl (fun hg => ?_) (fun hg => ?_) | refine AL_gnot rfl rfl rfl (fun hg => ?_) (fun hg => ?_) | refine AL_gcases rfl rfl rfl (fun hg => ?_) (fun hg => ?_)))
       refine AL_do2 rfl ⟨_,op_strcat (u := (joinB L nlB ++ endB) ++ itoaB (c / 100 : Nat)) (v := itoaB (c / 10 % 10 : Nat)) rfl rfl rfl rfl (by omega),?_⟩
       (repeat (refine stp ?_))
       refine AL_do2 rfl ⟨_,op_rem rfl rfl rfl rfl (by decide),?_⟩
       rw [hq3]
       (repeat' (first | refine stp ?_ | (refine AL_do2 rfl ?_; first | refine ⟨_,op_call1 rfl rfl rfl rfl (f201 (c % 10) (by omega)),?_⟩) | refine AL_gdec rfl rfl rfl (fun hg => ?_) (fun hg => ?_) | refine AL_gnot rfl rfl rfl (fun hg => ?_) (fun hg => ?_) | refine AL_gcases rfl rfl rfl (fun hg => ?_) (fun hg => ?_)))
       refine AL_do2 rfl ⟨_,op_strcat (u := ((joinB L nlB ++ endB) ++ itoaB (c / 100 : Nat)) ++ itoaB (c / 10 % 10 : Nat)) (v := itoaB (c % 10 : Nat)) rfl rfl rfl rfl (by omega),?_⟩
       refine AL_do2 rfl ⟨_,op_strcat (u := (((joinB L nlB ++ endB) ++ itoaB (c / 100 : Nat)) ++ itoaB (c / 10 % 10 : Nat)) ++ itoaB (c % 10 : Nat)) (v := nlB) rfl rfl rfl rfl (by omega),?_⟩
       (repeat (refine stp ?_))
       refine ⟨_,_,rfl,rfl,?_⟩
       unfold textOf
       rw [hcm]; rfl
theorem f156 (h : List Dye) (l : List Stock) (hh : h.length <= 10) (hl : l.length <= 10) (htk : ∀ d ∈ h,d.takes.length <= 10) (hbt : ∀ s ∈ l,s.baths.length <= 10) (hn : ∀ ns ∈ rowsNums h l,NumsOK ns) : ACalls Tryz.prog 156 [eHouse h,eStocks l] (fun r => r = .pv (.str (textB h l))):= by
 have hnTop : NumsOK (topNums h l) := hn _ (by simp [rowsNums])
 have hnDye : ∀ d ∈ h,NumsOK (dyeNums d) := fun d hd => hn _ (by simp only [rowsNums,List.mem_cons,List.mem_append,List.mem_map]; exact .inr (.inl ⟨d,hd,rfl⟩))
 have hnSt : ∀ s ∈ l,NumsOK (stNums s) := fun s hs => hn _ (by simp only [rowsNums,List.mem_cons,List.mem_append,List.mem_flatMap]; exact .inr (.inr ⟨s,hs,.inl rfl⟩))
 have hnBa : ∀ s ∈ l,∀ b ∈ s.baths,NumsOK (baNums b) := fun s hs b hb => hn _ (by simp only [rowsNums,List.mem_cons,List.mem_append,List.mem_flatMap,List.mem_map]; exact .inr (.inr ⟨s,hs,.inr ⟨b,hb,rfl⟩⟩))
 have hdl : ∀ d ∈ h,(dyeNums d).length <= 21 := fun d hd => by
  have := htk d hd
  rw [dyeNums,List.length_cons,flatMap_const_len (c := 2) (fun _ => rfl)]; omega
 have hOK : SizesOK (linesB h l):= by
  refine ⟨by simp [linesB,headB],?_,?_⟩
  ·have key : ∀ (l : List Stock),(∀ s ∈ l,s.baths.length <= 10) -> (l.flatMap blkB).length <= 11 * l.length:= by
    intro l
    induction l with
    | nil => intro _; simp
    | cons s l ih =>
     intro h
     have h1 := ih fun y hy => h y (by simp [hy])
     have h2 := h s (by simp)
     simp only [List.flatMap_cons,List.length_append,blkB,List.length_cons,List.length_map] at h1 ⊢
     omega
   have := key l hbt
   simp only [linesB,headB,List.length_append,List.length_cons,List.length_map]; omega
  ·intro x hx
   have z1 : nmTop.size <= 5 := by decide
   have z2 : nmDye.size <= 5 := by decide
   have z3 : nmStock.size <= 5 := by decide
   have z4 : nmBath.size <= 5 := by decide
   simp only [linesB,headB,List.cons_append,List.mem_cons,List.mem_append,List.mem_map,List.mem_flatMap,blkB] at hx
   rcases hx with rfl | ⟨d,hd,rfl⟩ | ⟨s,hs,rfl | ⟨b,hb,rfl⟩⟩
   ·have := lineB_size (nm := nmTop) hnTop
    simp only [topNums,List.length_cons,List.length_nil] at this ⊢; omega
   ·have := lineB_size (nm := nmDye) (hnDye d hd)
    have := hdl d hd; omega
   ·have := lineB_size (nm := nmStock) (hnSt s hs)
    simp only [stNums,List.length_cons,List.length_nil] at this ⊢; omega
   ·have := lineB_size (nm := nmBath) (hnBa s hs b hb)
    simp only [baNums,List.length_cons,List.length_nil] at this ⊢; omega
 exact f156w h l (by omega) (by omega) htk (fun s hs => by have := hbt s hs; omega) hOK hn
def printE (h : List Dye) (l : List Stock) : ByteArray × Int := if isHouseB h && areStocksB h l 0 then (textB h l,0) else (.empty,2)
theorem f90 (h : List Dye) (l : List Stock) (hh : houseOK h) (hl : stocksOK l) (hn : isHouseB h = true -> areStocksB h l 0 = true -> ∀ ns ∈ rowsNums h l,NumsOK ns) : ACalls Tryz.prog 90 [eHouse h,eStocks l] (fun r => r = .tup [.str (printE h l).1,vi (printE h l).2]):= by
 refine ACalls.of_body hT Tryz.func90 rfl (by kernel_rfl) rfl ?_
 (repeat' (first | refine stp ?_ | (refine AL_do2 rfl ?_; first | refine ⟨_,op_call1 rfl rfl rfl rfl (f105 h hh.1 hh.2),?_⟩ | refine ⟨_,op_call1 rfl rfl rfl rfl (f127 h l 0 hh.1 hl),?_⟩) | refine AL_gdec rfl rfl rfl (fun hg => ?_) (fun hg => ?_) | refine AL_gnot rfl rfl rfl (fun hg => ?_) (fun hg => ?_) | refine AL_gcases rfl rfl rfl (fun hg => ?_) (fun hg => ?_)))
 ·exact ⟨_,_,rfl,rfl,by simp_all [printE]; rfl⟩
 refine AW_cond rfl (fun hc => ?_) (fun hc => ?_)
 ·(repeat (refine stp ?_))
  exact ⟨_,_,rfl,rfl,by simp_all [printE]; rfl⟩
 ·have c1 : isHouseB h = true := by simp_all
  have c2 : areStocksB h l 0 = true := by simp_all
  have hP := houseP_of c1
  have hS := stocksP_of c2
  have hb : ∀ s ∈ l,s.baths.length <= 10 := fun s hs => by have := (hS.2 s hs).1.1; omega
  have hl5 : l.length <= 10 := by have := hS.1; omega
  (repeat' (first | refine stp ?_ | (refine AL_do2 rfl ?_; first | refine ⟨_,op_call1 rfl rfl rfl rfl (f156 h l (by have := hP.1; omega) hl5 (fun d hd => by have := (hP.2.2 d hd).1; omega) hb (hn c1 c2)),?_⟩) | refine AL_gdec rfl rfl rfl (fun hg => ?_) (fun hg => ?_) | refine AL_gnot rfl rfl rfl (fun hg => ?_) (fun hg => ?_) | refine AL_gcases rfl rfl rfl (fun hg => ?_) (fun hg => ?_)))
  exact ⟨_,_,rfl,rfl,by simp [printE,c1,c2]⟩
end Go.Abs
