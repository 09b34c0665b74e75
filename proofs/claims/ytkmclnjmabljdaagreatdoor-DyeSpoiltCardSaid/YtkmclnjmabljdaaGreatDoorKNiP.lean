/- Plain: houses with stocks as defined: their numbers are small, their text is short; a text of which one digit was changed is the text of none. -/
import Derived.Test.YtkmclnjmabljdaaGreatDoorKNiO
import Derived.Test.YtkmclnjmabljdaaGreatDoorKNdH
import Derived.Test.YtkmclnjmabljdaaGreatDoorKNeQ
import Derived.Test.YtkmclnjmabljdaaGreatDoorKNhB
import Derived.Test.YtkmclnjmabljdaaGreatDoorKNeB
set_option linter.unusedVariables false
set_option linter.unusedSimpArgs false
namespace Go.Abs
open Go.Proofs Go.RowKit
set_option linter.unusedVariables false
set_option linter.unusedSimpArgs false
set_option maxRecDepth 100000
theorem okT_of {h : List Dye} {l : List Stock} (hh : isHouseB h = true) (hl : areStocksB h l 0 = true) : h.length <= 3 /\ l.length <= 5 /\ (∀ s ∈ l,s.baths.length <= 3) /\ (∀ s ∈ l,∀ b ∈ s.baths,∀ x ∈ baNums b,0 <= x /\ x <= 12):= by
 have hP := houseP_of hh
 have hS := stocksP_of hl
 simp only [areStocksB,isStockB,isBatchB,inB,Bool.and_eq_true,decide_eq_true_eq,Bool.not_eq_true',List.any_eq_false,Bool.not_eq_false] at hl
 refine ⟨hP.1,by omega,fun s hs => (hl.2 s hs).1.1.1,fun s hs b hb => ?_⟩
 have hB := (batchP_of (h := h) (l := s.baths) (by
  simp only [isBatchB,Bool.and_eq_true,decide_eq_true_eq,Bool.not_eq_true',List.any_eq_false,Bool.not_eq_false]
  exact (hl.2 s hs).1.1)).2 b hb
 unfold BathP at hB
 have h3 := hP.1
 intro x hx
 simp only [baNums,List.mem_cons,List.not_mem_nil,or_false] at hx
 rcases hx with rfl | rfl | rfl | rfl <;> omega
theorem stLines_le {l : List Stock} (h : ∀ s ∈ l,s.baths.length <= 3) : stLines l <= 4 * l.length:= by
 induction l with
 | nil => exact Nat.le_refl _
 | cons s l ih =>
  have h1 := ih fun x hx => h x (by simp [hx])
  have h2 := h s (by simp)
  simp only [stLines,List.map_cons,List.sum_cons,List.length_cons] at h1 ⊢; omega
theorem smallT_of {h : List Dye} {l : List Stock} (hh : isHouseB h = true) (hl : areStocksB h l 0 = true) : SmallT h l:= by
 have hP := houseP_of hh
 have hS := stocksP_of hl
 obtain ⟨q1,q2,q3,q4⟩ := okT_of hh hl
 have hst := stLines_le q3
 refine ⟨fun d hd => ?_,fun s hs => ?_,by omega⟩
 ·obtain ⟨g1,g2,g3,g4⟩ := hP.2.2 d hd
  refine ⟨g1,fun x hx => ?_⟩
  unfold smallI
  simp only [dyeNums,List.mem_cons,List.mem_flatMap,List.not_mem_nil,or_false] at hx
  rcases hx with rfl | ⟨t,ht,rfl | rfl⟩
  ·omega
  ·have := g4 t ht; omega
  ·have := g4 t ht; omega
 ·simp only [areStocksB,isStockB,inB,Bool.and_eq_true,decide_eq_true_eq,Bool.not_eq_true',List.any_eq_false,Bool.not_eq_false] at hl
  have h1 := hl.2 s hs
  refine ⟨by unfold smallI; omega,by unfold smallI; omega,fun b hb x hx => ?_⟩
  have := q4 s hs b hb x hx
  unfold smallI; omega
theorem dD3 {n : Int} (h : 0 <= n /\ n <= 999) : (dD n).length <= 3:= by
 have := dec_len 3 n.toNat (by omega)
 unfold dD; omega
theorem dD2 {n : Int} (h : 0 <= n /\ n <= 12) : (dD n).length <= 2:= by
 have := dec_len 2 n.toNat (by omega)
 unfold dD; omega
theorem ln_len {w : List UInt8} {l : List Int} {c : Nat} (h : ∀ x ∈ l,(dD x).length <= c) : (ln w l).length <= w.length + (c + 1) * l.length:= by
 induction l using snocInd with
 | h0 => simp [ln,joinW]
 | h1 l x ih =>
  have h1 := ih fun y hy => h y (by simp [hy])
  have h2 := h x (by simp)
  simp only [ln,joinW,List.map_append,List.flatMap_append,List.length_append,List.map_cons,List.map_nil,List.flatMap_cons,List.flatMap_nil,List.append_nil,List.length_cons,List.length_nil] at h1 ⊢
  rw [Nat.mul_add]; omega
theorem fm_len (L : Lines) : (L.flatMap fun x => x ++ [10]).length = (L.map List.length).sum + L.length:= by
 induction L with
 | nil => rfl
 | cons x L ih => simp only [List.flatMap_cons,List.length_append,List.length_cons,List.length_nil,List.map_cons,List.sum_cons,ih]; omega
theorem sum_le {α : Type} (f : α -> Nat) (B : Nat) : ∀ (l : List α),(∀ x ∈ l,f x <= B) -> (l.map f).sum <= B * l.length
 | [],_ => by simp
 | x :: l,h => by
  have h1 := sum_le f B l fun y hy => h y (by simp [hy])
  have h2 := h x (by simp)
  simp only [List.map_cons,List.sum_cons,List.length_cons]
  rw [Nat.mul_add]; omega
theorem endN_len (c : Int) (h : 0 <= c /\ c < 113) : (endN c).length = 7:= by
 have h1 : ∀ k : Int,0 <= k -> k < 10 -> (itoaB k).data.toList.length = 1:= by
  intro k h0 h9
  rw [ito1 ⟨h0,h9⟩]; rfl
 unfold endN
 simp only [List.length_append]
 rw [h1 _ (by omega) (by omega),h1 _ (by omega) (by omega),h1 _ (by omega) (by omega)]
 rfl
theorem blk_len {h : List Dye} {l : List Stock} (H : SmallT h l) (q3 : ∀ s ∈ l,s.baths.length <= 3) (q4 : ∀ s ∈ l,∀ b ∈ s.baths,∀ x ∈ baNums b,0 <= x /\ x <= 12) {s : Stock} (hs : s ∈ l) : ((blkW s).flatMap fun x => x ++ [10]).length <= 69:= by
 have h1 := ln_len (w := wStock) (l := stNums s) (c := 3) fun x hx => dD3 (H.st hs x hx)
 have h2 := sum_le (fun b => (baW b).length) 16 s.baths fun b hb => ln_len (w := wBath) (l := baNums b) (c := 2) fun x hx => dD2 (q4 s hs b hb x hx)
 have h3 := q3 s hs
 have w1 : wStock.length = 5 := rfl
 have e1 : (stNums s).length = 3 := rfl
 have hc1 : (s.baths.map baW).map List.length = s.baths.map fun x => (baW x).length := by simp
 rw [fm_len,blkW]
 simp only [List.map_cons,List.sum_cons,List.length_cons,List.length_map,hc1] at *
 omega
theorem text_len {h : List Dye} {l : List Stock} (hh : isHouseB h = true) (hl : areStocksB h l 0 = true) : (textB h l).data.toList.length <= 500:= by
 have H := smallT_of hh hl
 obtain ⟨q1,q2,q3,q4⟩ := okT_of hh hl
 have hc : 0 <= checkI (linesB h l) % 113 /\ checkI (linesB h l) % 113 < 113 := ⟨Int.emod_nonneg _ (by omega),Int.emod_lt_of_pos _ (by omega)⟩
 have e0 := endN_len _ hc
 have e1 := ln_len (w := wTop) (l := topNums h l) (c := 3) fun x hx => dD3 (H.top x hx)
 have e2 := sum_le (fun d => (dyW d).length) 31 h fun d hd => by
  have := ln_len (w := wDye) (l := dyeNums d) (c := 3) fun x hx => dD3 (H.dy hd x hx)
  have h7 := (dy_nums (H.dye d hd)).1
  have w3 : wDye.length = 3 := rfl
  unfold dyW; omega
 have e3 : ((l.flatMap blkW).flatMap fun x => x ++ [10]).length <= 69 * l.length:= by
  rw [List.flatMap_assoc,List.length_flatMap]
  exact sum_le (fun s => ((blkW s).flatMap fun x => x ++ [10]).length) 69 l fun s hs => blk_len H q3 q4 hs
 have w5 : wTop.length = 5 := rfl
 have t2 : (topNums h l).length = 2 := rfl
 have hc1 : (h.map dyW).map List.length = h.map fun x => (dyW x).length := by simp
 rw [text_data,bodyW,List.cons_append,List.flatMap_cons,List.flatMap_append,List.flatMap_append,List.length_append,List.length_append,List.length_append,List.length_append,fm_len (h.map dyW),hc1,fm_len [endW h l]]
 unfold topW endW at *
 simp only [List.length_append,List.length_cons,List.length_nil,List.length_map,List.map_cons,List.map_nil,List.sum_cons,List.sum_nil,e0] at *
 omega
theorem lines_le {h : List Dye} {l : List Stock} (H : SmallT h l) : ∀ x ∈ topW h l :: bodyW h l,x.length <= 111:= by
 intro x hx
 have w1 : wTop.length = 5 := rfl
 have w2 : wDye.length = 3 := rfl
 have w3 : wStock.length = 5 := rfl
 have w4 : wBath.length = 4 := rfl
 simp only [List.mem_cons,List.mem_append,bodyW,List.mem_map,List.mem_flatMap,blkW] at hx
 rcases hx with rfl | (⟨d,hd,rfl⟩ | ⟨s,hs,rfl | ⟨b,hb,rfl⟩⟩)
 ·have := ln_len (w := wTop) (l := topNums h l) (c := 3) fun x hx => dD3 (H.top x hx)
  have t : (topNums h l).length = 2 := rfl
  unfold topW; omega
 ·have := ln_len (w := wDye) (l := dyeNums d) (c := 3) fun x hx => dD3 (H.dy hd x hx)
  have h7 := (dy_nums (H.dye d hd)).1
  unfold dyW; omega
 ·have := ln_len (w := wStock) (l := stNums s) (c := 3) fun x hx => dD3 (H.st hs x hx)
  have t : (stNums s).length = 3 := rfl
  omega
 ·have := ln_len (w := wBath) (l := baNums b) (c := 3) fun x hx => dD3 (H.ba hs hb x hx)
  have t : (baNums b).length = 4 := rfl
  unfold baW; omega
def chkW (A : Lines) : Int := sumI (A.map fun l => bsum l 1)
theorem chk_eq (h : List Dye) (l : List Stock) : checkI (linesB h l) = chkW (topW h l :: bodyW h l):= by
 unfold checkI chkW
 rw [<- lines_data,List.map_map]; rfl
def endV (c : Int) : List UInt8 := endN (c % 113)
theorem endW_V (h : List Dye) (l : List Stock) : endW h l = endV (chkW (topW h l :: bodyW h l)) := by unfold endW endV; rw [chk_eq]
theorem endV_inj {a b : Int} (h : endV a = endV b) : a % 113 = b % 113:= by
 have key : ∀ c : Int,0 <= c -> c < 113 -> endN c = [101,110,100,32,UInt8.ofNat (48 + (c / 100).toNat),UInt8.ofNat (48 + (c / 10 % 10).toNat),UInt8.ofNat (48 + (c % 10).toNat)]:= by
  intro c h0 h1
  unfold endN
  rw [ito1 (by omega),ito1 (by omega),ito1 (by omega)]
  rfl
 unfold endV at h
 have ha : 0 <= a % 113 /\ a % 113 < 113 := ⟨Int.emod_nonneg _ (by omega),Int.emod_lt_of_pos _ (by omega)⟩
 have hb : 0 <= b % 113 /\ b % 113 < 113 := ⟨Int.emod_nonneg _ (by omega),Int.emod_lt_of_pos _ (by omega)⟩
 rw [key _ ha.1 ha.2,key _ hb.1 hb.2] at h
 simp only [List.cons.injEq,and_true,true_and] at h
 obtain ⟨h1,h2,h3⟩ := h
 have e1 := ofNat_inj (by omega) (by omega) h1
 have e2 := ofNat_inj (by omega) (by omega) h2
 have e3 := ofNat_inj (by omega) (by omega) h3
 omega
theorem spoilt {h : List Dye} {l : List Stock} (hh : isHouseB h = true) (hl : areStocksB h l 0 = true) {i : Nat} {b b' : UInt8} (hi : (textB h l).data.toList[i]? = some b) (hb : 48 <= b.toNat /\ b.toNat <= 57) (hb' : 48 <= b'.toNat /\ b'.toNat <= 57) (hne : b ≠ b') : readM ((textB h l).data.toList.set i b') = none:= by
 cases hm : readM ((textB h l).data.toList.set i b') with
 | none => rfl
 | some q =>
  exfalso
  obtain ⟨h',l'⟩ := q
  have hln := text_len hh hl
  obtain ⟨hs1,hs2,hcn,ht⟩ := readM_ok (by rw [List.length_set]; omega) hm
  have hT : (textB h' l').data.toList = (textB h l).data.toList.set i b' := by rw [ht]; simp [bytesOf]
  have H := smallT_of hh hl
  have H' : SmallT h' l' := ⟨hs1,hs2,by omega⟩
  have e0 := split_text H
  have e1 := split_text H'
  have n10 : ∀ x : UInt8,48 <= x.toNat /\ x.toNat <= 57 -> x ≠ 10 := fun x hx he => by subst he; revert hx; decide
  obtain ⟨k,j,y,h1,h2,h3⟩ := splitS_set (c := 10) (n10 b hb) (n10 b' hb') _ i hi
  rw [<- hT,e1,e0] at h3
  rw [e0] at h1
  have hA : (topW h' l' :: bodyW h' l').length = (topW h l :: bodyW h l).length:= by
   have := congrArg List.length h3
   simp only [List.length_set,List.length_append,List.length_cons,List.length_nil] at this ⊢
   omega
  rw [endW_V,endW_V] at h3
  rw [endW_V] at h1
  have hlen := lines_le H
  generalize topW h l :: bodyW h l = A at *
  generalize topW h' l' :: bodyW h' l' = A' at *
  by_cases hk : k < A.length
  ·have hy : A[k]? = some y:= by
    rw [List.append_assoc,List.getElem?_append_left hk] at h1; exact h1
   rw [List.append_assoc,List.append_assoc,List.set_append_left _ _ hk] at h3
   obtain ⟨q1,q2⟩ := List.append_inj h3 (by rw [List.length_set]; exact hA)
   have q2 : endV (chkW A') = endV (chkW A) := by simpa using q2
   have q3 := endV_inj q2
   have hc : chkW A' = chkW A + ((b'.toNat : Int) - b.toNat) * (1 + j):= by
    rw [q1]
    unfold chkW
    rw [List.map_set,sumI_set _ k (bsum y 1) _ (by rw [List.getElem?_map,hy]; rfl),bsum_set b' y 1 j b h2]
    omega
   have hjl : j < y.length := (List.getElem?_eq_some_iff.1 h2).1
   have hyl := hlen y (List.mem_of_getElem? hy)
   have hne2 : (b'.toNat : Int) - b.toNat ≠ 0 := fun e => hne (UInt8.toNat_inj.1 (by omega))
   have := prod_mod (u := (b'.toNat : Int) - b.toNat) (v := 1 + j) hne2 (by omega) (by omega)
   rw [hc] at q3
   generalize ((b'.toNat : Int) - b.toNat) * (1 + j) = t at *
   omega
  ·by_cases hk2 : k = A.length
   ·subst hk2
    have hy : y = endV (chkW A):= by
     rw [List.append_assoc,List.getElem?_append_right (Nat.le_refl _)] at h1
     simpa using h1.symm
    rw [List.append_assoc,List.append_assoc,List.set_append_right _ _ (Nat.le_refl _)] at h3
    obtain ⟨q1,q2⟩ := List.append_inj h3 hA
    subst q1
    have q2 : endV (chkW A') = y.set j b' := by simpa using q2
    rw [<- hy] at q2
    have : (y.set j b')[j]? = some b':= by
     rw [List.getElem?_set,if_pos rfl,if_pos (List.getElem?_eq_some_iff.1 h2).1]
    rw [<- q2,h2] at this
    exact hne (by simpa using this)
   ·have hk3 : k = A.length + 1:= by
     have := (List.getElem?_eq_some_iff.1 h1).1
     simp only [List.length_append,List.length_cons,List.length_nil] at this
     omega
    subst hk3
    rw [List.append_assoc,List.getElem?_append_right (by omega)] at h1
    have : y = [] := by simpa using h1.symm
    subst this
    simp at h2
theorem f90K {h : List Dye} {l : List Stock} (hh : houseOK h) (hl : stocksOK l) : ACalls Tryz.prog 90 [eHouse h,eStocks l] (fun r => r = .tup [.str (printE h l).1,vi (printE h l).2]) :=
 f90 h l hh hl fun c1 c2 ns hns => by
  have H := smallT_of c1 c2
  refine numsK fun x hx => ?_
  have : 0 <= x /\ x <= 999:= by
   simp only [rowsNums,List.mem_cons,List.mem_append,List.mem_map,List.mem_flatMap] at hns
   rcases hns with rfl | ⟨d,hd,rfl⟩ | ⟨s,hs,rfl | ⟨b,hb,rfl⟩⟩
   ·exact H.top x hx
   ·exact H.dy hd x hx
   ·exact H.st hs x hx
   ·exact H.ba hs hb x hx
  omega
end Go.Abs
namespace Go.Abs
open Go.Proofs Go.RowKit
set_option linter.unusedVariables false
set_option linter.unusedSimpArgs false
set_option maxRecDepth 100000
theorem print_n {h : List Dye} {l : List Stock} (hb : (isHouseB h && areStocksB h l 0) = false) : printE h l = (.empty,2):= by
 unfold printE; rw [if_neg (by rw [hb]; decide)]
theorem print_y {h : List Dye} {l : List Stock} (h1 : isHouseB h = true) (h2 : areStocksB h l 0 = true) : printE h l = (textB h l,0):= by
 unfold printE; rw [if_pos (by rw [h1,h2]; rfl)]
theorem readE_text {h : List Dye} {l : List Stock} (h1 : isHouseB h = true) (h2 : areStocksB h l 0 = true) : readE (textB h l).data.toList = (h,l,0):= by
 have hl := text_len h1 h2
 unfold readE
 rw [if_neg (by omega),readM_text (smallT_of h1 h2)]
 simp only [h1,h2,Bool.and_self,if_true]
theorem f92d {h : List Dye} {l : List Stock} (h1 : isHouseB h = true) (h2 : areStocksB h l 0 = true) : ACalls Tryz.prog 92 [.str (textB h l)] (fun r => r = .tup [eHouse h,eStocks l,vi 0]):= by
 have k := f92 (textB h l).data.toList
 rw [readE_text h1 h2,show bytesOf (textB h l).data.toList = textB h l from bytes_ext rfl] at k
 exact k
theorem f93d {h : List Dye} {l : List Stock} (h1 : isHouseB h = true) (h2 : areStocksB h l 0 = true) : ACalls Tryz.prog 93 [eHouse h,eStocks l] (fun r => r = .pv (.str (textB h l))):= by
 obtain ⟨q1,q2,q3,q4⟩ := okT_of h1 h2
 have := stLines_le q3
 exact f93K (smallT_of h1 h2) (by omega)
set_option maxHeartbeats 8000000 in
theorem f24 (h : List Dye) (l : List Stock) : ACalls Tryz.prog 24 [eHouse h,eStocks l] (fun r => r = .pv (.bool true)):= by
 have k27 := f27 h
 have k47 := f47 l
 cases hs : slimB h with
 | false =>
  rw [hs] at k27
  refine ACalls.of_body hT Tryz.func24 rfl (by kernel_rfl) rfl ?_
  (repeat' (first | refine AL_skip rfl rfl ?_ | refine stq ?_ | (refine AL_do2 rfl ?_; first | refine ⟨_,op_call1 rfl rfl rfl rfl (k27),nrmA rfl ?_⟩ | refine ⟨_,op_call1 rfl rfl rfl rfl (k47),nrmA rfl ?_⟩ | refine ⟨_,op_call1 rfl rfl rfl rfl (f28),nrmA rfl ?_⟩) | ((first | (with_reducible refine AL_id ?_); (fail_if_success (refine AL_glit rfl rfl rfl (by first | exact .inl (by with_reducible rfl) | exact .inr (by with_reducible rfl)) ?_)); first | refine AL_gdec rfl rfl rfl (fun hg => ?_) (fun hg => ?_) | refine AL_gnot rfl rfl rfl (fun hg => ?_) (fun hg => ?_) | refine AL_gcases rfl rfl rfl (fun hg => ?_) (fun hg => ?_)) <;> (try (exfalso; omega))) | refine AW_if rfl (fun hc => absurd hc (by omega)) (fun _ => ?_) | refine AW_if rfl (fun _ => ?_) (fun hc => absurd (by omega) hc)))
  all_goals first | exact ⟨_,_,rfl,rfl,rfl⟩ | (exfalso; omega)
 | true =>
  cases hst : stockedB l with
  | false =>
   rw [hs] at k27
   rw [hst] at k47
   refine ACalls.of_body hT Tryz.func24 rfl (by kernel_rfl) rfl ?_
   (repeat' (first | refine AL_skip rfl rfl ?_ | refine stq ?_ | (refine AL_do2 rfl ?_; first | refine ⟨_,op_call1 rfl rfl rfl rfl (k27),nrmA rfl ?_⟩ | refine ⟨_,op_call1 rfl rfl rfl rfl (k47),nrmA rfl ?_⟩ | refine ⟨_,op_call1 rfl rfl rfl rfl (f28),nrmA rfl ?_⟩) | ((first | (with_reducible refine AL_id ?_); (fail_if_success (refine AL_glit rfl rfl rfl (by first | exact .inl (by with_reducible rfl) | exact .inr (by with_reducible rfl)) ?_)); first | refine AL_gdec rfl rfl rfl (fun hg => ?_) (fun hg => ?_) | refine AL_gnot rfl rfl rfl (fun hg => ?_) (fun hg => ?_) | refine AL_gcases rfl rfl rfl (fun hg => ?_) (fun hg => ?_)) <;> (try (exfalso; omega))) | refine AW_if rfl (fun hc => absurd hc (by omega)) (fun _ => ?_) | refine AW_if rfl (fun _ => ?_) (fun hc => absurd (by omega) hc)))
   all_goals first | exact ⟨_,_,rfl,rfl,rfl⟩ | (exfalso; omega)
  | true =>
   have hO := slim_houseOK hs
   have hO2 := (stocked_ok hst).2.2
   have k30 := f30 h hO
   have k91 := f91 h l 0 hO.1 hO2
   have k90 := f90K hO hO2
   rw [hs] at k27
   rw [hst] at k47
   cases h1 : isHouseB h with
   | false =>
    rw [print_n (by rw [h1]; rfl)] at k90
    rw [h1] at k30
    refine ACalls.of_body hT Tryz.func24 rfl (by kernel_rfl) rfl ?_
    (repeat' (first | refine AL_skip rfl rfl ?_ | refine stq ?_ | (refine AL_do2 rfl ?_; first | refine ⟨_,op_call1 rfl rfl rfl rfl (k27),nrmA rfl ?_⟩ | refine ⟨_,op_call1 rfl rfl rfl rfl (k47),nrmA rfl ?_⟩ | refine ⟨_,op_call1 rfl rfl rfl rfl (f28),nrmA rfl ?_⟩ | refine ⟨_,op_call1 rfl rfl rfl rfl (k90),nrmA rfl ?_⟩ | refine ⟨_,op_call1 rfl rfl rfl rfl (k30),nrmA rfl ?_⟩ | refine ⟨_,op_call1 rfl rfl rfl rfl (k91),nrmA rfl ?_⟩ | refine ⟨_,op_streqB (b := true) rfl rfl rfl rfl rfl,?_⟩) | ((first | (with_reducible refine AL_id ?_); (fail_if_success (refine AL_glit rfl rfl rfl (by first | exact .inl (by with_reducible rfl) | exact .inr (by with_reducible rfl)) ?_)); first | refine AL_gdec rfl rfl rfl (fun hg => ?_) (fun hg => ?_) | refine AL_gnot rfl rfl rfl (fun hg => ?_) (fun hg => ?_) | refine AL_gcases rfl rfl rfl (fun hg => ?_) (fun hg => ?_)) <;> (try (exfalso; omega))) | refine AW_if rfl (fun hc => absurd hc (by omega)) (fun _ => ?_) | refine AW_if rfl (fun _ => ?_) (fun hc => absurd (by omega) hc)))
    all_goals first | exact ⟨_,_,rfl,rfl,rfl⟩ | (exfalso; omega)
   | true =>
    rw [h1] at k30
    cases h2 : areStocksB h l 0 with
    | false =>
     rw [print_n (by rw [h1,h2]; rfl)] at k90
     rw [h2] at k91
     refine ACalls.of_body hT Tryz.func24 rfl (by kernel_rfl) rfl ?_
     (repeat' (first | refine AL_skip rfl rfl ?_ | refine stq ?_ | (refine AL_do2 rfl ?_; first | refine ⟨_,op_call1 rfl rfl rfl rfl (k27),nrmA rfl ?_⟩ | refine ⟨_,op_call1 rfl rfl rfl rfl (k47),nrmA rfl ?_⟩ | refine ⟨_,op_call1 rfl rfl rfl rfl (f28),nrmA rfl ?_⟩ | refine ⟨_,op_call1 rfl rfl rfl rfl (k90),nrmA rfl ?_⟩ | refine ⟨_,op_call1 rfl rfl rfl rfl (k30),nrmA rfl ?_⟩ | refine ⟨_,op_call1 rfl rfl rfl rfl (k91),nrmA rfl ?_⟩ | refine ⟨_,op_streqB (b := true) rfl rfl rfl rfl rfl,?_⟩) | ((first | (with_reducible refine AL_id ?_); (fail_if_success (refine AL_glit rfl rfl rfl (by first | exact .inl (by with_reducible rfl) | exact .inr (by with_reducible rfl)) ?_)); first | refine AL_gdec rfl rfl rfl (fun hg => ?_) (fun hg => ?_) | refine AL_gnot rfl rfl rfl (fun hg => ?_) (fun hg => ?_) | refine AL_gcases rfl rfl rfl (fun hg => ?_) (fun hg => ?_)) <;> (try (exfalso; omega))) | refine AW_if rfl (fun hc => absurd hc (by omega)) (fun _ => ?_) | refine AW_if rfl (fun _ => ?_) (fun hc => absurd (by omega) hc)))
     all_goals first | exact ⟨_,_,rfl,rfl,rfl⟩ | (exfalso; omega)
    | true =>
     rw [print_y h1 h2] at k90
     rw [h2] at k91
     have k92 := f92d h1 h2
     have k93 := f93d h1 h2
     have k94 := f94s h hO
     have k95 := f95s l hO2
     refine ACalls.of_body hT Tryz.func24 rfl (by kernel_rfl) rfl ?_
     (repeat' (first | refine AL_skip rfl rfl ?_ | refine stq ?_ | (refine AL_do2 rfl ?_; first | refine ⟨_,op_call1 rfl rfl rfl rfl (k27),nrmA rfl ?_⟩ | refine ⟨_,op_call1 rfl rfl rfl rfl (k47),nrmA rfl ?_⟩ | refine ⟨_,op_call1 rfl rfl rfl rfl (f28),nrmA rfl ?_⟩ | refine ⟨_,op_call1 rfl rfl rfl rfl (k90),nrmA rfl ?_⟩ | refine ⟨_,op_call1 rfl rfl rfl rfl (k30),nrmA rfl ?_⟩ | refine ⟨_,op_call1 rfl rfl rfl rfl (k91),nrmA rfl ?_⟩ | refine ⟨_,op_call1 rfl rfl rfl rfl (k92),nrmA rfl ?_⟩ | refine ⟨_,op_call1 rfl rfl rfl rfl (k93),nrmA rfl ?_⟩ | refine ⟨_,op_call1 rfl rfl rfl rfl (k94),nrmA rfl ?_⟩ | refine ⟨_,op_call1 rfl rfl rfl rfl (k95),nrmA rfl ?_⟩ | refine ⟨_,op_streqB (b := true) (by simp) rfl rfl rfl rfl,?_⟩) | ((first | (with_reducible refine AL_id ?_); (fail_if_success (refine AL_glit rfl rfl rfl (by first | exact .inl (by with_reducible rfl) | exact .inr (by with_reducible rfl)) ?_)); first | refine AL_gdec rfl rfl rfl (fun hg => ?_) (fun hg => ?_) | refine AL_gnot rfl rfl rfl (fun hg => ?_) (fun hg => ?_) | refine AL_gcases rfl rfl rfl (fun hg => ?_) (fun hg => ?_)) <;> (try (exfalso; omega))) | refine AW_if rfl (fun hc => absurd hc (by omega)) (fun _ => ?_) | refine AW_if rfl (fun _ => ?_) (fun hc => absurd (by omega) hc)))
     all_goals first | exact ⟨_,_,rfl,rfl,rfl⟩ | (exfalso; omega)
end Go.Abs
