/- Plain: what the reference's reader makes of a text; both readers read the same. -/
import Derived.Test.YtkmclnjmabljdaaGreatDoorKNiI
import Derived.Test.YtkmclnjmabljdaaGreatDoorKNiL
import Derived.Test.YtkmclnjmabljdaaGreatDoorKNcG
import Derived.Test.YtkmclnjmabljdaaGreatDoorKNcK
set_option linter.unusedVariables false
set_option linter.unusedSimpArgs false
namespace Go.Abs
open Go.Proofs Go.RowKit
set_option linter.unusedVariables false
set_option linter.unusedSimpArgs false
set_option maxRecDepth 100000
abbrev LastS := Option (List Stock × List Bath × Int × Int)
def stL : LastS -> List Stock
 | none => []
 | some (es,bs,m,p) => es ++ [⟨bs,m,p⟩]
abbrev RSt := List Dye × LastS
def stepR (a : RSt) (x : List UInt8) : Option RSt :=
 if 0 < (toldR wDye 7 x).length then some (a.1 ++ [dyeOf (toldR wDye 7 x)],a.2)
 else if 0 < (toldR wStock 3 x).length then some (a.1,some (stL a.2,[],(toldR wStock 3 x).getD 0 0,(toldR wStock 3 x).getD 1 0))
 else if 0 < (toldR wBath 4 x).length then (match a.2 with
  | none => none
  | some (es,bs,m,p) => some (a.1,some (es,bs ++ [bathOf (toldR wBath 4 x)],m,p)))
 else none
def stepsR : RSt -> Lines -> Option RSt
 | a,[] => some a
 | a,x :: L => match stepR a x with
  | none => none
  | some b => stepsR b L
theorem stepsR_append : ∀ (L M : Lines) (a : RSt),stepsR a (L ++ M) = match stepsR a L with | none => none | some b => stepsR b M
 | [],M,a => rfl
 | x :: L,M,a => by
  rw [List.cons_append,stepsR,stepsR]
  cases stepR a x with
  | none => rfl
  | some b => exact stepsR_append L M b
theorem stepsR_at {M : Lines} {k : Nat} {x : List UInt8} {a0 a : RSt} (hx : M[k]? = some x) (h : stepsR a0 (M.take k) = some a) :
  (stepR a x = none -> stepsR a0 M = none) /\ ∀ b,stepR a x = some b -> stepsR a0 (M.take (k + 1)) = some b:= by
 have hk : k < M.length := (List.getElem?_eq_some_iff.1 hx).1
 refine ⟨fun hn => ?_,fun b hb => ?_⟩
 ·have : M = M.take k ++ x :: M.drop (k + 1):= by
   have e := List.take_append_drop k M
   rw [List.drop_eq_getElem_cons hk] at e
   rw [(List.getElem?_eq_some_iff.1 hx).2] at e
   exact e.symm
  rw [this,stepsR_append,h]
  simp only [stepsR,hn]
 ·rw [List.take_add_one,hx]
  show stepsR a0 (M.take k ++ [x]) = _
  rw [stepsR_append,h]
  simp only [stepsR,hb]
def midL (s : List UInt8) : Lines := ((splitS 10 s).drop 1).take ((splitS 10 s).length - 3)
def readF (s : List UInt8) : List Dye × List Stock × Bool :=
 match stepsR ([],none) (midL s) with
 | none => ([],[],false)
 | some a => (a.1,stL a.2,(textB a.1 (stL a.2)).toList == (bytesOf s).toList)
theorem told_ok {w : List UInt8} {many : Nat} {x : List UInt8} (h : 0 < (toldR w many x).length) : (toldR w many x).length = many /\ ∀ n ∈ toldR w many x,0 <= n /\ n <= 999:= by
 unfold toldR at h ⊢
 split
 ·rename_i hc
  rw [if_pos hc] at h
  cases hn : numsR ((splitS 32 x).drop 1) with
  | none => rw [hn] at h; simp at h
  | some ns =>
   obtain ⟨g1,g2⟩ := numsR_ok hn
   simp only
   refine ⟨?_,g2⟩
   rw [g1,List.length_drop,hc.1]; omega
 ·rename_i hc
  rw [if_neg hc] at h; simp at h
def SmallR (a : RSt) (n : Nat) : Prop := (∀ d ∈ a.1,SmallDy d) /\ (∀ s ∈ stL a.2,SmallSt s) /\ a.1.length + stLines (stL a.2) <= n
theorem stLines_app (l : List Stock) (s : Stock) : stLines (l ++ [s]) = stLines l + (s.baths.length + 1) := by simp [stLines]
theorem stepR_ok {a b : RSt} {n : Nat} {x : List UInt8} (hs : SmallR a n) (h : stepR a x = some b) : SmallR b (n + 1):= by
 obtain ⟨h1,h2,h3⟩ := hs
 unfold stepR at h
 split at h
 ·rename_i hc
  obtain ⟨g1,g2⟩ := told_ok hc
  simp only [Option.some.injEq] at h
  subst h
  refine ⟨fun d hd => ?_,h2,?_⟩
  ·rcases List.mem_append.1 hd with hd | hd
   ·exact h1 d hd
   ·simp only [List.mem_singleton] at hd; subst hd; exact (dyeOf_small g1 g2).1
  ·simp only [List.length_append,List.length_singleton]; omega
 ·split at h
  ·rename_i hc
   obtain ⟨g1,g2⟩ := told_ok hc
   simp only [Option.some.injEq] at h
   subst h
   refine ⟨h1,fun s hs => ?_,?_⟩
   ·simp only [stL] at hs
    rcases List.mem_append.1 hs with hs | hs
    ·exact h2 s hs
    ·simp only [List.mem_singleton] at hs
     subst hs
     generalize toldR wStock 3 x = ns at g1 g2
     match ns,g1 with
     | [m0,m1,m2],_ => exact ⟨g2 m0 (by simp),g2 m1 (by simp),fun b hb => by cases hb⟩
   ·have e : stLines (stL (some (stL a.2,[],(toldR wStock 3 x).getD 0 0,(toldR wStock 3 x).getD 1 0))) = stLines (stL a.2) + 1 := stLines_app _ _
    show a.1.length + stLines (stL (some (stL a.2,[],(toldR wStock 3 x).getD 0 0,(toldR wStock 3 x).getD 1 0))) <= n + 1
    rw [e]; omega
  ·split at h
   ·rename_i hc
    obtain ⟨g1,g2⟩ := told_ok hc
    obtain ⟨hh,o⟩ := a
    cases o with
    | none => cases h
    | some q =>
     obtain ⟨es,bs,m,p⟩ := q
     simp only [Option.some.injEq] at h
     subst h
     refine ⟨h1,fun s hs => ?_,?_⟩
     ·simp only [stL] at hs h2
      rcases List.mem_append.1 hs with hs | hs
      ·exact h2 s (by simp [hs])
      ·simp only [List.mem_singleton] at hs
       subst hs
       obtain ⟨q1,q2,q3⟩ := h2 ⟨bs,m,p⟩ (by simp)
       refine ⟨q1,q2,fun b hb => ?_⟩
       rcases List.mem_append.1 hb with hb | hb
       ·exact q3 b hb
       ·simp only [List.mem_singleton] at hb; subst hb; exact (bathOf_small g1 g2).1
     ·simp only [stL,stLines_app,List.length_append,List.length_singleton] at h3 ⊢; omega
   ·cases h
theorem stepsR_ok : ∀ (L : Lines) {a b : RSt} {n : Nat},SmallR a n -> stepsR a L = some b -> SmallR b (n + L.length)
 | [],a,b,n,hs,h => by
  simp only [stepsR,Option.some.injEq] at h
  subst h; exact hs
 | x :: L,a,b,n,hs,h => by
  simp only [stepsR] at h
  cases hx : stepR a x with
  | none => rw [hx] at h; cases h
  | some c =>
   rw [hx] at h
   have := stepsR_ok L (stepR_ok hs hx) h
   rw [List.length_cons,show n + (L.length + 1) = n + 1 + L.length by omega]; exact this
theorem small0 : SmallR ([],none) 0 := ⟨fun d hd => absurd hd List.not_mem_nil,fun d hd => absurd hd List.not_mem_nil,Nat.le_refl _⟩
theorem midL_len (s : List UInt8) : (midL s).length <= s.length /\ ∀ x ∈ midL s,x.length <= s.length:= by
 have := splitS_len 10 s
 refine ⟨by unfold midL; simp; omega,fun x hx => ?_⟩
 exact splitS_each (List.mem_of_mem_drop (List.mem_of_mem_take hx))
theorem readF_ok {s : List UInt8} (h : (readF s).2.2 = true) : (∀ d ∈ (readF s).1,SmallDy d) /\ (∀ x ∈ (readF s).2.1,SmallSt x) /\ (readF s).1.length + stLines (readF s).2.1 <= s.length /\ textB (readF s).1 (readF s).2.1 = bytesOf s:= by
 unfold readF at h ⊢
 cases hm : stepsR ([],none) (midL s) with
 | none => rw [hm] at h; cases h
 | some a =>
  rw [hm] at h
  obtain ⟨h1,h2,h3⟩ := stepsR_ok _ small0 hm
  have := (midL_len s).1
  refine ⟨h1,h2,Nat.le_trans h3 (by omega),?_⟩
  have := beq_iff_eq.1 h
  rw [bytesOf_toList,Lib.toList_data] at this
  exact bytes_ext this
def ln (w : List UInt8) (ns : List Int) : List UInt8 := joinW w (ns.map dD)
def dyW (d : Dye) : List UInt8 := ln wDye (dyeNums d)
def baW (b : Bath) : List UInt8 := ln wBath (baNums b)
def blkW (s : Stock) : Lines := ln wStock (stNums s) :: s.baths.map baW
def topW (h : List Dye) (l : List Stock) : List UInt8 := ln wTop (topNums h l)
def bodyW (h : List Dye) (l : List Stock) : Lines := h.map dyW ++ l.flatMap blkW
def endN (c : Int) : List UInt8 := [101,110,100,32] ++ ((itoaB (c / 100)).data.toList ++ ((itoaB (c / 10 % 10)).data.toList ++ (itoaB (c % 10)).data.toList))
def endW (h : List Dye) (l : List Stock) : List UInt8 := endN (checkI (linesB h l) % 113)
theorem nm_top : nmTop.data.toList = wTop := by decide
theorem nm_dye : nmDye.data.toList = wDye := by decide
theorem nm_stock : nmStock.data.toList = wStock := by decide
theorem nm_bath : nmBath.data.toList = wBath := by decide
theorem lines_data (h : List Dye) (l : List Stock) : (linesB h l).map (·.data.toList) = topW h l :: bodyW h l:= by
 simp only [linesB,headB,List.map_append,List.map_cons,List.map_map,List.map_flatMap,topW,bodyW,ln,line_data,nm_top,List.cons_append]
 congr 2
 ·refine List.map_congr_left fun d _ => ?_
  simp only [Function.comp,line_data,nm_dye]; rfl
 ·congr 1
  funext s
  simp only [blkB,blkW,List.map_cons,List.map_map,line_data,nm_stock]
  congr 1
  refine List.map_congr_left fun b _ => ?_
  simp only [Function.comp,line_data,nm_bath]; rfl
theorem text_data (h : List Dye) (l : List Stock) : (textB h l).data.toList = (topW h l :: bodyW h l ++ [endW h l]).flatMap fun x => x ++ [10]:= by
 have hne : linesB h l ≠ [] := by simp [linesB,headB]
 unfold textB textOf
 rw [sB_end hne,<- lines_data]
 simp only [ByteArray.data_append,Array.toList_append,sB_data,jl,List.flatMap_append,List.flatMap_cons,List.flatMap_nil,List.append_nil,List.flatMap_map,List.append_assoc]
 unfold endW endN
 simp only [List.append_assoc]
 rfl
theorem no_join {c : UInt8} {w : List UInt8} {ws : Lines} (hc : c ≠ 32) (h : c ∉ w) (hs : ∀ x ∈ ws,c ∉ x) : c ∉ joinW w ws:= by
 unfold joinW
 rw [List.mem_append,not_or]
 refine ⟨h,fun hm => ?_⟩
 obtain ⟨x,hx,hm⟩ := List.mem_flatMap.1 hm
 rcases List.mem_cons.1 hm with rfl | hm
 ·exact hc rfl
 ·exact hs x hx hm
theorem end_no (c : Int) : (10 : UInt8) ∉ endN c:= by
 have hd : ∀ n : Int,(10 : UInt8) ∉ (itoaB n).data.toList:= by
  intro n hm
  have := (dec_dig n.toNat n.toNat (Nat.lt_pow_self (by decide))).1 _ (by simpa [itoaB,bytesOf] using hm)
  revert this; decide
 unfold endN
 simp only [List.mem_append,not_or]
 exact ⟨by decide,hd _,hd _,hd _⟩
structure SmallT (h : List Dye) (l : List Stock) : Prop where
 dye : ∀ d ∈ h,SmallDy d
 stock : ∀ s ∈ l,SmallSt s
 cnt : h.length + stLines l <= 900
theorem len_stLines : ∀ l : List Stock,l.length <= stLines l
 | [] => Nat.le_refl _
 | s :: l => by
  have ih := len_stLines l
  simp only [stLines,List.map_cons,List.sum_cons,List.length_cons] at ih ⊢; omega
theorem bath_stLines {l : List Stock} {s : Stock} (hs : s ∈ l) : s.baths.length + 1 <= stLines l:= by
 unfold stLines
 exact le_sumN (List.mem_map.2 ⟨s,hs,rfl⟩)
theorem SmallT.top {h : List Dye} {l : List Stock} (H : SmallT h l) : ∀ x ∈ topNums h l,0 <= x /\ x <= 999:= by
 have h1 := H.cnt
 have h2 := len_stLines l
 intro x hx
 simp only [topNums,List.mem_cons,List.not_mem_nil,or_false] at hx
 rcases hx with rfl | rfl <;> omega
theorem SmallT.dy {h : List Dye} {l : List Stock} (H : SmallT h l) {d : Dye} (hd : d ∈ h) : ∀ x ∈ dyeNums d,0 <= x /\ x <= 999 := (H.dye d hd).2
theorem SmallT.st {h : List Dye} {l : List Stock} (H : SmallT h l) {s : Stock} (hs : s ∈ l) : ∀ x ∈ stNums s,0 <= x /\ x <= 999:= by
 have h1 := H.cnt
 have h2 := bath_stLines hs
 obtain ⟨g1,g2,_⟩ := H.stock s hs
 unfold smallI at g1 g2
 intro x hx
 simp only [stNums,List.mem_cons,List.not_mem_nil,or_false] at hx
 rcases hx with rfl | rfl | rfl <;> omega
theorem SmallT.ba {h : List Dye} {l : List Stock} (H : SmallT h l) {s : Stock} (hs : s ∈ l) {b : Bath} (hb : b ∈ s.baths) : ∀ x ∈ baNums b,0 <= x /\ x <= 999 := (H.stock s hs).2.2 b hb
theorem ln_no {w : List UInt8} {ns : List Int} (hw : (10 : UInt8) ∉ w) (h : ∀ x ∈ ns,0 <= x /\ x <= 999) : (10 : UInt8) ∉ ln w ns :=
 no_join (by decide) hw fun x hx => by obtain ⟨n,hn,rfl⟩ := List.mem_map.1 hx; exact (dD_no (h n hn)).2
theorem ln_split {w : List UInt8} {ns : List Int} (hw : (32 : UInt8) ∉ w) (h : ∀ x ∈ ns,0 <= x /\ x <= 999) : splitS 32 (ln w ns) = w :: ns.map dD :=
 split_words _ _ hw fun x hx => by obtain ⟨n,hn,rfl⟩ := List.mem_map.1 hx; exact (dD_no (h n hn)).1
theorem split_text {h : List Dye} {l : List Stock} (H : SmallT h l) : splitS 10 (textB h l).data.toList = topW h l :: bodyW h l ++ [endW h l] ++ [[]]:= by
 rw [text_data,split_lines]
 intro x hx
 simp only [List.cons_append,List.mem_cons,List.mem_append,List.not_mem_nil,or_false,bodyW,List.mem_map,List.mem_flatMap,blkW] at hx
 rcases hx with rfl | (⟨d,hd,rfl⟩ | ⟨s,hs,rfl | ⟨b,hb,rfl⟩⟩) | rfl
 ·exact ln_no (by decide) H.top
 ·exact ln_no (by decide) (H.dy hd)
 ·exact ln_no (by decide) (H.st hs)
 ·exact ln_no (by decide) (H.ba hs hb)
 ·exact end_no _
theorem told_ln {w : List UInt8} {many : Nat} {ns : List Int} (hw : (32 : UInt8) ∉ w) (h : ∀ x ∈ ns,0 <= x /\ x <= 999) (hl : ns.length = many) : toldR w many (ln w ns) = ns:= by
 unfold toldR
 rw [ln_split hw h,if_pos ⟨by simp [hl],rfl⟩]
 show (match numsR (ns.map dD) with | some ns => ns | none => []) = ns
 rw [numsR_dD h]
theorem told_not {w w' : List UInt8} {many : Nat} {ns : List Int} (hw : (32 : UInt8) ∉ w) (h : ∀ x ∈ ns,0 <= x /\ x <= 999) (hn : w ≠ w') : toldR w' many (ln w ns) = []:= by
 unfold toldR
 rw [ln_split hw h,if_neg (fun hc => hn hc.2)]
theorem next_ln {w : List UInt8} {many : Nat} {ns : List Int} (r : Lines) (hw : (32 : UInt8) ∉ w) (h : ∀ x ∈ ns,0 <= x /\ x <= 999) (hl : ns.length = many) : nextM w many (ln w ns :: r) = some (ns,r):= by
 rw [nextM,ln_split hw h,if_pos ⟨by simp [hl],rfl⟩]
 show (match numsR (ns.map dD) with | some ns => some (ns,r) | none => none) = _
 rw [numsR_dD h]
theorem dy_nums {d : Dye} (h : SmallDy d) : (dyeNums d).length = 7 /\ dyeOf (dyeNums d) = d:= by
 obtain ⟨t,f⟩ := d
 have h1 : t.length = 3 := h.1
 match t,h1 with
 | [⟨a,b⟩,⟨c,e⟩,⟨g,i⟩],_ => exact ⟨rfl,rfl⟩
theorem dyesM_ln : ∀ (h : List Dye) (R : Lines),(∀ d ∈ h,SmallDy d) -> dyesM h.length (h.map dyW ++ R) = some (h,R)
 | [],R,_ => rfl
 | d :: h,R,H => by
  have hd := H d (by simp)
  obtain ⟨g1,g2⟩ := dy_nums hd
  have e := next_ln (h.map dyW ++ R) (w := wDye) (by decide) hd.2 g1
  rw [List.length_cons,List.map_cons,List.cons_append]
  rw [dyesM_step (show nextM wDye 7 (dyW d :: (h.map dyW ++ R)) = _ from e),dyesM_ln h R fun x hx => H x (by simp [hx]),g2]
  rfl
theorem bathsM_ln : ∀ (bs : List Bath) (R : Lines),(∀ b ∈ bs,∀ x ∈ baNums b,smallI x) -> bathsM bs.length (bs.map baW ++ R) = some (bs,R)
 | [],R,_ => rfl
 | b :: bs,R,H => by
  have e := next_ln (bs.map baW ++ R) (w := wBath) (many := 4) (by decide) (H b (by simp)) rfl
  rw [List.length_cons,List.map_cons,List.cons_append]
  rw [bathsM_step (show nextM wBath 4 (baW b :: (bs.map baW ++ R)) = _ from e),bathsM_ln bs R fun x hx => H x (by simp [hx])]
  rfl
theorem stocksM_ln : ∀ (l : List Stock) (R : Lines),(∀ s ∈ l,SmallSt s) -> (∀ s ∈ l,s.baths.length <= 900) -> stocksM l.length (l.flatMap blkW ++ R) = some (l,R)
 | [],R,_,_ => rfl
 | s :: l,R,H,hb => by
  obtain ⟨q1,q2,q3⟩ := H s (by simp)
  have hb0 := hb s (by simp)
  have hns : ∀ x ∈ stNums s,0 <= x /\ x <= 999:= by
   unfold smallI at q1 q2
   intro x hx
   simp only [stNums,List.mem_cons,List.not_mem_nil,or_false] at hx
   rcases hx with rfl | rfl | rfl <;> omega
  have e := next_ln (s.baths.map baW ++ (l.flatMap blkW ++ R)) (w := wStock) (many := 3) (by decide) hns rfl
  rw [List.length_cons,List.flatMap_cons,blkW,List.cons_append,List.cons_append,List.append_assoc]
  rw [stocksM_step e]
  show (match bathsM (((s.baths.length : Nat) : Int)).toNat (s.baths.map baW ++ (l.flatMap blkW ++ R)) with
   | none => none
   | some (bs,r') => (stocksM l.length r').map fun (p : List Stock × Lines) => ((⟨bs,s.many,s.price⟩ : Stock) :: p.1,p.2)) = _
  rw [Int.toNat_natCast,bathsM_ln s.baths _ q3]
  simp only
  rw [stocksM_ln l R (fun x hx => H x (by simp [hx])) fun x hx => hb x (by simp [hx])]
  rfl
theorem readM_text {h : List Dye} {l : List Stock} (H : SmallT h l) : readM (textB h l).data.toList = some (h,l):= by
 have e : nextM wTop 2 (splitS 10 (textB h l).data.toList) = some ([(h.length : Int),(l.length : Int)],bodyW h l ++ ([endW h l] ++ [[]])):= by
  rw [split_text H,List.cons_append,List.cons_append,List.append_assoc]
  exact next_ln _ (by decide) H.top rfl
 rw [readM_some e,Int.toNat_natCast,Int.toNat_natCast,bodyW,List.append_assoc,dyesM_ln _ _ H.dye,readB,stocksM_ln _ _ H.stock (fun s hs => by have := bath_stLines hs; have := H.cnt; omega),readC]
 exact if_pos (bytes_ext rfl)
theorem stepR_dy {a : RSt} {d : Dye} (hd : SmallDy d) : stepR a (dyW d) = some (a.1 ++ [d],a.2):= by
 obtain ⟨g1,g2⟩ := dy_nums hd
 unfold stepR
 rw [show toldR wDye 7 (dyW d) = dyeNums d from told_ln (by decide) hd.2 g1,if_pos (by omega),g2]
theorem stepR_st {a : RSt} {s : Stock} (h : ∀ x ∈ stNums s,0 <= x /\ x <= 999) : stepR a (ln wStock (stNums s)) = some (a.1,some (stL a.2,[],s.many,s.price)):= by
 unfold stepR
 rw [told_not (by decide) h (by decide),if_neg (by simp),show toldR wStock 3 (ln wStock (stNums s)) = stNums s from told_ln (by decide) h rfl,if_pos (by simp [stNums])]
 rfl
theorem stepR_ba {hh : List Dye} {es : List Stock} {bs : List Bath} {m p : Int} {b : Bath} (h : ∀ x ∈ baNums b,smallI x) : stepR (hh,some (es,bs,m,p)) (baW b) = some (hh,some (es,bs ++ [b],m,p)):= by
 unfold stepR
 rw [show toldR wDye 7 (baW b) = [] from told_not (by decide) h (by decide),if_neg (by simp),show toldR wStock 3 (baW b) = [] from told_not (by decide) h (by decide),if_neg (by simp),show toldR wBath 4 (baW b) = baNums b from told_ln (by decide) h rfl,if_pos (by simp [baNums])]
 rfl
theorem stepsR_dy : ∀ (A : List Dye) (a : RSt),(∀ d ∈ A,SmallDy d) -> stepsR a (A.map dyW) = some (a.1 ++ A,a.2)
 | [],a,_ => by simp [stepsR]
 | d :: A,a,H => by
  simp only [List.map_cons,stepsR,stepR_dy (H d (by simp))]
  rw [stepsR_dy A _ fun x hx => H x (by simp [hx])]
  simp
theorem stepsR_ba : ∀ (B : List Bath) (hh : List Dye) (es : List Stock) (bs : List Bath) (m p : Int),(∀ b ∈ B,∀ x ∈ baNums b,smallI x) -> stepsR (hh,some (es,bs,m,p)) (B.map baW) = some (hh,some (es,bs ++ B,m,p))
 | [],hh,es,bs,m,p,_ => by simp [stepsR]
 | b :: B,hh,es,bs,m,p,H => by
  simp only [List.map_cons,stepsR,stepR_ba (H b (by simp))]
  rw [stepsR_ba B _ _ _ _ _ fun x hx => H x (by simp [hx])]
  simp
theorem stepsR_st : ∀ (l : List Stock) (a : RSt),(∀ s ∈ l,(∀ x ∈ stNums s,0 <= x /\ x <= 999) /\ ∀ b ∈ s.baths,∀ x ∈ baNums b,smallI x) -> ∃ o,stepsR a (l.flatMap blkW) = some (a.1,o) /\ stL o = stL a.2 ++ l
 | [],a,_ => ⟨a.2,rfl,by simp⟩
 | s :: l,a,H => by
  obtain ⟨h1,h2⟩ := H s (by simp)
  obtain ⟨o,g1,g2⟩ := stepsR_st l (a.1,some (stL a.2,s.baths,s.many,s.price)) fun x hx => H x (by simp [hx])
  refine ⟨o,?_,?_⟩
  ·rw [List.flatMap_cons,stepsR_append,blkW]
   simp only [stepsR,stepR_st h1]
   rw [stepsR_ba s.baths _ _ _ _ _ h2]
   simp only [List.nil_append]
   exact g1
  ·rw [g2]
   simp [stL]
theorem readF_text {h : List Dye} {l : List Stock} (H : SmallT h l) : readF (textB h l).data.toList = (h,l,true):= by
 have hm : midL (textB h l).data.toList = bodyW h l:= by
  unfold midL
  rw [split_text H]
  have hl : (topW h l :: bodyW h l ++ [endW h l] ++ [[]]).length - 3 = (bodyW h l).length := by simp
  rw [hl]
  show (bodyW h l ++ [endW h l] ++ [[]]).take (bodyW h l).length = _
  rw [List.append_assoc,List.take_left]
 obtain ⟨o,g1,g2⟩ := stepsR_st l (h,none) fun s hs => ⟨H.st hs,fun b hb => H.ba hs hb⟩
 have g2 : stL o = l := by rw [g2]; rfl
 have e : stepsR ([],none) (bodyW h l) = some (h,o):= by
  rw [bodyW,stepsR_append,stepsR_dy h _ H.dye]
  simp only [List.nil_append]
  exact g1
 unfold readF
 rw [hm,e]
 simp only [g2]
 rw [show ((textB h l).toList == (bytesOf (textB h l).data.toList).toList) = true by rw [bytesOf_toList,Lib.toList_data]; simp]
theorem readF_M {s : List UInt8} (hs : s.length <= 600) : readM s = if (readF s).2.2 then some ((readF s).1,(readF s).2.1) else none:= by
 cases hr : (readF s).2.2 with
 | true =>
  obtain ⟨h1,h2,h3,h4⟩ := readF_ok hr
  have := readM_text ⟨h1,h2,by omega⟩
  rw [h4,data_bytes] at this
  rw [this]; rfl
 | false =>
  cases hm : readM s with
  | none => rfl
  | some q =>
   obtain ⟨h,l⟩ := q
   obtain ⟨h1,h2,h3,h4⟩ := readM_ok hs hm
   have := readF_text ⟨h1,h2,by omega⟩
   rw [h4,data_bytes] at this
   rw [this] at hr
   cases hr
end Go.Abs
namespace Go.Abs
open Go.RowKit
set_option linter.unusedVariables false
set_option linter.unusedSimpArgs false
abbrev nilV : Value := .slice none 0 0
abbrev slV (g n c : Nat) : Value := .slice (some ⟨g,0,none⟩) n c
section
variable {P : Program} {T : Nat -> Option TyI} {nt : Nat} {s : ASt} {o : Oper} {ops : Array Oper} {rest : List Oper} {Q : Exit -> ASt -> Prop}
theorem op_buildLst {t e : Nat} {x : Operand} {ti ei : TyI} {m p : Int} (hT : TabOK P T) (ho : o.op = .buildSlice t 1 #[(0,x)]) (hd : dstB nt o.dst = true) (ht : T t = some ti) (hk : ti.kind = .slice e) (he : T e = some ei)
  (hsz : Nat.beq ei.size 3 = true) (hzl : Nat.beq ei.zero.length 3 = true) (hx : s.ev x = some (.agg [.nils,.pv (.int .i64 m),.pv (.int .i64 p)])) :
  OpTo P nt o s ((s.newObj (.lst e 3 [] .nils [m,p])).putO o.dst (some (.arr s.nxt))):= by
 intro ro W0 D0 D φ a w hI hko K Q hK
 have hund := (hT.ty ht).slice hk
 have hs := Nat.eq_of_beq_eq_true hsz
 obtain ⟨info,z,i1,i2,i3,i4,i5⟩ := (hT.ty he).info
 have hv : a.eval x = .agg #[nilV,.int .i64 m,.int .i64 p]:= by
  have := (hI.ev hx).2
  generalize a.eval x = v at this
  cases this with
  | agg vs cs hl hr =>
   have hl : vs.size = 3 := hl
   have e0 := hr 0 vs[0] .nils (by simp [hl]) rfl
   have e1 := hr 1 vs[1] (.pv (.int .i64 m)) (by simp [hl]) rfl
   have e2 := hr 2 vs[2] (.pv (.int .i64 p)) (by simp [hl]) rfl
   congr 1
   apply Array.ext
   ·exact hl
   ·intro j q1 q2
    rw [hl] at q1
    rcases (by omega : j = 0 \/ j = 1 \/ j = 2) with rfl | rfl | rfl
    ·have q0 : vs[0] = nilV:= by
      generalize vs[0] = q at e0
      cases e0; rfl
     exact q0
    ·exact e1.inv_pv.inv_int
    ·exact e2.inv_pv.inv_int
 have hrun : (execOp a.eval o).run P w = .ok (.value (slV w.heap.size 1 1)) (w.alloc (.cells #[nilV,.int .i64 m,.int .i64 p] e)):= by
  have hfill : ∀ ca : Array Value,ca.size = 3 -> Instr.fill (fun i => some (i * 3,3)) ca [(0,.agg #[nilV,.int .i64 m,.int .i64 p])] = some #[nilV,.int .i64 m,.int .i64 p]:= by
   intro ca hca
   have : ca = #[ca[0],ca[1],ca[2]]:= by
    apply Array.ext
    ·simp [hca]
    ·intro j q1 q2
     rcases (by omega : j = 0 \/ j = 1 \/ j = 2) with rfl | rfl | rfl <;> rfl
   rw [this]
   rfl
  have hrs := (hT.ty he).run_size w
  rw [hs] at hrs
  simp [execOp,ho,hv,Instr.buildSlice,underlying,hund,hrs,zeroValue,typeInfo,i1,i4,hfill,newRow]
 refine wpIn_of (by rw [ho]; intro c hc; cases hc) ?_
 unfold Oper.wp
 rw [hrun]
 have hb : Below w.heap.size w (w.alloc (.cells #[nilV,.int .i64 m,.int .i64 p] e)) := (Below.refl _ _).alloc (Nat.le_refl _) _
 have hN : Inv W0 D0 nt (s.newObj (.lst e 3 [] .nils [m,p])) D (addH φ s.nxt (slV w.heap.size 1 1)) a (w.alloc (.cells #[nilV,.int .i64 m,.int .i64 p] e)):= by
  refine hI.new hb (fun _ h => h) (fun b h => .inl h) _ _ rfl ⟨rfl,[],nilV,⟨rfl,?_⟩,rfl,⟨by simp,by simp⟩,.nils⟩ ?_
  ·right
   rw [addH_new]
   exact ⟨w.heap.size,1,_,rfl,Nat.zero_le _,heap_alloc_new w _,Nat.le_refl _,by decide,rfl,rfl⟩
  ·intro b hbk
   simp only [blk,Option.some.injEq] at hbk
   subst hbk
   exact ⟨Nat.le_refl _,by simp,fun h => Nat.lt_irrefl _ (hI.dlt _ h)⟩
 refine hK D _ _ _ (hN.put o.dst (dstB_lt hd) _ _ fun x' hx' => ?_)
 cases hx'
 exact ⟨by simp [FV.lt,ASt.newObj],.arr _ _ _ _ (addH_new _ _ _)⟩
theorem D_buildLst {t e : Nat} {x : Operand} {ti ei : TyI} {m p : Int} (hT : TabOK P T) (hg : guardT ops s o = true) (ho : o.op = .buildSlice t 1 #[(0,x)]) (hd : dstB nt o.dst = true) (ht : T t = some ti) (hk : ti.kind = .slice e) (he : T e = some ei)
  (hsz : Nat.beq ei.size 3 = true) (hzl : Nat.beq ei.zero.length 3 = true) (hx : s.ev x = some (.agg [.nils,.pv (.int .i64 m),.pv (.int .i64 p)])) :
  StepOK P nt ops o s ⟨some (.arr s.nxt),true,[],[]⟩ ((s.newObj (.lst e 3 [] .nils [m,p])).putO o.dst (some (.arr s.nxt))):= by
 refine StepOK.mkE hg (by cases hd : o.dst <;> rfl) (by cases hd : o.dst <;> exact Nat.le_succ _) (fun id hid _ => ?_) fun fr s1 s2 h1 h2 h3 h4 h5 h6 h7 => ?_
 ·have : ((s.newObj (.lst e 3 [] .nils [m,p])).putO o.dst (some (.arr s.nxt))).obj id = (s.newObj (.lst e 3 [] .nils [m,p])).obj id := by cases hd : o.dst <;> rfl
  rw [this,ASt.obj_newObj,if_neg (by omega)]
 ·have h8 := op_buildLst (s := s1) hT ho hd ht hk he hsz hzl (by rw [ev_agree h1 (by simp [ho,Op.operands])]; exact hx)
  refine h8.ext (fun t => ?_) (fun id => ?_) ?_
  ·show look s2.env t = look _ t
   rw [h5,<- h2]; cases hd : o.dst <;> rfl
  ·have q1 : ((s.newObj (.lst e 3 [] .nils [m,p])).putO o.dst (some (.arr s.nxt))).obj id = (s.newObj (.lst e 3 [] .nils [m,p])).obj id := by cases hd : o.dst <;> rfl
   have q2 : ((s1.newObj (.lst e 3 [] .nils [m,p])).putO o.dst (some (.arr s1.nxt))).obj id = (s1.newObj (.lst e 3 [] .nils [m,p])).obj id := by cases hd : o.dst <;> rfl
   rw [h7,q1,q2,ASt.obj_newObj,ASt.obj_newObj,h2]
   by_cases hid : id ∈ fr
   ·rw [if_pos hid,if_neg (by have := (h3 id hid).1; omega)]
   ·rw [if_neg hid,h4 id hid]
  ·rw [h6]; cases hd : o.dst <;> simp [ASt.putO,ASt.put,ASt.newObj,h2]
theorem op_appendLst {t e id i2 : Nat} {x0 x : Operand} {ti ei : TyI} {es : List (List PV)} {m p : Int} (hT : TabOK P T) (ho : o.op = .call { callee := .builtin .append,args := #[x0,x],argTypes := #[t,t] }) (hd : dstB nt o.dst = true)
  (ht : T t = some ti) (hk : ti.kind = .slice e) (he : T e = some ei) (hsz : Nat.beq ei.size 3 = true) (hzl : Nat.beq ei.zero.length 3 = true) (hx0 : s.ev x0 = some (.arr id)) (hob : s.obj id = some (.arr e 3 es))
  (hx : s.ev x = some (.arr i2)) (hob2 : s.obj i2 = some (.lst e 3 [] .nils [m,p])) (hmax : es.length <= 100000) (hby : Nat.ble ei.bytes 128 = true) :
  OpTo P nt o s ((((s.setObj id none).setObj i2 none).newObj (.lst e 3 es .nils [m,p])).putO o.dst (some (.arr s.nxt))):= by
 intro ro W0 D0 D φ a w hI hko K Q hK
 have hs := Nat.eq_of_beq_eq_true hsz
 have hzl' := Nat.eq_of_beq_eq_true hzl
 have hby' := Nat.le_of_ble_eq_true hby
 obtain ⟨info,z,i1,i2',i3,i4,i5⟩ := (hT.ty he).info
 have hund := (hT.ty ht).slice hk
 obtain ⟨hid,_,xs,hown,hxr⟩ := hI.objs id _ hob
 have hv0 : a.eval x0 = φ id:= by
  have := (hI.ev hx0).2
  generalize a.eval x0 = v at this
  cases this with
  | arr id n c ad h => exact h.symm
 have hv2 : a.eval x = φ i2:= by
  have := (hI.ev hx).2
  generalize a.eval x = v at this
  cases this with
  | arr id n c ad h => exact h.symm
 obtain ⟨_,_,_,xs2,u,hown2,hl2,_,hu⟩ := hI.objs i2 _ hob2
 have hxs2 : xs2 = [] := List.eq_nil_of_length_eq_zero (by simpa using hl2)
 subst hxs2
 have hun : u = nilV := by cases hu; rfl
 subst hun
 have hzc : z.cells.size = 3:= by
  have := (zrepL_ok i5).1
  simp at this; omega
 have hbytes : (es.length + 1) * ei.bytes <= 140737488355328:= by
  have := Nat.mul_le_mul (show es.length + 1 <= 100001 by omega) hby'
  omega
 rcases hown2.2 with ⟨_,h0⟩ | ⟨g2,c2,cur2,hφ2,hor2⟩
 ·simp at h0
 obtain ⟨v',w',hr,hown',hg,hbk⟩ := run_append_blk (P := P) w (ty := o.type) (ad := ⟨g2,0,none⟩) (c := c2) (news := [nilV,.int .i64 m,.int .i64 p]) hund i1 i4 (by rw [i2',hs]) i3 hzc (by decide) hown (m := 1) rfl (fun j u hu => hown2.cells (g := g2) (by rw [hφ2]; rfl) j u hu) (by
  intro u hu
  simp only [List.mem_cons,List.not_mem_nil,or_false] at hu
  rcases hu with rfl | rfl | rfl <;> rfl) (by decide) (by simp only [maxLen]; omega) hbytes (Nat.zero_le _)
 obtain ⟨a0,c0,hv,_⟩ := ownsRow_slice hown
 have hbo := blk_own (φ id) ⟨_,_,_,hv⟩
 have hrun : (execOp a.eval o).run P w = .ok (.value v') w':= by
  have hφ2' : φ i2 = .slice (some ⟨g2,0,none⟩) 1 c2 := hφ2
  simp only [execOp,ho,resolve,invoke,builtin,Sem.run_bind,Sem.run_pure,Result.andThen_ok,List.map_toArray,List.map_cons,List.map_nil,hv0,hv2,hφ2',hr]
 refine wpIn_of (by rw [ho]; intro c hc; cases hc) ?_
 unfold Oper.wp
 rw [hrun]
 obtain ⟨a1,c1,hv',_⟩ := ownsRow_slice hown'
 have hDb : ∀ b,D b -> w'.heap[b]? = w.heap[b]?:= by
  intro b hb
  refine hg.block b (hI.dlt b hb) ?_
  intro e
  exact (hI.own id _ b hob (by show blk (φ id) = some b; rw [<- hbo]; exact e.symm)).1 hb
 have hN : Inv W0 D0 nt (((s.setObj id none).setObj i2 none).newObj (.lst e 3 es .nils [m,p])) D (addH φ s.nxt v') a w':= by
  refine hI.chg s.nxt (fun j => j = id) ⟨hg.os,hg.tape,hg.output,hg.size,fun k hk => absurd hk (Nat.not_lt_zero _)⟩ ?_ (fun _ h => h) (fun b hb => .inl hb) (fun j hj => addH_old _ _ hj) (Nat.le_succ _) (fun t x hx => hx) ?_ ?_
  ·intro b hb hne
   refine hg.block b hb fun e => ?_
   exact hne id _ rfl hob (by show blk (φ id) = some b; rw [<- hbo]; exact e.symm)
  ·intro id' ob' hne ho'
   rw [ASt.obj_newObj] at ho'
   have hn2 : ((s.setObj id none).setObj i2 none).nxt = s.nxt := rfl
   rw [hn2,if_neg (fun e => hne e.symm),ASt.obj_setObj,ASt.obj_setObj] at ho'
   by_cases h3 : i2 = id'
   ·rw [if_pos h3] at ho'; cases ho'
   ·rw [if_neg h3] at ho'
    by_cases h2 : id = id'
    ·rw [if_pos h2] at ho'; cases ho'
    ·rw [if_neg h2] at ho'; exact ⟨fun e => h2 e.symm,ho'⟩
  ·intro ob' ho'
   rw [ASt.obj_newObj] at ho'
   have hn2 : ((s.setObj id none).setObj i2 none).nxt = s.nxt := rfl
   rw [hn2,if_pos rfl] at ho'
   cases ho'
   refine ⟨Nat.lt_succ_self _,rfl,⟨rfl,xs,nilV,by rw [addH_new]; exact hown',hown.1,hxr.mono hDb (fun _ h => h),.nils⟩,?_⟩
   intro b hb
   have hb2 : blk v' = some b := by simpa [oblk,addH_new] using hb
   rcases hbk b hb2 with h5 | ⟨h5,h6⟩
   ·have hob2 : oblk φ id (.arr e 3 es) b := h5
    obtain ⟨g1,g2,g3⟩ := hI.own id _ b hob hob2
    exact ⟨g1,Nat.lt_of_lt_of_le g3 hg.size,.inr ⟨id,_,rfl,hob,hob2⟩⟩
   ·exact ⟨fun h => by have := hI.dlt b h; omega,h6,.inl h5⟩
 refine hK D _ _ _ (hN.put o.dst (dstB_lt hd) _ _ fun x' hx' => ?_)
 cases hx'
 refine ⟨by simp [FV.lt,ASt.newObj,ASt.setObj],?_⟩
 rw [hv']
 refine .arr _ _ _ _ ?_
 rw [addH_new]
theorem D_appendLst {t e id i2 : Nat} {x0 x : Operand} {ti ei : TyI} {es : List (List PV)} {m p : Int} (hT : TabOK P T) (hg : guardT ops s o = true) (ho : o.op = .call { callee := .builtin .append,args := #[x0,x],argTypes := #[t,t] }) (hd : dstB nt o.dst = true)
  (ht : T t = some ti) (hk : ti.kind = .slice e) (he : T e = some ei) (hsz : Nat.beq ei.size 3 = true) (hzl : Nat.beq ei.zero.length 3 = true) (hx0 : s.ev x0 = some (.arr id)) (hob : s.obj id = some (.arr e 3 es))
  (hx : s.ev x = some (.arr i2)) (hob2 : s.obj i2 = some (.lst e 3 [] .nils [m,p])) (hmax : es.length <= 100000) (hby : Nat.ble ei.bytes 128 = true) :
  StepOK P nt ops o s ⟨some (.arr s.nxt),true,[],[id,i2]⟩ ((((s.setObj id none).setObj i2 none).newObj (.lst e 3 es .nils [m,p])).putO o.dst (some (.arr s.nxt))):= by
 refine StepOK.mkE hg (by cases hd : o.dst <;> rfl) (by cases hd : o.dst <;> exact Nat.le_succ _) (fun id' hid hm => ?_) fun fr s1 s2 h1 h2 h3 h4 h5 h6 h7 => ?_
 ·have : ((((s.setObj id none).setObj i2 none).newObj (.lst e 3 es .nils [m,p])).putO o.dst (some (.arr s.nxt))).obj id' = (((s.setObj id none).setObj i2 none).newObj (.lst e 3 es .nils [m,p])).obj id' := by cases hd : o.dst <;> rfl
  rw [this,ASt.obj_newObj]
  have hn2 : ((s.setObj id none).setObj i2 none).nxt = s.nxt := rfl
  rw [hn2,if_neg (by omega),ASt.obj_setObj,if_neg (fun e => hm (by simp [e])),ASt.obj_setObj,if_neg (fun e => hm (by simp [e]))]
 ·have hidf : id ∉ fr := fun hf => (h3 id hf).2 (by simp)
  have hidf2 : i2 ∉ fr := fun hf => (h3 i2 hf).2 (by simp)
  have hob1 : s1.obj id = some (.arr e 3 es) := by rw [h4 id hidf]; exact hob
  have hob3 : s1.obj i2 = some (.lst e 3 [] .nils [m,p]) := by rw [h4 i2 hidf2]; exact hob2
  have h8 := op_appendLst (s := s1) hT ho hd ht hk he hsz hzl (by rw [ev_agree h1 (by simp [ho,Op.operands,Call.operands])]; exact hx0) hob1 (by rw [ev_agree h1 (by simp [ho,Op.operands,Call.operands])]; exact hx) hob3 hmax hby
  refine h8.ext (fun t => ?_) (fun id' => ?_) ?_
  ·show look s2.env t = look _ t
   rw [h5,<- h2]; cases hd : o.dst <;> rfl
  ·have q1 : ((((s.setObj id none).setObj i2 none).newObj (.lst e 3 es .nils [m,p])).putO o.dst (some (.arr s.nxt))).obj id' = (((s.setObj id none).setObj i2 none).newObj (.lst e 3 es .nils [m,p])).obj id' := by cases hd : o.dst <;> rfl
   have q2 : ((((s1.setObj id none).setObj i2 none).newObj (.lst e 3 es .nils [m,p])).putO o.dst (some (.arr s1.nxt))).obj id' = (((s1.setObj id none).setObj i2 none).newObj (.lst e 3 es .nils [m,p])).obj id' := by cases hd : o.dst <;> rfl
   rw [h7,q1,q2,ASt.obj_newObj,ASt.obj_newObj,ASt.obj_setObj,ASt.obj_setObj,ASt.obj_setObj,ASt.obj_setObj]
   have n1 : ((s.setObj id none).setObj i2 none).nxt = s.nxt := rfl
   have n2 : ((s1.setObj id none).setObj i2 none).nxt = s.nxt := h2
   rw [n1,n2]
   by_cases hid : id' ∈ fr
   ·rw [if_pos hid,if_neg (by have := (h3 id' hid).1; omega),if_neg (fun e : i2 = id' => hidf2 (by rw [e]; exact hid)),if_neg (fun e : id = id' => hidf (by rw [e]; exact hid))]
   ·rw [if_neg hid,h4 id' hid]
  ·rw [h6]; cases hd : o.dst <;> simp [ASt.putO,ASt.put,ASt.newObj,ASt.setObj,h2]
theorem op_lstAddr {t e e' sz id : Nat} {x ix : Operand} {ti ei : TyI} {k : IntKind} {n : Int} {es : List (List PV)} {y : FV} {ps : List Int} (hT : TabOK P T) (ho : o.op = .indexAddr t x ix) (hd : dstB nt o.dst = true) (ht : T t = some ti) (hk : ti.kind = .slice e) (he : T e = some ei) (hsz : Nat.beq sz ei.size = true)
  (hx : s.ev x = some (.arr id)) (hob : s.obj id = some (.lst e' sz es y ps)) (hi : s.ev ix = some (.pv (.int k n))) (hn : 0 <= n) (hlt : n.toNat < es.length + 1) : OpTo P nt o s (s.putO o.dst (some (.aptr id sz n.toNat 0))) :=
 OpTo.value hd fun W0 D0 D φ a w hI => by
  obtain ⟨hid,hr⟩ := hI.ev hx
  obtain ⟨_,_,_,xs,u,h1,_⟩ := hI.objs id _ hob
  generalize hv : a.eval x = v at hr
  cases hr with
  | arr id m c ad hφ =>
   have hs : sz = ei.size := Nat.eq_of_beq_eq_true hsz
   have hund := (hT.ty ht).slice hk
   rw [hφ] at h1
   rcases h1.2 with ⟨h,h0⟩ | ⟨g,cap,cur,h,hg,hh,hc,hm,hsc,htk⟩
   ·omega
   ·cases h
    have hilt : n < ((es.length + 1 : Nat) : Int) := by omega
    refine ⟨.pointer (some ((⟨g,0,none⟩ : Addr).add (n.toNat * ei.size))),?_,?_⟩
    ·simp only [execOp,ho,hv,hI.ev_int hi]
     simp [Instr.indexAt,asIntOf,underlying,hund,hn,(hT.ty he).run_size w]
     omega
    ·intro x' hx'; cases hx'
     refine ⟨by simpa [FV.lt] using hid,?_⟩
     rw [addr_add,Nat.zero_add,<- hs]
     exact .aptr id sz n.toNat 0 g _ _ hφ
theorem D_lstAddr {t e e' sz id : Nat} {x ix : Operand} {ti ei : TyI} {k : IntKind} {n : Int} {es : List (List PV)} {y : FV} {ps : List Int} (hT : TabOK P T) (hg : guardT ops s o = true) (ho : o.op = .indexAddr t x ix) (hd : dstB nt o.dst = true) (ht : T t = some ti) (hk : ti.kind = .slice e) (he : T e = some ei) (hsz : Nat.beq sz ei.size = true)
  (hx : s.ev x = some (.arr id)) (hob : s.obj id = some (.lst e' sz es y ps)) (hi : s.ev ix = some (.pv (.int k n))) (hn : 0 <= n) (hlt : n.toNat < es.length + 1) :
  StepOK P nt ops o s ⟨some (.aptr id sz n.toNat 0),false,[id],[]⟩ (s.putO o.dst (some (.aptr id sz n.toNat 0))) :=
 StepOK.mkP hg fun s1 h1 h2 => op_lstAddr hT ho hd ht hk he hsz (by rw [ev_agree h1 (by simp [ho,Op.operands])]; exact hx) (by rw [h2 id (by simp)]; exact hob) (by rw [ev_agree h1 (by simp [ho,Op.operands])]; exact hi) hn hlt
theorem op_lstLen {t e e' sz id : Nat} {x : Operand} {ti : TyI} {es : List (List PV)} {y : FV} {ps : List Int} (hT : TabOK P T) (ho : o.op = .call { callee := .builtin .len,args := #[x],argTypes := #[t] }) (hd : dstB nt o.dst = true) (ht : T t = some ti) (hk : ti.kind = .slice e)
  (hx : s.ev x = some (.arr id)) (hob : s.obj id = some (.lst e' sz es y ps)) : OpTo P nt o s (s.putO o.dst (some (.pv (.int .i64 ((es.length + 1 : Nat) : Int))))) :=
 OpTo.value hd fun W0 D0 D φ a w hI => by
  obtain ⟨hid,hr⟩ := hI.ev hx
  obtain ⟨_,_,_,xs,u,h1,_⟩ := hI.objs id _ hob
  generalize hv : a.eval x = v at hr
  cases hr with
  | arr id m c ad hφ =>
   rw [hφ] at h1
   rcases h1.2 with ⟨h,h0⟩ | ⟨g,cap,cur,h,hg,hh,hc,hm,hsc,htk⟩
   ·omega
   ·cases h
    have hund := (hT.ty ht).slice hk
    refine ⟨.int .i64 ((es.length + 1 : Nat) : Int),?_,fun x' hx' => by cases hx'; exact ⟨rfl,.pv _ _ (.int _ _)⟩⟩
    simp [execOp,ho,hv,resolve,invoke,builtin,Builtin.len_,underlying,hund,goInt]
theorem op_lstLoad {t e id k : Nat} {x : Operand} {i : TyI} {es : List (List PV)} {y : FV} {ps : List Int} (hT : TabOK P T) (ho : o.op = .load t x) (hd : dstB nt o.dst = true) (ht : T t = some i) (hag : i.agg = false)
  (hx : s.ev x = some (.aptr id 3 k 0)) (hob : s.obj id = some (.lst e 3 es y ps)) (hk : k = es.length) :
  OpTo P nt o s (s.putO o.dst (some y)) :=
 OpTo.value hd fun W0 D0 D φ a w hI => by
  subst hk
  obtain ⟨_,hr⟩ := hI.ev hx
  obtain ⟨_,hlt,hlf,xs,u,hown,hl,_,hru⟩ := hI.objs id _ hob
  generalize hv : a.eval x = v at hr
  cases hr with
  | aptr id sz k off g n c hφ =>
   have hcell : w.cell? ((⟨g,es.length * 3 + 0,none⟩ : Addr).add 0) = some u:= by
    have := hown.cells (g := g) (by rw [hφ]; rfl) (es.length * 3) u (by rw [List.getElem?_append_right (by omega),hl]; simp)
    rw [addr_add] at this ⊢
    simpa using this
   have hrun := run_loadVar (hT.ty ht) w ⟨g,es.length * 3 + 0,none⟩ (fun _ => u) (fun j hj => by
    rw [hag] at hj
    have : j = 0 := by simp at hj; omega
    subst this; exact hcell)
   rw [hag] at hrun
   refine ⟨u,by simp only [execOp,ho,hv,Instr.loadAt,Instr.sureAddr,Sem.run_bind,Sem.run_pure,Result.andThen_ok,hrun]; rfl,?_⟩
   intro x' hx'; cases hx'
   exact ⟨hlt,hru⟩
theorem D_lstLoad {t e id k : Nat} {x : Operand} {i : TyI} {es : List (List PV)} {y : FV} {ps : List Int} (hT : TabOK P T) (hg : guardT ops s o = true) (ho : o.op = .load t x) (hd : dstB nt o.dst = true) (ht : T t = some i) (hag : i.agg = false)
  (hx : s.ev x = some (.aptr id 3 k 0)) (hob : s.obj id = some (.lst e 3 es y ps)) (hk : k = es.length) :
  StepOK P nt ops o s ⟨some y,false,[id],[]⟩ (s.putO o.dst (some y)) :=
 StepOK.mkP hg fun s1 h1 h2 => op_lstLoad hT ho hd ht hag (by rw [ev_agree h1 (by simp [ho,Op.operands])]; exact hx) (by rw [h2 id (by simp)]; exact hob) hk
theorem op_lstStore {t e id k : Nat} {x y : Operand} {i : TyI} {es : List (List PV)} {z z' : FV} {ps : List Int} (hT : TabOK P T) (ho : o.op = .store t x y) (hd : o.dst = none) (ht : T t = some i) (hsz : Nat.beq i.size 1 = true)
  (hx : s.ev x = some (.aptr id 3 k 0)) (hob : s.obj id = some (.lst e 3 es z ps)) (hy : s.ev y = some z') (hlf : z'.leaf = true) (hk : k = es.length) (hps : ps.length = 2) :
  OpTo P nt o s (s.setObj id (some (.lst e 3 es z' ps))):= by
 subst hk
 intro ro W0 D0 D φ a w hI hko K Q hK
 obtain ⟨_,hrx⟩ := hI.ev hx
 obtain ⟨hylt,hry⟩ := hI.ev hy
 have hs := Nat.eq_of_beq_eq_true hsz
 obtain ⟨hid,_,_,xs,u,hown,hl,hxr,hru⟩ := hI.objs id _ hob
 generalize hv : a.eval x = v at hrx
 cases hrx with
 | aptr id sz k off g n c' hφ =>
  rw [hφ] at hown
  obtain ⟨hxl,hor⟩ := hown
  rcases hor with ⟨h,_⟩ | ⟨g',c,cur,h,hg,hh,hc,hm,hsc,htk⟩
  ·cases h
  ·cases h
   have hu1 : (a.eval y).oneCell' = true := hry.oneCell hlf
   have hcells : (a.eval y).cells = #[a.eval y]:= by
    generalize a.eval y = yv at hu1
    cases yv <;> first | rfl | (simp [Value.oneCell'] at hu1)
   have hle : (es.length + 1) * 3 <= c' * 3 := Nat.mul_le_mul_right _ hc
   have hst := run_storeCells_at P g (es.length * 3 + 0) e [a.eval y] 0 cur w hh (by simp; omega) (by simpa using hu1)
   simp only [Nat.add_zero] at hst
   have hrun : (execOp a.eval o).run P w = .ok .skip (w.setRow g (splice cur.toList (es.length * 3) [a.eval y]).toArray):= by
    have hsize : ¬ (a.eval y).cells.size ≠ i.size := by rw [hcells,hs]; simp
    have hst' : (storeCells ⟨g,es.length * 3 + 0,none⟩ (a.eval y).cells.toList).run P w = .ok () (w.setRow g (splice cur.toList (es.length * 3) [a.eval y]).toArray):= by
     rw [hcells]; exact hst
    simp only [execOp,ho,hv,Instr.storeAt,Instr.sureAddr,Sem.run_bind,Sem.run_pure,Result.andThen_ok,storeVar,(hT.ty ht).run_size w,if_neg hsize,hst']
   refine wpIn_of (by rw [ho]; intro c hc; cases hc) ?_
   unfold Oper.wp
   rw [hrun]
   have hput : a.put o.dst undef = a := by rw [hd]; rfl
   show K (a.put o.dst undef) _
   rw [hput]
   have hcl : cur.toList.length = c' * 3 := by simpa using hsc
   have hsp : splice cur.toList (es.length * 3) [a.eval y] = (xs ++ a.eval y :: ps.map (Value.int .i64)) ++ cur.toList.drop ((es.length + 1) * 3):= by
    have hcur : cur.toList = (xs ++ u :: ps.map (Value.int .i64)) ++ cur.toList.drop ((es.length + 1) * 3) := by rw [<- htk,List.take_append_drop]
    generalize cur.toList.drop ((es.length + 1) * 3) = r at hcur ⊢
    rw [hcur]
    unfold splice
    rw [<- hl]
    simp [List.take_append,List.drop_append]
   have hok : oblk φ id (.lst e 3 es z ps) g := by simp [oblk,hφ,blk]
   have hDk : ∀ b',D b' -> (w.setRow g (splice cur.toList (es.length * 3) [a.eval y]).toArray).heap[b']? = w.heap[b']?:= by
    intro b' hb'
    exact setRow_other _ _ _ _ (fun e => (hI.own id _ g hob hok).1 (e ▸ hb'))
   refine hK D φ a _ (hI.chg id (fun j => j = id) ⟨rfl,rfl,rfl,by simp,fun k hk => absurd hk (Nat.not_lt_zero _)⟩ ?_ (fun _ h => h) (fun b' hb' => .inl hb') (fun _ _ => rfl) (Nat.le_refl _) (fun t x hx => hx) ?_ ?_)
   ·intro b' _ hne
    exact setRow_other _ _ _ _ (fun e => hne id _ rfl hob (by rw [e]; exact hok))
   ·intro id' ob' hne ho'
    rw [ASt.obj_setObj,if_neg (fun e => hne e.symm)] at ho'
    exact ⟨hne,ho'⟩
   ·intro ob' ho'
    rw [ASt.obj_setObj,if_pos rfl] at ho'
    cases ho'
    refine ⟨hid,hylt,⟨hlf,xs,a.eval y,⟨?_,.inr ⟨g,c',_,by rw [hφ],hg,setRow_heap w g cur _ e _ hh,hc,hm,?_,?_⟩⟩,hl,hxr.mono hDk (fun _ h => h),FRep.mono (n := s.nxt) hry hDk (fun _ h => h) (fun _ _ => rfl) hylt⟩,fun b' hb' => ?_⟩
    ·simp only [List.length_append,List.length_cons] at hxl ⊢; omega
    ·have : (splice cur.toList (es.length * 3) [a.eval y]).length = c' * 3 := by rw [splice_length _ _ _ (by simp; omega),hcl]
     simpa using this
    ·rw [hsp]
     have : (xs ++ a.eval y :: ps.map (Value.int .i64)).length = (es.length + 1) * 3 := by simp [hl,hps]; omega
     rw [List.toList_toArray,<- this,List.take_left]
    ·have hb2 : oblk φ id (.lst e 3 es z ps) b' := hb'
     obtain ⟨g1,g2,g3⟩ := hI.own id _ b' hob hb2
     exact ⟨g1,by simpa using g3,.inr ⟨id,_,rfl,hob,hb2⟩⟩
theorem Inv.lstNil {W0 : World} {D0 : Bas} {D : Nat -> Prop} {φ : Nat -> Value} {a : Act} {w : World} {e sz eb szb id : Nat} {es : List (List PV)} {ps : List Int} (hI : Inv W0 D0 nt s D φ a w) (hob : s.obj id = some (.lst e sz es .nils ps)) :
  ∃ φ',Inv W0 D0 nt ((s.newObj (.arr eb szb [])).setObj id (some (.lst e sz es (.arr s.nxt) ps))) D φ' a w:= by
 have hid := (hI.objs id _ hob).1
 have hN : Inv W0 D0 nt (s.newObj (.arr eb szb [])) D (addH φ s.nxt nilV) a w:= by
  refine hI.new (Below.refl _ _) (fun _ h => h) (fun _ h => .inl h) _ _ rfl ⟨[],?_,⟨by simp,by simp⟩⟩ (by intro b hb; simp [blk] at hb)
  rw [addH_new]; exact World.ownsRow_nil _ _ _ _
 have hob' : (s.newObj (.arr eb szb [])).obj id = some (.lst e sz es .nils ps) := by rw [ASt.obj_newObj,if_neg (by omega)]; exact hob
 obtain ⟨g1,g2,g3,xs,u,g4,g5,g6,g7⟩ := hN.objs id _ hob'
 have hu : u = nilV := by cases g7; rfl
 subst hu
 refine ⟨_,hN.chg id (fun j => j = id) (Below.refl _ _) (fun _ _ _ => rfl) (fun _ h => h) (fun b hb => .inl hb) (fun _ _ => rfl) (Nat.le_refl _) (fun t x hx => hx) ?_ ?_⟩
 ·intro id' ob' hne' ho'
  rw [ASt.obj_setObj,if_neg (fun e => hne' e.symm)] at ho'
  exact ⟨hne',ho'⟩
 ·intro ob' ho'
  rw [ASt.obj_setObj,if_pos rfl] at ho'
  cases ho'
  refine ⟨g1,by simp [AObj.lt,FV.lt,ASt.newObj,ASt.setObj],⟨rfl,xs,nilV,g4,g5,g6,.arr _ _ _ _ (addH_new _ _ _)⟩,fun b hb => ?_⟩
  have hb2 : oblk (addH φ s.nxt nilV) id (.lst e sz es .nils ps) b := hb
  obtain ⟨q1,q2,q3⟩ := hN.own id _ b hob' hb2
  exact ⟨q1,q3,.inr ⟨id,_,rfl,hob',hb2⟩⟩
theorem AL_lstNil (eb szb id : Nat) {e sz : Nat} {es : List (List PV)} {ps : List Int} (hob : s.obj id = some (.lst e sz es .nils ps)) (h : AL P nt ops rest Q ((s.newObj (.arr eb szb [])).setObj id (some (.lst e sz es (.arr s.nxt) ps)))) : AL P nt ops rest Q s:= by
 intro ro W0 D0 D φ a w hr hI
 obtain ⟨φ',hI'⟩ := hI.lstNil (eb := eb) (szb := szb) hob
 exact h ro W0 D0 D φ' a w hr hI'
theorem Inv.lstEnd {W0 : World} {D0 : Bas} {D : Nat -> Prop} {φ : Nat -> Value} {a : Act} {w : World} {e eb szb id B : Nat} {es bs : List (List PV)} {m p : Int} (hI : Inv W0 D0 nt s D φ a w) (hne : Nat.beq B id = false)
  (hob : s.obj id = some (.lst e 3 es (.arr B) [m,p])) (hobB : s.obj B = some (.arr eb szb bs)) :
  ∃ D',Inv W0 D0 nt ((s.setObj B (some (.fro bs))).setObj id (some (.arr e 3 (es ++ [[.sl bs,.int .i64 m,.int .i64 p]])))) D' φ a w:= by
 have hBi : B ≠ id := fun e => by subst e; simp at hne
 obtain ⟨D',hF⟩ := hI.freeze hobB
 refine ⟨D',?_⟩
 have hob' : (s.setObj B (some (.fro bs))).obj id = some (.lst e 3 es (.arr B) [m,p]) := by rw [ASt.obj_setObj,if_neg hBi]; exact hob
 have hrB0 : Rep w D' (φ B) (.sl bs) := (hF.objs B (.fro bs) (by rw [ASt.obj_setObj,if_pos rfl])).2.2
 obtain ⟨hid,_,_,xs,u,hown,hl,hxr,hu⟩ := hF.objs id _ hob'
 have hrB : Rep w D' u (.sl bs):= by
  cases hu with
  | arr id n c ad h => rw [<- h]; exact hrB0
 refine hF.chg id (fun j => j = id) (Below.refl _ _) (fun _ _ _ => rfl) (fun _ h => h) (fun b hb => .inl hb) (fun _ _ => rfl) (Nat.le_refl _) (fun t x hx => hx) ?_ ?_
 ·intro id' ob' hne' ho'
  rw [ASt.obj_setObj,if_neg (fun e => hne' e.symm)] at ho'
  exact ⟨hne',ho'⟩
 ·intro ob' ho'
  rw [ASt.obj_setObj,if_pos rfl] at ho'
  cases ho'
  refine ⟨hid,rfl,⟨xs ++ [u,.int .i64 m,.int .i64 p],by rw [List.length_append,List.length_singleton]; exact hown,?_⟩,fun b hb => ?_⟩
  ·refine hxr.append hl ⟨fun i el hi => ?_,fun i j el q hi hj => ?_⟩
   ·match i with
    | 0 => simp at hi; subst hi; rfl
    | i + 1 => simp at hi
   ·match i with
    | i + 1 => simp at hi
    | 0 =>
     simp at hi
     subst hi
     match j with
     | 0 => simp at hj; subst hj; exact ⟨rfl,u,by simp,hrB⟩
     | 1 => simp at hj; subst hj; exact ⟨rfl,_,by simp,.int _ _⟩
     | 2 => simp at hj; subst hj; exact ⟨rfl,_,by simp,.int _ _⟩
     | j + 3 => simp at hj
  ·have hb2 : oblk φ id (.lst e 3 es (.arr B) [m,p]) b := hb
   obtain ⟨g1,g2,g3⟩ := hF.own id _ b hob' hb2
   exact ⟨g1,g3,.inr ⟨id,_,rfl,hob',hb2⟩⟩
theorem AW_lstEnd {cd : Code} (id B : Nat) {e eb szb : Nat} {es bs : List (List PV)} {m p : Int} (es' : List (List PV)) (hes : es ++ [[.sl bs,.int .i64 m,.int .i64 p]] = es') (hne : Nat.beq B id = false) (hob : s.obj id = some (.lst e 3 es (.arr B) [m,p])) (hobB : s.obj B = some (.arr eb szb bs))
  (h : AW P nt cd Q ((s.setObj B (some (.fro bs))).setObj id (some (.arr e 3 es')))) : AW P nt cd Q s:= by
 subst hes
 intro ro W0 D0 D φ a w hr hI
 obtain ⟨D',hI'⟩ := hI.lstEnd hne hob hobB
 exact h ro W0 D0 D' φ a w hr hI'
theorem AL_lstEnd (id B : Nat) {e eb szb : Nat} {es bs : List (List PV)} {m p : Int} (es' : List (List PV)) (hes : es ++ [[.sl bs,.int .i64 m,.int .i64 p]] = es') (hne : Nat.beq B id = false) (hob : s.obj id = some (.lst e 3 es (.arr B) [m,p])) (hobB : s.obj B = some (.arr eb szb bs))
  (h : AL P nt ops rest Q ((s.setObj B (some (.fro bs))).setObj id (some (.arr e 3 es')))) : AL P nt ops rest Q s:= by
 subst hes
 intro ro W0 D0 D φ a w hr hI
 obtain ⟨D',hI'⟩ := hI.lstEnd hne hob hobB
 exact h ro W0 D0 D' φ a w hr hI'
end
end Go.Abs
