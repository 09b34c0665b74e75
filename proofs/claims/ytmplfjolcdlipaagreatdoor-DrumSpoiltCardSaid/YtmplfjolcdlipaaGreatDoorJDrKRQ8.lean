/- Plain: a slip of which one digit is changed is the slip of no drum. -/
import Derived.Test.YtmplfjolcdlipaaGreatDoorJKGQ8
import Derived.Test.YtmplfjolcdlipaaGreatDoorJXQ8
set_option linter.unusedVariables false
set_option linter.unusedSimpArgs false
namespace Go.Abs
open Go.Proofs Go.RowKit
set_option linter.unusedVariables false
set_option linter.unusedSimpArgs false
set_option maxRecDepth 100000
theorem consH_set {c b' : UInt8} (x : UInt8) (L : List (List UInt8)) (k j : Nat) (y : List UInt8) (hL : L ≠ []) (hk : L[k]? = some y) : ∃ k' j' y',(consH x L)[k']? = some y' /\ y'[j']? = y[j]? /\ consH x (L.set k (y.set j b')) = (consH x L).set k' (y'.set j' b'):= by
 match L,k with
 | z :: L,0 =>
  simp only [List.getElem?_cons_zero,Option.some.injEq] at hk
  subst hk
  exact ⟨0,j + 1,x :: z,rfl,by simp,rfl⟩
 | z :: L,k + 1 =>
  simp only [List.getElem?_cons_succ] at hk
  exact ⟨k + 1,j,y,by simpa [consH] using hk,rfl,rfl⟩
theorem splitS_set {c b b' : UInt8} (hb : b ≠ c) (hb' : b' ≠ c) : ∀ (l : List UInt8) (i : Nat),l[i]? = some b -> ∃ k j y,(splitS c l)[k]? = some y /\ y[j]? = some b /\ splitS c (l.set i b') = (splitS c l).set k (y.set j b')
 | [],i,h => by simp at h
 | x :: l,0,h => by
  simp only [List.getElem?_cons_zero,Option.some.injEq] at h
  subst h
  have hne := splitS_ne c l
  rw [List.set_cons_zero,show splitS c (b' :: l) = consH b' (splitS c l) by rw [splitS,if_neg hb'],show splitS c (x :: l) = consH x (splitS c l) by rw [splitS,if_neg hb]]
  cases hs : splitS c l with
  | nil => exact absurd hs hne
  | cons z L => exact ⟨0,0,x :: z,rfl,rfl,rfl⟩
 | x :: l,i + 1,h => by
  simp only [List.getElem?_cons_succ] at h
  obtain ⟨k,j,y,h1,h2,h3⟩ := splitS_set hb hb' l i h
  rw [List.set_cons_succ,splitS,splitS]
  by_cases hx : x = c
  ·rw [if_pos hx,if_pos hx,h3]
   exact ⟨k + 1,j,y,by simpa using h1,h2,rfl⟩
  ·rw [if_neg hx,if_neg hx,h3]
   obtain ⟨k',j',y',g1,g2,g3⟩ := consH_set (c := c) (b' := b') x (splitS c l) k j y (splitS_ne c l) h1
   exact ⟨k',j',y',g1,by rw [g2,h2],g3⟩
theorem bsum_set (b' : UInt8) : ∀ (x : List UInt8) (p : Int) (j : Nat) (b : UInt8),x[j]? = some b -> bsum (x.set j b') p = bsum x p + ((b'.toNat : Int) - b.toNat) * (p + j)
 | [],p,j,b,h => by simp at h
 | y :: x,p,0,b,h => by
  simp only [List.getElem?_cons_zero,Option.some.injEq] at h
  subst h
  simp only [List.set_cons_zero,bsum,Int.natCast_zero,Int.add_zero,Int.sub_mul]
  omega
 | y :: x,p,j + 1,b,h => by
  simp only [List.getElem?_cons_succ] at h
  simp only [List.set_cons_succ,bsum,bsum_set b' x (p + 1) j b h]
  rw [show p + 1 + (j : Int) = p + ((j + 1 : Nat) : Int) by omega]
  omega
theorem sumI_cons (m : Int) (M : List Int) : sumI (m :: M) = m + sumI M := rfl
theorem sumI_set : ∀ (M : List Int) (k : Nat) (u v : Int),M[k]? = some u -> sumI (M.set k v) = sumI M + (v - u)
 | [],k,u,v,h => by simp at h
 | m :: M,0,u,v,h => by
  simp only [List.getElem?_cons_zero,Option.some.injEq] at h
  subst h
  simp only [List.set_cons_zero,sumI_cons]
  omega
 | m :: M,k + 1,u,v,h => by
  simp only [List.getElem?_cons_succ] at h
  simp only [List.set_cons_succ,sumI_cons,sumI_set M k u v h]
  omega
def chkW (A : List (List UInt8)) : Int := sumI (A.map fun l => bsum l 1)
theorem chk_eq (d : Drum) : checkI (linesD d) = chkW (hdW d :: bodyW d):= by
 unfold checkI chkW
 rw [<- lines_data,List.map_map]
 rfl
def endV (c : Int) : List UInt8 := (endL (c % 103)).data.toList
theorem endW_V (d : Drum) : endW d = endV (chkW (hdW d :: bodyW d)) := by unfold endW endV; rw [chk_eq]
theorem ito1 {k : Int} (h : 0 <= k /\ k < 10) : (itoaB k).data.toList = [UInt8.ofNat (48 + k.toNat)]:= by
 show Lib.decDigits k.toNat = _
 rw [dec_unf,if_pos (by omega)]
theorem ofNat_inj {a b : Nat} (ha : a < 256) (hb : b < 256) (h : UInt8.ofNat a = UInt8.ofNat b) : a = b:= by
 have := congrArg UInt8.toNat h
 simp only [UInt8.toNat_ofNat',Nat.reducePow] at this
 omega
theorem endV_inj {a b : Int} (h : endV a = endV b) : a % 103 = b % 103:= by
 unfold endV endL at h
 have ha : 0 <= a % 103 /\ a % 103 < 103 := ⟨Int.emod_nonneg _ (by omega),Int.emod_lt_of_pos _ (by omega)⟩
 have hb : 0 <= b % 103 /\ b % 103 < 103 := ⟨Int.emod_nonneg _ (by omega),Int.emod_lt_of_pos _ (by omega)⟩
 generalize a % 103 = x at *
 generalize b % 103 = y at *
 simp only [ByteArray.data_append,Array.toList_append] at h
 rw [ito1 (by omega),ito1 (by omega),ito1 (by omega),ito1 (by omega),ito1 (by omega),ito1 (by omega)] at h
 simp only [List.append_assoc,List.append_cancel_left_eq,List.cons_append,List.nil_append,List.cons.injEq,and_true] at h
 obtain ⟨h1,h2,h3⟩ := h
 have h1 := ofNat_inj (by omega) (by omega) h1
 have h2 := ofNat_inj (by omega) (by omega) h2
 have h3 := ofNat_inj (by omega) (by omega) h3
 omega
theorem mod103 : ∀ a < 10,a ≠ 0 -> ∀ n < 103,n ≠ 0 -> (a * n) % 103 ≠ 0 := by decide +kernel
theorem prod_mod {u v : Int} (hu : u ≠ 0) (h1 : -9 <= u /\ u <= 9) (h2 : 1 <= v /\ v <= 102) : (u * v) % 103 ≠ 0:= by
 obtain ⟨n,rfl⟩ : ∃ n : Nat,v = n := ⟨v.toNat,by omega⟩
 by_cases hp : 0 <= u
 ·obtain ⟨a,rfl⟩ : ∃ a : Nat,u = a := ⟨u.toNat,by omega⟩
  have := mod103 a (by omega) (by omega) n (by omega) (by omega)
  rw [<- Int.natCast_mul]
  omega
 ·obtain ⟨a,ha⟩ : ∃ a : Nat,u = -(a : Int) := ⟨(-u).toNat,by omega⟩
  subst ha
  have := mod103 a (by omega) (by omega) n (by omega) (by omega)
  rw [Int.neg_mul,<- Int.natCast_mul]
  omega
theorem lines_le {d : Drum} (hP : DrumP d) : ∀ x ∈ hdW d :: bodyW d,x.length <= 102:= by
 have hs := smallD hP
 have al := hP.al; have h1 := hP.h1
 obtain ⟨g1,g2⟩ := sm_hd hs
 intro x hx
 simp only [bodyW,List.mem_cons,List.mem_append,List.mem_map] at hx
 rcases hx with rfl | ⟨a,ha,rfl⟩ | rfl | ⟨s,hs',rfl⟩ | ⟨b,hb,rfl⟩
 ·have := dD4 g1; have := dD4 g2
  simp only [hdW,joinW,wDrum,wKnown,List.length_append,List.flatMap_cons,List.flatMap_nil,List.length_cons,List.length_nil]; omega
 ·obtain ⟨q1,q2⟩ := sm_ac hs ha
  have := dD4 (q1 a.strength.low (by simp [acN])); have := dD4 (q1 a.strength.high (by simp [acN])); have := dD4 (q2 a.fall.low (by simp [faN])); have := dD4 (q2 a.fall.high (by simp [faN]))
  simp only [acW,joinW,wAcid,wFall,List.length_append,List.flatMap_cons,List.flatMap_nil,List.length_cons,List.length_nil]; omega
 ·have := joinW_len wAdd d.adds (sm_ad hs)
  have w3 : wAdd.length = 3 := rfl
  unfold adW; omega
 ·have : (stW s).length <= 20 := joinW_len wStrip (stN s) (sm_st hs hs')
  omega
 ·have : (baW b).length <= 35 := joinW_len wBatch (baN b) (sm_ba hs hb)
  omega
theorem spoilt {d : Drum} (hP : DrumP d) {i : Nat} {b b' : UInt8} (hi : (textD d).data.toList[i]? = some b) (hb : 48 <= b.toNat /\ b.toNat <= 57) (hb' : 48 <= b'.toNat /\ b'.toNat <= 57) (hne : b ≠ b') : readM ((textD d).data.toList.set i b') = none:= by
 cases hm : readM ((textD d).data.toList.set i b') with
 | none => rfl
 | some d' =>
  exfalso
  have hl := text_len hP
  obtain ⟨hs',_,_,ht⟩ := readM_ok (by rw [List.length_set]; exact hl) hm
  have hT : (textD d').data.toList = (textD d).data.toList.set i b' := by rw [ht]; simp [bytesOf]
  have hs := smallD hP
  have e0 : splitS 10 (textD d).data.toList = hdW d :: bodyW d ++ [endW d] ++ [[]] := by rw [<- splitL_S,splitL_S]; exact split_text hs
  have e1 : splitS 10 (textD d').data.toList = hdW d' :: bodyW d' ++ [endW d'] ++ [[]] := split_text hs'
  have n10 : ∀ x : UInt8,48 <= x.toNat /\ x.toNat <= 57 -> x ≠ 10 := fun x hx he => by subst he; revert hx; decide
  obtain ⟨k,j,y,h1,h2,h3⟩ := splitS_set (c := 10) (n10 b hb) (n10 b' hb') _ i hi
  rw [<- hT,e1,e0] at h3
  rw [e0] at h1
  have hA : (hdW d' :: bodyW d').length = (hdW d :: bodyW d).length:= by
   have := congrArg List.length h3
   simp only [List.length_set,List.length_append,List.length_cons,List.length_nil] at this ⊢
   omega
  rw [endW_V,endW_V] at h3
  rw [endW_V] at h1
  have hlen := lines_le hP
  generalize hdW d :: bodyW d = A at *
  generalize hdW d' :: bodyW d' = A' at *
  by_cases hk : k < A.length
  ·have hy : A[k]? = some y:= by
    rw [List.append_assoc,List.getElem?_append_left hk] at h1; exact h1
   rw [List.append_assoc,List.append_assoc,List.set_append_left _ _ hk] at h3
   obtain ⟨q1,q2⟩ := List.append_inj h3 (by rw [List.length_set]; exact hA)
   have q2 : endV (chkW A') = endV (chkW A) := by simpa using q2
   have q3 := endV_inj q2
   have hc : chkW A' = chkW A + ((b'.toNat : Int) - b.toNat) * (1 + j):= by
    rw [q1]
    unfold chkW
    rw [List.map_set,sumI_set _ k (bsum y 1) _ (by rw [List.getElem?_map,hy]; rfl),bsum_set b' y 1 j b h2]
    omega
   have hjl : j < y.length := (List.getElem?_eq_some_iff.1 h2).1
   have hyl := hlen y (List.mem_of_getElem? hy)
   have hne2 : (b'.toNat : Int) - b.toNat ≠ 0 := fun e => hne (UInt8.toNat_inj.1 (by omega))
   have := prod_mod (u := (b'.toNat : Int) - b.toNat) (v := 1 + j) hne2 (by omega) (by omega)
   rw [hc] at q3
   generalize ((b'.toNat : Int) - b.toNat) * (1 + j) = t at *
   omega
  ·by_cases hk2 : k = A.length
   ·subst hk2
    have hy : y = endV (chkW A):= by
     rw [List.append_assoc,List.getElem?_append_right (Nat.le_refl _)] at h1
     simpa using h1.symm
    rw [List.append_assoc,List.append_assoc,List.set_append_right _ _ (Nat.le_refl _)] at h3
    obtain ⟨q1,q2⟩ := List.append_inj h3 hA
    subst q1
    have q2 : endV (chkW A') = y.set j b' := by simpa using q2
    rw [<- hy] at q2
    have : (y.set j b')[j]? = some b':= by
     rw [List.getElem?_set,if_pos rfl,if_pos (List.getElem?_eq_some_iff.1 h2).1]
    rw [<- q2,h2] at this
    exact hne (by simpa using this)
   ·have hk3 : k = A.length + 1:= by
     have := (List.getElem?_eq_some_iff.1 h1).1
     simp only [List.length_append,List.length_cons,List.length_nil] at this
     omega
    subst hk3
    rw [List.append_assoc,List.getElem?_append_right (by omega)] at h1
    have : y = [] := by simpa using h1.symm
    subst this
    simp at h2
end Go.Abs
