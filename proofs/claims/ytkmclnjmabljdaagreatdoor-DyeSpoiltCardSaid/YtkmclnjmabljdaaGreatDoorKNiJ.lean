/- The reference: a text cut at a byte, a number, the numbers of a line. -/
import Derived.Test.YtkmclnjmabljdaaGreatDoorKNiC
set_option linter.unusedVariables false
set_option linter.unusedSimpArgs false
namespace Go.Abs
open Go.Proofs Go.RowKit
set_option linter.unusedVariables false
set_option linter.unusedSimpArgs false
set_option maxRecDepth 100000
theorem ext_mid (l : List UInt8) (a b : Nat) : (bytesOf l).extract a b = bytesOf ((l.drop a).take (b - a)) := bytes_ext (by rw [Lib.extract_data]; rfl)
set_option maxHeartbeats 4000000 in
theorem f161 (l : List UInt8) (c : UInt8) (hl : l.length <= 1000) : ACalls Tryz.prog 161 [.str (bytesOf l),.int .u8 c.toNat] (fun r => r = .own 9 1 ((splitS c l).map eStrL)):= by
 have hsz := bytesOf_size l
 refine ACalls.of_body hT Tryz.func161 rfl (by kernel_rfl) rfl ?_
 (repeat (refine stq ?_))
 refine AW_own_nil (e := 9) (sz := 1) (t := 5) rfl rfl ?_
 (repeat (refine stq ?_))
 refine AW_loopC (fun i : Nat × Nat × List (List UInt8) => i.1 <= i.2.1 /\ i.2.1 <= l.length /\ i.2.2.length <= i.1 /\ splitS c l = i.2.2 ++ splitS c (l.drop i.1) /\ c ∉ (l.drop i.1).take (i.2.1 - i.1))
  (fun i => mkSt [(0,.pv (.str (bytesOf l))),(1,.pv (.int .u8 c.toNat)),(5,.arr 0),(6,.pv (vi i.1)),(7,.pv (vi i.2.1))] [(0,.arr 9 1 (i.2.2.map eStrL))] 1) (fun i => l.length - i.2.1) (0,0,[]) ⟨Nat.le_refl _,Nat.zero_le _,Nat.le_refl _,rfl,by simp⟩ ?_ ?_
 ·(refine Le.mkR [(0,0)] ?_ ?_ rfl; all_goals (repeat' (first | exact trivial | refine sle ?_ | refine ⟨?_,rfl,?_⟩ | refine ⟨?_,by decide,rfl,?_⟩ | fail)))
 ·rintro ⟨fr,i,out⟩ ⟨h1,h2,h3,h4,h5⟩
  dsimp only at h1 h2 h3 h4 h5 ⊢
  have hol : out.length <= 1000 := by omega
  (repeat' (first | refine stq ?_ | (refine AL_do2 rfl ?_; first | refine ⟨_,op_len_str hT rfl rfl rfl rfl rfl,?_⟩) | (with_reducible refine AL_id ?_); (fail_if_success (refine AL_glit rfl rfl rfl (by first | exact .inl (by with_reducible rfl) | exact .inr (by with_reducible rfl)) ?_)); first | refine AL_gdec rfl rfl rfl (fun hg => ?_) (fun hg => ?_) | refine AL_gnot rfl rfl rfl (fun hg => ?_) (fun hg => ?_) | refine AL_gcases rfl rfl rfl (fun hg => ?_) (fun hg => ?_)))
  refine AW_if rfl (fun hc => ?_) (fun hc => ?_)
  ·have hi' : i < l.length := by omega
   obtain ⟨b,hb⟩ : ∃ b,l[i]? = some b := ⟨l[i],by simp [hi']⟩
   have hb' : (bytesOf l)[((i : Nat) : Int).toNat]? = some b:= by
    rw [Int.toNat_natCast,getElem?_pos (bytesOf l) i (by rw [hsz]; exact hi')]
    have := (List.getElem?_eq_some_iff.1 hb).2
    exact congrArg some ((rfl : (bytesOf l)[i]'(by rw [hsz]; exact hi') = l[i]'hi').trans this)
   have hdi : l.drop fr = (l.drop fr).take (i - fr) ++ b :: l.drop (i + 1):= by
    have e := List.take_append_drop (i - fr) (l.drop fr)
    rw [List.drop_drop,show fr + (i - fr) = i by omega,List.drop_eq_getElem_cons hi',(List.getElem?_eq_some_iff.1 hb).2] at e
    exact e.symm
   have htk : (l.drop fr).take (i + 1 - fr) = (l.drop fr).take (i - fr) ++ [b]:= by
    rw [show i + 1 - fr = (i - fr) + 1 by omega,List.take_add_one,List.getElem?_drop,show fr + (i - fr) = i by omega,hb]; rfl
   (repeat (refine stq ?_))
   refine AL_do2 rfl ⟨_,op_index_str hT rfl rfl rfl rfl rfl rfl (by omega) hb',?_⟩
   (repeat (refine stq ?_))
   refine AW_if rfl (fun hc2 => ?_) (fun hc2 => ?_)
   ·have hbc : b = c:= by
     apply UInt8.toNat_inj.1
     omega
    subst hbc
    (repeat (refine stq ?_))
    refine AL_do2 rfl ⟨_,op_slice_str (lo := fr) (hi := i) hT rfl rfl rfl rfl rfl (.inr ⟨_,.i64,rfl,rfl⟩) (.inr ⟨_,.i64,rfl,rfl⟩) h1 (by omega),?_⟩
    rw [ext_mid]
    (repeat (refine stq ?_))
    refine ⟨(i + 1,i + 1,out ++ [(l.drop fr).take (i - fr)]),⟨Nat.le_refl _,hi',by simp; omega,?_,by simp⟩,by dsimp only; omega,?_⟩
    ·have e := splitS_app (l.drop (i + 1)) h5
     rw [<- hdi] at e
     dsimp only
     rw [h4,e,List.append_assoc]
     rfl
    ·(refine Le.mkR [(0,2)] ?_ ?_ rfl; all_goals (repeat' (first | exact trivial | refine sle ?_ | refine ⟨?_,rfl,?_⟩ | refine ⟨?_,by decide,rfl,?_⟩ | fail)))
     show some (AObj.arr 9 1 (out.map eStrL ++ [eStrL ((l.drop fr).take (i - fr))])) = some (AObj.arr 9 1 ((out ++ [(l.drop fr).take (i - fr)]).map eStrL))
     rw [List.map_append]; rfl
   ·have hbc : c ≠ b := fun e => hc2 (by rw [e])
    (repeat (refine stq ?_))
    refine ⟨(fr,i + 1,out),⟨by dsimp only; omega,hi',h3,h4,?_⟩,by dsimp only; omega,?_⟩
    ·dsimp only
     rw [htk,List.mem_append,not_or]
     exact ⟨h5,by simpa using hbc⟩
    ·(refine Le.mk ?_ ?_; all_goals (repeat' (first | exact trivial | refine sle ?_ | refine ⟨?_,rfl,?_⟩ | refine ⟨?_,by decide,rfl,?_⟩ | fail)))
  ·have hi' : i = l.length := by omega
   subst hi'
   have hno : c ∉ l.drop fr := by rwa [List.take_of_length_le (by simp)] at h5
   (repeat (refine stq ?_))
   refine AL_do2 rfl ⟨_,op_slice_str (lo := fr) (hi := (bytesOf l).size) hT rfl rfl rfl rfl rfl (.inr ⟨_,.i64,rfl,rfl⟩) (.inl ⟨rfl,rfl⟩) (by omega) (Nat.le_refl _),?_⟩
   rw [ext_drop]
   (repeat (refine stq ?_))
   refine ⟨_,_,rfl,rfl,?_⟩
   rw [h4,splitS_one hno]
   show RV.own 9 1 (out.map eStrL ++ [eStrL (l.drop fr)]) = RV.own 9 1 ((out ++ [l.drop fr]).map eStrL)
   rw [List.map_append]; rfl
def numR (l : List UInt8) : Int := if numG l = true then numV l else -1
set_option maxHeartbeats 4000000 in
theorem f205 (l : List UInt8) (hl : l.length <= 1000) : ACalls Tryz.prog 205 [.str (bytesOf l)] (fun r => r = .pv (vi (numR l))):= by
 have hsz := bytesOf_size l
 by_cases h14 : 1 <= l.length /\ l.length <= 3
 ·obtain ⟨hl1,hl4⟩ := h14
  refine ACalls.of_body hT Tryz.func205 rfl (by kernel_rfl) rfl ?_
  (repeat' (first | refine stq ?_ | (refine AL_do2 rfl ?_; first | refine ⟨_,op_len_str hT rfl rfl rfl rfl rfl,?_⟩) | ((first | (with_reducible refine AL_id ?_); (fail_if_success (refine AL_glit rfl rfl rfl (by first | exact .inl (by with_reducible rfl) | exact .inr (by with_reducible rfl)) ?_)); first | refine AL_gdec rfl rfl rfl (fun hg => ?_) (fun hg => ?_) | refine AL_gnot rfl rfl rfl (fun hg => ?_) (fun hg => ?_) | refine AL_gcases rfl rfl rfl (fun hg => ?_) (fun hg => ?_)) <;> (try (exfalso; omega))) | refine AW_if rfl (fun hc => absurd hc (by omega)) (fun _ => ?_) | refine AW_if rfl (fun _ => ?_) (fun hc => absurd (by omega) hc)))
  refine AW_loopC (fun j : Nat => j <= l.length /\ (∀ b ∈ l.take j,digB b = true)) (fun j => mkSt [(0,.pv (.str (bytesOf l))),(3,.pv (vi (numV (l.take j)))),(4,.pv (vi j))] [] 0) (fun j => l.length - j) 0 ⟨Nat.zero_le _,by simp⟩ ?_ ?_
  ·(refine Le.mk ?_ ?_; all_goals (repeat' (first | exact trivial | refine sle ?_ | refine ⟨?_,rfl,?_⟩ | refine ⟨?_,by decide,rfl,?_⟩ | fail)))
  ·rintro j ⟨hj,hdg⟩
   have hv := numV_bd (l := l.take j) hdg (by simp; omega)
   (repeat' (first | refine stq ?_ | (refine AL_do2 rfl ?_; first | refine ⟨_,op_len_str hT rfl rfl rfl rfl rfl,?_⟩) | (with_reducible refine AL_id ?_); (fail_if_success (refine AL_glit rfl rfl rfl (by first | exact .inl (by with_reducible rfl) | exact .inr (by with_reducible rfl)) ?_)); first | refine AL_gdec rfl rfl rfl (fun hg => ?_) (fun hg => ?_) | refine AL_gnot rfl rfl rfl (fun hg => ?_) (fun hg => ?_) | refine AL_gcases rfl rfl rfl (fun hg => ?_) (fun hg => ?_)))
   refine AW_if rfl (fun hc => ?_) (fun hc => ?_)
   ·have hj' : j < l.length := by omega
    obtain ⟨b,hb⟩ : ∃ b,l[j]? = some b := ⟨l[j],by simp [hj']⟩
    have hb' : (bytesOf l)[((j : Nat) : Int).toNat]? = some b:= by
     rw [Int.toNat_natCast,getElem?_pos (bytesOf l) j (by rw [hsz]; exact hj')]
     have := (List.getElem?_eq_some_iff.1 hb).2
     exact congrArg some ((rfl : (bytesOf l)[j]'(by rw [hsz]; exact hj') = l[j]'hj').trans this)
    have hs : l.take (j + 1) = l.take j ++ [b] := by rw [List.take_add_one,hb]; rfl
    have hsn := numV_snoc (l.take j) b
    by_cases hbd : digB b = true
    ·have hbd' := hbd
     simp only [digB,Bool.and_eq_true,decide_eq_true_eq] at hbd
     (repeat' (first | refine stq ?_ | (refine AL_do2 rfl ?_; first | refine ⟨_,op_index_str hT rfl rfl rfl rfl rfl rfl (by omega) hb',?_⟩) | (with_reducible refine AL_id ?_); (fail_if_success (refine AL_glit rfl rfl rfl (by first | exact .inl (by with_reducible rfl) | exact .inr (by with_reducible rfl)) ?_)); first | refine AL_gdec rfl rfl rfl (fun hg => ?_) (fun hg => ?_) | refine AL_gnot rfl rfl rfl (fun hg => ?_) (fun hg => ?_) | refine AL_gcases rfl rfl rfl (fun hg => ?_) (fun hg => ?_)))
     all_goals (try (exfalso; omega))
     refine AW_if rfl (fun hc => absurd hc (by omega)) (fun _ => ?_)
     have hm : -9223372036854775808 <= 10 * numV (l.take j) /\ 10 * numV (l.take j) <= 9223372036854775807 := by omega
     have hw : IntKind.i64.wrap (IntKind.u8.wrap ((b.toNat : Int) - 48)) = (b.toNat : Int) - 48:= by
      unfold IntKind.wrap; simp [IntKind.signed,IntKind.bits]; omega
     generalize numV (l.take j) = n at *
     (repeat' (first | refine stq ?_ | (refine AL_do2 rfl ?_; first | refine ⟨_,op_index_str hT rfl rfl rfl rfl rfl rfl (by omega) hb',?_⟩) | (with_reducible refine AL_id ?_); (fail_if_success (refine AL_glit rfl rfl rfl (by first | exact .inl (by with_reducible rfl) | exact .inr (by with_reducible rfl)) ?_)); first | refine AL_gdec rfl rfl rfl (fun hg => ?_) (fun hg => ?_) | refine AL_gnot rfl rfl rfl (fun hg => ?_) (fun hg => ?_) | refine AL_gcases rfl rfl rfl (fun hg => ?_) (fun hg => ?_)))
     refine AL_do2 rfl ⟨_,op_bin (k := .u8) (op := .sub) rfl rfl rfl rfl rfl,?_⟩
     refine AL_do2 rfl ⟨_,op_conv hT rfl rfl rfl rfl rfl rfl rfl,?_⟩
     rw [hw]
     (repeat (refine stq ?_))
     refine ⟨j + 1,⟨hj',fun x hx => ?_⟩,by omega,?_⟩
     ·rw [hs] at hx
      rcases List.mem_append.1 hx with hx | hx
      ·exact hdg x hx
      ·simp only [List.mem_singleton] at hx; subst hx; exact hbd'
     (refine Le.mk ?_ ?_; all_goals (repeat' (first | exact trivial | refine sle ?_ | refine ⟨?_,rfl,?_⟩ | refine ⟨?_,by decide,rfl,?_⟩ | fail)))
     show some (FV.pv (vi (10 * n + ((b.toNat : Int) - 48)))) = some (FV.pv (vi (numV (l.take (j + 1)))))
     rw [hs,hsn]
    ·have hbad : numG l = false:= by
      cases hb2 : numG l with
      | false => rfl
      | true => exact absurd ((numG_w hb2).dig b (List.mem_of_getElem? hb)) hbd
     rw [numR,hbad]
     simp only [digB,Bool.and_eq_true,decide_eq_true_eq] at hbd
     (repeat' (first | refine stq ?_ | (refine AL_do2 rfl ?_; first | refine ⟨_,op_index_str hT rfl rfl rfl rfl rfl rfl (by omega) hb',?_⟩) | ((first | (with_reducible refine AL_id ?_); (fail_if_success (refine AL_glit rfl rfl rfl (by first | exact .inl (by with_reducible rfl) | exact .inr (by with_reducible rfl)) ?_)); first | refine AL_gdec rfl rfl rfl (fun hg => ?_) (fun hg => ?_) | refine AL_gnot rfl rfl rfl (fun hg => ?_) (fun hg => ?_) | refine AL_gcases rfl rfl rfl (fun hg => ?_) (fun hg => ?_)) <;> (try (exfalso; omega))) | refine AW_if rfl (fun hc => absurd hc (by omega)) (fun _ => ?_) | refine AW_if rfl (fun _ => ?_) (fun hc => absurd (by omega) hc)))
     all_goals first | exact ⟨_,_,rfl,rfl,rfl⟩ | (exfalso; omega)
   ·have hj2 : j = l.length := by omega
    subst hj2
    rw [List.take_length] at hdg hv ⊢
    have k160 := f160 (numV l).toNat (by omega)
    rw [show (((numV l).toNat : Nat) : Int) = numV l by omega] at k160
    have hall : l.all digB = true := List.all_eq_true.2 hdg
    by_cases hd : Lib.decDigits (numV l).toNat = l
    ·have hg : numG l = true := by simp [numG,hall,hl1,hl4,hd]
     rw [numR,if_pos hg]
     (repeat' (first | refine stq ?_ | (refine AL_do2 rfl ?_; first | refine ⟨_,op_call1 rfl rfl rfl rfl (k160),nrmA rfl ?_⟩ | refine ⟨_,op_strneB (b := false) (by rw [hd]; simp) rfl rfl rfl rfl,?_⟩) | (with_reducible refine AL_id ?_); (fail_if_success (refine AL_glit rfl rfl rfl (by first | exact .inl (by with_reducible rfl) | exact .inr (by with_reducible rfl)) ?_)); first | refine AL_gdec rfl rfl rfl (fun hg => ?_) (fun hg => ?_) | refine AL_gnot rfl rfl rfl (fun hg => ?_) (fun hg => ?_) | refine AL_gcases rfl rfl rfl (fun hg => ?_) (fun hg => ?_)))
     exact ⟨_,_,rfl,rfl,rfl⟩
    ·have hg : numG l = false := by simp [numG,hall,hl1,hl4,hd]
     rw [numR,hg]
     (repeat' (first | refine stq ?_ | (refine AL_do2 rfl ?_; first | refine ⟨_,op_call1 rfl rfl rfl rfl (k160),nrmA rfl ?_⟩ | refine ⟨_,op_strneB (b := true) (by
      have : ((bytesOf (Lib.decDigits (numV l).toNat)).data.toList == (bytesOf l).data.toList) = false := beq_eq_false_iff_ne.2 hd
      rw [this]; rfl) rfl rfl rfl rfl,?_⟩) | (with_reducible refine AL_id ?_); (fail_if_success (refine AL_glit rfl rfl rfl (by first | exact .inl (by with_reducible rfl) | exact .inr (by with_reducible rfl)) ?_)); first | refine AL_gdec rfl rfl rfl (fun hg => ?_) (fun hg => ?_) | refine AL_gnot rfl rfl rfl (fun hg => ?_) (fun hg => ?_) | refine AL_gcases rfl rfl rfl (fun hg => ?_) (fun hg => ?_)))
     exact ⟨_,_,rfl,rfl,rfl⟩
 ·have hg : numG l = false:= by
   cases hb : numG l with
   | false => rfl
   | true =>
    exfalso
    have := numG_w hb
    exact h14 ⟨this.l1,this.l4⟩
  rw [numR,hg]
  refine ACalls.of_body hT Tryz.func205 rfl (by kernel_rfl) rfl ?_
  (repeat' (first | refine stq ?_ | (refine AL_do2 rfl ?_; first | refine ⟨_,op_len_str hT rfl rfl rfl rfl rfl,?_⟩) | ((first | (with_reducible refine AL_id ?_); (fail_if_success (refine AL_glit rfl rfl rfl (by first | exact .inl (by with_reducible rfl) | exact .inr (by with_reducible rfl)) ?_)); first | refine AL_gdec rfl rfl rfl (fun hg => ?_) (fun hg => ?_) | refine AL_gnot rfl rfl rfl (fun hg => ?_) (fun hg => ?_) | refine AL_gcases rfl rfl rfl (fun hg => ?_) (fun hg => ?_)) <;> (try (exfalso; omega))) | refine AW_if rfl (fun hc => absurd hc (by omega)) (fun _ => ?_) | refine AW_if rfl (fun _ => ?_) (fun hc => absurd (by omega) hc)))
  all_goals first | exact ⟨_,_,rfl,rfl,rfl⟩ | (exfalso; omega)
def toldR (w : List UInt8) (many : Nat) (x : List UInt8) : List Int :=
 if (splitS 32 x).length = many + 1 /\ (splitS 32 x).headD [] = w then (match numsR ((splitS 32 x).drop 1) with | some ns => ns | none => []) else []
set_option maxHeartbeats 8000000 in
theorem f162 (x w : List UInt8) (many : Nat) (hm : many <= 10) (hx : x.length <= 1000) : ACalls Tryz.prog 162 [.str (bytesOf x),.str (bytesOf w),vi many] (fun r => r = .pv (eInts (toldR w many x))):= by
 have k161 := f161 x 32 (by omega)
 have hXl := splitS_len 32 x
 have hXe : ∀ y ∈ splitS 32 x,y.length <= 1000 := fun y hy => Nat.le_trans (splitS_each hy) hx
 unfold toldR
 generalize splitS 32 x = X at *
 obtain ⟨x0,xr,rfl⟩ : ∃ x0 xr,X = x0 :: xr:= by
  match X,hXl with
  | x0 :: xr,_ => exact ⟨x0,xr,rfl⟩
 have g1 : ((x0 :: xr).map eStrL)[(0 : Int).toNat]? = some (eStrL x0) := rfl
 have hxr : xr.length <= 1000 := by simp at hXl; omega
 have hlc : (x0 :: xr).length = xr.length + 1 := rfl
 refine ACalls.of_body hT Tryz.func162 rfl (by kernel_rfl) rfl ?_
 (repeat (refine stq ?_))
 refine AL_do2 rfl ⟨_,op_call1 rfl rfl rfl rfl k161,?_⟩
 refine AL_pure (t := 12) rfl rfl ?_
 by_cases hlen : (x0 :: xr).length = many + 1
 ·by_cases hw : x0 = w
  ·rw [if_pos ⟨hlen,hw⟩]
   (repeat' (first | refine stq ?_ | (refine AL_do2 rfl ?_; first | refine ⟨_,op_strneB (b := false) (by rw [hw]; simp) rfl rfl rfl rfl,?_⟩) | ((first | (with_reducible refine AL_id ?_); (fail_if_success (refine AL_glit rfl rfl rfl (by first | exact .inl (by with_reducible rfl) | exact .inr (by with_reducible rfl)) ?_)); first | refine AL_gdec rfl rfl rfl (fun hg => ?_) (fun hg => ?_) | refine AL_gnot rfl rfl rfl (fun hg => ?_) (fun hg => ?_) | refine AL_gcases rfl rfl rfl (fun hg => ?_) (fun hg => ?_)) <;> (try (exfalso; omega))) | refine AW_if rfl (fun hc => absurd hc (by omega)) (fun _ => ?_) | refine AW_if rfl (fun _ => ?_) (fun hc => absurd (by omega) hc)))
   all_goals (try (exfalso; omega))
   refine AW_own_nil (e := 3) (sz := 1) (t := 8) rfl rfl ?_
   (repeat (refine stq ?_))
   refine AW_loopC (fun k : Nat => k <= xr.length /\ ∀ y ∈ xr.take k,numG y = true) (fun k => mkSt [(7,.pv (.sl ((x0 :: xr).map eStrL))),(8,.arr 1),(9,.pv (vi ((k + 1 : Nat) : Int)))] [(1,.arr 3 1 ((xr.take k).map fun w => eInt (numV w)))] 2) (fun k => xr.length - k) 0 ⟨Nat.zero_le _,by simp⟩ ?_ ?_
   ·(refine Le.mk ?_ ?_; all_goals (repeat' (first | exact trivial | refine sle ?_ | refine ⟨?_,rfl,?_⟩ | refine ⟨?_,by decide,rfl,?_⟩ | fail)))
   ·rintro k ⟨hk,hg⟩
    (repeat (refine stq ?_))
    refine AW_if rfl (fun hc => ?_) (fun hc => ?_)
    ·have hk' : k < xr.length := by omega
     obtain ⟨y,hy⟩ : ∃ y,xr[k]? = some y := ⟨xr[k],by simp [hk']⟩
     have e1 : ((x0 :: xr).map eStrL)[(((k + 1 : Nat) : Int)).toNat]? = some (eStrL y) := get_map eStrL (l := x0 :: xr) (by simpa using hy)
     have hm := List.mem_of_getElem? hy
     have k205 := f205 y (hXe y (by simp [hm]))
     have htl : (xr.take k).length <= 1000 := by simp; omega
     have hs : xr.take (k + 1) = xr.take k ++ [y] := by rw [List.take_add_one,hy]; rfl
     cases hb : numG y with
     | true =>
      rw [numR,if_pos hb] at k205
      have hv := numV_nn hb
      (repeat' (first | refine stq ?_ | (refine AL_do2 rfl ?_; first | refine ⟨_,op_call1 rfl rfl rfl rfl (k205),nrmA rfl ?_⟩) | (with_reducible refine AL_id ?_); (fail_if_success (refine AL_glit rfl rfl rfl (by first | exact .inl (by with_reducible rfl) | exact .inr (by with_reducible rfl)) ?_)); first | refine AL_gdec rfl rfl rfl (fun hg => ?_) (fun hg => ?_) | refine AL_gnot rfl rfl rfl (fun hg => ?_) (fun hg => ?_) | refine AL_gcases rfl rfl rfl (fun hg => ?_) (fun hg => ?_)))
      refine AW_if rfl (fun hc2 => absurd hc2 (by omega)) (fun _ => ?_)
      (repeat (refine stq ?_))
      refine ⟨k + 1,⟨hk',fun z hz => ?_⟩,by omega,?_⟩
      ·rw [hs] at hz
       rcases List.mem_append.1 hz with hz | hz
       ·exact hg z hz
       ·simp only [List.mem_singleton] at hz; subst hz; exact hb
      (refine Le.mkR [(1,3)] ?_ ?_ rfl; all_goals (repeat' (first | exact trivial | refine sle ?_ | refine ⟨?_,rfl,?_⟩ | refine ⟨?_,by decide,rfl,?_⟩ | fail)))
      show some (AObj.arr 3 1 (((xr.take k).map fun w => eInt (numV w)) ++ [eInt (numV y)])) = some (AObj.arr 3 1 ((xr.take (k + 1)).map fun w => eInt (numV w)))
      rw [hs,List.map_append]; rfl
     | false =>
      rw [numR,if_neg (by rw [hb]; decide)] at k205
      have hn : numsR xr = none:= by
       unfold numsR
       rw [if_neg]
       intro h
       rw [List.all_eq_true.1 h y hm] at hb
       cases hb
      rw [show (x0 :: xr).drop 1 = xr from rfl,hn]
      (repeat' (first | refine stq ?_ | (refine AL_do2 rfl ?_; first | refine ⟨_,op_call1 rfl rfl rfl rfl (k205),nrmA rfl ?_⟩) | (with_reducible refine AL_id ?_); (fail_if_success (refine AL_glit rfl rfl rfl (by first | exact .inl (by with_reducible rfl) | exact .inr (by with_reducible rfl)) ?_)); first | refine AL_gdec rfl rfl rfl (fun hg => ?_) (fun hg => ?_) | refine AL_gnot rfl rfl rfl (fun hg => ?_) (fun hg => ?_) | refine AL_gcases rfl rfl rfl (fun hg => ?_) (fun hg => ?_)))
      exact ⟨_,_,rfl,rfl,rfl⟩
    ·have hk2 : k = xr.length := by omega
     subst hk2
     rw [List.take_length] at hg ⊢
     have hn : numsR xr = some (xr.map numV):= by
      unfold numsR
      rw [if_pos (List.all_eq_true.2 hg)]
     rw [show (x0 :: xr).drop 1 = xr from rfl,hn]
     refine AW_pure (t := 8) rfl rfl ?_
     (repeat (refine stq ?_))
     refine ⟨_,_,rfl,rfl,?_⟩
     show RV.pv (.sl (xr.map fun w => eInt (numV w))) = RV.pv (.sl ((xr.map numV).map eInt))
     rw [List.map_map]; rfl
  ·rw [if_neg (fun h => hw h.2)]
   (repeat' (first | refine stq ?_ | (refine AL_do2 rfl ?_; first | refine ⟨_,op_strneB (b := true) (by rw [beq_eq_false_iff_ne.2 (fun h => hw (bytesOf_inj (bytes_ext h)))]; rfl) rfl rfl rfl rfl,?_⟩) | ((first | (with_reducible refine AL_id ?_); (fail_if_success (refine AL_glit rfl rfl rfl (by first | exact .inl (by with_reducible rfl) | exact .inr (by with_reducible rfl)) ?_)); first | refine AL_gdec rfl rfl rfl (fun hg => ?_) (fun hg => ?_) | refine AL_gnot rfl rfl rfl (fun hg => ?_) (fun hg => ?_) | refine AL_gcases rfl rfl rfl (fun hg => ?_) (fun hg => ?_)) <;> (try (exfalso; omega))) | refine AW_if rfl (fun hc => absurd hc (by omega)) (fun _ => ?_) | refine AW_if rfl (fun _ => ?_) (fun hc => absurd (by omega) hc)))
   all_goals first | exact ⟨_,_,rfl,rfl,rfl⟩ | (exfalso; omega)
 ·rw [if_neg (fun h => hlen h.1)]
  (repeat' (first | refine stq ?_ | ((first | (with_reducible refine AL_id ?_); (fail_if_success (refine AL_glit rfl rfl rfl (by first | exact .inl (by with_reducible rfl) | exact .inr (by with_reducible rfl)) ?_)); first | refine AL_gdec rfl rfl rfl (fun hg => ?_) (fun hg => ?_) | refine AL_gnot rfl rfl rfl (fun hg => ?_) (fun hg => ?_) | refine AL_gcases rfl rfl rfl (fun hg => ?_) (fun hg => ?_)) <;> (try (exfalso; omega))) | refine AW_if rfl (fun hc => absurd hc (by omega)) (fun _ => ?_) | refine AW_if rfl (fun _ => ?_) (fun hc => absurd (by omega) hc)))
  all_goals first | exact ⟨_,_,rfl,rfl,rfl⟩ | (exfalso; omega)
end Go.Abs
