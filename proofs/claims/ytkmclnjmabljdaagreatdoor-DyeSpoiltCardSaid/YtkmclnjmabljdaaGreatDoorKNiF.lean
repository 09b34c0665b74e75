/- The next line of a text: its word and its numbers. -/
import Derived.Test.YtkmclnjmabljdaaGreatDoorKNiC
import Derived.Test.YtkmclnjmabljdaaGreatDoorKNcG
import Derived.Test.YtkmclnjmabljdaaGreatDoorKNhA
import Derived.Test.YtkmclnjmabljdaaGreatDoorKNcK
set_option linter.unusedVariables false
set_option linter.unusedSimpArgs false
namespace Go.Abs
open Go.Proofs Go.RowKit
set_option linter.unusedVariables false
set_option linter.unusedSimpArgs false
set_option maxRecDepth 100000
section
variable {P : Program} {T : Nat -> Option TyI} {nt : Nat} {s : ASt} {o : Oper} {ops : Array Oper}
theorem D_index_arrP {t e n : Nat} {x ix : Operand} {i ei : TyI} {cs : List PV} {y : PV} {k : IntKind} {m : Int} (hT : TabOK P T) (hg : guardT ops s o = true) (ho : o.op = .index t x ix) (hd : dstB nt o.dst = true) (ht : T t = some i)
  (hk : i.kind = .array e n) (he : T e = some ei) (hag : ei.agg = false) (hone : Nat.beq ei.size 1 = true) (hx : s.ev x = some (.pv (.agg cs))) (hi : s.ev ix = some (.pv (.int k m))) (h0 : 0 <= m) (hn : m < n) (hy : cs[m.toNat]? = some y) :
  StepOK P nt ops o s ⟨some (.pv y),false,[],[]⟩ (s.putO o.dst (some (.pv y))) :=
 StepOK.mkP hg fun s1 h1 _ => op_index_arrP hT ho hd ht hk he hag hone (by rw [ev_agree h1 (by simp [ho,Op.operands])]; exact hx) (by rw [ev_agree h1 (by simp [ho,Op.operands])]; exact hi) h0 hn hy
theorem D_slice_from {t e lo : Nat} {x y : Operand} {k : IntKind} {ti ei : TyI} {es : List (List PV)} (hT : TabOK P T) (hg : guardT ops s o = true) (ho : o.op = .slice t x (some y) none none) (hd : dstB nt o.dst = true) (ht : T t = some ti) (hk : ti.kind = .slice e) (he : T e = some ei)
  (hx : s.evS x = some (.sl es)) (hel : ∀ el ∈ es,el.length = ei.size) (hy : s.ev y = some (.pv (.int k (lo : Int)))) (h2 : lo <= es.length) :
  StepOK P nt ops o s ⟨some (.pv (.sl (es.drop lo))),false,[],[]⟩ (s.putO o.dst (some (.pv (.sl (es.drop lo))))) :=
 StepOK.mkP hg fun s1 h1 _ => by
  have := op_slice_sl (P := P) (nt := nt) (s := s1) (lo := lo) (hi := es.length) hT ho hd ht hk he (evS_D (by rw [evS_local h1 (by simp [ho,Op.operands])]; exact hx)) hel (.inr ⟨y,k,rfl,by rw [ev_agree h1 (by simp [ho,Op.operands])]; exact hy⟩) (.inl ⟨rfl,rfl⟩) h2 (Nat.le_refl _)
  rwa [List.take_length] at this
end
theorem numsK {l : List Int} (h : SmallL l) : NumsOK l := fun x hx => by
 have hb := h x hx
 obtain ⟨n,rfl⟩ : ∃ n : Nat,x = n := ⟨x.toNat,by omega⟩
 exact ⟨f201K n (by omega),itoa_sz hb⟩
def wTop : List UInt8 := [104,111,117,115,101]
def wDye : List UInt8 := [100,121,101]
def wStock : List UInt8 := [115,116,111,99,107]
def wBath : List UInt8 := [98,97,116,104]
def nextM (nm : List UInt8) (many : Nat) : List (List UInt8) -> Option (List Int × List (List UInt8))
 | [] => none
 | x :: r => if (splitS 32 x).length = many + 1 /\ (splitS 32 x).headD [] = nm then (match numsR ((splitS 32 x).drop 1) with | some ns => some (ns,r) | none => none) else none
theorem next_some {nm : List UInt8} {many : Nat} {L r : List (List UInt8)} {ns : List Int} (h : nextM nm many L = some (ns,r)) : ∃ x,L = x :: r /\ (splitS 32 x).length = many + 1 /\ (splitS 32 x).headD [] = nm /\ numsR ((splitS 32 x).drop 1) = some ns:= by
 match L,h with
 | x :: r',h =>
  rw [nextM] at h
  by_cases hc : (splitS 32 x).length = many + 1 /\ (splitS 32 x).headD [] = nm
  ·rw [if_pos hc] at h
   cases hn : numsR ((splitS 32 x).drop 1) with
   | none => rw [hn] at h; cases h
   | some ns' =>
    rw [hn] at h
    simp only [Option.some.injEq,Prod.mk.injEq] at h
    obtain ⟨rfl,rfl⟩ := h
    exact ⟨x,rfl,hc.1,hc.2,hn⟩
  ·rw [if_neg hc] at h; cases h
theorem f202b0 (many : Nat) {L : List (List UInt8)} (hm : many <= 10) (hL : L.length <= 700) (hle : ∀ x ∈ L,x.length <= 700) :
  ACallsB Tryz.prog 202 [.sl (L.map eStrL),vi 0,vi many] (fun q => ∃ ns r,nextM wTop many L = some (ns,r) /\ q = .tup [eInts ns,.sl (r.map eStrL)]) (fun c => nextM wTop many L = none /\ panW c):= by
 have k204e := f204t ByteArray.empty
 have k204ef := f204f ByteArray.empty
 match L with
 | [] =>
  refine ACallsB.of_body hT Tryz.func202 rfl (by kernel_rfl) rfl ?_
  (repeat (refine stq ?_))
  refine AL_callPn rfl rfl rfl rfl k204ef ?_
  (repeat (first | refine then_panic ?_ | refine inblk_panic ?_))
  exact ⟨_,⟨rfl,_,rfl⟩,rfl⟩
 | x :: r =>
 have hxl := hle x (by simp)
 have k203 := f203 x 32 (by omega)
 rw [splitL_S] at k203
 have hXl := splitS_len 32 x
 have hXe : ∀ y ∈ splitS 32 x,y.length <= 700 := fun y hy => Nat.le_trans (splitS_each hy) hxl
 rw [nextM]
 generalize splitS 32 x = X at *
 obtain ⟨x0,xr,rfl⟩ : ∃ x0 xr,X = x0 :: xr:= by
  match X,hXl with
  | x0 :: xr,_ => exact ⟨x0,xr,rfl⟩
 rw [show (x0 :: xr).headD [] = x0 from rfl,show (x0 :: xr).drop 1 = xr from rfl]
 have hrl : r.length <= 700 := by simp at hL; omega
 have hxrl : xr.length <= 701 := by simp at hXl; omega
 have g0 : ((x :: r).map eStrL)[(0 : Int).toNat]? = some (eStrL x) := rfl
 have g1 : ((x0 :: xr).map eStrL)[(0 : Int).toNat]? = some (eStrL x0) := rfl
 have k204 := f204t (bytesOf x)
 have k204f := f204f (bytesOf x)
 refine ACallsB.of_body hT Tryz.func202 rfl (by kernel_rfl) rfl ?_
 (repeat (refine stq ?_))
 rw [show decide ((((x :: r).length : Nat) : Int) > 0) = true from decide_eq_true (by simp)]
 (repeat' (first | refine stq ?_ | (refine AL_do2 rfl ?_; first | refine ⟨_,op_call1 rfl rfl rfl rfl (k204e),nrmA rfl ?_⟩) | (with_reducible refine AL_id ?_); (fail_if_success (refine AL_glit rfl rfl rfl (by first | exact .inl (by with_reducible rfl) | exact .inr (by with_reducible rfl)) ?_)); first | refine AL_gdec rfl rfl rfl (fun hg => ?_) (fun hg => ?_) | refine AL_gnot rfl rfl rfl (fun hg => ?_) (fun hg => ?_) | refine AL_gcases rfl rfl rfl (fun hg => ?_) (fun hg => ?_)))
 refine AL_do2 rfl ⟨_,op_call1 rfl rfl rfl rfl k203,?_⟩
 refine AL_pure (t := 20) rfl rfl ?_
 (repeat (refine stq ?_))
 iterate 4 (refine sdq ?_)
 by_cases hlen : (x0 :: xr).length = many + 1
 ·refine DG_boolT hT rfl (decide_eq_true (by simp at hlen ⊢; omega)) ?_
  iterate 4 (refine sdq ?_)
  refine DG_next (D_call rfl rfl rfl rfl rfl f221) ?_
  refine sdq ?_
  refine DG_next (D_index_arrP (y := .str (bytesOf wTop)) hT rfl rfl rfl rfl rfl rfl rfl rfl rfl rfl (by decide) (by decide) (by kernel_rfl)) ?_
  refine DG_next (D_streq (u := bytesOf x0) (v := bytesOf wTop) rfl rfl rfl rfl rfl) ?_
  by_cases hw : x0 = wTop
  ·rw [if_pos ⟨hlen,hw⟩]
   rw [show ((bytesOf x0).toList == (bytesOf wTop).toList) = true by rw [hw]; simp]
   (repeat (first | refine sdq ?_ | refine DG_next (D_call_tup rfl rfl rfl rfl rfl (k204)) ?_))
   refine DG_end hM (by kernel_rfl) ?_
   (repeat (refine stq ?_))
   refine AL_do2 rfl ⟨_,op_slice_sl (lo := 1) (hi := ((x0 :: xr).map eStrL).length) hT rfl rfl rfl rfl rfl rfl (by intro y hy; obtain ⟨_,_,rfl⟩ := List.mem_map.1 hy; rfl) (.inr ⟨_,.i64,rfl,rfl⟩) (.inl ⟨rfl,rfl⟩) (by simp) (Nat.le_refl _),?_⟩
   rw [show (((x0 :: xr).map eStrL).take ((x0 :: xr).map eStrL).length).drop 1 = xr.map eStrL by rw [List.take_length]; rfl]
   (repeat (refine stq ?_))
   refine AW_own_nil (e := 3) (sz := 1) (t := 9) rfl rfl ?_
   refine AW_loopC (fun k : Nat => k <= xr.length /\ ∀ y ∈ xr.take k,numG y = true) (fun k => mkSt [(0,.pv (.sl ((x :: r).map eStrL))),(9,.arr 1),(40,.pv (.sl (xr.map eStrL))),(41,.pv (vi xr.length)),(42,.pv (vi k))] [(1,.arr 3 1 ((xr.take k).map fun w => eInt (numV w)))] 2) (fun k => xr.length - k) 0 ⟨Nat.zero_le _,by simp⟩ ?_ ?_
   ·(refine Le.mk ?_ ?_; all_goals (repeat' (first | exact trivial | refine sle ?_ | refine ⟨?_,rfl,?_⟩ | refine ⟨?_,by decide,rfl,?_⟩ | fail)))
   ·rintro k ⟨hk,hg⟩
    (repeat (refine stq ?_))
    refine AW_if rfl (fun hc => ?_) (fun hc => ?_)
    ·have hk' : k < xr.length := by omega
     obtain ⟨y,hy⟩ : ∃ y,xr[k]? = some y := ⟨xr[k],by simp [hk']⟩
     have e1 : (xr.map eStrL)[((k : Nat) : Int).toNat]? = some (eStrL y) := get_map eStrL hy
     have htl : (xr.take k).length <= 1000 := by simp; omega
     have hs : xr.take (k + 1) = xr.take k ++ [y] := by rw [List.take_add_one,hy]; rfl
     cases hb : numG y with
     | true =>
      have k226 := f226t hb
      have hv := numV_nn hb
      (repeat' (first | refine stq ?_ | (refine AL_do2 rfl ?_; first | refine ⟨_,op_call1 rfl rfl rfl rfl (k226),nrmA rfl ?_⟩) | (with_reducible refine AL_id ?_); (fail_if_success (refine AL_glit rfl rfl rfl (by first | exact .inl (by with_reducible rfl) | exact .inr (by with_reducible rfl)) ?_)); first | refine AL_gdec rfl rfl rfl (fun hg => ?_) (fun hg => ?_) | refine AL_gnot rfl rfl rfl (fun hg => ?_) (fun hg => ?_) | refine AL_gcases rfl rfl rfl (fun hg => ?_) (fun hg => ?_)))
      refine ⟨k + 1,⟨hk',fun z hz => ?_⟩,by omega,?_⟩
      ·rw [hs] at hz
       rcases List.mem_append.1 hz with hz | hz
       ·exact hg z hz
       ·simp only [List.mem_singleton] at hz; subst hz; exact hb
      (refine Le.mkR [(1,3)] ?_ ?_ rfl; all_goals (repeat' (first | exact trivial | refine sle ?_ | refine ⟨?_,rfl,?_⟩ | refine ⟨?_,by decide,rfl,?_⟩ | fail)))
      show some (AObj.arr 3 1 (((xr.take k).map fun w => eInt (numV w)) ++ [eInt (numV y)])) = some (AObj.arr 3 1 ((xr.take (k + 1)).map fun w => eInt (numV w)))
      rw [hs,List.map_append]; rfl
     | false =>
      have k226 := f226f y hb
      have hn : numsR xr = none:= by
       unfold numsR
       rw [if_neg]
       intro h
       rw [List.all_eq_true.1 h y (List.mem_of_getElem? hy)] at hb
       cases hb
      (repeat (refine stq ?_))
      refine AL_doP rfl (op_callBP rfl rfl rfl rfl k226) ?_ ?_
      ·rintro _ ⟨_,hf,_⟩
       exact False.elim hf
      rintro t s' v ⟨hp,rfl⟩
      (repeat (first | refine then_panic ?_ | refine inblk_panic ?_))
      exact ⟨_,⟨by rw [hn],hp⟩,rfl⟩
    ·have hk2 : k = xr.length := by omega
     subst hk2
     rw [List.take_length] at hg ⊢
     have hn : numsR xr = some (xr.map numV):= by
      unfold numsR
      rw [if_pos (List.all_eq_true.2 hg)]
     refine AW_pure (t := 9) rfl rfl ?_
     (repeat (refine stq ?_))
     iterate 2 (refine sdq ?_)
     refine DG_next (D_slice_from (lo := 1) hT rfl rfl rfl rfl rfl rfl rfl (by intro y hy; obtain ⟨_,_,rfl⟩ := List.mem_map.1 hy; rfl) rfl (by simp)) ?_
     (repeat (first | refine sdq ?_))
     refine DG_end hM (by kernel_rfl) ?_
     (repeat (refine stq ?_))
     refine ⟨_,_,rfl,rfl,_,_,by rw [hn],?_⟩
     show RV.tup [.sl (xr.map fun w => eInt (numV w)),.sl (((x :: r).map eStrL).drop 1)] = RV.tup [.sl ((xr.map numV).map eInt),.sl (r.map eStrL)]
     rw [List.map_map]; rfl
  ·rw [if_neg (fun h => hw h.2)]
   rw [show ((bytesOf x0).toList == (bytesOf wTop).toList) = false from beq_eq_false_iff_ne.2 (fun h => hw (by simpa [bytesOf_toList] using h))]
   (repeat (first | refine sdq ?_))
   refine DG_callP hM rfl rfl rfl rfl rfl k204f (fun s' => ?_) (by kernel_rfl)
   (repeat (first | refine then_panic ?_ | refine inblk_panic ?_))
   exact ⟨_,⟨rfl,_,rfl⟩,rfl⟩
 ·rw [if_neg (fun h => hlen h.1)]
  refine DG_boolF hT rfl (decide_eq_false (by simp at hlen ⊢; omega)) ?_
  (repeat (first | refine sdq ?_))
  refine DG_callP hM rfl rfl rfl rfl rfl k204f (fun s' => ?_) (by kernel_rfl)
  (repeat (first | refine then_panic ?_ | refine inblk_panic ?_))
  exact ⟨_,⟨rfl,_,rfl⟩,rfl⟩
theorem f202t0 (many : Nat) {L : List (List UInt8)} {ns : List Int} {r : List (List UInt8)} (hm : many <= 10) (hL : L.length <= 700) (hle : ∀ x ∈ L,x.length <= 700) (h : nextM wTop many L = some (ns,r)) :
  ACalls Tryz.prog 202 [.sl (L.map eStrL),vi 0,vi many] (fun q => q = .tup [eInts ns,.sl (r.map eStrL)]) :=
 (ACallsB.mono (f202b0 many hm hL hle) (fun q ⟨ns',r',h1,h2⟩ => by rw [h] at h1; cases h1; exact h2) (fun c hc => by rw [h] at hc; exact absurd hc.1 (by simp))).calm
theorem f202n0 (many : Nat) {L : List (List UInt8)} (hm : many <= 10) (hL : L.length <= 700) (hle : ∀ x ∈ L,x.length <= 700) (h : nextM wTop many L = none) :
  ACallsB Tryz.prog 202 [.sl (L.map eStrL),vi 0,vi many] (fun _ => False) panW :=
 ACallsB.mono (f202b0 many hm hL hle) (fun q ⟨ns',r',h1,h2⟩ => by rw [h] at h1; cases h1) (fun c hc => hc.2)
theorem f202b1 (many : Nat) {L : List (List UInt8)} (hm : many <= 10) (hL : L.length <= 700) (hle : ∀ x ∈ L,x.length <= 700) :
  ACallsB Tryz.prog 202 [.sl (L.map eStrL),vi 1,vi many] (fun q => ∃ ns r,nextM wDye many L = some (ns,r) /\ q = .tup [eInts ns,.sl (r.map eStrL)]) (fun c => nextM wDye many L = none /\ panW c):= by
 have k204e := f204t ByteArray.empty
 have k204ef := f204f ByteArray.empty
 match L with
 | [] =>
  refine ACallsB.of_body hT Tryz.func202 rfl (by kernel_rfl) rfl ?_
  (repeat (refine stq ?_))
  refine AL_callPn rfl rfl rfl rfl k204ef ?_
  (repeat (first | refine then_panic ?_ | refine inblk_panic ?_))
  exact ⟨_,⟨rfl,_,rfl⟩,rfl⟩
 | x :: r =>
 have hxl := hle x (by simp)
 have k203 := f203 x 32 (by omega)
 rw [splitL_S] at k203
 have hXl := splitS_len 32 x
 have hXe : ∀ y ∈ splitS 32 x,y.length <= 700 := fun y hy => Nat.le_trans (splitS_each hy) hxl
 rw [nextM]
 generalize splitS 32 x = X at *
 obtain ⟨x0,xr,rfl⟩ : ∃ x0 xr,X = x0 :: xr:= by
  match X,hXl with
  | x0 :: xr,_ => exact ⟨x0,xr,rfl⟩
 rw [show (x0 :: xr).headD [] = x0 from rfl,show (x0 :: xr).drop 1 = xr from rfl]
 have hrl : r.length <= 700 := by simp at hL; omega
 have hxrl : xr.length <= 701 := by simp at hXl; omega
 have g0 : ((x :: r).map eStrL)[(0 : Int).toNat]? = some (eStrL x) := rfl
 have g1 : ((x0 :: xr).map eStrL)[(0 : Int).toNat]? = some (eStrL x0) := rfl
 have k204 := f204t (bytesOf x)
 have k204f := f204f (bytesOf x)
 refine ACallsB.of_body hT Tryz.func202 rfl (by kernel_rfl) rfl ?_
 (repeat (refine stq ?_))
 rw [show decide ((((x :: r).length : Nat) : Int) > 0) = true from decide_eq_true (by simp)]
 (repeat' (first | refine stq ?_ | (refine AL_do2 rfl ?_; first | refine ⟨_,op_call1 rfl rfl rfl rfl (k204e),nrmA rfl ?_⟩) | (with_reducible refine AL_id ?_); (fail_if_success (refine AL_glit rfl rfl rfl (by first | exact .inl (by with_reducible rfl) | exact .inr (by with_reducible rfl)) ?_)); first | refine AL_gdec rfl rfl rfl (fun hg => ?_) (fun hg => ?_) | refine AL_gnot rfl rfl rfl (fun hg => ?_) (fun hg => ?_) | refine AL_gcases rfl rfl rfl (fun hg => ?_) (fun hg => ?_)))
 refine AL_do2 rfl ⟨_,op_call1 rfl rfl rfl rfl k203,?_⟩
 refine AL_pure (t := 20) rfl rfl ?_
 (repeat (refine stq ?_))
 iterate 4 (refine sdq ?_)
 by_cases hlen : (x0 :: xr).length = many + 1
 ·refine DG_boolT hT rfl (decide_eq_true (by simp at hlen ⊢; omega)) ?_
  iterate 4 (refine sdq ?_)
  refine DG_next (D_call rfl rfl rfl rfl rfl f221) ?_
  refine sdq ?_
  refine DG_next (D_index_arrP (y := .str (bytesOf wDye)) hT rfl rfl rfl rfl rfl rfl rfl rfl rfl rfl (by decide) (by decide) (by kernel_rfl)) ?_
  refine DG_next (D_streq (u := bytesOf x0) (v := bytesOf wDye) rfl rfl rfl rfl rfl) ?_
  by_cases hw : x0 = wDye
  ·rw [if_pos ⟨hlen,hw⟩]
   rw [show ((bytesOf x0).toList == (bytesOf wDye).toList) = true by rw [hw]; simp]
   (repeat (first | refine sdq ?_ | refine DG_next (D_call_tup rfl rfl rfl rfl rfl (k204)) ?_))
   refine DG_end hM (by kernel_rfl) ?_
   (repeat (refine stq ?_))
   refine AL_do2 rfl ⟨_,op_slice_sl (lo := 1) (hi := ((x0 :: xr).map eStrL).length) hT rfl rfl rfl rfl rfl rfl (by intro y hy; obtain ⟨_,_,rfl⟩ := List.mem_map.1 hy; rfl) (.inr ⟨_,.i64,rfl,rfl⟩) (.inl ⟨rfl,rfl⟩) (by simp) (Nat.le_refl _),?_⟩
   rw [show (((x0 :: xr).map eStrL).take ((x0 :: xr).map eStrL).length).drop 1 = xr.map eStrL by rw [List.take_length]; rfl]
   (repeat (refine stq ?_))
   refine AW_own_nil (e := 3) (sz := 1) (t := 9) rfl rfl ?_
   refine AW_loopC (fun k : Nat => k <= xr.length /\ ∀ y ∈ xr.take k,numG y = true) (fun k => mkSt [(0,.pv (.sl ((x :: r).map eStrL))),(9,.arr 1),(40,.pv (.sl (xr.map eStrL))),(41,.pv (vi xr.length)),(42,.pv (vi k))] [(1,.arr 3 1 ((xr.take k).map fun w => eInt (numV w)))] 2) (fun k => xr.length - k) 0 ⟨Nat.zero_le _,by simp⟩ ?_ ?_
   ·(refine Le.mk ?_ ?_; all_goals (repeat' (first | exact trivial | refine sle ?_ | refine ⟨?_,rfl,?_⟩ | refine ⟨?_,by decide,rfl,?_⟩ | fail)))
   ·rintro k ⟨hk,hg⟩
    (repeat (refine stq ?_))
    refine AW_if rfl (fun hc => ?_) (fun hc => ?_)
    ·have hk' : k < xr.length := by omega
     obtain ⟨y,hy⟩ : ∃ y,xr[k]? = some y := ⟨xr[k],by simp [hk']⟩
     have e1 : (xr.map eStrL)[((k : Nat) : Int).toNat]? = some (eStrL y) := get_map eStrL hy
     have htl : (xr.take k).length <= 1000 := by simp; omega
     have hs : xr.take (k + 1) = xr.take k ++ [y] := by rw [List.take_add_one,hy]; rfl
     cases hb : numG y with
     | true =>
      have k226 := f226t hb
      have hv := numV_nn hb
      (repeat' (first | refine stq ?_ | (refine AL_do2 rfl ?_; first | refine ⟨_,op_call1 rfl rfl rfl rfl (k226),nrmA rfl ?_⟩) | (with_reducible refine AL_id ?_); (fail_if_success (refine AL_glit rfl rfl rfl (by first | exact .inl (by with_reducible rfl) | exact .inr (by with_reducible rfl)) ?_)); first | refine AL_gdec rfl rfl rfl (fun hg => ?_) (fun hg => ?_) | refine AL_gnot rfl rfl rfl (fun hg => ?_) (fun hg => ?_) | refine AL_gcases rfl rfl rfl (fun hg => ?_) (fun hg => ?_)))
      refine ⟨k + 1,⟨hk',fun z hz => ?_⟩,by omega,?_⟩
      ·rw [hs] at hz
       rcases List.mem_append.1 hz with hz | hz
       ·exact hg z hz
       ·simp only [List.mem_singleton] at hz; subst hz; exact hb
      (refine Le.mkR [(1,3)] ?_ ?_ rfl; all_goals (repeat' (first | exact trivial | refine sle ?_ | refine ⟨?_,rfl,?_⟩ | refine ⟨?_,by decide,rfl,?_⟩ | fail)))
      show some (AObj.arr 3 1 (((xr.take k).map fun w => eInt (numV w)) ++ [eInt (numV y)])) = some (AObj.arr 3 1 ((xr.take (k + 1)).map fun w => eInt (numV w)))
      rw [hs,List.map_append]; rfl
     | false =>
      have k226 := f226f y hb
      have hn : numsR xr = none:= by
       unfold numsR
       rw [if_neg]
       intro h
       rw [List.all_eq_true.1 h y (List.mem_of_getElem? hy)] at hb
       cases hb
      (repeat (refine stq ?_))
      refine AL_doP rfl (op_callBP rfl rfl rfl rfl k226) ?_ ?_
      ·rintro _ ⟨_,hf,_⟩
       exact False.elim hf
      rintro t s' v ⟨hp,rfl⟩
      (repeat (first | refine then_panic ?_ | refine inblk_panic ?_))
      exact ⟨_,⟨by rw [hn],hp⟩,rfl⟩
    ·have hk2 : k = xr.length := by omega
     subst hk2
     rw [List.take_length] at hg ⊢
     have hn : numsR xr = some (xr.map numV):= by
      unfold numsR
      rw [if_pos (List.all_eq_true.2 hg)]
     refine AW_pure (t := 9) rfl rfl ?_
     (repeat (refine stq ?_))
     iterate 2 (refine sdq ?_)
     refine DG_next (D_slice_from (lo := 1) hT rfl rfl rfl rfl rfl rfl rfl (by intro y hy; obtain ⟨_,_,rfl⟩ := List.mem_map.1 hy; rfl) rfl (by simp)) ?_
     (repeat (first | refine sdq ?_))
     refine DG_end hM (by kernel_rfl) ?_
     (repeat (refine stq ?_))
     refine ⟨_,_,rfl,rfl,_,_,by rw [hn],?_⟩
     show RV.tup [.sl (xr.map fun w => eInt (numV w)),.sl (((x :: r).map eStrL).drop 1)] = RV.tup [.sl ((xr.map numV).map eInt),.sl (r.map eStrL)]
     rw [List.map_map]; rfl
  ·rw [if_neg (fun h => hw h.2)]
   rw [show ((bytesOf x0).toList == (bytesOf wDye).toList) = false from beq_eq_false_iff_ne.2 (fun h => hw (by simpa [bytesOf_toList] using h))]
   (repeat (first | refine sdq ?_))
   refine DG_callP hM rfl rfl rfl rfl rfl k204f (fun s' => ?_) (by kernel_rfl)
   (repeat (first | refine then_panic ?_ | refine inblk_panic ?_))
   exact ⟨_,⟨rfl,_,rfl⟩,rfl⟩
 ·rw [if_neg (fun h => hlen h.1)]
  refine DG_boolF hT rfl (decide_eq_false (by simp at hlen ⊢; omega)) ?_
  (repeat (first | refine sdq ?_))
  refine DG_callP hM rfl rfl rfl rfl rfl k204f (fun s' => ?_) (by kernel_rfl)
  (repeat (first | refine then_panic ?_ | refine inblk_panic ?_))
  exact ⟨_,⟨rfl,_,rfl⟩,rfl⟩
theorem f202t1 (many : Nat) {L : List (List UInt8)} {ns : List Int} {r : List (List UInt8)} (hm : many <= 10) (hL : L.length <= 700) (hle : ∀ x ∈ L,x.length <= 700) (h : nextM wDye many L = some (ns,r)) :
  ACalls Tryz.prog 202 [.sl (L.map eStrL),vi 1,vi many] (fun q => q = .tup [eInts ns,.sl (r.map eStrL)]) :=
 (ACallsB.mono (f202b1 many hm hL hle) (fun q ⟨ns',r',h1,h2⟩ => by rw [h] at h1; cases h1; exact h2) (fun c hc => by rw [h] at hc; exact absurd hc.1 (by simp))).calm
theorem f202n1 (many : Nat) {L : List (List UInt8)} (hm : many <= 10) (hL : L.length <= 700) (hle : ∀ x ∈ L,x.length <= 700) (h : nextM wDye many L = none) :
  ACallsB Tryz.prog 202 [.sl (L.map eStrL),vi 1,vi many] (fun _ => False) panW :=
 ACallsB.mono (f202b1 many hm hL hle) (fun q ⟨ns',r',h1,h2⟩ => by rw [h] at h1; cases h1) (fun c hc => hc.2)
theorem f202b2 (many : Nat) {L : List (List UInt8)} (hm : many <= 10) (hL : L.length <= 700) (hle : ∀ x ∈ L,x.length <= 700) :
  ACallsB Tryz.prog 202 [.sl (L.map eStrL),vi 2,vi many] (fun q => ∃ ns r,nextM wStock many L = some (ns,r) /\ q = .tup [eInts ns,.sl (r.map eStrL)]) (fun c => nextM wStock many L = none /\ panW c):= by
 have k204e := f204t ByteArray.empty
 have k204ef := f204f ByteArray.empty
 match L with
 | [] =>
  refine ACallsB.of_body hT Tryz.func202 rfl (by kernel_rfl) rfl ?_
  (repeat (refine stq ?_))
  refine AL_callPn rfl rfl rfl rfl k204ef ?_
  (repeat (first | refine then_panic ?_ | refine inblk_panic ?_))
  exact ⟨_,⟨rfl,_,rfl⟩,rfl⟩
 | x :: r =>
 have hxl := hle x (by simp)
 have k203 := f203 x 32 (by omega)
 rw [splitL_S] at k203
 have hXl := splitS_len 32 x
 have hXe : ∀ y ∈ splitS 32 x,y.length <= 700 := fun y hy => Nat.le_trans (splitS_each hy) hxl
 rw [nextM]
 generalize splitS 32 x = X at *
 obtain ⟨x0,xr,rfl⟩ : ∃ x0 xr,X = x0 :: xr:= by
  match X,hXl with
  | x0 :: xr,_ => exact ⟨x0,xr,rfl⟩
 rw [show (x0 :: xr).headD [] = x0 from rfl,show (x0 :: xr).drop 1 = xr from rfl]
 have hrl : r.length <= 700 := by simp at hL; omega
 have hxrl : xr.length <= 701 := by simp at hXl; omega
 have g0 : ((x :: r).map eStrL)[(0 : Int).toNat]? = some (eStrL x) := rfl
 have g1 : ((x0 :: xr).map eStrL)[(0 : Int).toNat]? = some (eStrL x0) := rfl
 have k204 := f204t (bytesOf x)
 have k204f := f204f (bytesOf x)
 refine ACallsB.of_body hT Tryz.func202 rfl (by kernel_rfl) rfl ?_
 (repeat (refine stq ?_))
 rw [show decide ((((x :: r).length : Nat) : Int) > 0) = true from decide_eq_true (by simp)]
 (repeat' (first | refine stq ?_ | (refine AL_do2 rfl ?_; first | refine ⟨_,op_call1 rfl rfl rfl rfl (k204e),nrmA rfl ?_⟩) | (with_reducible refine AL_id ?_); (fail_if_success (refine AL_glit rfl rfl rfl (by first | exact .inl (by with_reducible rfl) | exact .inr (by with_reducible rfl)) ?_)); first | refine AL_gdec rfl rfl rfl (fun hg => ?_) (fun hg => ?_) | refine AL_gnot rfl rfl rfl (fun hg => ?_) (fun hg => ?_) | refine AL_gcases rfl rfl rfl (fun hg => ?_) (fun hg => ?_)))
 refine AL_do2 rfl ⟨_,op_call1 rfl rfl rfl rfl k203,?_⟩
 refine AL_pure (t := 20) rfl rfl ?_
 (repeat (refine stq ?_))
 iterate 4 (refine sdq ?_)
 by_cases hlen : (x0 :: xr).length = many + 1
 ·refine DG_boolT hT rfl (decide_eq_true (by simp at hlen ⊢; omega)) ?_
  iterate 4 (refine sdq ?_)
  refine DG_next (D_call rfl rfl rfl rfl rfl f221) ?_
  refine sdq ?_
  refine DG_next (D_index_arrP (y := .str (bytesOf wStock)) hT rfl rfl rfl rfl rfl rfl rfl rfl rfl rfl (by decide) (by decide) (by kernel_rfl)) ?_
  refine DG_next (D_streq (u := bytesOf x0) (v := bytesOf wStock) rfl rfl rfl rfl rfl) ?_
  by_cases hw : x0 = wStock
  ·rw [if_pos ⟨hlen,hw⟩]
   rw [show ((bytesOf x0).toList == (bytesOf wStock).toList) = true by rw [hw]; simp]
   (repeat (first | refine sdq ?_ | refine DG_next (D_call_tup rfl rfl rfl rfl rfl (k204)) ?_))
   refine DG_end hM (by kernel_rfl) ?_
   (repeat (refine stq ?_))
   refine AL_do2 rfl ⟨_,op_slice_sl (lo := 1) (hi := ((x0 :: xr).map eStrL).length) hT rfl rfl rfl rfl rfl rfl (by intro y hy; obtain ⟨_,_,rfl⟩ := List.mem_map.1 hy; rfl) (.inr ⟨_,.i64,rfl,rfl⟩) (.inl ⟨rfl,rfl⟩) (by simp) (Nat.le_refl _),?_⟩
   rw [show (((x0 :: xr).map eStrL).take ((x0 :: xr).map eStrL).length).drop 1 = xr.map eStrL by rw [List.take_length]; rfl]
   (repeat (refine stq ?_))
   refine AW_own_nil (e := 3) (sz := 1) (t := 9) rfl rfl ?_
   refine AW_loopC (fun k : Nat => k <= xr.length /\ ∀ y ∈ xr.take k,numG y = true) (fun k => mkSt [(0,.pv (.sl ((x :: r).map eStrL))),(9,.arr 1),(40,.pv (.sl (xr.map eStrL))),(41,.pv (vi xr.length)),(42,.pv (vi k))] [(1,.arr 3 1 ((xr.take k).map fun w => eInt (numV w)))] 2) (fun k => xr.length - k) 0 ⟨Nat.zero_le _,by simp⟩ ?_ ?_
   ·(refine Le.mk ?_ ?_; all_goals (repeat' (first | exact trivial | refine sle ?_ | refine ⟨?_,rfl,?_⟩ | refine ⟨?_,by decide,rfl,?_⟩ | fail)))
   ·rintro k ⟨hk,hg⟩
    (repeat (refine stq ?_))
    refine AW_if rfl (fun hc => ?_) (fun hc => ?_)
    ·have hk' : k < xr.length := by omega
     obtain ⟨y,hy⟩ : ∃ y,xr[k]? = some y := ⟨xr[k],by simp [hk']⟩
     have e1 : (xr.map eStrL)[((k : Nat) : Int).toNat]? = some (eStrL y) := get_map eStrL hy
     have htl : (xr.take k).length <= 1000 := by simp; omega
     have hs : xr.take (k + 1) = xr.take k ++ [y] := by rw [List.take_add_one,hy]; rfl
     cases hb : numG y with
     | true =>
      have k226 := f226t hb
      have hv := numV_nn hb
      (repeat' (first | refine stq ?_ | (refine AL_do2 rfl ?_; first | refine ⟨_,op_call1 rfl rfl rfl rfl (k226),nrmA rfl ?_⟩) | (with_reducible refine AL_id ?_); (fail_if_success (refine AL_glit rfl rfl rfl (by first | exact .inl (by with_reducible rfl) | exact .inr (by with_reducible rfl)) ?_)); first | refine AL_gdec rfl rfl rfl (fun hg => ?_) (fun hg => ?_) | refine AL_gnot rfl rfl rfl (fun hg => ?_) (fun hg => ?_) | refine AL_gcases rfl rfl rfl (fun hg => ?_) (fun hg => ?_)))
      refine ⟨k + 1,⟨hk',fun z hz => ?_⟩,by omega,?_⟩
      ·rw [hs] at hz
       rcases List.mem_append.1 hz with hz | hz
       ·exact hg z hz
       ·simp only [List.mem_singleton] at hz; subst hz; exact hb
      (refine Le.mkR [(1,3)] ?_ ?_ rfl; all_goals (repeat' (first | exact trivial | refine sle ?_ | refine ⟨?_,rfl,?_⟩ | refine ⟨?_,by decide,rfl,?_⟩ | fail)))
      show some (AObj.arr 3 1 (((xr.take k).map fun w => eInt (numV w)) ++ [eInt (numV y)])) = some (AObj.arr 3 1 ((xr.take (k + 1)).map fun w => eInt (numV w)))
      rw [hs,List.map_append]; rfl
     | false =>
      have k226 := f226f y hb
      have hn : numsR xr = none:= by
       unfold numsR
       rw [if_neg]
       intro h
       rw [List.all_eq_true.1 h y (List.mem_of_getElem? hy)] at hb
       cases hb
      (repeat (refine stq ?_))
      refine AL_doP rfl (op_callBP rfl rfl rfl rfl k226) ?_ ?_
      ·rintro _ ⟨_,hf,_⟩
       exact False.elim hf
      rintro t s' v ⟨hp,rfl⟩
      (repeat (first | refine then_panic ?_ | refine inblk_panic ?_))
      exact ⟨_,⟨by rw [hn],hp⟩,rfl⟩
    ·have hk2 : k = xr.length := by omega
     subst hk2
     rw [List.take_length] at hg ⊢
     have hn : numsR xr = some (xr.map numV):= by
      unfold numsR
      rw [if_pos (List.all_eq_true.2 hg)]
     refine AW_pure (t := 9) rfl rfl ?_
     (repeat (refine stq ?_))
     iterate 2 (refine sdq ?_)
     refine DG_next (D_slice_from (lo := 1) hT rfl rfl rfl rfl rfl rfl rfl (by intro y hy; obtain ⟨_,_,rfl⟩ := List.mem_map.1 hy; rfl) rfl (by simp)) ?_
     (repeat (first | refine sdq ?_))
     refine DG_end hM (by kernel_rfl) ?_
     (repeat (refine stq ?_))
     refine ⟨_,_,rfl,rfl,_,_,by rw [hn],?_⟩
     show RV.tup [.sl (xr.map fun w => eInt (numV w)),.sl (((x :: r).map eStrL).drop 1)] = RV.tup [.sl ((xr.map numV).map eInt),.sl (r.map eStrL)]
     rw [List.map_map]; rfl
  ·rw [if_neg (fun h => hw h.2)]
   rw [show ((bytesOf x0).toList == (bytesOf wStock).toList) = false from beq_eq_false_iff_ne.2 (fun h => hw (by simpa [bytesOf_toList] using h))]
   (repeat (first | refine sdq ?_))
   refine DG_callP hM rfl rfl rfl rfl rfl k204f (fun s' => ?_) (by kernel_rfl)
   (repeat (first | refine then_panic ?_ | refine inblk_panic ?_))
   exact ⟨_,⟨rfl,_,rfl⟩,rfl⟩
 ·rw [if_neg (fun h => hlen h.1)]
  refine DG_boolF hT rfl (decide_eq_false (by simp at hlen ⊢; omega)) ?_
  (repeat (first | refine sdq ?_))
  refine DG_callP hM rfl rfl rfl rfl rfl k204f (fun s' => ?_) (by kernel_rfl)
  (repeat (first | refine then_panic ?_ | refine inblk_panic ?_))
  exact ⟨_,⟨rfl,_,rfl⟩,rfl⟩
theorem f202t2 (many : Nat) {L : List (List UInt8)} {ns : List Int} {r : List (List UInt8)} (hm : many <= 10) (hL : L.length <= 700) (hle : ∀ x ∈ L,x.length <= 700) (h : nextM wStock many L = some (ns,r)) :
  ACalls Tryz.prog 202 [.sl (L.map eStrL),vi 2,vi many] (fun q => q = .tup [eInts ns,.sl (r.map eStrL)]) :=
 (ACallsB.mono (f202b2 many hm hL hle) (fun q ⟨ns',r',h1,h2⟩ => by rw [h] at h1; cases h1; exact h2) (fun c hc => by rw [h] at hc; exact absurd hc.1 (by simp))).calm
theorem f202n2 (many : Nat) {L : List (List UInt8)} (hm : many <= 10) (hL : L.length <= 700) (hle : ∀ x ∈ L,x.length <= 700) (h : nextM wStock many L = none) :
  ACallsB Tryz.prog 202 [.sl (L.map eStrL),vi 2,vi many] (fun _ => False) panW :=
 ACallsB.mono (f202b2 many hm hL hle) (fun q ⟨ns',r',h1,h2⟩ => by rw [h] at h1; cases h1) (fun c hc => hc.2)
theorem f202b3 (many : Nat) {L : List (List UInt8)} (hm : many <= 10) (hL : L.length <= 700) (hle : ∀ x ∈ L,x.length <= 700) :
  ACallsB Tryz.prog 202 [.sl (L.map eStrL),vi 3,vi many] (fun q => ∃ ns r,nextM wBath many L = some (ns,r) /\ q = .tup [eInts ns,.sl (r.map eStrL)]) (fun c => nextM wBath many L = none /\ panW c):= by
 have k204e := f204t ByteArray.empty
 have k204ef := f204f ByteArray.empty
 match L with
 | [] =>
  refine ACallsB.of_body hT Tryz.func202 rfl (by kernel_rfl) rfl ?_
  (repeat (refine stq ?_))
  refine AL_callPn rfl rfl rfl rfl k204ef ?_
  (repeat (first | refine then_panic ?_ | refine inblk_panic ?_))
  exact ⟨_,⟨rfl,_,rfl⟩,rfl⟩
 | x :: r =>
 have hxl := hle x (by simp)
 have k203 := f203 x 32 (by omega)
 rw [splitL_S] at k203
 have hXl := splitS_len 32 x
 have hXe : ∀ y ∈ splitS 32 x,y.length <= 700 := fun y hy => Nat.le_trans (splitS_each hy) hxl
 rw [nextM]
 generalize splitS 32 x = X at *
 obtain ⟨x0,xr,rfl⟩ : ∃ x0 xr,X = x0 :: xr:= by
  match X,hXl with
  | x0 :: xr,_ => exact ⟨x0,xr,rfl⟩
 rw [show (x0 :: xr).headD [] = x0 from rfl,show (x0 :: xr).drop 1 = xr from rfl]
 have hrl : r.length <= 700 := by simp at hL; omega
 have hxrl : xr.length <= 701 := by simp at hXl; omega
 have g0 : ((x :: r).map eStrL)[(0 : Int).toNat]? = some (eStrL x) := rfl
 have g1 : ((x0 :: xr).map eStrL)[(0 : Int).toNat]? = some (eStrL x0) := rfl
 have k204 := f204t (bytesOf x)
 have k204f := f204f (bytesOf x)
 refine ACallsB.of_body hT Tryz.func202 rfl (by kernel_rfl) rfl ?_
 (repeat (refine stq ?_))
 rw [show decide ((((x :: r).length : Nat) : Int) > 0) = true from decide_eq_true (by simp)]
 (repeat' (first | refine stq ?_ | (refine AL_do2 rfl ?_; first | refine ⟨_,op_call1 rfl rfl rfl rfl (k204e),nrmA rfl ?_⟩) | (with_reducible refine AL_id ?_); (fail_if_success (refine AL_glit rfl rfl rfl (by first | exact .inl (by with_reducible rfl) | exact .inr (by with_reducible rfl)) ?_)); first | refine AL_gdec rfl rfl rfl (fun hg => ?_) (fun hg => ?_) | refine AL_gnot rfl rfl rfl (fun hg => ?_) (fun hg => ?_) | refine AL_gcases rfl rfl rfl (fun hg => ?_) (fun hg => ?_)))
 refine AL_do2 rfl ⟨_,op_call1 rfl rfl rfl rfl k203,?_⟩
 refine AL_pure (t := 20) rfl rfl ?_
 (repeat (refine stq ?_))
 iterate 4 (refine sdq ?_)
 by_cases hlen : (x0 :: xr).length = many + 1
 ·refine DG_boolT hT rfl (decide_eq_true (by simp at hlen ⊢; omega)) ?_
  iterate 4 (refine sdq ?_)
  refine DG_next (D_call rfl rfl rfl rfl rfl f221) ?_
  refine sdq ?_
  refine DG_next (D_index_arrP (y := .str (bytesOf wBath)) hT rfl rfl rfl rfl rfl rfl rfl rfl rfl rfl (by decide) (by decide) (by kernel_rfl)) ?_
  refine DG_next (D_streq (u := bytesOf x0) (v := bytesOf wBath) rfl rfl rfl rfl rfl) ?_
  by_cases hw : x0 = wBath
  ·rw [if_pos ⟨hlen,hw⟩]
   rw [show ((bytesOf x0).toList == (bytesOf wBath).toList) = true by rw [hw]; simp]
   (repeat (first | refine sdq ?_ | refine DG_next (D_call_tup rfl rfl rfl rfl rfl (k204)) ?_))
   refine DG_end hM (by kernel_rfl) ?_
   (repeat (refine stq ?_))
   refine AL_do2 rfl ⟨_,op_slice_sl (lo := 1) (hi := ((x0 :: xr).map eStrL).length) hT rfl rfl rfl rfl rfl rfl (by intro y hy; obtain ⟨_,_,rfl⟩ := List.mem_map.1 hy; rfl) (.inr ⟨_,.i64,rfl,rfl⟩) (.inl ⟨rfl,rfl⟩) (by simp) (Nat.le_refl _),?_⟩
   rw [show (((x0 :: xr).map eStrL).take ((x0 :: xr).map eStrL).length).drop 1 = xr.map eStrL by rw [List.take_length]; rfl]
   (repeat (refine stq ?_))
   refine AW_own_nil (e := 3) (sz := 1) (t := 9) rfl rfl ?_
   refine AW_loopC (fun k : Nat => k <= xr.length /\ ∀ y ∈ xr.take k,numG y = true) (fun k => mkSt [(0,.pv (.sl ((x :: r).map eStrL))),(9,.arr 1),(40,.pv (.sl (xr.map eStrL))),(41,.pv (vi xr.length)),(42,.pv (vi k))] [(1,.arr 3 1 ((xr.take k).map fun w => eInt (numV w)))] 2) (fun k => xr.length - k) 0 ⟨Nat.zero_le _,by simp⟩ ?_ ?_
   ·(refine Le.mk ?_ ?_; all_goals (repeat' (first | exact trivial | refine sle ?_ | refine ⟨?_,rfl,?_⟩ | refine ⟨?_,by decide,rfl,?_⟩ | fail)))
   ·rintro k ⟨hk,hg⟩
    (repeat (refine stq ?_))
    refine AW_if rfl (fun hc => ?_) (fun hc => ?_)
    ·have hk' : k < xr.length := by omega
     obtain ⟨y,hy⟩ : ∃ y,xr[k]? = some y := ⟨xr[k],by simp [hk']⟩
     have e1 : (xr.map eStrL)[((k : Nat) : Int).toNat]? = some (eStrL y) := get_map eStrL hy
     have htl : (xr.take k).length <= 1000 := by simp; omega
     have hs : xr.take (k + 1) = xr.take k ++ [y] := by rw [List.take_add_one,hy]; rfl
     cases hb : numG y with
     | true =>
      have k226 := f226t hb
      have hv := numV_nn hb
      (repeat' (first | refine stq ?_ | (refine AL_do2 rfl ?_; first | refine ⟨_,op_call1 rfl rfl rfl rfl (k226),nrmA rfl ?_⟩) | (with_reducible refine AL_id ?_); (fail_if_success (refine AL_glit rfl rfl rfl (by first | exact .inl (by with_reducible rfl) | exact .inr (by with_reducible rfl)) ?_)); first | refine AL_gdec rfl rfl rfl (fun hg => ?_) (fun hg => ?_) | refine AL_gnot rfl rfl rfl (fun hg => ?_) (fun hg => ?_) | refine AL_gcases rfl rfl rfl (fun hg => ?_) (fun hg => ?_)))
      refine ⟨k + 1,⟨hk',fun z hz => ?_⟩,by omega,?_⟩
      ·rw [hs] at hz
       rcases List.mem_append.1 hz with hz | hz
       ·exact hg z hz
       ·simp only [List.mem_singleton] at hz; subst hz; exact hb
      (refine Le.mkR [(1,3)] ?_ ?_ rfl; all_goals (repeat' (first | exact trivial | refine sle ?_ | refine ⟨?_,rfl,?_⟩ | refine ⟨?_,by decide,rfl,?_⟩ | fail)))
      show some (AObj.arr 3 1 (((xr.take k).map fun w => eInt (numV w)) ++ [eInt (numV y)])) = some (AObj.arr 3 1 ((xr.take (k + 1)).map fun w => eInt (numV w)))
      rw [hs,List.map_append]; rfl
     | false =>
      have k226 := f226f y hb
      have hn : numsR xr = none:= by
       unfold numsR
       rw [if_neg]
       intro h
       rw [List.all_eq_true.1 h y (List.mem_of_getElem? hy)] at hb
       cases hb
      (repeat (refine stq ?_))
      refine AL_doP rfl (op_callBP rfl rfl rfl rfl k226) ?_ ?_
      ·rintro _ ⟨_,hf,_⟩
       exact False.elim hf
      rintro t s' v ⟨hp,rfl⟩
      (repeat (first | refine then_panic ?_ | refine inblk_panic ?_))
      exact ⟨_,⟨by rw [hn],hp⟩,rfl⟩
    ·have hk2 : k = xr.length := by omega
     subst hk2
     rw [List.take_length] at hg ⊢
     have hn : numsR xr = some (xr.map numV):= by
      unfold numsR
      rw [if_pos (List.all_eq_true.2 hg)]
     refine AW_pure (t := 9) rfl rfl ?_
     (repeat (refine stq ?_))
     iterate 2 (refine sdq ?_)
     refine DG_next (D_slice_from (lo := 1) hT rfl rfl rfl rfl rfl rfl rfl (by intro y hy; obtain ⟨_,_,rfl⟩ := List.mem_map.1 hy; rfl) rfl (by simp)) ?_
     (repeat (first | refine sdq ?_))
     refine DG_end hM (by kernel_rfl) ?_
     (repeat (refine stq ?_))
     refine ⟨_,_,rfl,rfl,_,_,by rw [hn],?_⟩
     show RV.tup [.sl (xr.map fun w => eInt (numV w)),.sl (((x :: r).map eStrL).drop 1)] = RV.tup [.sl ((xr.map numV).map eInt),.sl (r.map eStrL)]
     rw [List.map_map]; rfl
  ·rw [if_neg (fun h => hw h.2)]
   rw [show ((bytesOf x0).toList == (bytesOf wBath).toList) = false from beq_eq_false_iff_ne.2 (fun h => hw (by simpa [bytesOf_toList] using h))]
   (repeat (first | refine sdq ?_))
   refine DG_callP hM rfl rfl rfl rfl rfl k204f (fun s' => ?_) (by kernel_rfl)
   (repeat (first | refine then_panic ?_ | refine inblk_panic ?_))
   exact ⟨_,⟨rfl,_,rfl⟩,rfl⟩
 ·rw [if_neg (fun h => hlen h.1)]
  refine DG_boolF hT rfl (decide_eq_false (by simp at hlen ⊢; omega)) ?_
  (repeat (first | refine sdq ?_))
  refine DG_callP hM rfl rfl rfl rfl rfl k204f (fun s' => ?_) (by kernel_rfl)
  (repeat (first | refine then_panic ?_ | refine inblk_panic ?_))
  exact ⟨_,⟨rfl,_,rfl⟩,rfl⟩
theorem f202t3 (many : Nat) {L : List (List UInt8)} {ns : List Int} {r : List (List UInt8)} (hm : many <= 10) (hL : L.length <= 700) (hle : ∀ x ∈ L,x.length <= 700) (h : nextM wBath many L = some (ns,r)) :
  ACalls Tryz.prog 202 [.sl (L.map eStrL),vi 3,vi many] (fun q => q = .tup [eInts ns,.sl (r.map eStrL)]) :=
 (ACallsB.mono (f202b3 many hm hL hle) (fun q ⟨ns',r',h1,h2⟩ => by rw [h] at h1; cases h1; exact h2) (fun c hc => by rw [h] at hc; exact absurd hc.1 (by simp))).calm
theorem f202n3 (many : Nat) {L : List (List UInt8)} (hm : many <= 10) (hL : L.length <= 700) (hle : ∀ x ∈ L,x.length <= 700) (h : nextM wBath many L = none) :
  ACallsB Tryz.prog 202 [.sl (L.map eStrL),vi 3,vi many] (fun _ => False) panW :=
 ACallsB.mono (f202b3 many hm hL hle) (fun q ⟨ns',r',h1,h2⟩ => by rw [h] at h1; cases h1) (fun c hc => hc.2)
end Go.Abs
