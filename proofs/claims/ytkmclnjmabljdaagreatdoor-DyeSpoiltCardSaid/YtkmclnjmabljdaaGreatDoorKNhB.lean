/- DyeCoats: small parts of the reference. -/
import Derived.Test.YtkmclnjmabljdaaGreatDoorKNhA
set_option linter.unusedVariables false
set_option linter.unusedSimpArgs false
namespace Go.Abs
open Go.Proofs
set_option linter.unusedVariables false
set_option linter.unusedSimpArgs false
set_option maxRecDepth 100000
def stockedB (l : List Stock) : Bool := !(l.take 8).any (fun s => decide (s.baths.length > 5)) && decide (l.length <= 7)
theorem stocked_ok {l : List Stock} (hs : stockedB l = true) : l.length <= 7 /\ (∀ s ∈ l,s.baths.length <= 5) /\ stocksOK l:= by
 simp only [stockedB,Bool.and_eq_true,Bool.not_eq_true',List.any_eq_false,decide_eq_true_eq] at hs
 have h2 : ∀ s ∈ l,s.baths.length <= 5 := fun s hd => by
  have := hs.1 s (by rw [List.take_of_length_le (by omega)]; exact hd)
  omega
 refine ⟨hs.2,h2,by omega,fun s hd => ?_⟩
 have := h2 s hd; omega
theorem f47 (l : List Stock) : ACalls Tryz.prog 47 [eStocks l] (fun r => r = .pv (.bool (stockedB l))):= by
 refine ACalls.of_body hT Tryz.func47 rfl (by kernel_rfl) rfl ?_
 (repeat (refine stq ?_))
 refine AW_loopC (fun k : Nat => k <= l.length /\ k <= 8 /\ ∀ s ∈ l.take k,s.baths.length <= 5) (fun k => mkSt [(0,.pv (eStocks l)),(3,.pv (vi k))] [] 0) (fun k => 8 - k) 0 ⟨Nat.zero_le _,by omega,by simp⟩ ?_ ?_
 ·(refine Le.mk ?_ ?_; all_goals (repeat' (first | exact trivial | refine sle ?_ | refine ⟨?_,rfl,?_⟩ | refine ⟨?_,by decide,rfl,?_⟩ | fail)))
 ·rintro k ⟨hk,hk6,hall⟩
  (repeat' (first | refine stq ?_ | (with_reducible refine AL_id ?_); (fail_if_success (refine AL_glit rfl rfl rfl (by first | exact .inl (by with_reducible rfl) | exact .inr (by with_reducible rfl)) ?_)); first | refine AL_gdec rfl rfl rfl (fun hg => ?_) (fun hg => ?_) | refine AL_gnot rfl rfl rfl (fun hg => ?_) (fun hg => ?_) | refine AL_gcases rfl rfl rfl (fun hg => ?_) (fun hg => ?_)))
  ·refine AW_if rfl (fun hc => ?_) (fun hc => ?_)
   ·have hk' : k < l.length := by omega
    obtain ⟨d,hd⟩ : ∃ d,l[k]? = some d := ⟨l[k],by simp [hk']⟩
    have e1 := get_map eStock hd
    (repeat (refine stq ?_))
    refine AW_if rfl (fun hc2 => ?_) (fun hc2 => ?_)
    ·(repeat (refine stq ?_))
     refine ⟨_,_,rfl,rfl,?_⟩
     have : stockedB l = false:= by
      simp only [stockedB,Bool.and_eq_false_iff,Bool.not_eq_false',List.any_eq_true,decide_eq_true_eq]
      exact .inl ⟨d,List.mem_of_getElem? (i := k) (by rw [List.getElem?_take,if_pos (by omega)]; exact hd),by omega⟩
     rw [this]
    ·(repeat (refine stq ?_))
     refine ⟨k + 1,⟨hk',by omega,all_take_succ hall hd (by omega)⟩,by omega,?_⟩
     (refine Le.mk ?_ ?_; all_goals (repeat' (first | exact trivial | refine sle ?_ | refine ⟨?_,rfl,?_⟩ | refine ⟨?_,by decide,rfl,?_⟩ | fail)))
   ·have hk' : k = 8 := by omega
    subst hk'
    (repeat (refine stq ?_))
    refine ⟨_,_,rfl,rfl,?_⟩
    have h1 : (l.take 8).any (fun s => decide (s.baths.length > 5)) = false:= by
     simp only [List.any_eq_false,decide_eq_true_eq]; intro d hd; have := hall d hd; omega
    simp [stockedB,h1]; omega
  ·have hk' : k = l.length := by omega
   refine ⟨_,_,rfl,rfl,?_⟩
   subst hk'
   have h1 : (l.take 8).any (fun s => decide (s.baths.length > 5)) = false:= by
    simp only [List.any_eq_false,decide_eq_true_eq]; intro d hd
    have := hall d (by rw [List.take_length]; exact List.mem_of_mem_take hd); omega
   simp [stockedB,h1]; omega
theorem f91 (h : List Dye) (l : List Stock) (lo : Int) (hh : h.length <= 1000) (hl : stocksOK l) : ACalls Tryz.prog 91 [eHouse h,eStocks l,vi lo] (fun r => r = .pv (.bool (areStocksB h l lo))):= by
 have hl1 := hl.1
 refine ACalls.of_body hT Tryz.func91 rfl (by kernel_rfl) rfl ?_
 (repeat (refine stq ?_))
 refine AW_loopC (fun k : Nat => k <= l.length /\ ∀ s ∈ l.take k,isStockB h s = true) (fun k => mkSt [(1,.pv (eStocks l)),(2,.pv (vi lo)),(3,.box 0 0),(7,.pv (vi k))] [(0,.box [.pv (.sl (h.map eDye))])] 1) (fun k => l.length - k) 0 ⟨Nat.zero_le _,by simp⟩ ?_ ?_
 ·(refine Le.mk ?_ ?_; all_goals (repeat' (first | exact trivial | refine sle ?_ | refine ⟨?_,rfl,?_⟩ | refine ⟨?_,by decide,rfl,?_⟩ | fail)))
 ·rintro k ⟨hk,hall⟩
  (repeat (refine stq ?_))
  refine AW_if rfl (fun hc1 => ?_) (fun hc1 => ?_)
  ·have hk' : k < l.length := by omega
   obtain ⟨s,hs⟩ : ∃ s,l[k]? = some s := ⟨l[k],by simp [hk']⟩
   have e1 := get_map eStock hs
   have k1 := f31 h s.baths hh (hl.2 s (List.mem_of_getElem? hs))
   have k2 := f109 s.many 0 99
   have k3 := f109 s.price 0 999
   have bad : isStockB h s = false -> areStocksB h l lo = false := fun hb => by
    have : l.any (fun s => !isStockB h s) = true:= by
     rw [List.any_eq_true]; exact ⟨s,List.mem_of_getElem? hs,by simp [hb]⟩
    simp [areStocksB,this]
   (repeat (refine stq ?_))
   cases b1 : isBatchB h s.baths with
   | false =>
    rw [b1] at k1
    (repeat (first | refine sdq ?_ | refine DG_next (D_call rfl rfl rfl rfl rfl (k1)) ?_))
    refine DG_end hM (by kernel_rfl) ?_
    (repeat (refine stq ?_))
    exact ⟨_,_,rfl,rfl,by rw [bad (by simp [isStockB,b1])]⟩
   | true =>
    rw [b1] at k1
    cases b2 : inB s.many 0 99 with
    | false =>
     rw [b2] at k2
     (repeat (first | refine sdq ?_ | refine DG_next (D_call rfl rfl rfl rfl rfl (k1)) ?_ | refine DG_next (D_call rfl rfl rfl rfl rfl (k2)) ?_))
     refine DG_end hM (by kernel_rfl) ?_
     (repeat (refine stq ?_))
     exact ⟨_,_,rfl,rfl,by rw [bad (by simp [isStockB,b2])]⟩
    | true =>
     rw [b2] at k2
     cases b3 : inB s.price 0 999 with
     | false =>
      rw [b3] at k3
      (repeat (first | refine sdq ?_ | refine DG_next (D_call rfl rfl rfl rfl rfl (k1)) ?_ | refine DG_next (D_call rfl rfl rfl rfl rfl (k2)) ?_ | refine DG_next (D_call rfl rfl rfl rfl rfl (k3)) ?_))
      refine DG_end hM (by kernel_rfl) ?_
      (repeat (refine stq ?_))
      exact ⟨_,_,rfl,rfl,by rw [bad (by simp [isStockB,b3])]⟩
     | true =>
      rw [b3] at k3
      (repeat (first | refine sdq ?_ | refine DG_next (D_call rfl rfl rfl rfl rfl (k1)) ?_ | refine DG_next (D_call rfl rfl rfl rfl rfl (k2)) ?_ | refine DG_next (D_call rfl rfl rfl rfl rfl (k3)) ?_))
      refine DG_end hM (by kernel_rfl) ?_
      (repeat (refine stq ?_))
      refine ⟨k + 1,⟨hk',all_take_succ hall hs (by simp [isStockB,b1,b2,b3])⟩,by omega,?_⟩
      (refine Le.mk ?_ ?_; all_goals (repeat' (first | exact trivial | refine sle ?_ | refine ⟨?_,rfl,?_⟩ | refine ⟨?_,by decide,rfl,?_⟩ | fail)))
  ·have hk' : k = l.length := by omega
   rw [hk',List.take_length] at hall
   have hany : l.any (fun s => !isStockB h s) = false:= by
    rw [List.any_eq_false]; intro s hs; simp [hall s hs]
   (repeat' (first | refine stq ?_ | (refine AL_do2 rfl ?_; first | refine ⟨_,op_call1 rfl rfl rfl rfl (f109 l.length lo 5),nrmA rfl ?_⟩) | (with_reducible refine AL_id ?_); (fail_if_success (refine AL_glit rfl rfl rfl (by first | exact .inl (by with_reducible rfl) | exact .inr (by with_reducible rfl)) ?_)); first | refine AL_gdec rfl rfl rfl (fun hg => ?_) (fun hg => ?_) | refine AL_gnot rfl rfl rfl (fun hg => ?_) (fun hg => ?_) | refine AL_gcases rfl rfl rfl (fun hg => ?_) (fun hg => ?_)))
   exact ⟨_,_,rfl,rfl,by simp [areStocksB,hany]⟩
end Go.Abs
