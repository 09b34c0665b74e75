/- The reference: houses, batches, Known; slim. -/
import Derived.Test.YtkmclnjmabljdaaGreatDoorKNdF
import Derived.Test.YtkmclnjmabljdaaGreatDoorKNcG
set_option linter.unusedVariables false
set_option linter.unusedSimpArgs false
namespace Go.Abs
open Go.Proofs
set_option linter.unusedVariables false
set_option linter.unusedSimpArgs false
set_option maxRecDepth 100000
def slimB (h : List Dye) : Bool := !(h.take 6).any (fun d => decide (d.takes.length > 5)) && decide (h.length <= 5)
theorem slim_ok {h : List Dye} (hs : slimB h = true) : h.length <= 5 /\ ∀ d ∈ h,d.takes.length <= 5:= by
 simp only [slimB,Bool.and_eq_true,Bool.not_eq_true',List.any_eq_false,decide_eq_true_eq] at hs
 refine ⟨hs.2,fun d hd => ?_⟩
 have := hs.1 d (by rw [List.take_of_length_le (by omega)]; exact hd)
 omega
theorem slim_houseOK {h : List Dye} (hs : slimB h = true) : houseOK h:= by
 obtain ⟨h1,h2⟩ := slim_ok hs
 exact ⟨by omega,fun d hd => by have := h2 d hd; omega⟩
theorem all_take_succ {α : Type} {p : α -> Prop} {l : List α} {k : Nat} {x : α} (h : ∀ y ∈ l.take k,p y) (hx : l[k]? = some x) (hp : p x) : ∀ y ∈ l.take (k + 1),p y:= by
 rw [List.take_add_one,hx]
 intro y hy
 simp only [Option.toList_some,List.mem_append,List.mem_singleton] at hy
 rcases hy with hy | rfl
 ·exact h y hy
 ·exact hp
theorem f27 (h : List Dye) : ACalls Tryz.prog 27 [eHouse h] (fun r => r = .pv (.bool (slimB h))):= by
 refine ACalls.of_body hT Tryz.func27 rfl (by kernel_rfl) rfl ?_
 (repeat (refine stp ?_))
 refine AW_loopC (fun k : Nat => k <= h.length /\ k <= 6 /\ ∀ d ∈ h.take k,d.takes.length <= 5) (fun k => mkSt [(1,.box 0 0),(3,.pv (vi k))] [(0,.box [.pv (.sl (h.map eDye))])] 1) (fun k => 6 - k) 0 ⟨Nat.zero_le _,by omega,by simp⟩ ?_ ?_
 ·(refine Le.mk ?_ ?_; all_goals (repeat' (first | exact trivial | refine sle ?_ | refine ⟨?_,rfl,?_⟩ | refine ⟨?_,by decide,rfl,?_⟩ | fail)))
 ·rintro k ⟨hk,hk6,hall⟩
  (repeat' (first | refine stp ?_ | refine AL_gdec rfl rfl rfl (fun hg => ?_) (fun hg => ?_) | refine AL_gnot rfl rfl rfl (fun hg => ?_) (fun hg => ?_) | refine AL_gcases rfl rfl rfl (fun hg => ?_) (fun hg => ?_)))
  ·refine AW_if rfl (fun hc => ?_) (fun hc => ?_)
   ·have hk' : k < h.length := by omega
    obtain ⟨d,hd⟩ : ∃ d,h[k]? = some d := ⟨h[k],by simp [hk']⟩
    have e1 := get_map eDye hd
    (repeat (refine stp ?_))
    refine AW_if rfl (fun hc2 => ?_) (fun hc2 => ?_)
    ·(repeat (refine stp ?_))
     refine ⟨_,_,rfl,rfl,?_⟩
     have : slimB h = false:= by
      simp only [slimB,Bool.and_eq_false_iff,Bool.not_eq_false',List.any_eq_true,decide_eq_true_eq]
      exact .inl ⟨d,List.mem_of_getElem? (i := k) (by rw [List.getElem?_take,if_pos (by omega)]; exact hd),by omega⟩
     rw [this]
    ·(repeat (refine stp ?_))
     refine ⟨k + 1,⟨hk',by omega,all_take_succ hall hd (by omega)⟩,by omega,?_⟩
     (refine Le.mk ?_ ?_; all_goals (repeat' (first | exact trivial | refine sle ?_ | refine ⟨?_,rfl,?_⟩ | refine ⟨?_,by decide,rfl,?_⟩ | fail)))
   ·have hk' : k = 6 := by omega
    subst hk'
    (repeat (refine stp ?_))
    refine ⟨_,_,rfl,rfl,?_⟩
    have h1 : (h.take 6).any (fun d => decide (d.takes.length > 5)) = false:= by
     simp only [List.any_eq_false,decide_eq_true_eq]; intro d hd; have := hall d hd; omega
    simp [slimB,h1]; omega
  ·have hk' : k = h.length := by omega
   refine ⟨_,_,rfl,rfl,?_⟩
   have h1 : (h.take 6).any (fun d => decide (d.takes.length > 5)) = false:= by
    simp only [List.any_eq_false,decide_eq_true_eq]; intro d hd
    have := hall d (by rw [hk',List.take_length]; exact List.mem_of_mem_take hd); omega
   simp [slimB,h1]; omega
theorem f109 (x lo hi : Int) : ACalls Tryz.prog 109 [vi x,vi lo,vi hi] (fun r => r = .pv (.bool (inB x lo hi))):= by
 refine ACalls.of_body hT Tryz.func109 rfl (by kernel_rfl) rfl ?_
 (repeat' (first | refine stp ?_ | refine AL_gdec rfl rfl rfl (fun hg => ?_) (fun hg => ?_) | refine AL_gnot rfl rfl rfl (fun hg => ?_) (fun hg => ?_) | refine AL_gcases rfl rfl rfl (fun hg => ?_) (fun hg => ?_)))
 all_goals exact ⟨_,_,rfl,rfl,by simp_all [inB]; try omega⟩
theorem f108 (s : Span) (lo hi d : Int) (h1 : -100000 <= lo) (h2 : hi <= 100000) : ACalls Tryz.prog 108 [eS s,vi lo,vi hi,vi d] (fun r => r = .pv (.bool (isSpanB s lo hi d))):= by
 refine ACalls.of_body hT Tryz.func108 rfl (by kernel_rfl) rfl ?_
 (repeat' (first | refine stp ?_ | refine AL_gdec rfl rfl rfl (fun hg => ?_) (fun hg => ?_) | refine AL_gnot rfl rfl rfl (fun hg => ?_) (fun hg => ?_) | refine AL_gcases rfl rfl rfl (fun hg => ?_) (fun hg => ?_)))
 all_goals exact ⟨_,_,rfl,rfl,by simp_all [isSpanB]; try omega⟩
theorem f42 (h : List Dye) (n : Int) (hh : h.length <= 1000) : ACalls Tryz.prog 42 [eHouse h,vi n] (fun r => r = .pv (.bool (inB n 0 (h.length - 1)))):= by
 refine ACalls.of_body hT Tryz.func42 rfl (by kernel_rfl) rfl ?_
 (repeat' (first | refine stp ?_ | (refine AL_do2 rfl ?_; first | refine ⟨_,op_call1 rfl rfl rfl rfl (f109 n 0 (h.length - 1)),?_⟩) | refine AL_gdec rfl rfl rfl (fun hg => ?_) (fun hg => ?_) | refine AL_gnot rfl rfl rfl (fun hg => ?_) (fun hg => ?_) | refine AL_gcases rfl rfl rfl (fun hg => ?_) (fun hg => ?_)))
 exact ⟨_,_,rfl,rfl,rfl⟩
theorem f43 (n : Int) : ACalls Tryz.prog 43 [vi n] (fun r => r = .pv (.bool (inB n 0 2))):= by
 refine ACalls.of_body hT Tryz.func43 rfl (by kernel_rfl) rfl ?_
 (repeat' (first | refine stp ?_ | (refine AL_do2 rfl ?_; first | refine ⟨_,op_call1 rfl rfl rfl rfl (f109 n 0 2),?_⟩) | refine AL_gdec rfl rfl rfl (fun hg => ?_) (fun hg => ?_) | refine AL_gnot rfl rfl rfl (fun hg => ?_) (fun hg => ?_) | refine AL_gcases rfl rfl rfl (fun hg => ?_) (fun hg => ?_)))
 exact ⟨_,_,rfl,rfl,rfl⟩
theorem f30 (h : List Dye) (hh : houseOK h) : ACalls Tryz.prog 30 [eHouse h] (fun r => r = .pv (.bool (isHouseB h))):= by
 have hh1 := hh.1
 refine ACalls.of_body hT Tryz.func30 rfl (by kernel_rfl) rfl ?_
 (repeat (refine stp ?_))
 refine AW_loopC (fun k : Nat => k <= h.length /\ ∀ d ∈ h.take k,isDyeB d = true) (fun k => mkSt [(1,.box 0 0),(3,.pv (vi k))] [(0,.box [.pv (.sl (h.map eDye))])] 1) (fun k => h.length - k) 0 ⟨Nat.zero_le _,by simp⟩ ?_ ?_
 ·(refine Le.mk ?_ ?_; all_goals (repeat' (first | exact trivial | refine sle ?_ | refine ⟨?_,rfl,?_⟩ | refine ⟨?_,by decide,rfl,?_⟩ | fail)))
 ·rintro k ⟨hk,hall⟩
  (repeat (refine stp ?_))
  refine AW_if rfl (fun hc => ?_) (fun hc => ?_)
  ·have hk' : k < h.length := by omega
   obtain ⟨d,hd⟩ : ∃ d,h[k]? = some d := ⟨h[k],by simp [hk']⟩
   have e1 := get_map eDye hd
   have htl := hh.2 d (List.mem_of_getElem? hd)
   have bad : isDyeB d = false -> isHouseB h = false := fun hb => by
    have : h.any (fun d => !isDyeB d) = true:= by
     rw [List.any_eq_true]; exact ⟨d,List.mem_of_getElem? hd,by simp [hb]⟩
    simp [isHouseB,this]
   (repeat (refine stp ?_))
   refine AW_loopC (fun j : Nat => j <= d.takes.length /\ ∀ s ∈ d.takes.take j,isSpanB s 0 20 2 = true) (fun j => mkSt [(1,.box 0 0),(3,.pv (vi k)),(4,.pv (vi j))] [(0,.box [.pv (.sl (h.map eDye))])] 1) (fun j => d.takes.length - j) 0 ⟨Nat.zero_le _,by simp⟩ ?_ ?_
   ·(refine Le.mk ?_ ?_; all_goals (repeat' (first | exact trivial | refine sle ?_ | refine ⟨?_,rfl,?_⟩ | refine ⟨?_,by decide,rfl,?_⟩ | fail)))
   ·rintro j ⟨hj,hallj⟩
    (repeat (refine stp ?_))
    refine AW_if rfl (fun hc => ?_) (fun hc => ?_)
    ·have hj' : j < d.takes.length := by omega
     obtain ⟨s,hs⟩ : ∃ s,d.takes[j]? = some s := ⟨d.takes[j],by simp [hj']⟩
     have e2 := get_map eSpan hs
     (repeat' (first | refine stp ?_ | (refine AL_do2 rfl ?_; first | refine ⟨_,op_call1 rfl rfl rfl rfl (f108 s 0 20 2 (by decide) (by decide)),?_⟩) | refine AL_gdec rfl rfl rfl (fun hg => ?_) (fun hg => ?_) | refine AL_gnot rfl rfl rfl (fun hg => ?_) (fun hg => ?_) | refine AL_gcases rfl rfl rfl (fun hg => ?_) (fun hg => ?_)))
     refine AW_cond rfl (fun hc2 => ?_) (fun hc2 => ?_)
     ·(repeat (refine stp ?_))
      refine ⟨_,_,rfl,rfl,?_⟩
      have : d.takes.any (fun s => !isSpanB s 0 20 2) = true:= by
       rw [List.any_eq_true]; exact ⟨s,List.mem_of_getElem? hs,hc2⟩
      rw [bad (by simp [isDyeB,this])]
     ·(repeat (refine stp ?_))
      refine ⟨j + 1,⟨hj',all_take_succ hallj hs (by simpa using hc2)⟩,by omega,?_⟩
      (refine Le.mk ?_ ?_; all_goals (repeat' (first | exact trivial | refine sle ?_ | refine ⟨?_,rfl,?_⟩ | refine ⟨?_,by decide,rfl,?_⟩ | fail)))
    ·have hj' : j = d.takes.length := by omega
     rw [hj',List.take_length] at hallj
     have hany : d.takes.any (fun s => !isSpanB s 0 20 2) = false:= by
      rw [List.any_eq_false]; intro s hs; simp [hallj s hs]
     have hdy : isDyeB d = (decide (d.takes.length = 3) && inB d.full 0 100) := by simp [isDyeB,hany]
     (repeat' (first | refine stp ?_ | (refine AL_do2 rfl ?_; first | refine ⟨_,op_call1 rfl rfl rfl rfl (f109 d.full 0 100),?_⟩) | refine AL_gdec rfl rfl rfl (fun hg => ?_) (fun hg => ?_) | refine AL_gnot rfl rfl rfl (fun hg => ?_) (fun hg => ?_) | refine AL_gcases rfl rfl rfl (fun hg => ?_) (fun hg => ?_)))
     ·refine ⟨_,_,rfl,rfl,?_⟩
      rw [bad (by rw [hdy]; simp_all; try omega)]
     ·refine AW_cond rfl (fun hc2 => ?_) (fun hc2 => ?_)
      ·(repeat (refine stp ?_))
       refine ⟨_,_,rfl,rfl,?_⟩
       rw [bad (by rw [hdy]; simp_all)]
      ·(repeat (refine stp ?_))
       refine ⟨k + 1,⟨hk',all_take_succ hall hd (by rw [hdy]; simp_all; try omega)⟩,by omega,?_⟩
       (refine Le.mk ?_ ?_; all_goals (repeat' (first | exact trivial | refine sle ?_ | refine ⟨?_,rfl,?_⟩ | refine ⟨?_,by decide,rfl,?_⟩ | fail)))
  ·have hk' : k = h.length := by omega
   rw [hk',List.take_length] at hall
   have hany : h.any (fun d => !isDyeB d) = false:= by
    rw [List.any_eq_false]; intro s hs; simp [hall s hs]
   (repeat' (first | refine stp ?_ | (refine AL_do2 rfl ?_; first | refine ⟨_,op_call1 rfl rfl rfl rfl (f109 h.length 1 3),?_⟩) | refine AL_gdec rfl rfl rfl (fun hg => ?_) (fun hg => ?_) | refine AL_gnot rfl rfl rfl (fun hg => ?_) (fun hg => ?_) | refine AL_gcases rfl rfl rfl (fun hg => ?_) (fun hg => ?_)))
   exact ⟨_,_,rfl,rfl,by simp [isHouseB,hany]⟩
theorem f31 (h : List Dye) (l : List Bath) (hh : h.length <= 1000) (hl : l.length <= 1000) : ACalls Tryz.prog 31 [eHouse h,eBaths l] (fun r => r = .pv (.bool (isBatchB h l))):= by
 refine ACalls.of_body hT Tryz.func31 rfl (by kernel_rfl) rfl ?_
 (repeat (refine stp ?_))
 refine AW_loopC (fun k : Nat => k <= l.length /\ ∀ b ∈ l.take k,isBathB h.length b = true) (fun k => mkSt [(1,.pv (eBaths l)),(2,.box 0 0),(5,.pv (vi k))] [(0,.box [.pv (.sl (h.map eDye))])] 1) (fun k => l.length - k) 0 ⟨Nat.zero_le _,by simp⟩ ?_ ?_
 ·(refine Le.mk ?_ ?_; all_goals (repeat' (first | exact trivial | refine sle ?_ | refine ⟨?_,rfl,?_⟩ | refine ⟨?_,by decide,rfl,?_⟩ | fail)))
 ·rintro k ⟨hk,hall⟩
  (repeat (refine stp ?_))
  refine AW_if rfl (fun hc => ?_) (fun hc => ?_)
  ·have hk' : k < l.length := by omega
   obtain ⟨b,hb⟩ : ∃ b,l[k]? = some b := ⟨l[k],by simp [hk']⟩
   have e1 := get_map eBath hb
   have bad : isBathB h.length b = false -> isBatchB h l = false := fun hx => by
    have : l.any (fun d => !isBathB h.length d) = true:= by
     rw [List.any_eq_true]; exact ⟨b,List.mem_of_getElem? hb,by simp [hx]⟩
    simp [isBatchB,this]
   (repeat (refine stp ?_))
   (repeat (refine sdr ?_))
   refine DG_split (D_call rfl rfl rfl rfl rfl (f42 h b.dye hh)) (fun h1 => ?_) (fun h1 => ?_)
   ·(repeat (refine sdr ?_))
    refine DG_split (D_call rfl rfl rfl rfl rfl (f43 b.temper)) (fun h2 => ?_) (fun h2 => ?_)
    ·(repeat (refine sdr ?_))
     refine DG_split (D_call rfl rfl rfl rfl rfl (f108 b.hours 0 12 2 (by decide) (by decide))) (fun h3 => ?_) (fun h3 => ?_)
     ·(repeat (refine sdr ?_))
      refine DG_end hM (by kernel_rfl) ?_
      (repeat (refine stp ?_))
      refine ⟨k + 1,⟨hk',all_take_succ hall hb (by simp [isBathB,h1,h2,h3])⟩,by omega,?_⟩
      (refine Le.mk ?_ ?_; all_goals (repeat' (first | exact trivial | refine sle ?_ | refine ⟨?_,rfl,?_⟩ | refine ⟨?_,by decide,rfl,?_⟩ | fail)))
     ·(repeat (refine sdr ?_))
      refine DG_end hM (by kernel_rfl) ?_
      (repeat (refine stp ?_))
      exact ⟨_,_,rfl,rfl,by rw [bad (by simp [isBathB,h3])]⟩
    ·(repeat (refine sdr ?_))
     refine DG_end hM (by kernel_rfl) ?_
     (repeat (refine stp ?_))
     exact ⟨_,_,rfl,rfl,by rw [bad (by simp [isBathB,h2])]⟩
   ·(repeat (refine sdr ?_))
    refine DG_end hM (by kernel_rfl) ?_
    (repeat (refine stp ?_))
    exact ⟨_,_,rfl,rfl,by rw [bad (by simp [isBathB,h1])]⟩
  ·have hk' : k = l.length := by omega
   rw [hk',List.take_length] at hall
   have hany : l.any (fun d => !isBathB h.length d) = false:= by
    rw [List.any_eq_false]; intro s hs; simp [hall s hs]
   (repeat (refine stp ?_))
   refine ⟨_,_,rfl,rfl,?_⟩
   simp only [isBatchB,hany,Bool.not_false,Bool.and_true]
   congr 3; simp; omega
end Go.Abs
