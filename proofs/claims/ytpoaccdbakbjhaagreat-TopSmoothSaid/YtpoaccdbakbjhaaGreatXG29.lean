/- Which thicknesses are a truth of a map, as the reference tells it. -/
import Derived.Test.YtpoaccdbakbjhaaGreatXG25
import Derived.Test.YtpoaccdbakbjhaaGreatXG28
set_option linter.unusedVariables false
set_option linter.unusedSimpArgs false
namespace Go.Abs
open Go.Proofs
set_option maxRecDepth 100000
def sizedT (m:SMap) (t:List (List Int)):Bool:=t.all (fun l=>decide (l.length = colsN m)) && decide (t.length = m.cells.length)
theorem tall_false {α:Type} {p:α -> Bool} {l:List α} {k:Nat} {x:α} (hx:l[k]? = some x) (h:p x = false):l.all p = false:= by
 rw [List.all_eq_false]
 exact ⟨x,List.mem_of_getElem? hx,by simp [h]⟩
theorem tall_upto {α:Type} {p:α -> Bool} {l:List α} (h:∀ (i:Nat) (x:α),i < l.length -> l[i]? = some x -> p x = true):l.all p = true:= by
 rw [List.all_eq_true]
 intro x hx
 obtain ⟨i,hi⟩:=List.mem_iff_getElem?.1 hx
 exact h i x (List.getElem?_eq_some_iff.1 hi).1 hi
theorem tstep_all {α:Type} {p:α -> Bool} {l:List α} {k:Nat} {x:α} (h:∀ (i:Nat) (y:α),i < k -> l[i]? = some y -> p y = true) (hx:l[k]? = some x) (hp:p x = true):∀ (i:Nat) (y:α),i < k + 1 -> l[i]? = some y -> p y = true:=fun i y hi hy=>by
 by_cases hik:i = k
 ·subst hik; rw [hx] at hy; cases hy; exact hp
 ·exact h i y (by omega) hy
structure TallS (t:List (List Int)):Prop where
 r:t.length <= 6
 c:∀ l ∈ t,l.length <= 8
theorem t6 (m:SMap) (t:List (List Int)) (hm:MapS m) (ht:TallS t):ACalls Tryz.prog 6 [eMap m,eRows t] (fun r=>r = .pv (.bool (sizedT m t))):= by
 have hl:=hm.r; have hcl:=hm.cols; have htl:=ht.r
 have k17:=t17 m (by omega)
 have k16:=t16 m (by omega) (by omega)
 refine ACalls.of_body hT Tryz.func6 rfl (by kernel_rfl) rfl ?_
 (repeat (refine stq ?_))
 refine AW_loopC (fun k:Nat=>k <= t.length /\ ∀ (i:Nat) (x:List Int),i < k -> t[i]? = some x -> decide (x.length = colsN m) = true) (fun k=>mkSt [(1,.pv (eRows t)),(2,.box 0 0),(5,.pv (vi k))] [(0,boM m)] 1) (fun k=>t.length - k) 0 ⟨Nat.zero_le _,fun i x h=>by omega⟩ ?_ ?_
 ·(refine Le.mk ?_ ?_; all_goals (repeat' (first|exact trivial|refine sle ?_|refine ⟨?_,rfl,?_⟩|refine ⟨?_,by decide,rfl,?_⟩|fail)))
 ·rintro k ⟨hk,hall⟩
  (repeat (refine stq ?_))
  refine AW_if rfl (fun hc=>?_) (fun hc=>?_)
  ·have hk':k < t.length:=by omega
   obtain ⟨x,hx⟩:∃ x,t[k]? = some x:=⟨t[k],by simp [hk']⟩
   have e1:=get_map eRow hx
   have hx8:=ht.c x (List.mem_of_getElem? hx)
   (repeat (refine stq ?_))
   (repeat' (first|refine DG_next (StepOK.skipU rfl rfl) ?_|((refine DG_cmp hT rfl (fun hg=>?_) (fun hg=>?_)) <;> (try (exfalso; omega)))|refine DG_next (D_shl rfl rfl rfl rfl rfl (by omega)) ?_|refine DG_next (D_shr rfl rfl rfl rfl rfl (by omega)) ?_|refine sdq ?_|((refine DG_callC (D_call rfl rfl rfl rfl rfl (k16)) (fun hg=>?_) (fun hg=>?_)) <;> (try (exfalso; first|contradiction|omega)))|refine DG_next (D_call rfl rfl rfl rfl rfl (k16)) ?_))
   ·refine DG_end hM (by kernel_rfl) ?_
    (repeat (refine stq ?_))
    exact ⟨_,_,rfl,rfl,by rw [sizedT,tall_false hx (decide_eq_false (by omega))]; rfl⟩
   ·refine DG_end hM (by kernel_rfl) ?_
    (repeat (refine stq ?_))
    refine ⟨k + 1,⟨hk',tstep_all hall hx (decide_eq_true (by omega))⟩,by omega,?_⟩
    (refine Le.mk ?_ ?_; all_goals (repeat' (first|exact trivial|refine sle ?_|refine ⟨?_,rfl,?_⟩|refine ⟨?_,by decide,rfl,?_⟩|fail)))
  ·have hts:t.all (fun l=>decide (l.length = colsN m)) = true:=tall_upto (fun i y hi hy=>hall i y (by omega) hy)
   (repeat' (first|refine stq ?_|(refine AL_do2 rfl ?_; first|refine ⟨_,op_call1 rfl rfl rfl rfl (k17),nrmA rfl ?_⟩)|(with_reducible refine AL_id ?_); (fail_if_success (refine glq rfl rfl rfl ?_)); first|refine AL_gdec rfl rfl rfl (fun hg=>?_) (fun hg=>?_)|refine AL_gnot rfl rfl rfl (fun hg=>?_) (fun hg=>?_)|refine AL_gcases rfl rfl rfl (fun hg=>?_) (fun hg=>?_)))
   exact ⟨_,_,rfl,rfl,by rw [sizedT,hts]; simp [Int.natCast_inj]⟩
def numT (t:List (List Int)) (r c:Int):Int:=(atG t r c).getD 0
def cellFit (m:SMap) (t:List (List Int)) (r c:Nat):Bool :=
 if cellI m r c = 1 then decide (numT t r c = 0) else inB (numT t r c) 0 60 && (decide (cellI m r (c + 1:Int) = 1) || inB (numT t r (c + 1:Int)) (numT t r c - m.taper) (numT t r c))
def gaugeFit (t:List (List Int)) (g:Gauge):Bool:=inB (numT t g.row g.col) (g.seen - g.off) (g.seen + g.off)
def rowFit (m:SMap) (t:List (List Int)) (r:Nat):Bool:=(List.range (colsN m)).all (cellFit m t r)
def fitsT (m:SMap) (t:List (List Int)):Bool:=(List.range m.cells.length).all (rowFit m t) && m.gauges.all (gaugeFit t)
theorem range_no {p:Nat -> Bool} {n k:Nat} (hk:k < n) (h:p k = false):(List.range n).all p = false:= by
 rw [List.all_eq_false]
 exact ⟨k,List.mem_range.2 hk,by simp [h]⟩
theorem range_yes {p:Nat -> Bool} {n:Nat} (h:∀ i,i < n -> p i = true):(List.range n).all p = true:= by
 rw [List.all_eq_true]
 intro i hi
 exact h i (List.mem_range.1 hi)
theorem range_step {p:Nat -> Bool} {k:Nat} (h:∀ i,i < k -> p i = true) (hp:p k = true):∀ i,i < k + 1 -> p i = true:=fun i hi=>by
 by_cases hik:i = k
 ·rw [hik]; exact hp
 ·exact h i (by omega)
theorem sized_row {m:SMap} {t:List (List Int)} (h:sizedT m t = true) {r:Nat} {x:List Int} (hx:t[r]? = some x):x.length = colsN m:= by
 simp only [sizedT,Bool.and_eq_true,List.all_eq_true,decide_eq_true_eq] at h
 exact h.1 x (List.mem_of_getElem? hx)
theorem sized_len {m:SMap} {t:List (List Int)} (h:sizedT m t = true):t.length = m.cells.length:= by
 simp only [sizedT,Bool.and_eq_true,List.all_eq_true,decide_eq_true_eq] at h
 exact h.2
theorem numT_at {t:List (List Int)} {r c:Nat} {x:List Int} {y:Int} (hx:t[r]? = some x) (hy:x[c]? = some y):numT t r c = y:= by
 rw [numT,atG_row hx,hy]; rfl
theorem MapP.short {m:SMap} (h:MapP m):MapS m:=⟨h.r6,fun l hl=>by rw [h.row l hl]; exact h.c8,h.g8,h.k8,h.p12⟩
theorem gauge_in {m:SMap} (h:MapP m) {g:Gauge} (hg:gaugeB m g = true):0 <= g.row /\ g.row < m.cells.length /\ 0 <= g.col /\ g.col < colsN m:= by
 simp only [gaugeB,Bool.and_eq_true,Bool.not_eq_true',decide_eq_false_iff_not] at hg
 have h1:=hg.1.1
 have q1:inB g.row 0 (m.cells.length - 1) = true:= by
  cases q:inB g.row 0 (m.cells.length - 1) with
  | true=>rfl
  | false=>exact absurd (by rw [cellI,atG_low q]; rfl) h1
 obtain ⟨x,hx⟩:=row_at q1
 have hxl:=h.row x (List.mem_of_getElem? hx)
 have q2:inB g.col 0 (x.length - 1) = true:= by
  cases q:inB g.col 0 (x.length - 1) with
  | true=>rfl
  | false=>exact absurd (by rw [cellI,atG_out hx q]; rfl) h1
 have:=inB_true q1
 have:=inB_true q2
 omega
set_option maxHeartbeats 4000000 in
theorem t7 (m:SMap) (t:List (List Int)) (hm:MapP m) (ht:sizedT m t = true):ACalls Tryz.prog 7 [eMap m,eRows t] (fun r=>r = .pv (.bool (fitsT m t))):= by
 have hl:=hm.r6; have hcl:=hm.c8; have htl:=sized_len ht
 have ht0:=hm.t0; have ht9:=hm.t9
 have k17:=t17 m (by omega)
 have k16:=t16 m (by omega) (by omega)
 refine ACalls.of_body hT Tryz.func7 rfl (by kernel_rfl) rfl ?_
 (repeat (refine stq ?_))
 refine AW_loopC (fun k:Nat=>k <= m.cells.length /\ ∀ i,i < k -> rowFit m t i = true) (fun k=>mkSt [(1,.pv (eRows t)),(2,.box 0 0),(5,.pv (vi k))] [(0,boM m)] 1) (fun k=>m.cells.length - k) 0 ⟨Nat.zero_le _,fun i h=>by omega⟩ ?_ ?_
 ·(refine Le.mk ?_ ?_; all_goals (repeat' (first|exact trivial|refine sle ?_|refine ⟨?_,rfl,?_⟩|refine ⟨?_,by decide,rfl,?_⟩|fail)))
 ·rintro k ⟨hk,hall⟩
  (repeat' (first|refine stq ?_|(refine AL_do2 rfl ?_; first|refine ⟨_,op_call1 rfl rfl rfl rfl (k17),nrmA rfl ?_⟩)|(with_reducible refine AL_id ?_); (fail_if_success (refine glq rfl rfl rfl ?_)); first|refine AL_gdec rfl rfl rfl (fun hg=>?_) (fun hg=>?_)|refine AL_gnot rfl rfl rfl (fun hg=>?_) (fun hg=>?_)|refine AL_gcases rfl rfl rfl (fun hg=>?_) (fun hg=>?_)))
  refine AW_if rfl (fun hc=>?_) (fun hc=>?_)
  ·have hk':k < m.cells.length:=by omega
   obtain ⟨x,hx⟩:∃ x,t[k]? = some x:=⟨t[k]'(by omega),by simp⟩
   have e1:=get_map eRow hx
   have hxl:=sized_row ht hx
   (repeat (refine stq ?_))
   refine AW_loopC (fun c:Nat=>c <= colsN m /\ ∀ i,i < c -> cellFit m t k i = true) (fun c=>mkSt [(1,.pv (eRows t)),(2,.box 0 0),(5,.pv (vi k)),(6,.pv (vi c))] [(0,boM m)] 1) (fun c=>colsN m - c) 0 ⟨Nat.zero_le _,fun i h=>by omega⟩ ?_ ?_
   ·(refine Le.mk ?_ ?_; all_goals (repeat' (first|exact trivial|refine sle ?_|refine ⟨?_,rfl,?_⟩|refine ⟨?_,by decide,rfl,?_⟩|fail)))
   ·rintro c ⟨hcc,hall2⟩
    (repeat' (first|refine stq ?_|(refine AL_do2 rfl ?_; first|refine ⟨_,op_call1 rfl rfl rfl rfl (k16),nrmA rfl ?_⟩)|(with_reducible refine AL_id ?_); (fail_if_success (refine glq rfl rfl rfl ?_)); first|refine AL_gdec rfl rfl rfl (fun hg=>?_) (fun hg=>?_)|refine AL_gnot rfl rfl rfl (fun hg=>?_) (fun hg=>?_)|refine AL_gcases rfl rfl rfl (fun hg=>?_) (fun hg=>?_)))
    refine AW_if rfl (fun hc2=>?_) (fun hc2=>?_)
    ·have hc':c < colsN m:=by omega
     obtain ⟨y,hy⟩:∃ y,x[c]? = some y:=⟨x[c]'(by omega),by simp⟩
     have e2:=get_map eInt hy
     have k18:=t18 m hm.short k c
     have k18b:=t18 m hm.short k (c + 1)
     have hny:=numT_at hx hy
     have bad:cellFit m t k c = false -> fitsT m t = false:=fun h=>by
      rw [fitsT,range_no hk' (range_no hc' h)]; rfl
     have k1:=t19 y 0 60
     have ecf:cellFit m t k c = if cellI m k c = 1 then decide (y = 0) else inB y 0 60 && (decide (cellI m k (c + 1:Int) = 1) || inB (numT t k (c + 1:Int)) (y - m.taper) y):=by rw [cellFit,hny]
     (repeat' (first|refine stq ?_|(refine AL_do2 rfl ?_; first|refine ⟨_,op_call1 rfl rfl rfl rfl (k18),nrmA rfl ?_⟩)|(with_reducible refine AL_id ?_); (fail_if_success (refine glq rfl rfl rfl ?_)); first|refine AL_gdec rfl rfl rfl (fun hg=>?_) (fun hg=>?_)|refine AL_gnot rfl rfl rfl (fun hg=>?_) (fun hg=>?_)|refine AL_gcases rfl rfl rfl (fun hg=>?_) (fun hg=>?_)))
     refine AW_if rfl (fun g1=>?_) (fun g1=>?_)
     ·rw [if_pos g1] at ecf
      (repeat (refine stq ?_))
      refine AW_if rfl (fun g2=>?_) (fun g2=>?_)
      ·(repeat (refine stq ?_))
       exact ⟨_,_,rfl,rfl,by rw [bad (by rw [ecf,decide_eq_false g2])]⟩
      ·(repeat (refine stq ?_))
       refine ⟨c + 1,⟨hc',range_step hall2 (by rw [ecf,decide_eq_true (by omega)])⟩,by omega,?_⟩
       (refine Le.mk ?_ ?_; all_goals (repeat' (first|exact trivial|refine sle ?_|refine ⟨?_,rfl,?_⟩|refine ⟨?_,by decide,rfl,?_⟩|fail)))
     ·rw [if_neg g1] at ecf
      cases q1:inB y 0 60 with
      | false =>
       rw [q1] at k1 ecf
       (repeat' (first|refine stq ?_|(refine AL_do2 rfl ?_; first|refine ⟨_,op_call1 rfl rfl rfl rfl (k1),nrmA rfl ?_⟩)|(with_reducible refine AL_id ?_); (fail_if_success (refine glq rfl rfl rfl ?_)); first|refine AL_gdec rfl rfl rfl (fun hg=>?_) (fun hg=>?_)|refine AL_gnot rfl rfl rfl (fun hg=>?_) (fun hg=>?_)|refine AL_gcases rfl rfl rfl (fun hg=>?_) (fun hg=>?_)))
       exact ⟨_,_,rfl,rfl,by rw [bad ecf]⟩
      | true =>
       have hyb:=inB_true q1
       rw [q1] at k1 ecf
       (repeat' (first|refine stq ?_|(refine AL_do2 rfl ?_; first|refine ⟨_,op_call1 rfl rfl rfl rfl (k1),nrmA rfl ?_⟩)|(with_reducible refine AL_id ?_); (fail_if_success (refine glq rfl rfl rfl ?_)); first|refine AL_gdec rfl rfl rfl (fun hg=>?_) (fun hg=>?_)|refine AL_gnot rfl rfl rfl (fun hg=>?_) (fun hg=>?_)|refine AL_gcases rfl rfl rfl (fun hg=>?_) (fun hg=>?_)))
       by_cases g3:cellI m k (c + 1:Int) = 1
       ·iterate 4 (refine sdq ?_)
        (repeat' (first|refine DG_next (StepOK.skipU rfl rfl) ?_|((refine DG_cmp hT rfl (fun hg=>?_) (fun hg=>?_)) <;> (try (exfalso; omega)))|refine DG_next (D_shl rfl rfl rfl rfl rfl (by omega)) ?_|refine DG_next (D_shr rfl rfl rfl rfl rfl (by omega)) ?_|refine sdq ?_|((refine DG_callC (D_call rfl rfl rfl rfl rfl (k18b)) (fun hg=>?_) (fun hg=>?_)) <;> (try (exfalso; first|contradiction|omega)))|refine DG_next (D_call rfl rfl rfl rfl rfl (k18b)) ?_))
        all_goals (try (exfalso; omega))
        refine DG_end hM (by kernel_rfl) ?_
        (repeat (refine stq ?_))
        refine ⟨c + 1,⟨hc',range_step hall2 (by rw [ecf,decide_eq_true g3]; rfl)⟩,by omega,?_⟩
        (refine Le.mk ?_ ?_; all_goals (repeat' (first|exact trivial|refine sle ?_|refine ⟨?_,rfl,?_⟩|refine ⟨?_,by decide,rfl,?_⟩|fail)))
       ·have hcb:c + 1 < colsN m:= by
         by_cases hcb:c + 1 < colsN m
         ·exact hcb
         ·refine absurd ?_ g3
          obtain ⟨z,hz⟩:∃ z,m.cells[k]? = some z:=⟨m.cells[k],by simp [hk']⟩
          have hzl:=cols_row hm hz
          rw [cellI,show ((c:Int) + 1) = ((c + 1:Nat):Int) by omega,atG_row hz,List.getElem?_eq_none (by omega)]; rfl
        obtain ⟨y2,hy2⟩:∃ y2,x[c + 1]? = some y2:=⟨x[c + 1]'(by omega),by simp⟩
        have e3:(x.map eInt)[((c:Int) + 1).toNat]? = some (eInt y2):= by
         rw [show ((c:Int) + 1).toNat = c + 1 by omega]; exact get_map eInt hy2
        have hn2:numT t k (c + 1:Int) = y2:=by rw [show ((c:Int) + 1) = ((c + 1:Nat):Int) by omega]; exact numT_at hx hy2
        rw [decide_eq_false g3,hn2,Bool.false_or,Bool.true_and] at ecf
        have k2:=t19 y2 (y - m.taper) y
        cases q2:inB y2 (y - m.taper) y with
        | true =>
         rw [q2] at k2 ecf
         (repeat' (first|refine DG_next (StepOK.skipU rfl rfl) ?_|((refine DG_cmp hT rfl (fun hg=>?_) (fun hg=>?_)) <;> (try (exfalso; omega)))|refine DG_next (D_shl rfl rfl rfl rfl rfl (by omega)) ?_|refine DG_next (D_shr rfl rfl rfl rfl rfl (by omega)) ?_|refine sdq ?_|((refine DG_callC (D_call rfl rfl rfl rfl rfl (k18b)) (fun hg=>?_) (fun hg=>?_)) <;> (try (exfalso; first|contradiction|omega)))|refine DG_next (D_call rfl rfl rfl rfl rfl (k18b)) ?_|((refine DG_callC (D_call rfl rfl rfl rfl rfl (k2)) (fun hg=>?_) (fun hg=>?_)) <;> (try (exfalso; first|contradiction|omega)))|refine DG_next (D_call rfl rfl rfl rfl rfl (k2)) ?_))
         all_goals (try (exfalso; omega))
         refine DG_end hM (by kernel_rfl) ?_
         (repeat (refine stq ?_))
         refine ⟨c + 1,⟨hc',range_step hall2 ecf⟩,by omega,?_⟩
         (refine Le.mk ?_ ?_; all_goals (repeat' (first|exact trivial|refine sle ?_|refine ⟨?_,rfl,?_⟩|refine ⟨?_,by decide,rfl,?_⟩|fail)))
        | false =>
         rw [q2] at k2 ecf
         (repeat' (first|refine DG_next (StepOK.skipU rfl rfl) ?_|((refine DG_cmp hT rfl (fun hg=>?_) (fun hg=>?_)) <;> (try (exfalso; omega)))|refine DG_next (D_shl rfl rfl rfl rfl rfl (by omega)) ?_|refine DG_next (D_shr rfl rfl rfl rfl rfl (by omega)) ?_|refine sdq ?_|((refine DG_callC (D_call rfl rfl rfl rfl rfl (k18b)) (fun hg=>?_) (fun hg=>?_)) <;> (try (exfalso; first|contradiction|omega)))|refine DG_next (D_call rfl rfl rfl rfl rfl (k18b)) ?_|((refine DG_callC (D_call rfl rfl rfl rfl rfl (k2)) (fun hg=>?_) (fun hg=>?_)) <;> (try (exfalso; first|contradiction|omega)))|refine DG_next (D_call rfl rfl rfl rfl rfl (k2)) ?_))
         all_goals (try (exfalso; omega))
         refine DG_end hM (by kernel_rfl) ?_
         (repeat (refine stq ?_))
         exact ⟨_,_,rfl,rfl,by rw [bad ecf]⟩
    ·have hrf:rowFit m t k = true:=range_yes (fun i hi=>hall2 i (by omega))
     (repeat (refine stq ?_))
     refine ⟨k + 1,⟨hk',range_step hall hrf⟩,by omega,?_⟩
     (refine Le.mk ?_ ?_; all_goals (repeat' (first|exact trivial|refine sle ?_|refine ⟨?_,rfl,?_⟩|refine ⟨?_,by decide,rfl,?_⟩|fail)))
  ·have hrs:(List.range m.cells.length).all (rowFit m t) = true:=range_yes (fun i hi=>hall i (by omega))
   (repeat (refine stq ?_))
   refine AW_loopC (fun k:Nat=>k <= m.gauges.length /\ ∀ (i:Nat) (x:Gauge),i < k -> m.gauges[i]? = some x -> gaugeFit t x = true) (fun k=>mkSt [(1,.pv (eRows t)),(2,.box 0 0),(8,.pv (vi k))] [(0,boM m)] 1) (fun k=>m.gauges.length - k) 0 ⟨Nat.zero_le _,fun i x h=>by omega⟩ ?_ ?_
   ·(refine Le.mk ?_ ?_; all_goals (repeat' (first|exact trivial|refine sle ?_|refine ⟨?_,rfl,?_⟩|refine ⟨?_,by decide,rfl,?_⟩|fail)))
   ·rintro k ⟨hk,hallg⟩
    have hg8:=hm.g8
    (repeat (refine stq ?_))
    refine AW_if rfl (fun hc=>?_) (fun hc=>?_)
    ·have hk':k < m.gauges.length:=by omega
     obtain ⟨g,hgk⟩:∃ g,m.gauges[k]? = some g:=⟨m.gauges[k],by simp [hk']⟩
     have e0:=get_map eGauge hgk
     have hgb:=hm.gg g (List.mem_of_getElem? hgk)
     obtain ⟨b1,b2,b3,b4⟩:=gauge_in hm hgb
     simp only [gaugeB,Bool.and_eq_true,Bool.not_eq_true',decide_eq_false_iff_not] at hgb
     have hs:=inB_true hgb.1.2
     have ho:=inB_true hgb.2
     obtain ⟨x,hx⟩:∃ x,t[g.row.toNat]? = some x:=⟨t[g.row.toNat]'(by omega),by simp⟩
     have hxl:=sized_row ht hx
     obtain ⟨y,hy⟩:∃ y,x[g.col.toNat]? = some y:=⟨x[g.col.toNat]'(by omega),by simp⟩
     have e1:=get_map eRow hx
     have e2:=get_map eInt hy
     have egf:gaugeFit t g = inB y (g.seen - g.off) (g.seen + g.off):=by rw [gaugeFit,numT,atG_in b1 b3 hx,hy]; rfl
     have k1:=t19 y (g.seen - g.off) (g.seen + g.off)
     cases q:inB y (g.seen - g.off) (g.seen + g.off) with
     | true =>
      rw [q] at k1 egf
      (repeat (refine stq ?_))
      (repeat' (first|refine DG_next (StepOK.skipU rfl rfl) ?_|((refine DG_cmp hT rfl (fun hg=>?_) (fun hg=>?_)) <;> (try (exfalso; omega)))|refine DG_next (D_shl rfl rfl rfl rfl rfl (by omega)) ?_|refine DG_next (D_shr rfl rfl rfl rfl rfl (by omega)) ?_|refine sdq ?_|((refine DG_callC (D_call rfl rfl rfl rfl rfl (k1)) (fun hg=>?_) (fun hg=>?_)) <;> (try (exfalso; first|contradiction|omega)))|refine DG_next (D_call rfl rfl rfl rfl rfl (k1)) ?_))
      refine DG_end hM (by kernel_rfl) ?_
      (repeat (refine stq ?_))
      refine ⟨k + 1,⟨hk',tstep_all hallg hgk egf⟩,by omega,?_⟩
      (refine Le.mk ?_ ?_; all_goals (repeat' (first|exact trivial|refine sle ?_|refine ⟨?_,rfl,?_⟩|refine ⟨?_,by decide,rfl,?_⟩|fail)))
     | false =>
      rw [q] at k1 egf
      (repeat (refine stq ?_))
      (repeat' (first|refine DG_next (StepOK.skipU rfl rfl) ?_|((refine DG_cmp hT rfl (fun hg=>?_) (fun hg=>?_)) <;> (try (exfalso; omega)))|refine DG_next (D_shl rfl rfl rfl rfl rfl (by omega)) ?_|refine DG_next (D_shr rfl rfl rfl rfl rfl (by omega)) ?_|refine sdq ?_|((refine DG_callC (D_call rfl rfl rfl rfl rfl (k1)) (fun hg=>?_) (fun hg=>?_)) <;> (try (exfalso; first|contradiction|omega)))|refine DG_next (D_call rfl rfl rfl rfl rfl (k1)) ?_))
      refine DG_end hM (by kernel_rfl) ?_
      (repeat (refine stq ?_))
      exact ⟨_,_,rfl,rfl,by rw [fitsT,tall_false hgk egf]; simp⟩
    ·have hgs:m.gauges.all (gaugeFit t) = true:=tall_upto (fun i y hi hy=>hallg i y (by omega) hy)
     (repeat (refine stq ?_))
     exact ⟨_,_,rfl,rfl,by rw [fitsT,hrs,hgs]; rfl⟩
end Go.Abs
