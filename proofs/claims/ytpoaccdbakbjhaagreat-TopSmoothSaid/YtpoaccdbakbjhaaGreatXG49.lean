/- Which maps and works are as defined, as the reference tells it. -/
import Derived.Test.YtpoaccdbakbjhaaGreatXG25
import Derived.Test.YtpoaccdbakbjhaaGreatXG48
set_option linter.unusedVariables false
set_option linter.unusedSimpArgs false
namespace Go.Abs
open Go.Proofs
set_option maxRecDepth 100000
theorem map_no1 {m:SMap} {k:Nat} {x:List Int} (hx:m.cells[k]? = some x) (h:rowB m x = false):mapB m = false:= by
 rw [mapB,all_false hx h]; simp
theorem map_no2 {m:SMap} {k:Nat} {x:Gauge} (hx:m.gauges[k]? = some x) (h:gaugeB m x = false):mapB m = false:= by
 rw [mapB,all_false hx h]; simp
theorem map_no3 {m:SMap} {k:Nat} {x:Crack} (hx:m.cracks[k]? = some x) (h:crackB m x = false):mapB m = false:= by
 rw [mapB,all_false hx h]; simp
theorem map_no4 {m:SMap} {k:Nat} {x:Place} (hx:m.probed[k]? = some x) (h:probedB m x = false):mapB m = false:= by
 rw [mapB,all_false hx h]; simp
set_option maxHeartbeats 8000000 in
theorem t43 (m:SMap) (hm:MapS m):ACalls Tryz.prog 43 [eMap m] (fun r=>r = .pv (.bool (mapB m))):= by
 have hl:=hm.r; have hcl:=hm.cols; have hg8:=hm.g; have hk8:=hm.k; have hp12:=hm.p
 have k17:=t17 m (by omega)
 have k16:=t16 m (by omega) (by omega)
 have k1:=t19 m.cells.length 1 6
 have k2:=t19 (colsN m) 1 8
 have k3:=t19 m.taper 0 9
 have k4:=t19 m.hidden 0 3
 refine ACalls.of_body hT Tryz.func43 rfl (by kernel_rfl) rfl ?_
 cases hh:mheadB m with
 | false =>
  have e:mapB m = false:=by rw [mapB,hh]; rfl
  rw [e]
  (repeat' (first|refine stq ?_|(refine AL_do2 rfl ?_; first|refine ⟨_,op_call1 rfl rfl rfl rfl (k17),nrmA rfl ?_⟩|refine ⟨_,op_call1 rfl rfl rfl rfl (k16),nrmA rfl ?_⟩|refine ⟨_,op_call1 rfl rfl rfl rfl (k1),nrmA rfl ?_⟩|refine ⟨_,op_call1 rfl rfl rfl rfl (k2),nrmA rfl ?_⟩|refine ⟨_,op_call1 rfl rfl rfl rfl (k3),nrmA rfl ?_⟩|refine ⟨_,op_call1 rfl rfl rfl rfl (k4),nrmA rfl ?_⟩)|(with_reducible refine AL_id ?_); (fail_if_success (refine glq rfl rfl rfl ?_)); first|refine AL_gdec rfl rfl rfl (fun hg=>?_) (fun hg=>?_)|refine AL_gnot rfl rfl rfl (fun hg=>?_) (fun hg=>?_)|refine AL_gcases rfl rfl rfl (fun hg=>?_) (fun hg=>?_)))
  all_goals (try (exfalso; simp_all [mheadB]; done))
  all_goals (try refine AW_cond rfl (fun hb=>?_) (fun hb=>?_))
  all_goals (try (exfalso; simp_all [mheadB]; done))
  all_goals (repeat (refine stq ?_))
  all_goals exact ⟨_,_,rfl,rfl,rfl⟩
 | true =>
  have hh':=hh
  simp only [mheadB,Bool.and_eq_true,decide_eq_true_eq] at hh'
  obtain ⟨⟨⟨⟨⟨⟨q1,q2⟩,q3⟩,q4⟩,q5⟩,q6⟩,q7⟩:=hh'
  rw [q1] at k1
  rw [q2] at k2
  rw [q3] at k3
  rw [q4] at k4
  (repeat' (first|refine stq ?_|(refine AL_do2 rfl ?_; first|refine ⟨_,op_call1 rfl rfl rfl rfl (k17),nrmA rfl ?_⟩|refine ⟨_,op_call1 rfl rfl rfl rfl (k16),nrmA rfl ?_⟩|refine ⟨_,op_call1 rfl rfl rfl rfl (k1),nrmA rfl ?_⟩|refine ⟨_,op_call1 rfl rfl rfl rfl (k2),nrmA rfl ?_⟩|refine ⟨_,op_call1 rfl rfl rfl rfl (k3),nrmA rfl ?_⟩|refine ⟨_,op_call1 rfl rfl rfl rfl (k4),nrmA rfl ?_⟩)|((first|(with_reducible refine AL_id ?_); (fail_if_success (refine glq rfl rfl rfl ?_)); first|refine AL_gdec rfl rfl rfl (fun hg=>?_) (fun hg=>?_)|refine AL_gnot rfl rfl rfl (fun hg=>?_) (fun hg=>?_)|refine AL_gcases rfl rfl rfl (fun hg=>?_) (fun hg=>?_)) <;> (try (exfalso; omega)))|refine AW_if rfl (fun hc=>absurd hc (by omega)) (fun _=>?_)|refine AW_if rfl (fun _=>?_) (fun hc=>absurd (by omega) hc)))
  all_goals (try (exfalso; simp at hg; done))
  refine AW_loopC (fun k:Nat=>k <= m.cells.length /\ ∀ (i:Nat) (x:List Int),i < k -> m.cells[i]? = some x -> rowB m x = true) (fun k=>mkSt [(1,.box 0 0),(3,.pv (vi k))] [(0,boM m)] 1) (fun k=>m.cells.length - k) 0 ⟨Nat.zero_le _,fun i x h=>by omega⟩ ?_ ?_
  ·(refine Le.mk ?_ ?_; all_goals (repeat' (first|exact trivial|refine sle ?_|refine ⟨?_,rfl,?_⟩|refine ⟨?_,by decide,rfl,?_⟩|fail)))
  ·rintro k ⟨hk,hall⟩
   (repeat' (first|refine stq ?_|(refine AL_do2 rfl ?_; first|refine ⟨_,op_call1 rfl rfl rfl rfl (k17),nrmA rfl ?_⟩)|(with_reducible refine AL_id ?_); (fail_if_success (refine glq rfl rfl rfl ?_)); first|refine AL_gdec rfl rfl rfl (fun hg=>?_) (fun hg=>?_)|refine AL_gnot rfl rfl rfl (fun hg=>?_) (fun hg=>?_)|refine AL_gcases rfl rfl rfl (fun hg=>?_) (fun hg=>?_)))
   refine AW_if rfl (fun hc=>?_) (fun hc=>?_)
   ·have hk':k < m.cells.length:=by omega
    obtain ⟨x,hx⟩:∃ x,m.cells[k]? = some x:=⟨m.cells[k],by simp [hk']⟩
    have e1:=get_map eRow hx
    have hx8:=hm.c x (List.mem_of_getElem? hx)
    (repeat (refine stq ?_))
    (repeat' (first|refine DG_next (StepOK.skipU rfl rfl) ?_|((refine DG_cmp hT rfl (fun hg=>?_) (fun hg=>?_)) <;> (try (exfalso; omega)))|refine DG_next (D_shl rfl rfl rfl rfl rfl (by omega)) ?_|refine DG_next (D_shr rfl rfl rfl rfl rfl (by omega)) ?_|refine sdq ?_|((refine DG_callC (D_call rfl rfl rfl rfl rfl (k16)) (fun hg=>?_) (fun hg=>?_)) <;> (try (exfalso; first|contradiction|omega)))|refine DG_next (D_call rfl rfl rfl rfl rfl (k16)) ?_))
    ·refine DG_end hM (by kernel_rfl) ?_
     (repeat (refine stq ?_))
     exact ⟨_,_,rfl,rfl,by rw [map_no1 hx (by rw [rowB,decide_eq_false (by omega)]; rfl)]⟩
    ·refine DG_end hM (by kernel_rfl) ?_
     (repeat (refine stq ?_))
     refine AW_loopC (fun c:Nat=>c <= colsN m /\ ∀ (i:Nat) (y:Int),i < c -> x[i]? = some y -> inB y 1 3 = true) (fun c=>mkSt [(1,.box 0 0),(3,.pv (vi k)),(4,.pv (vi c))] [(0,boM m)] 1) (fun c=>colsN m - c) 0 ⟨Nat.zero_le _,fun i x h=>by omega⟩ ?_ ?_
     ·(refine Le.mk ?_ ?_; all_goals (repeat' (first|exact trivial|refine sle ?_|refine ⟨?_,rfl,?_⟩|refine ⟨?_,by decide,rfl,?_⟩|fail)))
     ·rintro c ⟨hcc,hall2⟩
      (repeat' (first|refine stq ?_|(refine AL_do2 rfl ?_; first|refine ⟨_,op_call1 rfl rfl rfl rfl (k16),nrmA rfl ?_⟩)|(with_reducible refine AL_id ?_); (fail_if_success (refine glq rfl rfl rfl ?_)); first|refine AL_gdec rfl rfl rfl (fun hg=>?_) (fun hg=>?_)|refine AL_gnot rfl rfl rfl (fun hg=>?_) (fun hg=>?_)|refine AL_gcases rfl rfl rfl (fun hg=>?_) (fun hg=>?_)))
      refine AW_if rfl (fun hc2=>?_) (fun hc2=>?_)
      ·obtain ⟨y,hy⟩:∃ y,x[c]? = some y:=⟨x[c]'(by omega),by simp⟩
       have e2:=get_map eInt hy
       (repeat' (first|refine stq ?_|(with_reducible refine AL_id ?_); (fail_if_success (refine glq rfl rfl rfl ?_)); first|refine AL_gdec rfl rfl rfl (fun hg=>?_) (fun hg=>?_)|refine AL_gnot rfl rfl rfl (fun hg=>?_) (fun hg=>?_)|refine AL_gcases rfl rfl rfl (fun hg=>?_) (fun hg=>?_)))
       ·exact ⟨_,_,rfl,rfl,by rw [map_no1 hx (by rw [rowB,all_false hy (by simp [inB]; omega)]; simp)]⟩
       ·refine AW_if rfl (fun hc3=>?_) (fun hc3=>?_)
        ·(repeat (refine stq ?_))
         exact ⟨_,_,rfl,rfl,by rw [map_no1 hx (by rw [rowB,all_false hy (by simp [inB]; omega)]; simp)]⟩
        ·(repeat (refine stq ?_))
         refine ⟨c + 1,⟨by omega,step_all hall2 hy (by simp [inB]; omega)⟩,by omega,?_⟩
         (refine Le.mk ?_ ?_; all_goals (repeat' (first|exact trivial|refine sle ?_|refine ⟨?_,rfl,?_⟩|refine ⟨?_,by decide,rfl,?_⟩|fail)))
      ·(repeat (refine stq ?_))
       refine ⟨k + 1,⟨hk',step_all hall hx ?_⟩,by omega,?_⟩
       ·rw [rowB,all_upto (fun i y hi hy=>hall2 i y (by omega) hy),decide_eq_true (by omega)]; rfl
       ·(refine Le.mk ?_ ?_; all_goals (repeat' (first|exact trivial|refine sle ?_|refine ⟨?_,rfl,?_⟩|refine ⟨?_,by decide,rfl,?_⟩|fail)))
   ·have hrows:m.cells.all (rowB m) = true:=all_upto (fun i y hi hy=>hall i y (by omega) hy)
    (repeat (refine stq ?_))
    refine AW_loopC (fun k:Nat=>k <= m.gauges.length /\ ∀ (i:Nat) (x:Gauge),i < k -> m.gauges[i]? = some x -> gaugeB m x = true) (fun k=>mkSt [(1,.box 0 0),(5,.pv (vi k))] [(0,boM m)] 1) (fun k=>m.gauges.length - k) 0 ⟨Nat.zero_le _,fun i x h=>by omega⟩ ?_ ?_
    ·(refine Le.mk ?_ ?_; all_goals (repeat' (first|exact trivial|refine sle ?_|refine ⟨?_,rfl,?_⟩|refine ⟨?_,by decide,rfl,?_⟩|fail)))
    ·rintro k ⟨hk,hallg⟩
     (repeat (refine stq ?_))
     refine AW_if rfl (fun hc=>?_) (fun hc=>?_)
     ·have hk':k < m.gauges.length:=by omega
      obtain ⟨x,hx⟩:∃ x,m.gauges[k]? = some x:=⟨m.gauges[k],by simp [hk']⟩
      have e1:=get_map eGauge hx
      have k18:=t18 m hm x.row x.col
      have k5:=t19 x.seen 0 60
      have k6:=t19 x.off 0 9
      cases qp:gaugeB m x with
      | true =>
       have qp':=qp
       simp only [gaugeB,Bool.and_eq_true,Bool.not_eq_true',decide_eq_false_iff_not] at qp'
       rw [qp'.1.2] at k5
       rw [qp'.2] at k6
       (repeat' (first|refine stq ?_|(refine AL_do2 rfl ?_; first|refine ⟨_,op_call1 rfl rfl rfl rfl (k18),nrmA rfl ?_⟩|refine ⟨_,op_call1 rfl rfl rfl rfl (k5),nrmA rfl ?_⟩|refine ⟨_,op_call1 rfl rfl rfl rfl (k6),nrmA rfl ?_⟩)|((first|(with_reducible refine AL_id ?_); (fail_if_success (refine glq rfl rfl rfl ?_)); first|refine AL_gdec rfl rfl rfl (fun hg=>?_) (fun hg=>?_)|refine AL_gnot rfl rfl rfl (fun hg=>?_) (fun hg=>?_)|refine AL_gcases rfl rfl rfl (fun hg=>?_) (fun hg=>?_)) <;> (try (exfalso; omega)))|refine AW_if rfl (fun hc=>absurd hc (by omega)) (fun _=>?_)|refine AW_if rfl (fun _=>?_) (fun hc=>absurd (by omega) hc)))
       all_goals (try (exfalso; simp_all; done))
       refine ⟨k + 1,⟨hk',step_all hallg hx qp⟩,by omega,?_⟩
       (refine Le.mk ?_ ?_; all_goals (repeat' (first|exact trivial|refine sle ?_|refine ⟨?_,rfl,?_⟩|refine ⟨?_,by decide,rfl,?_⟩|fail)))
      | false =>
       have e:=map_no2 hx qp
       rw [e]
       (repeat' (first|refine stq ?_|(refine AL_do2 rfl ?_; first|refine ⟨_,op_call1 rfl rfl rfl rfl (k18),nrmA rfl ?_⟩|refine ⟨_,op_call1 rfl rfl rfl rfl (k5),nrmA rfl ?_⟩|refine ⟨_,op_call1 rfl rfl rfl rfl (k6),nrmA rfl ?_⟩)|(with_reducible refine AL_id ?_); (fail_if_success (refine glq rfl rfl rfl ?_)); first|refine AL_gdec rfl rfl rfl (fun hg=>?_) (fun hg=>?_)|refine AL_gnot rfl rfl rfl (fun hg=>?_) (fun hg=>?_)|refine AL_gcases rfl rfl rfl (fun hg=>?_) (fun hg=>?_)))
       all_goals (try refine AW_cond rfl (fun hb=>?_) (fun hb=>?_))
       all_goals (try (exfalso; simp_all [gaugeB]; done))
       all_goals (repeat (refine stq ?_))
       all_goals exact ⟨_,_,rfl,rfl,rfl⟩
     ·have hgs:m.gauges.all (gaugeB m) = true:=all_upto (fun i y hi hy=>hallg i y (by omega) hy)
      (repeat (refine stq ?_))
      refine AW_loopC (fun k:Nat=>k <= m.cracks.length /\ ∀ (i:Nat) (x:Crack),i < k -> m.cracks[i]? = some x -> crackB m x = true) (fun k=>mkSt [(1,.box 0 0),(7,.pv (vi k))] [(0,boM m)] 1) (fun k=>m.cracks.length - k) 0 ⟨Nat.zero_le _,fun i x h=>by omega⟩ ?_ ?_
      ·(refine Le.mk ?_ ?_; all_goals (repeat' (first|exact trivial|refine sle ?_|refine ⟨?_,rfl,?_⟩|refine ⟨?_,by decide,rfl,?_⟩|fail)))
      ·rintro k ⟨hk,hallk⟩
       (repeat (refine stq ?_))
       refine AW_if rfl (fun hc=>?_) (fun hc=>?_)
       ·have hk':k < m.cracks.length:=by omega
        obtain ⟨x,hx⟩:∃ x,m.cracks[k]? = some x:=⟨m.cracks[k],by simp [hk']⟩
        have e1:=get_map eCrack hx
        have k101:=t101 m hm x.row x.col
        cases q1:thereB m x.row x.col with
        | false =>
         have e:=map_no3 hx (by rw [crackB,q1]; rfl)
         rw [e]
         rw [q1] at k101
         (repeat' (first|refine AL_skip rfl rfl ?_|refine stq ?_|(refine AL_do2 rfl ?_; first|refine ⟨_,op_call1 rfl rfl rfl rfl (k101),nrmA rfl ?_⟩)|(with_reducible refine AL_id ?_); (fail_if_success (refine glq rfl rfl rfl ?_)); first|refine AL_gdec rfl rfl rfl (fun hg=>?_) (fun hg=>?_)|refine AL_gnot rfl rfl rfl (fun hg=>?_) (fun hg=>?_)|refine AL_gcases rfl rfl rfl (fun hg=>?_) (fun hg=>?_)))
         all_goals (try (exfalso; simp at hg; done))
         exact ⟨_,_,rfl,rfl,rfl⟩
        | true =>
         have hth:=q1
         simp only [thereB,Bool.and_eq_true,inB,decide_eq_true_eq] at hth
         obtain ⟨⟨hr1,hr2⟩,hr3,hr4⟩:=hth
         rw [q1] at k101
         have k102:=t101 m hm (x.row + 1) x.col
         have k103:=t101 m hm x.row (x.col + 1)
         have ecr:crackB m x = if x.down then thereB m (x.row + 1) x.col else thereB m x.row (x.col + 1):= by
          rw [crackB,q1,beyondR,beyondC]; cases x.down <;> rfl
         cases qp:crackB m x with
         | false =>
          have e:=map_no3 hx qp
          rw [e]
          rw [qp] at ecr
          cases qd:x.down
          all_goals
           rw [qd] at ecr
           rw [eCrack,qd] at e1
           first|(have ecr2:thereB m x.row (x.col + 1) = false:=ecr.symm; rw [ecr2] at k103)|(have ecr2:thereB m (x.row + 1) x.col = false:=ecr.symm; rw [ecr2] at k102)
           (repeat' (first|refine AL_skip rfl rfl ?_|refine stq ?_|(refine AL_do2 rfl ?_; first|refine ⟨_,op_call1 rfl rfl rfl rfl (k101),nrmA rfl ?_⟩|refine ⟨_,op_call1 rfl rfl rfl rfl (k102),nrmA rfl ?_⟩|refine ⟨_,op_call1 rfl rfl rfl rfl (k103),nrmA rfl ?_⟩)|(with_reducible refine AL_id ?_); (fail_if_success (refine glq rfl rfl rfl ?_)); first|refine AL_gdec rfl rfl rfl (fun hg=>?_) (fun hg=>?_)|refine AL_gnot rfl rfl rfl (fun hg=>?_) (fun hg=>?_)|refine AL_gcases rfl rfl rfl (fun hg=>?_) (fun hg=>?_)))
           all_goals (try (exfalso; simp [qd] at hg; done))
           all_goals exact ⟨_,_,rfl,rfl,rfl⟩
         | true =>
          rw [qp] at ecr
          cases qd:x.down
          all_goals
           rw [qd] at ecr
           rw [eCrack,qd] at e1
           first|(have ecr2:thereB m x.row (x.col + 1) = true:=ecr.symm; rw [ecr2] at k103)|(have ecr2:thereB m (x.row + 1) x.col = true:=ecr.symm; rw [ecr2] at k102)
           (repeat' (first|refine AL_skip rfl rfl ?_|refine stq ?_|(refine AL_do2 rfl ?_; first|refine ⟨_,op_call1 rfl rfl rfl rfl (k101),nrmA rfl ?_⟩|refine ⟨_,op_call1 rfl rfl rfl rfl (k102),nrmA rfl ?_⟩|refine ⟨_,op_call1 rfl rfl rfl rfl (k103),nrmA rfl ?_⟩)|(with_reducible refine AL_id ?_); (fail_if_success (refine glq rfl rfl rfl ?_)); first|refine AL_gdec rfl rfl rfl (fun hg=>?_) (fun hg=>?_)|refine AL_gnot rfl rfl rfl (fun hg=>?_) (fun hg=>?_)|refine AL_gcases rfl rfl rfl (fun hg=>?_) (fun hg=>?_)))
           all_goals (try (exfalso; simp [qd] at hg; done))
           all_goals refine ⟨k + 1,⟨hk',step_all hallk hx qp⟩,by omega,?_⟩
           all_goals (refine Le.mk ?_ ?_; all_goals (repeat' (first|exact trivial|refine sle ?_|refine ⟨?_,rfl,?_⟩|refine ⟨?_,by decide,rfl,?_⟩|fail)))
       ·have hks:m.cracks.all (crackB m) = true:=all_upto (fun i y hi hy=>hallk i y (by omega) hy)
        (repeat (refine stq ?_))
        refine AW_loopC (fun k:Nat=>k <= m.probed.length /\ ∀ (i:Nat) (x:Place),i < k -> m.probed[i]? = some x -> probedB m x = true) (fun k=>mkSt [(1,.box 0 0),(9,.pv (vi k))] [(0,boM m)] 1) (fun k=>m.probed.length - k) 0 ⟨Nat.zero_le _,fun i x h=>by omega⟩ ?_ ?_
        ·(refine Le.mk ?_ ?_; all_goals (repeat' (first|exact trivial|refine sle ?_|refine ⟨?_,rfl,?_⟩|refine ⟨?_,by decide,rfl,?_⟩|fail)))
        ·rintro k ⟨hk,hallp⟩
         (repeat (refine stq ?_))
         refine AW_if rfl (fun hc=>?_) (fun hc=>?_)
         ·have hk':k < m.probed.length:=by omega
          obtain ⟨x,hx⟩:∃ x,m.probed[k]? = some x:=⟨m.probed[k],by simp [hk']⟩
          have e1:=get_map ePlace hx
          have k18:=t18 m hm x.row x.col
          (repeat (refine stq ?_))
          (repeat' (first|refine DG_next (StepOK.skipU rfl rfl) ?_|((refine DG_cmp hT rfl (fun hg=>?_) (fun hg=>?_)) <;> (try (exfalso; omega)))|refine DG_next (D_shl rfl rfl rfl rfl rfl (by omega)) ?_|refine DG_next (D_shr rfl rfl rfl rfl rfl (by omega)) ?_|refine sdq ?_|((refine DG_callC (D_call rfl rfl rfl rfl rfl (k18)) (fun hg=>?_) (fun hg=>?_)) <;> (try (exfalso; first|contradiction|omega)))|refine DG_next (D_call rfl rfl rfl rfl rfl (k18)) ?_))
          ·refine DG_end hM (by kernel_rfl) ?_
           (repeat (refine stq ?_))
           exact ⟨_,_,rfl,rfl,by rw [map_no4 hx (by rw [probedB,decide_eq_false (by omega)])]⟩
          ·refine DG_end hM (by kernel_rfl) ?_
           (repeat (refine stq ?_))
           refine ⟨k + 1,⟨hk',step_all hallp hx (by rw [probedB,decide_eq_true (by omega)])⟩,by omega,?_⟩
           (refine Le.mk ?_ ?_; all_goals (repeat' (first|exact trivial|refine sle ?_|refine ⟨?_,rfl,?_⟩|refine ⟨?_,by decide,rfl,?_⟩|fail)))
         ·have hps:m.probed.all (probedB m) = true:=all_upto (fun i y hi hy=>hallp i y (by omega) hy)
          (repeat (refine stq ?_))
          exact ⟨_,_,rfl,rfl,by rw [mapB,hh,hrows,hgs,hks,hps]; rfl⟩
theorem t15 (w:Work) (hm:MapS w.map) (ht:w.tubes.length <= 4):ACalls Tryz.prog 15 [eWork w] (fun r=>r = .pv (.bool (workB w))):= by
 have k43:=t43 w.map hm
 have k1:=t19 w.tubes.length 1 4
 have k2:=t19 w.kerf 0 5
 refine ACalls.of_body hT Tryz.func15 rfl (by kernel_rfl) rfl ?_
 (repeat (refine stq ?_))
 refine AW_loopC (fun k:Nat=>k <= w.tubes.length /\ ∀ (i:Nat) (x:Tube),i < k -> w.tubes[i]? = some x -> tubeB x = true) (fun k=>mkSt [(1,.box 0 0),(3,.pv (vi k))] [(0,boW w)] 1) (fun k=>w.tubes.length - k) 0 ⟨Nat.zero_le _,fun i x h=>by omega⟩ ?_ ?_
 ·(refine Le.mk ?_ ?_; all_goals (repeat' (first|exact trivial|refine sle ?_|refine ⟨?_,rfl,?_⟩|refine ⟨?_,by decide,rfl,?_⟩|fail)))
 ·rintro k ⟨hk,hall⟩
  (repeat (refine stq ?_))
  refine AW_if rfl (fun hc=>?_) (fun hc=>?_)
  ·have hk':k < w.tubes.length:=by omega
   obtain ⟨x,hx⟩:∃ x,w.tubes[k]? = some x:=⟨w.tubes[k],by simp [hk']⟩
   have e1:=get_map eTube hx
   have k3:=t19 x.width 1 3
   have k4:=t19 x.need 1 60
   have k5:=t19 x.worth 1 100
   cases qp:tubeB x with
   | true =>
    have qp':=qp
    simp only [tubeB,Bool.and_eq_true] at qp'
    rw [qp'.1.1] at k3
    rw [qp'.1.2] at k4
    rw [qp'.2] at k5
    (repeat' (first|refine stq ?_|(refine AL_do2 rfl ?_; first|refine ⟨_,op_call1 rfl rfl rfl rfl (k3),nrmA rfl ?_⟩|refine ⟨_,op_call1 rfl rfl rfl rfl (k4),nrmA rfl ?_⟩|refine ⟨_,op_call1 rfl rfl rfl rfl (k5),nrmA rfl ?_⟩)|(with_reducible refine AL_id ?_); (fail_if_success (refine glq rfl rfl rfl ?_)); first|refine AL_gdec rfl rfl rfl (fun hg=>?_) (fun hg=>?_)|refine AL_gnot rfl rfl rfl (fun hg=>?_) (fun hg=>?_)|refine AL_gcases rfl rfl rfl (fun hg=>?_) (fun hg=>?_)))
    all_goals (try (exfalso; simp_all; done))
    refine ⟨k + 1,⟨hk',step_all hall hx qp⟩,by omega,?_⟩
    (refine Le.mk ?_ ?_; all_goals (repeat' (first|exact trivial|refine sle ?_|refine ⟨?_,rfl,?_⟩|refine ⟨?_,by decide,rfl,?_⟩|fail)))
   | false =>
    have e:workB w = false:=by rw [workB,all_false hx qp]; rfl
    rw [e]
    (repeat' (first|refine stq ?_|(refine AL_do2 rfl ?_; first|refine ⟨_,op_call1 rfl rfl rfl rfl (k3),nrmA rfl ?_⟩|refine ⟨_,op_call1 rfl rfl rfl rfl (k4),nrmA rfl ?_⟩|refine ⟨_,op_call1 rfl rfl rfl rfl (k5),nrmA rfl ?_⟩)|(with_reducible refine AL_id ?_); (fail_if_success (refine glq rfl rfl rfl ?_)); first|refine AL_gdec rfl rfl rfl (fun hg=>?_) (fun hg=>?_)|refine AL_gnot rfl rfl rfl (fun hg=>?_) (fun hg=>?_)|refine AL_gcases rfl rfl rfl (fun hg=>?_) (fun hg=>?_)))
    all_goals (try refine AW_cond rfl (fun hb=>?_) (fun hb=>?_))
    all_goals (try (exfalso; simp_all [tubeB]; done))
    all_goals (repeat (refine stq ?_))
    all_goals exact ⟨_,_,rfl,rfl,rfl⟩
  ·have hts:w.tubes.all tubeB = true:=all_upto (fun i y hi hy=>hall i y (by omega) hy)
   (repeat' (first|refine stq ?_|(refine AL_do2 rfl ?_; first|refine ⟨_,op_call1 rfl rfl rfl rfl (k43),nrmA rfl ?_⟩|refine ⟨_,op_call1 rfl rfl rfl rfl (k1),nrmA rfl ?_⟩|refine ⟨_,op_call1 rfl rfl rfl rfl (k2),nrmA rfl ?_⟩)|(with_reducible refine AL_id ?_); (fail_if_success (refine glq rfl rfl rfl ?_)); first|refine AL_gdec rfl rfl rfl (fun hg=>?_) (fun hg=>?_)|refine AL_gnot rfl rfl rfl (fun hg=>?_) (fun hg=>?_)|refine AL_gcases rfl rfl rfl (fun hg=>?_) (fun hg=>?_)))
   all_goals exact ⟨_,_,rfl,rfl,by simp_all [workB]⟩
end Go.Abs
