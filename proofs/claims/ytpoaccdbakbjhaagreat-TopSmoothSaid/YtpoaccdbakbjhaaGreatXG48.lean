/- What drums are as defined, as the reference tells it. -/
import Derived.Test.YtpoaccdbakbjhaaGreatXG28
set_option linter.unusedVariables false
set_option linter.unusedSimpArgs false
namespace Go.Abs
open Go.Proofs
set_option maxRecDepth 100000
def headB (d:Drum):Bool:=inB d.acids.length 1 4 && inB d.known 1 (2 ^ d.acids.length - 1) && inB d.hours 1 12 && decide ((d.adds.length:Int) = d.hours) && decide (d.strips.length <= 6) && inB d.batches.length 1 5
theorem drum_head (d:Drum):drumB d = (headB d && d.acids.all acidB && d.adds.all (fun n=>inB n 0 100) && d.strips.all (stripB d.hours) && d.batches.all batchB):=rfl
theorem pow_len {d:Drum} (h:inB d.acids.length 1 4 = true):powI d.acids.length = 2 ^ d.acids.length /\ 1 <= powI d.acids.length /\ powI d.acids.length <= 16:= by
 simp only [inB,Bool.and_eq_true,decide_eq_true_eq] at h
 generalize d.acids.length = n at *
 refine ⟨powI_eq n,?_⟩
 match n,h with
 | 0,h=>omega
 | 1,_=>decide
 | 2,_=>decide
 | 3,_=>decide
 | 4,_=>decide
 | n + 5,h=>omega
theorem all_false {α:Type} {p:α -> Bool} {l:List α} {k:Nat} {x:α} (hx:l[k]? = some x) (h:p x = false):l.all p = false:= by
 rw [List.all_eq_false]
 exact ⟨x,List.mem_of_getElem? hx,by simp [h]⟩
theorem all_upto {α:Type} {p:α -> Bool} {l:List α} (h:∀ (i:Nat) (x:α),i < l.length -> l[i]? = some x -> p x = true):l.all p = true:= by
 rw [List.all_eq_true]
 intro x hx
 obtain ⟨i,hi⟩:=List.mem_iff_getElem?.1 hx
 exact h i x (List.getElem?_eq_some_iff.1 hi).1 hi
theorem step_all {α:Type} {p:α -> Bool} {l:List α} {k:Nat} {x:α} (h:∀ (i:Nat) (y:α),i < k -> l[i]? = some y -> p y = true) (hx:l[k]? = some x) (hp:p x = true):∀ (i:Nat) (y:α),i < k + 1 -> l[i]? = some y -> p y = true:=fun i y hi hy=>by
 by_cases hik:i = k
 ·subst hik; rw [hx] at hy; cases hy; exact hp
 ·exact h i y (by omega) hy
set_option maxHeartbeats 8000000 in
theorem f39 (d:Drum) (hd:drumOK d):ACalls Tryz.prog 20 [eDrum d] (fun r=>r = .pv (.bool (drumB d))):= by
 obtain ⟨l1,l2,l3,l4⟩:=hd
 refine ACalls.of_body hT Tryz.func20 rfl (by kernel_rfl) rfl ?_
 cases hh:headB d with
 | false =>
  rw [drum_head,hh]
  simp only [Bool.false_and]
  cases q1:inB d.acids.length 1 4 with
  | false =>
   have k1:=f103 d.acids.length 1 4
   rw [q1] at k1
   (repeat (refine stq ?_))
   (repeat' (first|refine DG_next (StepOK.skipU rfl rfl) ?_|((refine DG_cmp hT rfl (fun hg=>?_) (fun hg=>?_)) <;> (try (exfalso; omega)))|refine DG_next (D_shl rfl rfl rfl rfl rfl (by omega)) ?_|refine DG_next (D_shr rfl rfl rfl rfl rfl (by omega)) ?_|refine sdq ?_|((refine DG_callC (D_call rfl rfl rfl rfl rfl (k1)) (fun hg=>?_) (fun hg=>?_)) <;> (try (exfalso; first|contradiction|omega)))|refine DG_next (D_call rfl rfl rfl rfl rfl (k1)) ?_))
   refine DG_end hM (by kernel_rfl) ?_
   (repeat (refine stq ?_))
   exact ⟨_,_,rfl,rfl,rfl⟩
  | true =>
   obtain ⟨s1,s2,s3⟩:=pow_len q1
   have k1:=f103 d.acids.length 1 4
   rw [q1] at k1
   have hl4:d.acids.length <= 4:=by simp only [inB,Bool.and_eq_true,decide_eq_true_eq] at q1; omega
   have kp:=f106 d.acids.length (by omega)
   have k2:=f103 d.known 1 (powI d.acids.length - 1)
   have e2:inB d.known 1 (powI d.acids.length - 1) = inB d.known 1 (2 ^ d.acids.length - 1):=by rw [s1]
   cases q2:inB d.known 1 (powI d.acids.length - 1) with
   | false =>
    rw [q2] at k2
    (repeat (refine stq ?_))
    (repeat' (first|refine DG_next (StepOK.skipU rfl rfl) ?_|((refine DG_cmp hT rfl (fun hg=>?_) (fun hg=>?_)) <;> (try (exfalso; omega)))|refine DG_next (D_shl rfl rfl rfl rfl rfl (by omega)) ?_|refine DG_next (D_shr rfl rfl rfl rfl rfl (by omega)) ?_|refine sdq ?_|((refine DG_callC (D_call rfl rfl rfl rfl rfl (k1)) (fun hg=>?_) (fun hg=>?_)) <;> (try (exfalso; first|contradiction|omega)))|refine DG_next (D_call rfl rfl rfl rfl rfl (k1)) ?_|((refine DG_callC (D_call rfl rfl rfl rfl rfl (kp)) (fun hg=>?_) (fun hg=>?_)) <;> (try (exfalso; first|contradiction|omega)))|refine DG_next (D_call rfl rfl rfl rfl rfl (kp)) ?_|((refine DG_callC (D_call rfl rfl rfl rfl rfl (k2)) (fun hg=>?_) (fun hg=>?_)) <;> (try (exfalso; first|contradiction|omega)))|refine DG_next (D_call rfl rfl rfl rfl rfl (k2)) ?_))
    all_goals refine DG_end hM (by kernel_rfl) ?_
    all_goals (repeat (refine stq ?_))
    all_goals exact ⟨_,_,rfl,rfl,rfl⟩
   | true =>
    rw [q2] at k2
    cases q3:inB d.hours 1 12 with
    | false =>
     have k3:=f103 d.hours 1 12
     rw [q3] at k3
     (repeat (refine stq ?_))
     (repeat' (first|refine DG_next (StepOK.skipU rfl rfl) ?_|((refine DG_cmp hT rfl (fun hg=>?_) (fun hg=>?_)) <;> (try (exfalso; omega)))|refine DG_next (D_shl rfl rfl rfl rfl rfl (by omega)) ?_|refine DG_next (D_shr rfl rfl rfl rfl rfl (by omega)) ?_|refine sdq ?_|((refine DG_callC (D_call rfl rfl rfl rfl rfl (k1)) (fun hg=>?_) (fun hg=>?_)) <;> (try (exfalso; first|contradiction|omega)))|refine DG_next (D_call rfl rfl rfl rfl rfl (k1)) ?_|((refine DG_callC (D_call rfl rfl rfl rfl rfl (kp)) (fun hg=>?_) (fun hg=>?_)) <;> (try (exfalso; first|contradiction|omega)))|refine DG_next (D_call rfl rfl rfl rfl rfl (kp)) ?_|((refine DG_callC (D_call rfl rfl rfl rfl rfl (k2)) (fun hg=>?_) (fun hg=>?_)) <;> (try (exfalso; first|contradiction|omega)))|refine DG_next (D_call rfl rfl rfl rfl rfl (k2)) ?_|((refine DG_callC (D_call rfl rfl rfl rfl rfl (k3)) (fun hg=>?_) (fun hg=>?_)) <;> (try (exfalso; first|contradiction|omega)))|refine DG_next (D_call rfl rfl rfl rfl rfl (k3)) ?_))
     all_goals refine DG_end hM (by kernel_rfl) ?_
     all_goals (repeat (refine stq ?_))
     all_goals exact ⟨_,_,rfl,rfl,rfl⟩
    | true =>
     have k3:=f103 d.hours 1 12
     rw [q3] at k3
     have hrest:(decide ((d.adds.length:Int) = d.hours) && decide (d.strips.length <= 6) && inB d.batches.length 1 5) = false:= by
      unfold headB at hh
      rw [q1,<- e2,q2,q3] at hh
      simpa using hh
     have k6:=f103 d.batches.length 1 5
     cases q6:inB d.batches.length 1 5
     all_goals
      rw [q6] at k6 hrest
      (repeat (refine stq ?_))
      (repeat' (first|refine DG_next (StepOK.skipU rfl rfl) ?_|((refine DG_cmp hT rfl (fun hg=>?_) (fun hg=>?_)) <;> (try (exfalso; omega)))|refine DG_next (D_shl rfl rfl rfl rfl rfl (by omega)) ?_|refine DG_next (D_shr rfl rfl rfl rfl rfl (by omega)) ?_|refine sdq ?_|((refine DG_callC (D_call rfl rfl rfl rfl rfl (k1)) (fun hg=>?_) (fun hg=>?_)) <;> (try (exfalso; first|contradiction|omega)))|refine DG_next (D_call rfl rfl rfl rfl rfl (k1)) ?_|((refine DG_callC (D_call rfl rfl rfl rfl rfl (kp)) (fun hg=>?_) (fun hg=>?_)) <;> (try (exfalso; first|contradiction|omega)))|refine DG_next (D_call rfl rfl rfl rfl rfl (kp)) ?_|((refine DG_callC (D_call rfl rfl rfl rfl rfl (k2)) (fun hg=>?_) (fun hg=>?_)) <;> (try (exfalso; first|contradiction|omega)))|refine DG_next (D_call rfl rfl rfl rfl rfl (k2)) ?_|((refine DG_callC (D_call rfl rfl rfl rfl rfl (k3)) (fun hg=>?_) (fun hg=>?_)) <;> (try (exfalso; first|contradiction|omega)))|refine DG_next (D_call rfl rfl rfl rfl rfl (k3)) ?_|((refine DG_callC (D_call rfl rfl rfl rfl rfl (k6)) (fun hg=>?_) (fun hg=>?_)) <;> (try (exfalso; first|contradiction|omega)))|refine DG_next (D_call rfl rfl rfl rfl rfl (k6)) ?_))
      all_goals refine DG_end hM (by kernel_rfl) ?_
      all_goals (repeat (refine stq ?_))
      all_goals first|exact ⟨_,_,rfl,rfl,rfl⟩|(exfalso; simp at hrest; omega)
 | true =>
  have hh':=hh
  unfold headB at hh'
  simp only [Bool.and_eq_true,decide_eq_true_eq] at hh'
  obtain ⟨⟨⟨⟨⟨q1,q2⟩,q3⟩,q4⟩,q5⟩,q6⟩:=hh'
  obtain ⟨s1,s2,s3⟩:=pow_len q1
  have k1:=f103 d.acids.length 1 4
  have hl4:d.acids.length <= 4:=by have:=q1; simp only [inB,Bool.and_eq_true,decide_eq_true_eq] at this; omega
  have kp:=f106 d.acids.length (by omega)
  have k2:=f103 d.known 1 (powI d.acids.length - 1)
  have k3:=f103 d.hours 1 12
  have k6:=f103 d.batches.length 1 5
  rw [s1] at k2
  rw [q1] at k1
  rw [q2,<- s1] at k2
  rw [q3] at k3
  rw [q6] at k6
  have hhr:1 <= d.hours /\ d.hours <= 12:=by simpa [inB] using q3
  have hb5:d.batches.length <= 5:=by simp only [inB,Bool.and_eq_true,decide_eq_true_eq] at q6; omega
  rw [drum_head,hh]
  simp only [Bool.true_and]
  (repeat (refine stq ?_))
  (repeat' (first|refine DG_next (StepOK.skipU rfl rfl) ?_|((refine DG_cmp hT rfl (fun hg=>?_) (fun hg=>?_)) <;> (try (exfalso; omega)))|refine DG_next (D_shl rfl rfl rfl rfl rfl (by omega)) ?_|refine DG_next (D_shr rfl rfl rfl rfl rfl (by omega)) ?_|refine sdq ?_|((refine DG_callC (D_call rfl rfl rfl rfl rfl (k1)) (fun hg=>?_) (fun hg=>?_)) <;> (try (exfalso; first|contradiction|omega)))|refine DG_next (D_call rfl rfl rfl rfl rfl (k1)) ?_|((refine DG_callC (D_call rfl rfl rfl rfl rfl (kp)) (fun hg=>?_) (fun hg=>?_)) <;> (try (exfalso; first|contradiction|omega)))|refine DG_next (D_call rfl rfl rfl rfl rfl (kp)) ?_|((refine DG_callC (D_call rfl rfl rfl rfl rfl (k2)) (fun hg=>?_) (fun hg=>?_)) <;> (try (exfalso; first|contradiction|omega)))|refine DG_next (D_call rfl rfl rfl rfl rfl (k2)) ?_|((refine DG_callC (D_call rfl rfl rfl rfl rfl (k3)) (fun hg=>?_) (fun hg=>?_)) <;> (try (exfalso; first|contradiction|omega)))|refine DG_next (D_call rfl rfl rfl rfl rfl (k3)) ?_|((refine DG_callC (D_call rfl rfl rfl rfl rfl (k6)) (fun hg=>?_) (fun hg=>?_)) <;> (try (exfalso; first|contradiction|omega)))|refine DG_next (D_call rfl rfl rfl rfl rfl (k6)) ?_))
  refine DG_end hM (by kernel_rfl) ?_
  (repeat (refine stq ?_))
  refine AW_loopC (fun k:Nat=>k <= d.acids.length /\ ∀ (i:Nat) (x:Acid),i < k -> d.acids[i]? = some x -> acidB x = true) (fun k=>mkSt [(1,.box 0 0),(3,.pv (vi k))] [(0,boO d)] 1) (fun k=>d.acids.length - k) 0 ⟨Nat.zero_le _,fun i x h=>by omega⟩ ?_ ?_
  ·(refine Le.mk ?_ ?_; all_goals (repeat' (first|exact trivial|refine sle ?_|refine ⟨?_,rfl,?_⟩|refine ⟨?_,by decide,rfl,?_⟩|fail)))
  ·rintro k ⟨hk,hall3⟩
   (repeat (refine stq ?_))
   refine AW_if rfl (fun hc=>?_) (fun hc=>?_)
   ·have hk':k < d.acids.length:=by omega
    obtain ⟨x,hx⟩:∃ x,d.acids[k]? = some x:=⟨d.acids[k],by simp [hk']⟩
    have e1:=get_map eAcid hx
    have kA:=f107 x.strength 100
    have kB:=f107 x.fall 20
    cases qp:acidB x with
    | true =>
     have hpx:=qp
     simp only [acidB,Bool.and_eq_true] at qp
     rw [qp.1] at kA
     rw [qp.2] at kB
     (repeat' (first|refine stq ?_|(refine AL_do2 rfl ?_; first|refine ⟨_,op_call1 rfl rfl rfl rfl (kA),nrmA rfl ?_⟩|refine ⟨_,op_call1 rfl rfl rfl rfl (kB),nrmA rfl ?_⟩)|(with_reducible refine AL_id ?_); (fail_if_success (refine glq rfl rfl rfl ?_)); first|refine AL_gdec rfl rfl rfl (fun hg=>?_) (fun hg=>?_)|refine AL_gnot rfl rfl rfl (fun hg=>?_) (fun hg=>?_)|refine AL_gcases rfl rfl rfl (fun hg=>?_) (fun hg=>?_)))
     refine ⟨k + 1,⟨hk',step_all hall3 hx hpx⟩,by omega,?_⟩
     (refine Le.mk ?_ ?_; all_goals (repeat' (first|exact trivial|refine sle ?_|refine ⟨?_,rfl,?_⟩|refine ⟨?_,by decide,rfl,?_⟩|fail)))
    | false =>
     have haf:=all_false (p:=acidB) hx qp
     rw [haf]
     simp only [acidB] at qp
     cases c1:spanB x.strength 100 <;> cases c2:spanB x.fall 20 <;> rw [c1] at kA qp <;> rw [c2] at kB qp <;> (try (exfalso; simp at qp; done))
     all_goals (repeat' (first|refine stq ?_|(refine AL_do2 rfl ?_; first|refine ⟨_,op_call1 rfl rfl rfl rfl (kA),nrmA rfl ?_⟩|refine ⟨_,op_call1 rfl rfl rfl rfl (kB),nrmA rfl ?_⟩)|(with_reducible refine AL_id ?_); (fail_if_success (refine glq rfl rfl rfl ?_)); first|refine AL_gdec rfl rfl rfl (fun hg=>?_) (fun hg=>?_)|refine AL_gnot rfl rfl rfl (fun hg=>?_) (fun hg=>?_)|refine AL_gcases rfl rfl rfl (fun hg=>?_) (fun hg=>?_)))
     all_goals exact ⟨_,_,rfl,rfl,by simp⟩
   ·have hk':k = d.acids.length:=by omega
    subst hk'
    have a3:d.acids.all acidB = true:=all_upto hall3
    rw [a3]
    (repeat (refine stq ?_))
    refine AW_loopC (fun k:Nat=>k <= d.adds.length /\ ∀ (i:Nat) (x:Int),i < k -> d.adds[i]? = some x -> (fun n=>inB n 0 100) x = true) (fun k=>mkSt [(1,.box 0 0),(4,.pv (vi k))] [(0,boO d)] 1) (fun k=>d.adds.length - k) 0 ⟨Nat.zero_le _,fun i x h=>by omega⟩ ?_ ?_
    ·(refine Le.mk ?_ ?_; all_goals (repeat' (first|exact trivial|refine sle ?_|refine ⟨?_,rfl,?_⟩|refine ⟨?_,by decide,rfl,?_⟩|fail)))
    ·rintro k ⟨hk,hall4⟩
     (repeat (refine stq ?_))
     refine AW_if rfl (fun hc=>?_) (fun hc=>?_)
     ·have hk':k < d.adds.length:=by omega
      obtain ⟨x,hx⟩:∃ x,d.adds[k]? = some x:=⟨d.adds[k],by simp [hk']⟩
      have e1:=get_map eInt hx
      have kA:=f103 x 0 100
      cases qp:inB x 0 100 with
      | true =>
       rw [qp] at kA
       (repeat' (first|refine stq ?_|(refine AL_do2 rfl ?_; first|refine ⟨_,op_call1 rfl rfl rfl rfl (kA),nrmA rfl ?_⟩)|(with_reducible refine AL_id ?_); (fail_if_success (refine glq rfl rfl rfl ?_)); first|refine AL_gdec rfl rfl rfl (fun hg=>?_) (fun hg=>?_)|refine AL_gnot rfl rfl rfl (fun hg=>?_) (fun hg=>?_)|refine AL_gcases rfl rfl rfl (fun hg=>?_) (fun hg=>?_)))
       refine ⟨k + 1,⟨hk',step_all hall4 hx qp⟩,by omega,?_⟩
       (refine Le.mk ?_ ?_; all_goals (repeat' (first|exact trivial|refine sle ?_|refine ⟨?_,rfl,?_⟩|refine ⟨?_,by decide,rfl,?_⟩|fail)))
      | false =>
       rw [all_false (p:=fun n=>inB n 0 100) hx qp]
       rw [qp] at kA
       (repeat' (first|refine stq ?_|(refine AL_do2 rfl ?_; first|refine ⟨_,op_call1 rfl rfl rfl rfl (kA),nrmA rfl ?_⟩)|(with_reducible refine AL_id ?_); (fail_if_success (refine glq rfl rfl rfl ?_)); first|refine AL_gdec rfl rfl rfl (fun hg=>?_) (fun hg=>?_)|refine AL_gnot rfl rfl rfl (fun hg=>?_) (fun hg=>?_)|refine AL_gcases rfl rfl rfl (fun hg=>?_) (fun hg=>?_)))
       exact ⟨_,_,rfl,rfl,by simp⟩
     ·have hk':k = d.adds.length:=by omega
      subst hk'
      have a4:d.adds.all (fun n=>inB n 0 100) = true:=all_upto hall4
      rw [a4]
      (repeat (refine stq ?_))
      refine AW_loopC (fun k:Nat=>k <= d.strips.length /\ ∀ (i:Nat) (x:Strip),i < k -> d.strips[i]? = some x -> stripB d.hours x = true) (fun k=>mkSt [(1,.box 0 0),(5,.pv (vi k))] [(0,boO d)] 1) (fun k=>d.strips.length - k) 0 ⟨Nat.zero_le _,fun i x h=>by omega⟩ ?_ ?_
      ·(refine Le.mk ?_ ?_; all_goals (repeat' (first|exact trivial|refine sle ?_|refine ⟨?_,rfl,?_⟩|refine ⟨?_,by decide,rfl,?_⟩|fail)))
      ·rintro k ⟨hk,hall5⟩
       (repeat (refine stq ?_))
       refine AW_if rfl (fun hc=>?_) (fun hc=>?_)
       ·have hk':k < d.strips.length:=by omega
        obtain ⟨x,hx⟩:∃ x,d.strips[k]? = some x:=⟨d.strips[k],by simp [hk']⟩
        have e1:=get_map eStrip hx
        have kA:=f103 x.hour 0 (d.hours - 1)
        have kB:=f103 x.seen 0 2000
        have kC:=f103 x.off 0 50
        cases qp:stripB d.hours x with
        | true =>
         have hpx:=qp
         simp only [stripB,Bool.and_eq_true] at qp
         rw [qp.1.1] at kA
         rw [qp.1.2] at kB
         rw [qp.2] at kC
         (repeat' (first|refine stq ?_|(refine AL_do2 rfl ?_; first|refine ⟨_,op_call1 rfl rfl rfl rfl (kA),nrmA rfl ?_⟩|refine ⟨_,op_call1 rfl rfl rfl rfl (kB),nrmA rfl ?_⟩|refine ⟨_,op_call1 rfl rfl rfl rfl (kC),nrmA rfl ?_⟩)|(with_reducible refine AL_id ?_); (fail_if_success (refine glq rfl rfl rfl ?_)); first|refine AL_gdec rfl rfl rfl (fun hg=>?_) (fun hg=>?_)|refine AL_gnot rfl rfl rfl (fun hg=>?_) (fun hg=>?_)|refine AL_gcases rfl rfl rfl (fun hg=>?_) (fun hg=>?_)))
         refine ⟨k + 1,⟨hk',step_all hall5 hx hpx⟩,by omega,?_⟩
         (refine Le.mk ?_ ?_; all_goals (repeat' (first|exact trivial|refine sle ?_|refine ⟨?_,rfl,?_⟩|refine ⟨?_,by decide,rfl,?_⟩|fail)))
        | false =>
         rw [all_false (p:=stripB d.hours) hx qp]
         simp only [stripB] at qp
         cases c1:inB x.hour 0 (d.hours - 1) <;> cases c2:inB x.seen 0 2000 <;> cases c3:inB x.off 0 50 <;> rw [c1] at kA qp <;> rw [c2] at kB qp <;> rw [c3] at kC qp <;> (try (exfalso; simp at qp; done))
         all_goals (repeat' (first|refine stq ?_|(refine AL_do2 rfl ?_; first|refine ⟨_,op_call1 rfl rfl rfl rfl (kA),nrmA rfl ?_⟩|refine ⟨_,op_call1 rfl rfl rfl rfl (kB),nrmA rfl ?_⟩|refine ⟨_,op_call1 rfl rfl rfl rfl (kC),nrmA rfl ?_⟩)|(with_reducible refine AL_id ?_); (fail_if_success (refine glq rfl rfl rfl ?_)); first|refine AL_gdec rfl rfl rfl (fun hg=>?_) (fun hg=>?_)|refine AL_gnot rfl rfl rfl (fun hg=>?_) (fun hg=>?_)|refine AL_gcases rfl rfl rfl (fun hg=>?_) (fun hg=>?_)))
         all_goals exact ⟨_,_,rfl,rfl,by simp⟩
       ·have hk':k = d.strips.length:=by omega
        subst hk'
        have a5:d.strips.all (stripB d.hours) = true:=all_upto hall5
        rw [a5]
        (repeat (refine stq ?_))
        refine AW_loopC (fun k:Nat=>k <= d.batches.length /\ ∀ (i:Nat) (x:Batch),i < k -> d.batches[i]? = some x -> batchB x = true) (fun k=>mkSt [(1,.box 0 0),(7,.pv (vi k))] [(0,boO d)] 1) (fun k=>d.batches.length - k) 0 ⟨Nat.zero_le _,fun i x h=>by omega⟩ ?_ ?_
        ·(refine Le.mk ?_ ?_; all_goals (repeat' (first|exact trivial|refine sle ?_|refine ⟨?_,rfl,?_⟩|refine ⟨?_,by decide,rfl,?_⟩|fail)))
        ·rintro k ⟨hk,hall7⟩
         (repeat (refine stq ?_))
         refine AW_if rfl (fun hc=>?_) (fun hc=>?_)
         ·have hk':k < d.batches.length:=by omega
          obtain ⟨x,hx⟩:∃ x,d.batches[k]? = some x:=⟨d.batches[k],by simp [hk']⟩
          have e1:=get_map eBatch hx
          have k_rough:=f103 x.rough 0 1000
          have k_goal:=f103 x.goal 0 1000
          have k_thick:=f103 x.thick 0 1000
          have k_least:=f103 x.least 0 1000
          have k_polish:=f103 x.polish 0 100
          have k_eat:=f103 x.eat 0 100
          cases qp:batchB x with
          | true =>
           have hpx:=qp
           simp only [batchB,Bool.and_eq_true] at qp
           obtain ⟨⟨⟨⟨⟨p1,p2⟩,p3⟩,p4⟩,p5⟩,p6⟩:=qp
           rw [p1] at k_rough
           rw [p2] at k_goal
           rw [p3] at k_thick
           rw [p4] at k_least
           rw [p5] at k_polish
           rw [p6] at k_eat
           (repeat' (first|refine stq ?_|(refine AL_do2 rfl ?_; first|refine ⟨_,op_call1 rfl rfl rfl rfl (k_rough),nrmA rfl ?_⟩|refine ⟨_,op_call1 rfl rfl rfl rfl (k_goal),nrmA rfl ?_⟩|refine ⟨_,op_call1 rfl rfl rfl rfl (k_thick),nrmA rfl ?_⟩|refine ⟨_,op_call1 rfl rfl rfl rfl (k_least),nrmA rfl ?_⟩|refine ⟨_,op_call1 rfl rfl rfl rfl (k_polish),nrmA rfl ?_⟩|refine ⟨_,op_call1 rfl rfl rfl rfl (k_eat),nrmA rfl ?_⟩)|(with_reducible refine AL_id ?_); (fail_if_success (refine glq rfl rfl rfl ?_)); first|refine AL_gdec rfl rfl rfl (fun hg=>?_) (fun hg=>?_)|refine AL_gnot rfl rfl rfl (fun hg=>?_) (fun hg=>?_)|refine AL_gcases rfl rfl rfl (fun hg=>?_) (fun hg=>?_)))
           refine ⟨k + 1,⟨hk',step_all hall7 hx hpx⟩,by omega,?_⟩
           (refine Le.mk ?_ ?_; all_goals (repeat' (first|exact trivial|refine sle ?_|refine ⟨?_,rfl,?_⟩|refine ⟨?_,by decide,rfl,?_⟩|fail)))
          | false =>
           rw [all_false (p:=batchB) hx qp]
           unfold batchB at qp
           cases c0:inB x.rough 0 1000 with
           | false =>
            rw [c0] at k_rough
            (repeat' (first|refine stq ?_|(refine AL_do2 rfl ?_; first|refine ⟨_,op_call1 rfl rfl rfl rfl (k_rough),nrmA rfl ?_⟩|refine ⟨_,op_call1 rfl rfl rfl rfl (k_goal),nrmA rfl ?_⟩|refine ⟨_,op_call1 rfl rfl rfl rfl (k_thick),nrmA rfl ?_⟩|refine ⟨_,op_call1 rfl rfl rfl rfl (k_least),nrmA rfl ?_⟩|refine ⟨_,op_call1 rfl rfl rfl rfl (k_polish),nrmA rfl ?_⟩|refine ⟨_,op_call1 rfl rfl rfl rfl (k_eat),nrmA rfl ?_⟩)|(with_reducible refine AL_id ?_); (fail_if_success (refine glq rfl rfl rfl ?_)); first|refine AL_gdec rfl rfl rfl (fun hg=>?_) (fun hg=>?_)|refine AL_gnot rfl rfl rfl (fun hg=>?_) (fun hg=>?_)|refine AL_gcases rfl rfl rfl (fun hg=>?_) (fun hg=>?_)))
            exact ⟨_,_,rfl,rfl,by simp⟩
           | true =>
            rw [c0] at k_rough qp
            cases c1:inB x.goal 0 1000 with
            | false =>
             rw [c1] at k_goal
             (repeat' (first|refine stq ?_|(refine AL_do2 rfl ?_; first|refine ⟨_,op_call1 rfl rfl rfl rfl (k_rough),nrmA rfl ?_⟩|refine ⟨_,op_call1 rfl rfl rfl rfl (k_goal),nrmA rfl ?_⟩|refine ⟨_,op_call1 rfl rfl rfl rfl (k_thick),nrmA rfl ?_⟩|refine ⟨_,op_call1 rfl rfl rfl rfl (k_least),nrmA rfl ?_⟩|refine ⟨_,op_call1 rfl rfl rfl rfl (k_polish),nrmA rfl ?_⟩|refine ⟨_,op_call1 rfl rfl rfl rfl (k_eat),nrmA rfl ?_⟩)|(with_reducible refine AL_id ?_); (fail_if_success (refine glq rfl rfl rfl ?_)); first|refine AL_gdec rfl rfl rfl (fun hg=>?_) (fun hg=>?_)|refine AL_gnot rfl rfl rfl (fun hg=>?_) (fun hg=>?_)|refine AL_gcases rfl rfl rfl (fun hg=>?_) (fun hg=>?_)))
             exact ⟨_,_,rfl,rfl,by simp⟩
            | true =>
             rw [c1] at k_goal qp
             cases c2:inB x.thick 0 1000 with
             | false =>
              rw [c2] at k_thick
              (repeat' (first|refine stq ?_|(refine AL_do2 rfl ?_; first|refine ⟨_,op_call1 rfl rfl rfl rfl (k_rough),nrmA rfl ?_⟩|refine ⟨_,op_call1 rfl rfl rfl rfl (k_goal),nrmA rfl ?_⟩|refine ⟨_,op_call1 rfl rfl rfl rfl (k_thick),nrmA rfl ?_⟩|refine ⟨_,op_call1 rfl rfl rfl rfl (k_least),nrmA rfl ?_⟩|refine ⟨_,op_call1 rfl rfl rfl rfl (k_polish),nrmA rfl ?_⟩|refine ⟨_,op_call1 rfl rfl rfl rfl (k_eat),nrmA rfl ?_⟩)|(with_reducible refine AL_id ?_); (fail_if_success (refine glq rfl rfl rfl ?_)); first|refine AL_gdec rfl rfl rfl (fun hg=>?_) (fun hg=>?_)|refine AL_gnot rfl rfl rfl (fun hg=>?_) (fun hg=>?_)|refine AL_gcases rfl rfl rfl (fun hg=>?_) (fun hg=>?_)))
              exact ⟨_,_,rfl,rfl,by simp⟩
             | true =>
              rw [c2] at k_thick qp
              cases c3:inB x.least 0 1000 with
              | false =>
               rw [c3] at k_least
               (repeat' (first|refine stq ?_|(refine AL_do2 rfl ?_; first|refine ⟨_,op_call1 rfl rfl rfl rfl (k_rough),nrmA rfl ?_⟩|refine ⟨_,op_call1 rfl rfl rfl rfl (k_goal),nrmA rfl ?_⟩|refine ⟨_,op_call1 rfl rfl rfl rfl (k_thick),nrmA rfl ?_⟩|refine ⟨_,op_call1 rfl rfl rfl rfl (k_least),nrmA rfl ?_⟩|refine ⟨_,op_call1 rfl rfl rfl rfl (k_polish),nrmA rfl ?_⟩|refine ⟨_,op_call1 rfl rfl rfl rfl (k_eat),nrmA rfl ?_⟩)|(with_reducible refine AL_id ?_); (fail_if_success (refine glq rfl rfl rfl ?_)); first|refine AL_gdec rfl rfl rfl (fun hg=>?_) (fun hg=>?_)|refine AL_gnot rfl rfl rfl (fun hg=>?_) (fun hg=>?_)|refine AL_gcases rfl rfl rfl (fun hg=>?_) (fun hg=>?_)))
               exact ⟨_,_,rfl,rfl,by simp⟩
              | true =>
               rw [c3] at k_least qp
               cases c4:inB x.polish 0 100 with
               | false =>
                rw [c4] at k_polish
                (repeat' (first|refine stq ?_|(refine AL_do2 rfl ?_; first|refine ⟨_,op_call1 rfl rfl rfl rfl (k_rough),nrmA rfl ?_⟩|refine ⟨_,op_call1 rfl rfl rfl rfl (k_goal),nrmA rfl ?_⟩|refine ⟨_,op_call1 rfl rfl rfl rfl (k_thick),nrmA rfl ?_⟩|refine ⟨_,op_call1 rfl rfl rfl rfl (k_least),nrmA rfl ?_⟩|refine ⟨_,op_call1 rfl rfl rfl rfl (k_polish),nrmA rfl ?_⟩|refine ⟨_,op_call1 rfl rfl rfl rfl (k_eat),nrmA rfl ?_⟩)|(with_reducible refine AL_id ?_); (fail_if_success (refine glq rfl rfl rfl ?_)); first|refine AL_gdec rfl rfl rfl (fun hg=>?_) (fun hg=>?_)|refine AL_gnot rfl rfl rfl (fun hg=>?_) (fun hg=>?_)|refine AL_gcases rfl rfl rfl (fun hg=>?_) (fun hg=>?_)))
                exact ⟨_,_,rfl,rfl,by simp⟩
               | true =>
                rw [c4] at k_polish qp
                cases c5:inB x.eat 0 100 with
                | false =>
                 rw [c5] at k_eat
                 (repeat' (first|refine stq ?_|(refine AL_do2 rfl ?_; first|refine ⟨_,op_call1 rfl rfl rfl rfl (k_rough),nrmA rfl ?_⟩|refine ⟨_,op_call1 rfl rfl rfl rfl (k_goal),nrmA rfl ?_⟩|refine ⟨_,op_call1 rfl rfl rfl rfl (k_thick),nrmA rfl ?_⟩|refine ⟨_,op_call1 rfl rfl rfl rfl (k_least),nrmA rfl ?_⟩|refine ⟨_,op_call1 rfl rfl rfl rfl (k_polish),nrmA rfl ?_⟩|refine ⟨_,op_call1 rfl rfl rfl rfl (k_eat),nrmA rfl ?_⟩)|(with_reducible refine AL_id ?_); (fail_if_success (refine glq rfl rfl rfl ?_)); first|refine AL_gdec rfl rfl rfl (fun hg=>?_) (fun hg=>?_)|refine AL_gnot rfl rfl rfl (fun hg=>?_) (fun hg=>?_)|refine AL_gcases rfl rfl rfl (fun hg=>?_) (fun hg=>?_)))
                 exact ⟨_,_,rfl,rfl,by simp⟩
                | true =>
                 rw [c5] at k_eat qp
                 simp at qp
         ·have hk':k = d.batches.length:=by omega
          subst hk'
          have a7:d.batches.all batchB = true:=all_upto hall7
          rw [a7]
          (repeat (refine stq ?_))
          exact ⟨_,_,rfl,rfl,by simp⟩
end Go.Abs
