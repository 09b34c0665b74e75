/- The acids that are possible, as the reference has them; the errors that are wanted. -/
import Derived.Test.YtmplfjolcdlipaaGreatDoorJDrBK
import Derived.Test.YtmplfjolcdlipaaGreatDoorJDrBJ
import Derived.Test.YtmplfjolcdlipaaGreatDoorJDrE
set_option linter.unusedVariables false
set_option linter.unusedSimpArgs false
namespace Go.Abs
open Go.Proofs
set_option linter.unusedVariables false
set_option linter.unusedSimpArgs false
set_option maxRecDepth 100000
def numK (d : Drum) (k : Nat) : List Int := (flK d k).map fun p => (p.2 : Int)
theorem numK_all (d : Drum) : numK d d.acids.length = couldL d := by unfold numK couldL; rw [flK_all]
theorem numK_succ {d : Drum} {k : Nat} {a : Acid} (h : d.acids[k]? = some a) : numK d (k + 1) = numK d k ++ if mayI d k a then [(k : Int)] else []:= by
 unfold numK
 rw [flK_succ h,List.map_append]
 congr 1
 show List.map _ (if mayI d k a = true then _ else _) = _
 cases mayI d k a <;> rfl
theorem numK_len (d : Drum) (k : Nat) : (numK d k).length <= k:= by
 unfold numK flK
 rw [List.length_map]
 have h1 := List.length_filter_le (mayP d) (d.acids.zipIdx.take k)
 have h2 : (d.acids.zipIdx.take k).length <= k := by simp; omega
 omega
theorem f79 (d : Drum) (hd : DrumP d) : ACalls Tryz.prog 79 [eDrum d] (fun r => r = .pv (eInts (couldL d))):= by
 have ha4 := hd.a1
 refine ACalls.of_body hT Tryz.func79 rfl (by kernel_rfl) rfl ?_
 (repeat (refine stq ?_))
 refine AW_own_nil (e := 3) (sz := 1) (t := 3) rfl rfl ?_
 (repeat (refine stq ?_))
 refine AW_loopC (fun k : Nat => k <= d.acids.length) (fun k => mkSt [(1,.box 0 0),(3,.arr 1),(4,.pv (vi k))] [(0,boO d),(1,.arr 3 1 ((numK d k).map eInt))] 2) (fun k => d.acids.length - k) 0 (Nat.zero_le _) ?_ ?_
 ·(refine Le.mk ?_ ?_; all_goals (repeat' (first | exact trivial | refine sle ?_ | refine ⟨?_,rfl,?_⟩ | refine ⟨?_,by decide,rfl,?_⟩ | fail)))
 ·intro k hk
  (repeat (refine stq ?_))
  refine AW_if rfl (fun hc => ?_) (fun hc => ?_)
  ·have hk' : k < d.acids.length := by omega
   obtain ⟨a,ha⟩ : ∃ a,d.acids[k]? = some a := ⟨d.acids[k],by simp [hk']⟩
   have k90 := f90 d hd k a ha
   have hsn := numK_succ ha
   have hnl := numK_len d k
   generalize numK d k = N at *
   cases q : mayI d k a with
   | false =>
    rw [q] at k90 hsn
    rw [if_neg (by simp),List.append_nil] at hsn
    have k90 : ACalls Tryz.prog 90 [eDrum d,vi k] (fun r => r = .tup [eSpans [],.bool false]) := k90
    (repeat' (first | refine stq ?_ | (refine AL_do2 rfl ?_; first | refine ⟨_,op_call1 rfl rfl rfl rfl (k90),nrmA rfl ?_⟩) | (with_reducible refine AL_id ?_); (fail_if_success (refine AL_glit rfl rfl rfl (by first | exact .inl (by with_reducible rfl) | exact .inr (by with_reducible rfl)) ?_)); first | refine AL_gdec rfl rfl rfl (fun hg => ?_) (fun hg => ?_) | refine AL_gnot rfl rfl rfl (fun hg => ?_) (fun hg => ?_) | refine AL_gcases rfl rfl rfl (fun hg => ?_) (fun hg => ?_)))
    refine ⟨k + 1,hk',by omega,?_⟩
    rw [hsn]
    (refine Le.mk ?_ ?_; all_goals (repeat' (first | exact trivial | refine sle ?_ | refine ⟨?_,rfl,?_⟩ | refine ⟨?_,by decide,rfl,?_⟩ | fail)))
   | true =>
    rw [q] at k90 hsn
    rw [if_pos rfl] at hsn
    have k90 : ACalls Tryz.prog 90 [eDrum d,vi k] (fun r => r = .tup [eSpans (strongL d a),.bool true]) := k90
    (repeat' (first | refine stq ?_ | (refine AL_do2 rfl ?_; first | refine ⟨_,op_call1 rfl rfl rfl rfl (k90),nrmA rfl ?_⟩) | (with_reducible refine AL_id ?_); (fail_if_success (refine AL_glit rfl rfl rfl (by first | exact .inl (by with_reducible rfl) | exact .inr (by with_reducible rfl)) ?_)); first | refine AL_gdec rfl rfl rfl (fun hg => ?_) (fun hg => ?_) | refine AL_gnot rfl rfl rfl (fun hg => ?_) (fun hg => ?_) | refine AL_gcases rfl rfl rfl (fun hg => ?_) (fun hg => ?_)))
    refine ⟨k + 1,hk',by omega,?_⟩
    rw [hsn]
    (refine Le.mkR [(0,0),(1,3)] ?_ ?_ rfl; all_goals (repeat' (first | exact trivial | refine sle ?_ | refine ⟨?_,rfl,?_⟩ | refine ⟨?_,by decide,rfl,?_⟩ | fail)))
    rw [List.map_append]; rfl
  ·have hk' : k = d.acids.length := by omega
   subst hk'
   rw [numK_all]
   refine AW_pure (t := 3) rfl rfl ?_
   (repeat (refine stq ?_))
   exact ⟨_,_,rfl,rfl,rfl⟩
theorem could_len (d : Drum) : (couldL d).length = (filledL d).length := by simp [couldL]
theorem f89 (d : Drum) (hd : DrumP d) : ACalls Tryz.prog 89 [eDrum d] (fun r => r = .pv (.bool (decide (((couldL d).length : Int) > 0)))):= by
 have k79 := f79 d hd
 have hl := filled_len hd
 have hc := could_len d
 refine ACalls.of_body hT Tryz.func89 rfl (by kernel_rfl) rfl ?_
 (repeat' (first | refine stq ?_ | (refine AL_do2 rfl ?_; first | refine ⟨_,op_call1 rfl rfl rfl rfl (k79),nrmA rfl ?_⟩) | (with_reducible refine AL_id ?_); (fail_if_success (refine AL_glit rfl rfl rfl (by first | exact .inl (by with_reducible rfl) | exact .inr (by with_reducible rfl)) ?_)); first | refine AL_gdec rfl rfl rfl (fun hg => ?_) (fun hg => ?_) | refine AL_gnot rfl rfl rfl (fun hg => ?_) (fun hg => ?_) | refine AL_gcases rfl rfl rfl (fun hg => ?_) (fun hg => ?_)))
 all_goals exact ⟨_,_,rfl,rfl,by simp_all⟩
theorem f27 (d : Drum) (is : Bool) (hd : drumOK d) : ACalls Tryz.prog 27 [eDrum d,.bool is] (fun r => r = .pv (vi (errE d is))):= by
 have k39 := f39 d hd
 refine ACalls.of_body hT Tryz.func27 rfl (by kernel_rfl) rfl ?_
 cases q : drumB d with
 | false =>
  rw [q] at k39
  (repeat' (first | refine stq ?_ | (refine AL_do2 rfl ?_; first | refine ⟨_,op_call1 rfl rfl rfl rfl (k39),nrmA rfl ?_⟩) | (with_reducible refine AL_id ?_); (fail_if_success (refine AL_glit rfl rfl rfl (by first | exact .inl (by with_reducible rfl) | exact .inr (by with_reducible rfl)) ?_)); first | refine AL_gdec rfl rfl rfl (fun hg => ?_) (fun hg => ?_) | refine AL_gnot rfl rfl rfl (fun hg => ?_) (fun hg => ?_) | refine AL_gcases rfl rfl rfl (fun hg => ?_) (fun hg => ?_)))
  all_goals exact ⟨_,_,rfl,rfl,by unfold errE askedE; rw [q]; rfl⟩
 | true =>
  rw [q] at k39
  have k89 := f89 d (drumP_of.1 q)
  have hc := could_len d
  cases is with
  | false =>
   (repeat' (first | refine stq ?_ | (refine AL_do2 rfl ?_; first | refine ⟨_,op_call1 rfl rfl rfl rfl (k39),nrmA rfl ?_⟩) | (with_reducible refine AL_id ?_); (fail_if_success (refine AL_glit rfl rfl rfl (by first | exact .inl (by with_reducible rfl) | exact .inr (by with_reducible rfl)) ?_)); first | refine AL_gdec rfl rfl rfl (fun hg => ?_) (fun hg => ?_) | refine AL_gnot rfl rfl rfl (fun hg => ?_) (fun hg => ?_) | refine AL_gcases rfl rfl rfl (fun hg => ?_) (fun hg => ?_)))
   all_goals exact ⟨_,_,rfl,rfl,by unfold errE askedE; rw [q]; rfl⟩
  | true =>
   by_cases h0 : (filledL d).length = 0
   ·rw [show decide (((couldL d).length : Int) > 0) = false from decide_eq_false (by omega)] at k89
    (repeat' (first | refine stq ?_ | (refine AL_do2 rfl ?_; first | refine ⟨_,op_call1 rfl rfl rfl rfl (k39),nrmA rfl ?_⟩ | refine ⟨_,op_call1 rfl rfl rfl rfl (k89),nrmA rfl ?_⟩) | (with_reducible refine AL_id ?_); (fail_if_success (refine AL_glit rfl rfl rfl (by first | exact .inl (by with_reducible rfl) | exact .inr (by with_reducible rfl)) ?_)); first | refine AL_gdec rfl rfl rfl (fun hg => ?_) (fun hg => ?_) | refine AL_gnot rfl rfl rfl (fun hg => ?_) (fun hg => ?_) | refine AL_gcases rfl rfl rfl (fun hg => ?_) (fun hg => ?_)))
    all_goals exact ⟨_,_,rfl,rfl,by unfold errE askedE; rw [q]; simp [h0]⟩
   ·rw [show decide (((couldL d).length : Int) > 0) = true from decide_eq_true (by omega)] at k89
    (repeat' (first | refine stq ?_ | (refine AL_do2 rfl ?_; first | refine ⟨_,op_call1 rfl rfl rfl rfl (k39),nrmA rfl ?_⟩ | refine ⟨_,op_call1 rfl rfl rfl rfl (k89),nrmA rfl ?_⟩) | (with_reducible refine AL_id ?_); (fail_if_success (refine AL_glit rfl rfl rfl (by first | exact .inl (by with_reducible rfl) | exact .inr (by with_reducible rfl)) ?_)); first | refine AL_gdec rfl rfl rfl (fun hg => ?_) (fun hg => ?_) | refine AL_gnot rfl rfl rfl (fun hg => ?_) (fun hg => ?_) | refine AL_gcases rfl rfl rfl (fun hg => ?_) (fun hg => ?_)))
    all_goals exact ⟨_,_,rfl,rfl,by unfold errE askedE; rw [q]; simp [h0]⟩
end Go.Abs
