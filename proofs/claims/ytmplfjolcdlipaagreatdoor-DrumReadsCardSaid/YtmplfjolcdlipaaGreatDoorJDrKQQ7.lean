/- DrumReads: the contract of the statement's function. -/
import Derived.Test.YtmplfjolcdlipaaGreatDoorJDrKPQ7
import Derived.Test.YtmplfjolcdlipaaGreatDoorJKGQ7
import Derived.Test.YtmplfjolcdlipaaGreatDoorJNcH
import Derived.Test.YtmplfjolcdlipaaGreatDoorJXQ7
set_option linter.unusedVariables false
set_option linter.unusedSimpArgs false
namespace Go.Abs
open Go.Proofs Go.RowKit
set_option linter.unusedVariables false
set_option linter.unusedSimpArgs false
set_option maxRecDepth 100000
theorem rd9 {H : Type} {enc : TypeId × Value -> H} {W : World} : RdC enc Tryz.prog W 9 (fun s : ByteArray => [.str s]) := RdC.str (by kernel_rfl)
theorem f42z : ACalls Tryz.prog 42 [eDrum zeroD,eDrum zeroD] (fun r => r = .pv (.bool true)) := f42s zeroD ⟨by decide,by decide,by decide,by decide⟩
theorem f43t {s : List UInt8} {d : Drum} (hs : s.length <= 700) (h : readR s = some d) : ACalls Tryz.prog 43 [.str (bytesOf s)] (fun r => r = .tup [eDrum d,.bool true]):= by
 have k := f43 s hs
 rw [h] at k
 exact k
theorem f43n {s : List UInt8} (hs : s.length <= 700) (h : readR s = none) : ACalls Tryz.prog 43 [.str (bytesOf s)] (fun r => r = .tup [eDrum zeroD,.bool false]):= by
 have k := f43 s hs
 rw [h] at k
 exact k
theorem f40n {s : List UInt8} {e : Int} (h : readE s = (zeroD,e)) : ACalls Tryz.prog 40 [.str (bytesOf s)] (fun r => r = .tup [eDrum zeroD,vi e]):= by
 have k := f40 s
 rw [h] at k
 exact k
set_option maxHeartbeats 8000000 in
theorem f7L (s : List UInt8) : ACalls Tryz.prog 7 [.str (bytesOf s)] (fun r => r = .pv (.bool true)):= by
 have hsz := bytesOf_size s
 have k42z := f42z
 by_cases h7 : s.length > 700
 ·refine ACalls.of_body hT Tryz.func7 rfl (by kernel_rfl) rfl ?_
  (repeat' (first | refine stq ?_ | (refine AL_do2 rfl ?_; first | refine ⟨_,op_call1 rfl rfl rfl rfl (f24),nrmA rfl ?_⟩ | refine ⟨_,op_len_str hT rfl rfl rfl rfl rfl,?_⟩) | ((first | (with_reducible refine AL_id ?_); (fail_if_success (refine AL_glit rfl rfl rfl (by first | exact .inl (by with_reducible rfl) | exact .inr (by with_reducible rfl)) ?_)); first | refine AL_gdec rfl rfl rfl (fun hg => ?_) (fun hg => ?_) | refine AL_gnot rfl rfl rfl (fun hg => ?_) (fun hg => ?_) | refine AL_gcases rfl rfl rfl (fun hg => ?_) (fun hg => ?_)) <;> (try (exfalso; omega))) | refine AW_if rfl (fun hc => absurd hc (by omega)) (fun _ => ?_) | refine AW_if rfl (fun _ => ?_) (fun hc => absurd (by omega) hc)))
  all_goals first | exact ⟨_,_,rfl,rfl,rfl⟩ | (exfalso; omega)
 ·by_cases h6 : s.length > 600
  ·have k40 := f40n (s := s) (e := 3) (by unfold readE; rw [if_pos h6])
   cases hr : readR s with
   | none =>
    have k43 := f43n (by omega) hr
    refine ACalls.of_body hT Tryz.func7 rfl (by kernel_rfl) rfl ?_
    (repeat' (first | refine AL_skip rfl rfl ?_ | refine stq ?_ | (refine AL_do2 rfl ?_; first | refine ⟨_,op_call1 rfl rfl rfl rfl (f24),nrmA rfl ?_⟩ | refine ⟨_,op_call1 rfl rfl rfl rfl (k40),nrmA rfl ?_⟩ | refine ⟨_,op_call1 rfl rfl rfl rfl (k43),nrmA rfl ?_⟩ | refine ⟨_,op_call1 rfl rfl rfl rfl (k42z),nrmA rfl ?_⟩ | refine ⟨_,op_len_str hT rfl rfl rfl rfl rfl,?_⟩) | ((first | (with_reducible refine AL_id ?_); (fail_if_success (refine AL_glit rfl rfl rfl (by first | exact .inl (by with_reducible rfl) | exact .inr (by with_reducible rfl)) ?_)); first | refine AL_gdec rfl rfl rfl (fun hg => ?_) (fun hg => ?_) | refine AL_gnot rfl rfl rfl (fun hg => ?_) (fun hg => ?_) | refine AL_gcases rfl rfl rfl (fun hg => ?_) (fun hg => ?_)) <;> (try (exfalso; omega))) | refine AW_if rfl (fun hc => absurd hc (by omega)) (fun _ => ?_) | refine AW_if rfl (fun _ => ?_) (fun hc => absurd (by omega) hc)))
    all_goals first | exact ⟨_,_,rfl,rfl,rfl⟩ | (exfalso; omega)
   | some d =>
    have k43 := f43t (by omega) hr
    refine ACalls.of_body hT Tryz.func7 rfl (by kernel_rfl) rfl ?_
    (repeat' (first | refine AL_skip rfl rfl ?_ | refine stq ?_ | (refine AL_do2 rfl ?_; first | refine ⟨_,op_call1 rfl rfl rfl rfl (f24),nrmA rfl ?_⟩ | refine ⟨_,op_call1 rfl rfl rfl rfl (k40),nrmA rfl ?_⟩ | refine ⟨_,op_call1 rfl rfl rfl rfl (k43),nrmA rfl ?_⟩ | refine ⟨_,op_call1 rfl rfl rfl rfl (k42z),nrmA rfl ?_⟩ | refine ⟨_,op_len_str hT rfl rfl rfl rfl rfl,?_⟩) | ((first | (with_reducible refine AL_id ?_); (fail_if_success (refine AL_glit rfl rfl rfl (by first | exact .inl (by with_reducible rfl) | exact .inr (by with_reducible rfl)) ?_)); first | refine AL_gdec rfl rfl rfl (fun hg => ?_) (fun hg => ?_) | refine AL_gnot rfl rfl rfl (fun hg => ?_) (fun hg => ?_) | refine AL_gcases rfl rfl rfl (fun hg => ?_) (fun hg => ?_)) <;> (try (exfalso; omega))) | refine AW_if rfl (fun hc => absurd hc (by omega)) (fun _ => ?_) | refine AW_if rfl (fun _ => ?_) (fun hc => absurd (by omega) hc)))
    all_goals first | exact ⟨_,_,rfl,rfl,rfl⟩ | (exfalso; omega)
  ·have hM := readR_M (s := s) (by omega)
   cases hr : readR s with
   | none =>
    have k43 := f43n (by omega) hr
    rw [hM] at hr
    have k40 := f40n (s := s) (e := 4) (by unfold readE; rw [if_neg h6,hr])
    refine ACalls.of_body hT Tryz.func7 rfl (by kernel_rfl) rfl ?_
    (repeat' (first | refine AL_skip rfl rfl ?_ | refine stq ?_ | (refine AL_do2 rfl ?_; first | refine ⟨_,op_call1 rfl rfl rfl rfl (f24),nrmA rfl ?_⟩ | refine ⟨_,op_call1 rfl rfl rfl rfl (k40),nrmA rfl ?_⟩ | refine ⟨_,op_call1 rfl rfl rfl rfl (k43),nrmA rfl ?_⟩ | refine ⟨_,op_call1 rfl rfl rfl rfl (k42z),nrmA rfl ?_⟩ | refine ⟨_,op_len_str hT rfl rfl rfl rfl rfl,?_⟩) | ((first | (with_reducible refine AL_id ?_); (fail_if_success (refine AL_glit rfl rfl rfl (by first | exact .inl (by with_reducible rfl) | exact .inr (by with_reducible rfl)) ?_)); first | refine AL_gdec rfl rfl rfl (fun hg => ?_) (fun hg => ?_) | refine AL_gnot rfl rfl rfl (fun hg => ?_) (fun hg => ?_) | refine AL_gcases rfl rfl rfl (fun hg => ?_) (fun hg => ?_)) <;> (try (exfalso; omega))) | refine AW_if rfl (fun hc => absurd hc (by omega)) (fun _ => ?_) | refine AW_if rfl (fun _ => ?_) (fun hc => absurd (by omega) hc)))
    all_goals first | exact ⟨_,_,rfl,rfl,rfl⟩ | (exfalso; omega)
   | some d =>
    have k43 := f43t (by omega) hr
    rw [hM] at hr
    obtain ⟨hsm,hcnt,hadd,htx⟩ := readM_ok (by omega) hr
    have hd : drumOK d := ⟨by omega,by omega,by omega,by omega⟩
    have k39 := f39 d hd
    cases hb : drumB d with
    | false =>
     have k40 := f40n (s := s) (e := 2) (by unfold readE; rw [if_neg h6,hr]; simp only; rw [if_neg (by rw [hb]; decide)])
     rw [hb] at k39
     refine ACalls.of_body hT Tryz.func7 rfl (by kernel_rfl) rfl ?_
     (repeat' (first | refine AL_skip rfl rfl ?_ | refine stq ?_ | (refine AL_do2 rfl ?_; first | refine ⟨_,op_call1 rfl rfl rfl rfl (f24),nrmA rfl ?_⟩ | refine ⟨_,op_call1 rfl rfl rfl rfl (k40),nrmA rfl ?_⟩ | refine ⟨_,op_call1 rfl rfl rfl rfl (k43),nrmA rfl ?_⟩ | refine ⟨_,op_call1 rfl rfl rfl rfl (k42z),nrmA rfl ?_⟩ | refine ⟨_,op_call1 rfl rfl rfl rfl (k39),nrmA rfl ?_⟩ | refine ⟨_,op_len_str hT rfl rfl rfl rfl rfl,?_⟩) | ((first | (with_reducible refine AL_id ?_); (fail_if_success (refine AL_glit rfl rfl rfl (by first | exact .inl (by with_reducible rfl) | exact .inr (by with_reducible rfl)) ?_)); first | refine AL_gdec rfl rfl rfl (fun hg => ?_) (fun hg => ?_) | refine AL_gnot rfl rfl rfl (fun hg => ?_) (fun hg => ?_) | refine AL_gcases rfl rfl rfl (fun hg => ?_) (fun hg => ?_)) <;> (try (exfalso; omega))) | refine AW_if rfl (fun hc => absurd hc (by omega)) (fun _ => ?_) | refine AW_if rfl (fun _ => ?_) (fun hc => absurd (by omega) hc)))
     all_goals first | exact ⟨_,_,rfl,rfl,rfl⟩ | (exfalso; omega)
    | true =>
     have hP := drumP_of.1 hb
     have k40 := f40 s
     rw [show readE s = (d,0) by unfold readE; rw [if_neg h6,hr]; simp only; rw [if_pos hb]] at k40
     have k40 : ACalls Tryz.prog 40 [.str (bytesOf s)] (fun r => r = .tup [eDrum d,vi 0]) := k40
     have k38 := f38y hd hP
     have k42 := f42s d hd
     rw [hb] at k39
     rw [htx] at k38
     refine ACalls.of_body hT Tryz.func7 rfl (by kernel_rfl) rfl ?_
     (repeat' (first | refine AL_skip rfl rfl ?_ | refine stq ?_ | (refine AL_do2 rfl ?_; first | refine ⟨_,op_call1 rfl rfl rfl rfl (f24),nrmA rfl ?_⟩ | refine ⟨_,op_call1 rfl rfl rfl rfl (k40),nrmA rfl ?_⟩ | refine ⟨_,op_call1 rfl rfl rfl rfl (k43),nrmA rfl ?_⟩ | refine ⟨_,op_call1 rfl rfl rfl rfl (k42),nrmA rfl ?_⟩ | refine ⟨_,op_call1 rfl rfl rfl rfl (k39),nrmA rfl ?_⟩ | refine ⟨_,op_call1 rfl rfl rfl rfl (k38),nrmA rfl ?_⟩ | refine ⟨_,op_len_str hT rfl rfl rfl rfl rfl,?_⟩ | refine ⟨_,op_streqB (b := true) (by simp) rfl rfl rfl rfl,?_⟩) | ((first | (with_reducible refine AL_id ?_); (fail_if_success (refine AL_glit rfl rfl rfl (by first | exact .inl (by with_reducible rfl) | exact .inr (by with_reducible rfl)) ?_)); first | refine AL_gdec rfl rfl rfl (fun hg => ?_) (fun hg => ?_) | refine AL_gnot rfl rfl rfl (fun hg => ?_) (fun hg => ?_) | refine AL_gcases rfl rfl rfl (fun hg => ?_) (fun hg => ?_)) <;> (try (exfalso; omega))) | refine AW_if rfl (fun hc => absurd hc (by omega)) (fun _ => ?_) | refine AW_if rfl (fun _ => ?_) (fun hc => absurd (by omega) hc)))
     all_goals first | exact ⟨_,_,rfl,rfl,rfl⟩ | (exfalso; omega)
theorem f7 (x : ByteArray) : ACalls Tryz.prog 7 [.str x] (fun r => r = .pv (.bool true)):= by
 have k := f7L x.data.toList
 rwa [show bytesOf x.data.toList = x from bytes_ext rfl] at k
end Go.Abs
