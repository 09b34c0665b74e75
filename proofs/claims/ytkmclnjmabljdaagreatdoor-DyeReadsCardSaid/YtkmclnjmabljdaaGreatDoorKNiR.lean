/- DyeReads: the contract of the statement's function. -/
import Derived.Test.YtkmclnjmabljdaaGreatDoorKNiP
import Derived.Test.YtkmclnjmabljdaaGreatDoorKNcH
set_option linter.unusedVariables false
set_option linter.unusedSimpArgs false
namespace Go.Abs
open Go.Proofs Go.RowKit
set_option linter.unusedVariables false
set_option linter.unusedSimpArgs false
set_option maxRecDepth 100000
theorem rd9 {H : Type} {enc : TypeId × Value -> H} {W : World} : RdC enc Tryz.prog W 9 (fun s : ByteArray => [.str s]) := RdC.str (by kernel_rfl)
theorem f92e {s : List UInt8} {e : Int} (h : readE s = ([],[],e)) : ACalls Tryz.prog 92 [.str (bytesOf s)] (fun r => r = .tup [eHouse [],eStocks [],vi e]):= by
 have k := f92 s
 rw [h] at k
 exact k
set_option maxHeartbeats 16000000 in
theorem f25L (s : List UInt8) : ACalls Tryz.prog 25 [.str (bytesOf s)] (fun r => r = .pv (.bool true)):= by
 have hsz := bytesOf_size s
 by_cases h7 : s.length > 600
 ·refine ACalls.of_body hT Tryz.func25 rfl (by kernel_rfl) rfl ?_
  (repeat' (first | refine stq ?_ | (refine AL_do2 rfl ?_; first | refine ⟨_,op_call1 rfl rfl rfl rfl (f28),nrmA rfl ?_⟩ | refine ⟨_,op_len_str hT rfl rfl rfl rfl rfl,?_⟩) | ((first | (with_reducible refine AL_id ?_); (fail_if_success (refine AL_glit rfl rfl rfl (by first | exact .inl (by with_reducible rfl) | exact .inr (by with_reducible rfl)) ?_)); first | refine AL_gdec rfl rfl rfl (fun hg => ?_) (fun hg => ?_) | refine AL_gnot rfl rfl rfl (fun hg => ?_) (fun hg => ?_) | refine AL_gcases rfl rfl rfl (fun hg => ?_) (fun hg => ?_)) <;> (try (exfalso; omega))) | refine AW_if rfl (fun hc => absurd hc (by omega)) (fun _ => ?_) | refine AW_if rfl (fun _ => ?_) (fun hc => absurd (by omega) hc)))
  all_goals first | exact ⟨_,_,rfl,rfl,rfl⟩ | (exfalso; omega)
 ·have k96 := f96 s (by omega)
  have hM := readF_M (s := s) (by omega)
  by_cases h6 : s.length > 500
  ·have k92 := f92e (s := s) (e := 3) (by unfold readE; rw [if_pos h6])
   refine ACalls.of_body hT Tryz.func25 rfl (by kernel_rfl) rfl ?_
   (repeat' (first | refine AL_skip rfl rfl ?_ | refine stq ?_ | (refine AL_do2 rfl ?_; first | refine ⟨_,op_call1 rfl rfl rfl rfl (f28),nrmA rfl ?_⟩ | refine ⟨_,op_call1 rfl rfl rfl rfl (k92),nrmA rfl ?_⟩ | refine ⟨_,op_call1 rfl rfl rfl rfl (k96),nrmA rfl ?_⟩ | refine ⟨_,op_len_str hT rfl rfl rfl rfl rfl,?_⟩) | ((first | (with_reducible refine AL_id ?_); (fail_if_success (refine AL_glit rfl rfl rfl (by first | exact .inl (by with_reducible rfl) | exact .inr (by with_reducible rfl)) ?_)); first | refine AL_gdec rfl rfl rfl (fun hg => ?_) (fun hg => ?_) | refine AL_gnot rfl rfl rfl (fun hg => ?_) (fun hg => ?_) | refine AL_gcases rfl rfl rfl (fun hg => ?_) (fun hg => ?_)) <;> (try (exfalso; omega))) | refine AW_if rfl (fun hc => absurd hc (by omega)) (fun _ => ?_) | refine AW_if rfl (fun _ => ?_) (fun hc => absurd (by omega) hc)))
   all_goals first | exact ⟨_,_,rfl,rfl,rfl⟩ | (exfalso; omega)
  ·cases hr : (readF s).2.2 with
   | false =>
    rw [hr] at k96
    rw [hr,if_neg (by decide)] at hM
    have k92 := f92e (s := s) (e := 4) (by unfold readE; rw [if_neg h6,hM])
    refine ACalls.of_body hT Tryz.func25 rfl (by kernel_rfl) rfl ?_
    (repeat' (first | refine AL_skip rfl rfl ?_ | refine stq ?_ | (refine AL_do2 rfl ?_; first | refine ⟨_,op_call1 rfl rfl rfl rfl (f28),nrmA rfl ?_⟩ | refine ⟨_,op_call1 rfl rfl rfl rfl (k92),nrmA rfl ?_⟩ | refine ⟨_,op_call1 rfl rfl rfl rfl (k96),nrmA rfl ?_⟩ | refine ⟨_,op_len_str hT rfl rfl rfl rfl rfl,?_⟩) | ((first | (with_reducible refine AL_id ?_); (fail_if_success (refine AL_glit rfl rfl rfl (by first | exact .inl (by with_reducible rfl) | exact .inr (by with_reducible rfl)) ?_)); first | refine AL_gdec rfl rfl rfl (fun hg => ?_) (fun hg => ?_) | refine AL_gnot rfl rfl rfl (fun hg => ?_) (fun hg => ?_) | refine AL_gcases rfl rfl rfl (fun hg => ?_) (fun hg => ?_)) <;> (try (exfalso; omega))) | refine AW_if rfl (fun hc => absurd hc (by omega)) (fun _ => ?_) | refine AW_if rfl (fun _ => ?_) (fun hc => absurd (by omega) hc)))
    all_goals first | exact ⟨_,_,rfl,rfl,rfl⟩ | (exfalso; omega)
   | true =>
    rw [hr] at k96
    rw [hr,if_pos rfl] at hM
    obtain ⟨g1,g2,g3,g4⟩ := readF_ok hr
    generalize (readF s).1 = h at *
    generalize (readF s).2.1 = l at *
    obtain ⟨hO,hO2⟩ := small_ok (l := l) g1 (by omega)
    have k30 := f30 h hO
    have k91 := f91 h l 0 hO.1 hO2
    have k92 := f92 s
    have k90 := f90K hO hO2
    have k94 := f94s h hO
    have k95 := f95s l hO2
    cases h1 : isHouseB h with
    | false =>
     rw [h1] at k30
     rw [show readE s = ([],[],2) by unfold readE; rw [if_neg h6,hM]; simp only [h1,Bool.false_and,Bool.false_eq_true,if_false]] at k92
     have k92 : ACalls Tryz.prog 92 [.str (bytesOf s)] (fun r => r = .tup [eHouse [],eStocks [],vi 2]) := k92
     refine ACalls.of_body hT Tryz.func25 rfl (by kernel_rfl) rfl ?_
     (repeat' (first | refine AL_skip rfl rfl ?_ | refine stq ?_ | (refine AL_do2 rfl ?_; first | refine ⟨_,op_call1 rfl rfl rfl rfl (f28),nrmA rfl ?_⟩ | refine ⟨_,op_call1 rfl rfl rfl rfl (k92),nrmA rfl ?_⟩ | refine ⟨_,op_call1 rfl rfl rfl rfl (k96),nrmA rfl ?_⟩ | refine ⟨_,op_call1 rfl rfl rfl rfl (k30),nrmA rfl ?_⟩ | refine ⟨_,op_call1 rfl rfl rfl rfl (k91),nrmA rfl ?_⟩ | refine ⟨_,op_len_str hT rfl rfl rfl rfl rfl,?_⟩) | ((first | (with_reducible refine AL_id ?_); (fail_if_success (refine AL_glit rfl rfl rfl (by first | exact .inl (by with_reducible rfl) | exact .inr (by with_reducible rfl)) ?_)); first | refine AL_gdec rfl rfl rfl (fun hg => ?_) (fun hg => ?_) | refine AL_gnot rfl rfl rfl (fun hg => ?_) (fun hg => ?_) | refine AL_gcases rfl rfl rfl (fun hg => ?_) (fun hg => ?_)) <;> (try (exfalso; omega))) | refine AW_if rfl (fun hc => absurd hc (by omega)) (fun _ => ?_) | refine AW_if rfl (fun _ => ?_) (fun hc => absurd (by omega) hc)))
     all_goals first | exact ⟨_,_,rfl,rfl,rfl⟩ | (exfalso; omega)
    | true =>
     rw [h1] at k30
     cases h2 : areStocksB h l 0 with
     | false =>
      rw [h2] at k91
      rw [show readE s = ([],[],2) by unfold readE; rw [if_neg h6,hM]; simp only [h1,h2,Bool.true_and,Bool.false_eq_true,if_false]] at k92
      have k92 : ACalls Tryz.prog 92 [.str (bytesOf s)] (fun r => r = .tup [eHouse [],eStocks [],vi 2]) := k92
      refine ACalls.of_body hT Tryz.func25 rfl (by kernel_rfl) rfl ?_
      (repeat' (first | refine AL_skip rfl rfl ?_ | refine stq ?_ | (refine AL_do2 rfl ?_; first | refine ⟨_,op_call1 rfl rfl rfl rfl (f28),nrmA rfl ?_⟩ | refine ⟨_,op_call1 rfl rfl rfl rfl (k92),nrmA rfl ?_⟩ | refine ⟨_,op_call1 rfl rfl rfl rfl (k96),nrmA rfl ?_⟩ | refine ⟨_,op_call1 rfl rfl rfl rfl (k30),nrmA rfl ?_⟩ | refine ⟨_,op_call1 rfl rfl rfl rfl (k91),nrmA rfl ?_⟩ | refine ⟨_,op_len_str hT rfl rfl rfl rfl rfl,?_⟩) | ((first | (with_reducible refine AL_id ?_); (fail_if_success (refine AL_glit rfl rfl rfl (by first | exact .inl (by with_reducible rfl) | exact .inr (by with_reducible rfl)) ?_)); first | refine AL_gdec rfl rfl rfl (fun hg => ?_) (fun hg => ?_) | refine AL_gnot rfl rfl rfl (fun hg => ?_) (fun hg => ?_) | refine AL_gcases rfl rfl rfl (fun hg => ?_) (fun hg => ?_)) <;> (try (exfalso; omega))) | refine AW_if rfl (fun hc => absurd hc (by omega)) (fun _ => ?_) | refine AW_if rfl (fun _ => ?_) (fun hc => absurd (by omega) hc)))
      all_goals first | exact ⟨_,_,rfl,rfl,rfl⟩ | (exfalso; omega)
     | true =>
      rw [h2] at k91
      rw [show readE s = (h,l,0) by unfold readE; rw [if_neg h6,hM]; simp only [h1,h2,Bool.and_self,if_true]] at k92
      have k92 : ACalls Tryz.prog 92 [.str (bytesOf s)] (fun r => r = .tup [eHouse h,eStocks l,vi 0]) := k92
      rw [print_y h1 h2,g4] at k90
      have k90 : ACalls Tryz.prog 90 [eHouse h,eStocks l] (fun r => r = .tup [.str (bytesOf s),vi 0]) := k90
      refine ACalls.of_body hT Tryz.func25 rfl (by kernel_rfl) rfl ?_
      (repeat' (first | refine AL_skip rfl rfl ?_ | refine stq ?_ | (refine AL_do2 rfl ?_; first | refine ⟨_,op_call1 rfl rfl rfl rfl (f28),nrmA rfl ?_⟩ | refine ⟨_,op_call1 rfl rfl rfl rfl (k92),nrmA rfl ?_⟩ | refine ⟨_,op_call1 rfl rfl rfl rfl (k96),nrmA rfl ?_⟩ | refine ⟨_,op_call1 rfl rfl rfl rfl (k30),nrmA rfl ?_⟩ | refine ⟨_,op_call1 rfl rfl rfl rfl (k91),nrmA rfl ?_⟩ | refine ⟨_,op_call1 rfl rfl rfl rfl (k90),nrmA rfl ?_⟩ | refine ⟨_,op_call1 rfl rfl rfl rfl (k94),nrmA rfl ?_⟩ | refine ⟨_,op_call1 rfl rfl rfl rfl (k95),nrmA rfl ?_⟩ | refine ⟨_,op_len_str hT rfl rfl rfl rfl rfl,?_⟩ | refine ⟨_,op_streqB (b := true) (by simp) rfl rfl rfl rfl,?_⟩) | ((first | (with_reducible refine AL_id ?_); (fail_if_success (refine AL_glit rfl rfl rfl (by first | exact .inl (by with_reducible rfl) | exact .inr (by with_reducible rfl)) ?_)); first | refine AL_gdec rfl rfl rfl (fun hg => ?_) (fun hg => ?_) | refine AL_gnot rfl rfl rfl (fun hg => ?_) (fun hg => ?_) | refine AL_gcases rfl rfl rfl (fun hg => ?_) (fun hg => ?_)) <;> (try (exfalso; omega))) | refine AW_if rfl (fun hc => absurd hc (by omega)) (fun _ => ?_) | refine AW_if rfl (fun _ => ?_) (fun hc => absurd (by omega) hc)))
      all_goals first | exact ⟨_,_,rfl,rfl,rfl⟩ | (exfalso; omega)
theorem f25 (x : ByteArray) : ACalls Tryz.prog 25 [.str x] (fun r => r = .pv (.bool true)):= by
 have k := f25L x.data.toList
 rwa [show bytesOf x.data.toList = x from bytes_ext rfl] at k
end Go.Abs
