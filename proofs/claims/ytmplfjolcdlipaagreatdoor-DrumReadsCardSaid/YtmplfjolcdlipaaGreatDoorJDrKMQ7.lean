/- The reference's number. -/
import Derived.Test.YtmplfjolcdlipaaGreatDoorJDrKLQ7
import Derived.Test.YtmplfjolcdlipaaGreatDoorJXQ7
set_option linter.unusedVariables false
set_option linter.unusedSimpArgs false
namespace Go.Abs
open Go.Proofs Go.RowKit
set_option linter.unusedVariables false
set_option linter.unusedSimpArgs false
set_option maxRecDepth 100000
def numR (l : List UInt8) : Int := if numG l = true then numV l else -1
set_option maxHeartbeats 4000000 in
theorem f164 (l : List UInt8) (hl : l.length <= 1000) : ACalls Tryz.prog 164 [.str (bytesOf l)] (fun r => r = .pv (vi (numR l))):= by
 have hsz := bytesOf_size l
 by_cases h14 : 1 <= l.length /\ l.length <= 4
 ·obtain ⟨hl1,hl4⟩ := h14
  refine ACalls.of_body hT Tryz.func164 rfl (by kernel_rfl) rfl ?_
  (repeat' (first | refine stq ?_ | (refine AL_do2 rfl ?_; first | refine ⟨_,op_len_str hT rfl rfl rfl rfl rfl,?_⟩) | ((first | (with_reducible refine AL_id ?_); (fail_if_success (refine AL_glit rfl rfl rfl (by first | exact .inl (by with_reducible rfl) | exact .inr (by with_reducible rfl)) ?_)); first | refine AL_gdec rfl rfl rfl (fun hg => ?_) (fun hg => ?_) | refine AL_gnot rfl rfl rfl (fun hg => ?_) (fun hg => ?_) | refine AL_gcases rfl rfl rfl (fun hg => ?_) (fun hg => ?_)) <;> (try (exfalso; omega))) | refine AW_if rfl (fun hc => absurd hc (by omega)) (fun _ => ?_) | refine AW_if rfl (fun _ => ?_) (fun hc => absurd (by omega) hc)))
  refine AW_loopC (fun j : Nat => j <= l.length /\ (∀ b ∈ l.take j,digB b = true)) (fun j => mkSt [(0,.pv (.str (bytesOf l))),(3,.pv (vi (numV (l.take j)))),(4,.pv (vi j))] [] 0) (fun j => l.length - j) 0 ⟨Nat.zero_le _,by simp⟩ ?_ ?_
  ·(refine Le.mk ?_ ?_; all_goals (repeat' (first | exact trivial | refine sle ?_ | refine ⟨?_,rfl,?_⟩ | refine ⟨?_,by decide,rfl,?_⟩ | fail)))
  ·rintro j ⟨hj,hdg⟩
   have hv := numV_bd (l := l.take j) hdg (by simp; omega)
   (repeat' (first | refine stq ?_ | (refine AL_do2 rfl ?_; first | refine ⟨_,op_len_str hT rfl rfl rfl rfl rfl,?_⟩) | (with_reducible refine AL_id ?_); (fail_if_success (refine AL_glit rfl rfl rfl (by first | exact .inl (by with_reducible rfl) | exact .inr (by with_reducible rfl)) ?_)); first | refine AL_gdec rfl rfl rfl (fun hg => ?_) (fun hg => ?_) | refine AL_gnot rfl rfl rfl (fun hg => ?_) (fun hg => ?_) | refine AL_gcases rfl rfl rfl (fun hg => ?_) (fun hg => ?_)))
   refine AW_if rfl (fun hc => ?_) (fun hc => ?_)
   ·have hj' : j < l.length := by omega
    obtain ⟨b,hb⟩ : ∃ b,l[j]? = some b := ⟨l[j],by simp [hj']⟩
    have hb' : (bytesOf l)[((j : Nat) : Int).toNat]? = some b:= by
     rw [Int.toNat_natCast,getElem?_pos (bytesOf l) j (by rw [hsz]; exact hj')]
     have := (List.getElem?_eq_some_iff.1 hb).2
     exact congrArg some ((rfl : (bytesOf l)[j]'(by rw [hsz]; exact hj') = l[j]'hj').trans this)
    have hs : l.take (j + 1) = l.take j ++ [b] := by rw [List.take_add_one,hb]; rfl
    have hsn := numV_snoc (l.take j) b
    by_cases hbd : digB b = true
    ·have hbd' := hbd
     simp only [digB,Bool.and_eq_true,decide_eq_true_eq] at hbd
     (repeat' (first | refine stq ?_ | (refine AL_do2 rfl ?_; first | refine ⟨_,op_index_str hT rfl rfl rfl rfl rfl rfl (by omega) hb',?_⟩) | (with_reducible refine AL_id ?_); (fail_if_success (refine AL_glit rfl rfl rfl (by first | exact .inl (by with_reducible rfl) | exact .inr (by with_reducible rfl)) ?_)); first | refine AL_gdec rfl rfl rfl (fun hg => ?_) (fun hg => ?_) | refine AL_gnot rfl rfl rfl (fun hg => ?_) (fun hg => ?_) | refine AL_gcases rfl rfl rfl (fun hg => ?_) (fun hg => ?_)))
     all_goals (try (exfalso; omega))
     refine AW_if rfl (fun hc => absurd hc (by omega)) (fun _ => ?_)
     have hm : -9223372036854775808 <= 10 * numV (l.take j) /\ 10 * numV (l.take j) <= 9223372036854775807 := by omega
     have hw : IntKind.i64.wrap (IntKind.u8.wrap ((b.toNat : Int) - 48)) = (b.toNat : Int) - 48:= by
      unfold IntKind.wrap; simp [IntKind.signed,IntKind.bits]; omega
     generalize numV (l.take j) = n at *
     (repeat' (first | refine stq ?_ | (refine AL_do2 rfl ?_; first | refine ⟨_,op_index_str hT rfl rfl rfl rfl rfl rfl (by omega) hb',?_⟩) | (with_reducible refine AL_id ?_); (fail_if_success (refine AL_glit rfl rfl rfl (by first | exact .inl (by with_reducible rfl) | exact .inr (by with_reducible rfl)) ?_)); first | refine AL_gdec rfl rfl rfl (fun hg => ?_) (fun hg => ?_) | refine AL_gnot rfl rfl rfl (fun hg => ?_) (fun hg => ?_) | refine AL_gcases rfl rfl rfl (fun hg => ?_) (fun hg => ?_)))
     refine AL_do2 rfl ⟨_,op_bin (k := .u8) (op := .sub) rfl rfl rfl rfl rfl,?_⟩
     refine AL_do2 rfl ⟨_,op_conv hT rfl rfl rfl rfl rfl rfl rfl,?_⟩
     rw [hw]
     (repeat (refine stq ?_))
     refine ⟨j + 1,⟨hj',fun x hx => ?_⟩,by omega,?_⟩
     ·rw [hs] at hx
      rcases List.mem_append.1 hx with hx | hx
      ·exact hdg x hx
      ·simp only [List.mem_singleton] at hx; subst hx; exact hbd'
     (refine Le.mk ?_ ?_; all_goals (repeat' (first | exact trivial | refine sle ?_ | refine ⟨?_,rfl,?_⟩ | refine ⟨?_,by decide,rfl,?_⟩ | fail)))
     show some (FV.pv (vi (10 * n + ((b.toNat : Int) - 48)))) = some (FV.pv (vi (numV (l.take (j + 1)))))
     rw [hs,hsn]
    ·have hbad : numG l = false:= by
      cases hb2 : numG l with
      | false => rfl
      | true => exact absurd ((numG_w hb2).dig b (List.mem_of_getElem? hb)) hbd
     rw [numR,hbad]
     simp only [digB,Bool.and_eq_true,decide_eq_true_eq] at hbd
     (repeat' (first | refine stq ?_ | (refine AL_do2 rfl ?_; first | refine ⟨_,op_index_str hT rfl rfl rfl rfl rfl rfl (by omega) hb',?_⟩) | ((first | (with_reducible refine AL_id ?_); (fail_if_success (refine AL_glit rfl rfl rfl (by first | exact .inl (by with_reducible rfl) | exact .inr (by with_reducible rfl)) ?_)); first | refine AL_gdec rfl rfl rfl (fun hg => ?_) (fun hg => ?_) | refine AL_gnot rfl rfl rfl (fun hg => ?_) (fun hg => ?_) | refine AL_gcases rfl rfl rfl (fun hg => ?_) (fun hg => ?_)) <;> (try (exfalso; omega))) | refine AW_if rfl (fun hc => absurd hc (by omega)) (fun _ => ?_) | refine AW_if rfl (fun _ => ?_) (fun hc => absurd (by omega) hc)))
     all_goals first | exact ⟨_,_,rfl,rfl,rfl⟩ | (exfalso; omega)
   ·have hj2 : j = l.length := by omega
    subst hj2
    rw [List.take_length] at hdg hv ⊢
    have k112 := f112 (numV l).toNat (by omega)
    rw [show (((numV l).toNat : Nat) : Int) = numV l by omega] at k112
    have hall : l.all digB = true := List.all_eq_true.2 hdg
    by_cases hd : Lib.decDigits (numV l).toNat = l
    ·have hg : numG l = true := by simp [numG,hall,hl1,hl4,hd]
     rw [numR,if_pos hg]
     (repeat' (first | refine stq ?_ | (refine AL_do2 rfl ?_; first | refine ⟨_,op_call1 rfl rfl rfl rfl (k112),nrmA rfl ?_⟩ | refine ⟨_,op_strneB (b := false) (by rw [hd]; simp) rfl rfl rfl rfl,?_⟩) | (with_reducible refine AL_id ?_); (fail_if_success (refine AL_glit rfl rfl rfl (by first | exact .inl (by with_reducible rfl) | exact .inr (by with_reducible rfl)) ?_)); first | refine AL_gdec rfl rfl rfl (fun hg => ?_) (fun hg => ?_) | refine AL_gnot rfl rfl rfl (fun hg => ?_) (fun hg => ?_) | refine AL_gcases rfl rfl rfl (fun hg => ?_) (fun hg => ?_)))
     exact ⟨_,_,rfl,rfl,rfl⟩
    ·have hg : numG l = false := by simp [numG,hall,hl1,hl4,hd]
     rw [numR,hg]
     (repeat' (first | refine stq ?_ | (refine AL_do2 rfl ?_; first | refine ⟨_,op_call1 rfl rfl rfl rfl (k112),nrmA rfl ?_⟩ | refine ⟨_,op_strneB (b := true) (by
      have : ((bytesOf (Lib.decDigits (numV l).toNat)).data.toList == (bytesOf l).data.toList) = false := beq_eq_false_iff_ne.2 hd
      rw [this]; rfl) rfl rfl rfl rfl,?_⟩) | (with_reducible refine AL_id ?_); (fail_if_success (refine AL_glit rfl rfl rfl (by first | exact .inl (by with_reducible rfl) | exact .inr (by with_reducible rfl)) ?_)); first | refine AL_gdec rfl rfl rfl (fun hg => ?_) (fun hg => ?_) | refine AL_gnot rfl rfl rfl (fun hg => ?_) (fun hg => ?_) | refine AL_gcases rfl rfl rfl (fun hg => ?_) (fun hg => ?_)))
     exact ⟨_,_,rfl,rfl,rfl⟩
 ·have hg : numG l = false:= by
   cases hb : numG l with
   | false => rfl
   | true =>
    exfalso
    have := numG_w hb
    exact h14 ⟨this.l1,this.l4⟩
  rw [numR,hg]
  refine ACalls.of_body hT Tryz.func164 rfl (by kernel_rfl) rfl ?_
  (repeat' (first | refine stq ?_ | (refine AL_do2 rfl ?_; first | refine ⟨_,op_len_str hT rfl rfl rfl rfl rfl,?_⟩) | ((first | (with_reducible refine AL_id ?_); (fail_if_success (refine AL_glit rfl rfl rfl (by first | exact .inl (by with_reducible rfl) | exact .inr (by with_reducible rfl)) ?_)); first | refine AL_gdec rfl rfl rfl (fun hg => ?_) (fun hg => ?_) | refine AL_gnot rfl rfl rfl (fun hg => ?_) (fun hg => ?_) | refine AL_gcases rfl rfl rfl (fun hg => ?_) (fun hg => ?_)) <;> (try (exfalso; omega))) | refine AW_if rfl (fun hc => absurd hc (by omega)) (fun _ => ?_) | refine AW_if rfl (fun _ => ?_) (fun hc => absurd (by omega) hc)))
  all_goals first | exact ⟨_,_,rfl,rfl,rfl⟩ | (exfalso; omega)
end Go.Abs
