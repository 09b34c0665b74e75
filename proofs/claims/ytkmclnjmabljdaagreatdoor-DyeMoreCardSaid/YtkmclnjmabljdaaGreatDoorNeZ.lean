/- DyeAparts. -/
import Derived.Test.YtkmclnjmabljdaaGreatDoorNeY
set_option linter.unusedVariables false
set_option linter.unusedSimpArgs false
namespace Go.Abs
open Go.Proofs
set_option linter.unusedVariables false
set_option linter.unusedSimpArgs false
set_option maxRecDepth 100000

section
variable {P : Program} {T : Nat → Option TyI} {nt : Nat} {s : ASt} {o : Oper} {ops : Array Oper}
theorem op_eqlS1 {t : TypeId} {t' : TypeId} {x y : Operand} {n : Nat} (ms : List Int) (hE : AggEq P t n) (ho : o.op = .binOp .eql t x y t') (hd : dstB nt o.dst = true) (hx : s.evD x = some (.agg (ms.map (PV.int .i64)))) (hy : s.evD y = some (.agg (ms.map (PV.int .i64)))) (hm : ms.length = n) :
    OpTo P nt o s (s.putO o.dst (some (.pv (.bool true)))) := by
  have := op_eqlS hE ho hd hx hy hm hm
  rwa [decide_eq_true rfl] at this
theorem D_eqlS1 {t : TypeId} {t' : TypeId} {x y : Operand} {n : Nat} (ms : List Int) (hE : AggEq P t n) (hg : guardT ops s o = true) (ho : o.op = .binOp .eql t x y t') (hd : dstB nt o.dst = true) (hx : s.evS x = some (.agg (ms.map (PV.int .i64)))) (hy : s.evS y = some (.agg (ms.map (PV.int .i64)))) (hm : ms.length = n) :
    StepOK P nt ops o s ⟨some (.pv (.bool true)), false, [], []⟩ (s.putO o.dst (some (.pv (.bool true)))) := by
  have := D_eqlS hE hg ho hd hx hy hm hm
  rwa [decide_eq_true rfl] at this
theorem D_neqS1 {t : TypeId} {t' : TypeId} {x y : Operand} {n : Nat} (ms : List Int) (hE : AggEq P t n) (hg : guardT ops s o = true) (ho : o.op = .binOp .neq t x y t') (hd : dstB nt o.dst = true) (hx : s.evS x = some (.agg (ms.map (PV.int .i64)))) (hy : s.evS y = some (.agg (ms.map (PV.int .i64)))) (hm : ms.length = n) :
    StepOK P nt ops o s ⟨some (.pv (.bool false)), false, [], []⟩ (s.putO o.dst (some (.pv (.bool false)))) := by
  have := D_neqS hE hg ho hd hx hy hm hm
  rw [decide_eq_true rfl] at this
  exact this
theorem op_neqS1 {t : TypeId} {t' : TypeId} {x y : Operand} {n : Nat} (ms : List Int) (hE : AggEq P t n) (ho : o.op = .binOp .neq t x y t') (hd : dstB nt o.dst = true) (hx : s.evD x = some (.agg (ms.map (PV.int .i64)))) (hy : s.evD y = some (.agg (ms.map (PV.int .i64)))) (hm : ms.length = n) :
    OpTo P nt o s (s.putO o.dst (some (.pv (.bool false)))) := by
  have := op_neqS hE ho hd hx hy hm hm
  rw [decide_eq_true rfl] at this
  exact this
end
theorem span_diffs {h : List Dye} {lamp : List Int} {a b : List Bath} (hh : HouseP h) (ha : BatchP h a) (hb : BatchP h b) : spanOf (diffsR h lamp a b) = spanOf (apartL h lamp a b) :=
  hull_unique (diffsR_mem hh ha hb) (spanOf_hull _) (spanOf_hull _)
set_option maxHeartbeats 1000000 in
theorem f13 (h : List Dye) (lamp : List Int) (a b : List Bath) : ACalls Tryz.prog 13 [eHouse h, eLamp lamp, eBaths a, eBaths b] (fun r => r = .pv (.bool true)) := by
  have k27 := f27 h
  refine ACalls.of_body hT Tryz.func13 rfl (by kernel_rfl) rfl ?_
  by_cases hs : slimB h = true ∧ a.length ≤ 5 ∧ b.length ≤ 5 ∧ lamp.length ≤ 5
  · obtain ⟨hs, hla, hlb, hlm⟩ := hs
    rw [hs] at k27
    have hOK := slim_houseOK hs
    have k69 := f69 h lamp a hOK (by omega) (by omega)
    have k66 := f66 h lamp a b hOK (by omega) (by omega) (by omega)
    have k41 := f41 h a lamp hOK (by omega) (by omega)
    have k31 := f31 h b hOK.1 (by omega)
    (repeat' (first | refine stp ?_ | (refine AL_do2 rfl ?_; first | refine ⟨_, op_call1 rfl rfl rfl rfl (k27), ?_⟩ | refine ⟨_, op_call1 rfl rfl rfl rfl (f28), ?_⟩) | refine AL_gdec rfl rfl rfl (fun hg => ?_) (fun hg => ?_) | refine AL_gnot rfl rfl rfl (fun hg => ?_) (fun hg => ?_) | refine AL_gcases rfl rfl rfl (fun hg => ?_) (fun hg => ?_)))
    any_goals (exfalso; omega)
    refine AW_if rfl (fun hc => absurd hc (by omega)) (fun _ => ?_)
    by_cases hf : (isHouseB h && isBatchB h a && isLampB h lamp) = true
    · rw [hf] at k41
      simp only [Bool.and_eq_true] at hf
      obtain ⟨⟨w1, w2⟩, w3⟩ := hf
      have hH := houseP_of w1
      have hL := lampP_of w3
      have hA := batchP_of w2
      have e1 : lookE h lamp a = (lookI h lamp a, 0) := by simp [lookE, w1, w2, w3]
      rw [e1] at k69
      have k70 := f70 h lamp a hH hL hA
      rw [look_eq hH hA] at k70
      generalize lookI h lamp a = s at k69 k70
      cases hB : isBatchB h b with
      | false =>
        have e2 : apartE h lamp a b = (⟨0, 0⟩, 2) := by simp [apartE, hB]
        rw [e2] at k66
        rw [hB] at k31
        (repeat' (first | refine stp ?_ | (refine AL_do2 rfl ?_; first | refine ⟨_, op_call1 rfl rfl rfl rfl (k69), ?_⟩ | refine ⟨_, op_call1 rfl rfl rfl rfl (k66), ?_⟩ | refine ⟨_, op_call1 rfl rfl rfl rfl (k41), ?_⟩) | refine AL_gdec rfl rfl rfl (fun hg => ?_) (fun hg => ?_) | refine AL_gnot rfl rfl rfl (fun hg => ?_) (fun hg => ?_) | refine AL_gcases rfl rfl rfl (fun hg => ?_) (fun hg => ?_)))
        (repeat (first | refine DG_next (D_neqS1 [s.low, s.high] aggEq37 rfl rfl rfl rfl rfl rfl) ?_ | refine sdr ?_ | refine DG_next (D_call rfl rfl rfl rfl rfl (k70)) ?_))
        refine DG_end hM (by kernel_rfl) ?_
        (repeat' (first | refine stp ?_ | (refine AL_do2 rfl ?_; first | refine ⟨_, op_call1 rfl rfl rfl rfl (k31), ?_⟩ | refine ⟨_, op_eqlS1 [0, 0] aggEq37 rfl rfl rfl rfl rfl, ?_⟩ | refine ⟨_, op_call1 rfl rfl rfl rfl (f28), ?_⟩) | refine AL_gdec rfl rfl rfl (fun hg => ?_) (fun hg => ?_) | refine AL_gnot rfl rfl rfl (fun hg => ?_) (fun hg => ?_) | refine AL_gcases rfl rfl rfl (fun hg => ?_) (fun hg => ?_)))
        exact ⟨_, _, rfl, rfl, rfl⟩
      | true =>
        have e2 : apartE h lamp a b = (spanOf (apartL h lamp a b), 0) := by simp [apartE, w1, w2, w3, hB]
        rw [e2] at k66
        rw [hB] at k31
        have k71 := f71 h lamp a b hH hL hA (batchP_of hB)
        rw [span_diffs hH hA (batchP_of hB)] at k71
        generalize spanOf (apartL h lamp a b) = p at k66 k71
        (repeat' (first | refine stp ?_ | (refine AL_do2 rfl ?_; first | refine ⟨_, op_call1 rfl rfl rfl rfl (k69), ?_⟩ | refine ⟨_, op_call1 rfl rfl rfl rfl (k66), ?_⟩ | refine ⟨_, op_call1 rfl rfl rfl rfl (k41), ?_⟩) | refine AL_gdec rfl rfl rfl (fun hg => ?_) (fun hg => ?_) | refine AL_gnot rfl rfl rfl (fun hg => ?_) (fun hg => ?_) | refine AL_gcases rfl rfl rfl (fun hg => ?_) (fun hg => ?_)))
        (repeat (first | refine DG_next (D_neqS1 [s.low, s.high] aggEq37 rfl rfl rfl rfl rfl rfl) ?_ | refine sdr ?_ | refine DG_next (D_call rfl rfl rfl rfl rfl (k70)) ?_))
        refine DG_end hM (by kernel_rfl) ?_
        (repeat' (first | refine stp ?_ | (refine AL_do2 rfl ?_; first | refine ⟨_, op_call1 rfl rfl rfl rfl (k31), ?_⟩) | refine AL_gdec rfl rfl rfl (fun hg => ?_) (fun hg => ?_) | refine AL_gnot rfl rfl rfl (fun hg => ?_) (fun hg => ?_) | refine AL_gcases rfl rfl rfl (fun hg => ?_) (fun hg => ?_)))
        (repeat (first | refine DG_next (D_eqlS1 [p.low, p.high] aggEq37 rfl rfl rfl rfl rfl rfl) ?_ | refine sdr ?_ | refine DG_next (D_call rfl rfl rfl rfl rfl (k71)) ?_ | refine DG_next (D_call rfl rfl rfl rfl rfl (f28)) ?_))
        refine DG_end hM (by kernel_rfl) ?_
        (repeat (refine stp ?_))
        exact ⟨_, _, rfl, rfl, rfl⟩
    · have e1 : lookE h lamp a = (⟨0, 0⟩, 2) := by
        unfold lookE; rw [if_neg (by intro h; apply hf; simp_all)]
      have e2 : apartE h lamp a b = (⟨0, 0⟩, 2) := by
        unfold apartE; rw [if_neg (by intro h; apply hf; simp_all)]
      rw [e1] at k69
      rw [e2] at k66
      rw [Bool.eq_false_iff.2 hf] at k41
      (repeat' (first | refine stp ?_ | (refine AL_do2 rfl ?_; first | refine ⟨_, op_call1 rfl rfl rfl rfl (k69), ?_⟩ | refine ⟨_, op_call1 rfl rfl rfl rfl (k66), ?_⟩ | refine ⟨_, op_call1 rfl rfl rfl rfl (k41), ?_⟩ | refine ⟨_, op_eqlS1 [0, 0] aggEq37 rfl rfl rfl rfl rfl, ?_⟩ | refine ⟨_, op_call1 rfl rfl rfl rfl (f28), ?_⟩) | refine AL_gdec rfl rfl rfl (fun hg => ?_) (fun hg => ?_) | refine AL_gnot rfl rfl rfl (fun hg => ?_) (fun hg => ?_) | refine AL_gcases rfl rfl rfl (fun hg => ?_) (fun hg => ?_)))
      exact ⟨_, _, rfl, rfl, rfl⟩
  · (repeat' (first | refine stp ?_ | (refine AL_do2 rfl ?_; first | refine ⟨_, op_call1 rfl rfl rfl rfl (k27), ?_⟩ | refine ⟨_, op_call1 rfl rfl rfl rfl (f28), ?_⟩) | refine AL_gdec rfl rfl rfl (fun hg => ?_) (fun hg => ?_) | refine AL_gnot rfl rfl rfl (fun hg => ?_) (fun hg => ?_) | refine AL_gcases rfl rfl rfl (fun hg => ?_) (fun hg => ?_)))
    all_goals (first | exact ⟨_, _, rfl, rfl, rfl⟩ | skip)
    refine AW_if rfl (fun hc => ?_) (fun hc => ?_)
    · (repeat' (first | refine stp ?_ | (refine AL_do2 rfl ?_; first | refine ⟨_, op_call1 rfl rfl rfl rfl (f28), ?_⟩) | refine AL_gdec rfl rfl rfl (fun hg => ?_) (fun hg => ?_) | refine AL_gnot rfl rfl rfl (fun hg => ?_) (fun hg => ?_) | refine AL_gcases rfl rfl rfl (fun hg => ?_) (fun hg => ?_)))
      exact ⟨_, _, rfl, rfl, rfl⟩
    · exact absurd ⟨by simp_all, by omega, by omega, by omega⟩ hs
end Go.Abs
