/- Lemmas. -/
import Derived.Test.YtmplfjolcdlipaaGreatDoorNcA
import Derived.Test.YtmplfjolcdlipaaGreatDoorNcB
import Derived.Test.YtmplfjolcdlipaaGreatDoorNcC
import Derived.Test.YtmplfjolcdlipaaGreatDoorNcD
import Derived.Test.YtmplfjolcdlipaaGreatDoorNcE
import Derived.Test.YtmplfjolcdlipaaGreatDoorNcF
import Derived.Test.YtmplfjolcdlipaaGreatDoorNcG
import Derived.Test.YtmplfjolcdlipaaGreatDoorNcH
import Derived.Test.YtmplfjolcdlipaaGreatDoorDrA
import Derived.Test.YtmplfjolcdlipaaGreatDoorDrB
import Derived.Test.YtmplfjolcdlipaaGreatDoorDrC
import Derived.Test.YtmplfjolcdlipaaGreatDoorFA
import Derived.Test.YtmplfjolcdlipaaGreatDoorNcI
import Derived.Test.YtmplfjolcdlipaaGreatDoorNcJ
import Derived.Test.YtmplfjolcdlipaaGreatDoorNcK
import Derived.Test.YtmplfjolcdlipaaGreatDoorSh
import Derived.Test.YtmplfjolcdlipaaGreatDoorDrO
import Derived.Test.YtmplfjolcdlipaaGreatDoorDrD
import Derived.Test.YtmplfjolcdlipaaGreatDoorDrE
import Derived.Test.YtmplfjolcdlipaaGreatDoorDrF
import Derived.Test.YtmplfjolcdlipaaGreatDoorDrP
import Derived.Test.YtmplfjolcdlipaaGreatDoorDrQ
import Derived.Test.YtmplfjolcdlipaaGreatDoorDrR
import Derived.Test.YtmplfjolcdlipaaGreatDoorDrS
import Derived.Test.YtmplfjolcdlipaaGreatDoorDrU
import Derived.Test.YtmplfjolcdlipaaGreatDoorDrG
import Derived.Test.YtmplfjolcdlipaaGreatDoorDrV
import Derived.Test.YtmplfjolcdlipaaGreatDoorDrH
import Derived.Test.YtmplfjolcdlipaaGreatDoorDrI
import Derived.Test.YtmplfjolcdlipaaGreatDoorDrJ
import Derived.Test.YtmplfjolcdlipaaGreatDoorDrK
import Derived.Test.YtmplfjolcdlipaaGreatDoorDrL
import Derived.Test.YtmplfjolcdlipaaGreatDoorDrM
import Derived.Test.YtmplfjolcdlipaaGreatDoorDrN
import Derived.Test.YtmplfjolcdlipaaGreatDoorDrW
import Derived.Test.YtmplfjolcdlipaaGreatDoorDrBK
import Derived.Test.YtmplfjolcdlipaaGreatDoorDrBJ
import Derived.Test.YtmplfjolcdlipaaGreatDoorDrBL
set_option linter.unusedVariables false
set_option linter.unusedSimpArgs false
namespace Go.Abs
set_option linter.unusedVariables false
section
variable {d : Drum} {a : Acid}
def stepsB (d : Drum) (a : Acid) (t : List Int) (i : Nat) : Bool :=
  let s := if i = 0 then initS a (d.adds.getD 0 0) else afterS a (d.adds.getD i 0) ⟨t.getD (i - 1) 0, t.getD (i - 1) 0⟩
  inB (t.getD i 0) s.low s.high
def truesB (d : Drum) (a : Acid) (t : List Int) : Bool := (List.range d.hours.toNat).all (stepsB d a t) && d.strips.all (seenB t)
theorem steps_iff {t : List Int} : truesB d a t = true ↔ (∀ i, i < d.hours.toNat → stepsB d a t i = true) ∧ ∀ s ∈ d.strips, seenB t s = true := by
  simp [truesB, List.all_eq_true]
end
end Go.Abs
namespace Go.Abs
def eTruth (acid : Int) (t : List Int) : PV := .agg [vi acid, eInts t]
end Go.Abs
namespace Go.Abs
open Go.Proofs Go.RowKit
set_option linter.unusedVariables false
set_option maxRecDepth 100000
section
variable {H : Type} {enc : TypeId × Value → H} {W : World}
theorem rd80 : RdC enc Tryz.prog W 80 (fun t : Int × List Int => [vi t.1, eInts t.2]) :=
  RdC.map (t := 80) (fun x : Int × List Int × Unit => (x.1, x.2.1)) (fun x => by rfl) (RdC.strct (fs := [(3, 0), (23, 1)]) (by kernel_rfl) (by kernel_rfl) (RdF.cons 1 rd3 (by kernel_rfl) (by decide +kernel) (RdF.cons 1 rd23 (by kernel_rfl) (by decide +kernel) (RdF.nil (by kernel_rfl)))))
end
end Go.Abs
namespace Go.Abs
open Go.RowKit
set_option linter.unusedVariables false
section
variable {P : Program} {T : Nat → Option TyI} {nt : Nat} {s : ASt} {o : Oper} {ops : Array Oper}
theorem equal_bool {t : Nat} {b c : Bool} (hu : P.underlying t = some .bool) (w : World) : (Op.equal t (.bool b) (.bool c)).run P w = .ok (b == c) w := by
  show (Op.equalIn (_ + 1) t (.bool b) (.bool c)).run P w = _
  rw [Op.equalIn]
  simp [underlying, hu]
theorem op_neqB {t t' : TypeId} {x y : Operand} {ti : TyI} {b c : Bool} (hT : TabOK P T) (ht : T t = some ti) (hk : ti.kind = .bool) (ho : o.op = .binOp .neq t x y t') (hd : dstB nt o.dst = true)
    (hx : s.ev x = some (.pv (.bool b))) (hy : s.ev y = some (.pv (.bool c))) : OpTo P nt o s (s.putO o.dst (some (.pv (.bool (b != c))))) :=
  OpTo.value hd fun W0 D0 D φ a w hI => ⟨.bool (b != c), by
    simp [execOp, ho, hI.ev_bool hx, hI.ev_bool hy, eqGuard, binOp, equal_bool ((hT.ty ht).bool hk)]; cases b <;> cases c <;> rfl, fun x' h => by cases h; exact ⟨rfl, .pv _ _ (.bool _)⟩⟩
section
variable {Q : Exit → ASt → Prop} {c : Code} {rest : List Oper} {b i id e sz : Nat} {fs : List FV} {es : List (List PV)}
end
end
end Go.Abs
namespace Go.Abs
open Go.Proofs
set_option linter.unusedVariables false
set_option linter.unusedSimpArgs false
set_option maxRecDepth 100000
theorem f78 (d : Drum) (hd : drumOK d) : ACalls Tryz.prog 78 [eDrum d] (fun r => r = .pv (vi (if drumB d then 0 else 2))) := by
  have k := f104 d hd
  refine ACalls.of_body hT Tryz.func78 rfl (by kernel_rfl) rfl ?_
  cases q : drumB d with
  | true =>
    rw [q] at k
    (repeat' (first | refine stq ?_ | (refine AL_do2 rfl ?_; first | refine ⟨_, op_call1 rfl rfl rfl rfl (k), nrmA rfl ?_⟩) | (with_reducible refine AL_id ?_); (fail_if_success (refine AL_glit rfl rfl rfl (by first | exact .inl (by with_reducible rfl) | exact .inr (by with_reducible rfl)) ?_)); first | refine AL_gdec rfl rfl rfl (fun hg => ?_) (fun hg => ?_) | refine AL_gnot rfl rfl rfl (fun hg => ?_) (fun hg => ?_) | refine AL_gcases rfl rfl rfl (fun hg => ?_) (fun hg => ?_)))
    exact ⟨_, _, rfl, rfl, rfl⟩
  | false =>
    rw [q] at k
    (repeat' (first | refine stq ?_ | (refine AL_do2 rfl ?_; first | refine ⟨_, op_call1 rfl rfl rfl rfl (k), nrmA rfl ?_⟩) | (with_reducible refine AL_id ?_); (fail_if_success (refine AL_glit rfl rfl rfl (by first | exact .inl (by with_reducible rfl) | exact .inr (by with_reducible rfl)) ?_)); first | refine AL_gdec rfl rfl rfl (fun hg => ?_) (fun hg => ?_) | refine AL_gnot rfl rfl rfl (fun hg => ?_) (fun hg => ?_) | refine AL_gcases rfl rfl rfl (fun hg => ?_) (fun hg => ?_)))
    exact ⟨_, _, rfl, rfl, rfl⟩
theorem f134 (d : Drum) (acid : Int) (t : List Int) (hd : d.acids.length ≤ 1000) (ht : t.length ≤ 1000) : ACalls Tryz.prog 134 [eDrum d, eTruth acid t] (fun r => r = .pv (.bool (sizedB d acid t))) := by
  refine ACalls.of_body hT Tryz.func134 rfl (by kernel_rfl) rfl ?_
  (repeat' (first | refine stq ?_ | (refine AL_do2 rfl ?_; first | refine ⟨_, op_call1 rfl rfl rfl rfl (f87 acid 0 (d.acids.length - 1)), nrmA rfl ?_⟩) | (with_reducible refine AL_id ?_); (fail_if_success (refine AL_glit rfl rfl rfl (by first | exact .inl (by with_reducible rfl) | exact .inr (by with_reducible rfl)) ?_)); first | refine AL_gdec rfl rfl rfl (fun hg => ?_) (fun hg => ?_) | refine AL_gnot rfl rfl rfl (fun hg => ?_) (fun hg => ?_) | refine AL_gcases rfl rfl rfl (fun hg => ?_) (fun hg => ?_)))
  all_goals exact ⟨_, _, rfl, rfl, by simp_all [sizedB]; try omega⟩
end Go.Abs
namespace Go.Abs
open Go.Proofs
set_option linter.unusedVariables false
set_option linter.unusedSimpArgs false
set_option maxRecDepth 100000
theorem steps_bd {d : Drum} {a : Acid} (hd : DrumP d) (ha : AcidP a) {t : List Int} : ∀ k, (∀ i, i ≤ k → stepsB d a t i = true) → 0 ≤ t.getD k 0 ∧ t.getD k 0 ≤ 100 * (k + 2)
  | 0, h => by
    have h1 := h 0 (Nat.le_refl _)
    have := ha.s0; have := ha.s2
    have := add_bd hd 0
    simp only [stepsB, if_true, inB, Bool.and_eq_true, decide_eq_true_eq, initS] at h1
    omega
  | k + 1, h => by
    have h1 := h (k + 1) (Nat.le_refl _)
    have ih := steps_bd hd ha k fun i hi => h i (by omega)
    have := ha.f0; have := ha.f1
    have := add_bd hd (k + 1)
    simp only [stepsB, Nat.add_one_ne_zero, if_false, inB, Bool.and_eq_true, decide_eq_true_eq, Nat.add_sub_cancel, afterS] at h1
    omega
abbrev fiO (d : Drum) (n : Nat) (t : List Int) (a : Acid) : List (Nat × AObj) := [(0, .box ((eDrumC d).map FV.pv)), (1, .box [.pv (vi n), .pv (eInts t)]), (2, .box ((eAcid a).map FV.pv))]
set_option maxHeartbeats 4000000 in
theorem f135 (d : Drum) (a : Acid) (acid : Int) (t : List Int) (hd : DrumP d) (h0 : 0 ≤ acid) (hac : d.acids[acid.toNat]? = some a) (ht : (t.length : Int) = d.hours) : ACalls Tryz.prog 135 [eDrum d, eTruth acid t] (fun r => r = .pv (.bool (bitI d.known acid.toNat && truesB d a t))) := by
  obtain ⟨n, rfl⟩ : ∃ n : Nat, acid = n := ⟨acid.toNat, by omega⟩
  simp only [Int.toNat_natCast] at hac ⊢
  have ha := hd.acid a (List.mem_of_getElem? hac)
  have h12 := hd.h1
  have hal := hd.al
  have k145 := f145 d.known n
  have e1 := get_map eAcid hac
  have k95 := c95 d.strips 169 [.ptr [vi n, eInts t]] (fun s => !seenB t s) (by have := hd.sl; omega) (fun s hs => f169 n t d.hours s (hd.strip s hs) h12 ht)
  rw [any_not'] at k95
  refine ACalls.of_body hT Tryz.func135 rfl (by kernel_rfl) rfl ?_
  cases q : bitI d.known n with
  | false =>
    rw [q] at k145
    (repeat' (first | refine stq ?_ | (refine AL_do2 rfl ?_; first | refine ⟨_, op_call1 rfl rfl rfl rfl (k145), nrmA rfl ?_⟩) | (with_reducible refine AL_id ?_); (fail_if_success (refine AL_glit rfl rfl rfl (by first | exact .inl (by with_reducible rfl) | exact .inr (by with_reducible rfl)) ?_)); first | refine AL_gdec rfl rfl rfl (fun hg => ?_) (fun hg => ?_) | refine AL_gnot rfl rfl rfl (fun hg => ?_) (fun hg => ?_) | refine AL_gcases rfl rfl rfl (fun hg => ?_) (fun hg => ?_)))
    exact ⟨_, _, rfl, rfl, rfl⟩
  | true =>
    rw [q] at k145
    (repeat' (first | refine stq ?_ | (refine AL_do2 rfl ?_; first | refine ⟨_, op_call1 rfl rfl rfl rfl (k145), nrmA rfl ?_⟩) | (with_reducible refine AL_id ?_); (fail_if_success (refine AL_glit rfl rfl rfl (by first | exact .inl (by with_reducible rfl) | exact .inr (by with_reducible rfl)) ?_)); first | refine AL_gdec rfl rfl rfl (fun hg => ?_) (fun hg => ?_) | refine AL_gnot rfl rfl rfl (fun hg => ?_) (fun hg => ?_) | refine AL_gcases rfl rfl rfl (fun hg => ?_) (fun hg => ?_)))
    refine AW_loopC (fun k : Nat => k ≤ t.length ∧ ∀ i, i < k → stepsB d a t i = true) (fun k => mkSt [(2, .box 0 0), (3, .box 1 0), (5, .box 2 0), (24, .pv (eInts t)), (25, .pv (vi t.length)), (26, .pv (vi k))] (fiO d n t a) 3) (fun k => t.length - k) 0 ⟨Nat.zero_le _, by simp⟩ ?_ ?_
    · (refine Le.mk ?_ ?_; all_goals (repeat' (first | exact trivial | refine sle ?_ | refine ⟨?_, rfl, ?_⟩ | refine ⟨?_, by decide, rfl, ?_⟩ | fail)))
    · rintro k ⟨hk, hall⟩
      (repeat (refine stq ?_))
      refine AW_if rfl (fun hc => ?_) (fun hc => ?_)
      · have hk' : k < t.length := by omega
        obtain ⟨x, hx⟩ : ∃ x, t[k]? = some x := ⟨t[k], by simp [hk']⟩
        obtain ⟨y, hy⟩ : ∃ y, d.adds[k]? = some y := ⟨d.adds[k]'(by omega), by simp⟩
        have e2 := get_map eInt hx
        have e3 := get_map eInt hy
        have hyb := hd.add y (List.mem_of_getElem? hy)
        have := ha.s0; have := ha.s1; have := ha.s2; have := ha.f0; have := ha.f1; have := ha.f2
        have gx : t.getD k 0 = x := by rw [List.getD_eq_getElem?_getD, hx]; rfl
        have gy : d.adds.getD k 0 = y := by rw [List.getD_eq_getElem?_getD, hy]; rfl
        have fall : stepsB d a t k = false → truesB d a t = false := fun h => by
          cases hb : truesB d a t with
          | false => rfl
          | true => have := (steps_iff.1 hb).1 k (by omega); rw [h] at this; cases this
        have next : stepsB d a t k = true → ∀ i, i < k + 1 → stepsB d a t i = true := fun h i hi => by
          by_cases hik : i = k
          · rw [hik]; exact h
          · exact hall i (by omega)
        by_cases hk0 : k = 0
        · subst hk0
          have es : stepsB d a t 0 = inB x (a.strength.low + y) (a.strength.high + y) := by
            simp only [stepsB, if_true, gx, gy, initS]
          have k87 := f87 x (a.strength.low + y) (a.strength.high + y)
          cases hb : inB x (a.strength.low + y) (a.strength.high + y) with
          | false =>
            rw [hb] at k87 es
            (repeat (refine stq ?_))
            (repeat (refine sdq ?_))
            refine DG_end hM (by kernel_rfl) ?_
            (repeat (refine stq ?_))
            (repeat (first | refine sdq ?_ | refine DG_next (D_call rfl rfl rfl rfl rfl (k87)) ?_))
            refine DG_end hM (by kernel_rfl) ?_
            (repeat (refine stq ?_))
            exact ⟨_, _, rfl, rfl, by rw [fall es]; rfl⟩
          | true =>
            rw [hb] at k87 es
            (repeat (refine stq ?_))
            (repeat (refine sdq ?_))
            refine DG_end hM (by kernel_rfl) ?_
            (repeat (refine stq ?_))
            (repeat (first | refine sdq ?_ | refine DG_next (D_call rfl rfl rfl rfl rfl (k87)) ?_))
            refine DG_end hM (by kernel_rfl) ?_
            (repeat (refine stq ?_))
            refine ⟨0 + 1, ⟨hk', next es⟩, by omega, ?_⟩
            (refine Le.mk ?_ ?_; all_goals (repeat' (first | exact trivial | refine sle ?_ | refine ⟨?_, rfl, ?_⟩ | refine ⟨?_, by decide, rfl, ?_⟩ | fail)))
        · obtain ⟨z, hz⟩ : ∃ z, t[k - 1]? = some z := ⟨t[k - 1]'(by omega), by simp⟩
          have gz : t.getD (k - 1) 0 = z := by rw [List.getD_eq_getElem?_getD, hz]; rfl
          have e4 : (t.map eInt)[((k : Int) - 1).toNat]? = some (eInt z) := by
            rw [show ((k : Int) - 1).toNat = k - 1 by omega]; exact get_map eInt hz
          have hzb := steps_bd hd ha (t := t) (k - 1) (fun i hi => hall i (by omega))
          rw [gz] at hzb
          have es : stepsB d a t k = inB x (max 0 (z - a.fall.high) + y) (max 0 (z - a.fall.low) + y) := by
            simp only [stepsB, if_neg hk0, gx, gy, gz, afterS]
          have k87 := f87 x (max 0 (z - a.fall.high) + y) (max 0 (z - a.fall.low) + y)
          have hm1 : (0 : Int) ≤ max 0 (z - a.fall.high) ∧ max 0 (z - a.fall.high) ≤ 10000 := by omega
          have hm2 : (0 : Int) ≤ max 0 (z - a.fall.low) ∧ max 0 (z - a.fall.low) ≤ 10000 := by omega
          cases hb : inB x (max 0 (z - a.fall.high) + y) (max 0 (z - a.fall.low) + y) with
          | false =>
            rw [hb] at k87 es
            (repeat (refine stq ?_))
            (repeat (refine sdq ?_))
            refine DG_end hM (by kernel_rfl) ?_
            (repeat (refine stq ?_))
            refine AW_if rfl (fun _ => ?_) (fun hc => by omega)
            (repeat (refine stq ?_))
            (repeat (refine sdq ?_))
            refine DG_end hM (by kernel_rfl) ?_
            (repeat (refine stq ?_))
            (repeat (first | refine sdq ?_ | refine DG_next (D_call rfl rfl rfl rfl rfl (k87)) ?_))
            refine DG_end hM (by kernel_rfl) ?_
            (repeat (refine stq ?_))
            exact ⟨_, _, rfl, rfl, by rw [fall es]; rfl⟩
          | true =>
            rw [hb] at k87 es
            (repeat (refine stq ?_))
            (repeat (refine sdq ?_))
            refine DG_end hM (by kernel_rfl) ?_
            (repeat (refine stq ?_))
            refine AW_if rfl (fun _ => ?_) (fun hc => by omega)
            (repeat (refine stq ?_))
            (repeat (refine sdq ?_))
            refine DG_end hM (by kernel_rfl) ?_
            (repeat (refine stq ?_))
            (repeat (first | refine sdq ?_ | refine DG_next (D_call rfl rfl rfl rfl rfl (k87)) ?_))
            refine DG_end hM (by kernel_rfl) ?_
            (repeat (refine stq ?_))
            refine ⟨k + 1, ⟨hk', next es⟩, by omega, ?_⟩
            (refine Le.mk ?_ ?_; all_goals (repeat' (first | exact trivial | refine sle ?_ | refine ⟨?_, rfl, ?_⟩ | refine ⟨?_, by decide, rfl, ?_⟩ | fail)))
      · have hk' : k = t.length := by omega
        subst hk'
        (repeat' (first | refine stq ?_ | (refine AL_do2 rfl ?_; first | refine ⟨_, op_callB rfl rfl rfl rfl (k95) rfl, nrmA rfl ?_⟩ | refine ⟨_, op_call1 rfl rfl rfl rfl (k95), nrmA rfl ?_⟩) | (with_reducible refine AL_id ?_); (fail_if_success (refine AL_glit rfl rfl rfl (by first | exact .inl (by with_reducible rfl) | exact .inr (by with_reducible rfl)) ?_)); first | refine AL_gdec rfl rfl rfl (fun hg => ?_) (fun hg => ?_) | refine AL_gnot rfl rfl rfl (fun hg => ?_) (fun hg => ?_) | refine AL_gcases rfl rfl rfl (fun hg => ?_) (fun hg => ?_)))
        exact ⟨_, _, rfl, rfl, by
          have : truesB d a t = d.strips.all (seenB t) := by
            unfold truesB
            rw [show ((List.range d.hours.toNat).all (stepsB d a t)) = true from List.all_eq_true.2 fun i hi => hall i (by have := List.mem_range.1 hi; omega)]
            rfl
          rw [this]; simp⟩
def fitsB (d : Drum) (acid : Int) (t : List Int) : Bool := bitI d.known acid.toNat && truesB d (d.acids.getD acid.toNat ⟨⟨0, 0⟩, ⟨0, 0⟩⟩) t
def fitsE (d : Drum) (acid : Int) (t : List Int) : Bool × Int := if drumB d && sizedB d acid t then (fitsB d acid t, 0) else (false, 2)
theorem sized_of {d : Drum} {acid : Int} {t : List Int} (h : sizedB d acid t = true) : 0 ≤ acid ∧ d.acids[acid.toNat]? = some (d.acids.getD acid.toNat ⟨⟨0, 0⟩, ⟨0, 0⟩⟩) ∧ (t.length : Int) = d.hours := by
  simp only [sizedB, inB, Bool.and_eq_true, decide_eq_true_eq] at h
  refine ⟨h.1.1, ?_, h.2⟩
  have : acid.toNat < d.acids.length := by omega
  rw [List.getD_eq_getElem?_getD]; simp [this]
theorem f64 (d : Drum) (acid : Int) (t : List Int) (hd : drumOK d) (ht : t.length ≤ 1000) : ACalls Tryz.prog 64 [eDrum d, eTruth acid t] (fun r => r = .tup [.bool (fitsE d acid t).1, vi (fitsE d acid t).2]) := by
  have k104 := f104 d hd
  have k134 := f134 d acid t hd.1 ht
  refine ACalls.of_body hT Tryz.func64 rfl (by kernel_rfl) rfl ?_
  cases q1 : drumB d with
  | false =>
    rw [q1] at k104
    (repeat' (first | refine stq ?_ | (refine AL_do2 rfl ?_; first | refine ⟨_, op_call1 rfl rfl rfl rfl (k104), nrmA rfl ?_⟩ | refine ⟨_, op_call1 rfl rfl rfl rfl (k134), nrmA rfl ?_⟩) | (with_reducible refine AL_id ?_); (fail_if_success (refine AL_glit rfl rfl rfl (by first | exact .inl (by with_reducible rfl) | exact .inr (by with_reducible rfl)) ?_)); first | refine AL_gdec rfl rfl rfl (fun hg => ?_) (fun hg => ?_) | refine AL_gnot rfl rfl rfl (fun hg => ?_) (fun hg => ?_) | refine AL_gcases rfl rfl rfl (fun hg => ?_) (fun hg => ?_)))
    exact ⟨_, _, rfl, rfl, by simp [fitsE, q1]⟩
  | true =>
    rw [q1] at k104
    cases q2 : sizedB d acid t with
    | false =>
      rw [q2] at k134
      (repeat' (first | refine stq ?_ | (refine AL_do2 rfl ?_; first | refine ⟨_, op_call1 rfl rfl rfl rfl (k104), nrmA rfl ?_⟩ | refine ⟨_, op_call1 rfl rfl rfl rfl (k134), nrmA rfl ?_⟩) | (with_reducible refine AL_id ?_); (fail_if_success (refine AL_glit rfl rfl rfl (by first | exact .inl (by with_reducible rfl) | exact .inr (by with_reducible rfl)) ?_)); first | refine AL_gdec rfl rfl rfl (fun hg => ?_) (fun hg => ?_) | refine AL_gnot rfl rfl rfl (fun hg => ?_) (fun hg => ?_) | refine AL_gcases rfl rfl rfl (fun hg => ?_) (fun hg => ?_)))
      exact ⟨_, _, rfl, rfl, by simp [fitsE, q1, q2]⟩
    | true =>
      rw [q2] at k134
      obtain ⟨h0, hac, hl⟩ := sized_of q2
      have k135 := f135 d _ acid t (drumP_of.1 q1) h0 hac hl
      (repeat' (first | refine stq ?_ | (refine AL_do2 rfl ?_; first | refine ⟨_, op_call1 rfl rfl rfl rfl (k104), nrmA rfl ?_⟩ | refine ⟨_, op_call1 rfl rfl rfl rfl (k134), nrmA rfl ?_⟩ | refine ⟨_, op_call1 rfl rfl rfl rfl (k135), nrmA rfl ?_⟩) | (with_reducible refine AL_id ?_); (fail_if_success (refine AL_glit rfl rfl rfl (by first | exact .inl (by with_reducible rfl) | exact .inr (by with_reducible rfl)) ?_)); first | refine AL_gdec rfl rfl rfl (fun hg => ?_) (fun hg => ?_) | refine AL_gnot rfl rfl rfl (fun hg => ?_) (fun hg => ?_) | refine AL_gcases rfl rfl rfl (fun hg => ?_) (fun hg => ?_)))
      exact ⟨_, _, rfl, rfl, by simp [fitsE, q1, q2, fitsB]⟩
end Go.Abs
