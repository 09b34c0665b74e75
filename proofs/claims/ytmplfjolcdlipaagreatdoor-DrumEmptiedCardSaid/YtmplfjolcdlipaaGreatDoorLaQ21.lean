/- The strengths of the hours, as the reference has them. -/
import Derived.Test.YtmplfjolcdlipaaGreatDoorDrBL
import Derived.Test.YtmplfjolcdlipaaGreatDoorDrG
import Derived.Test.YtmplfjolcdlipaaGreatDoorXQ21
import Derived.Test.YtmplfjolcdlipaaGreatDoorDrF
import Derived.Test.YtmplfjolcdlipaaGreatDoorDrC
set_option linter.unusedVariables false
set_option linter.unusedSimpArgs false
namespace Go.Abs
open Go.Proofs
set_option linter.unusedVariables false
set_option linter.unusedSimpArgs false
set_option maxRecDepth 100000
def hK (d : Drum) (k i : Nat) : Span := hullL ((hourL d i).take k)
end Go.Abs
namespace Go.Abs
open Go.Proofs
set_option linter.unusedVariables false
set_option linter.unusedSimpArgs false
set_option maxRecDepth 100000
end Go.Abs
namespace Go.Abs
open Go.Proofs
set_option linter.unusedVariables false
set_option linter.unusedSimpArgs false
set_option maxRecDepth 100000
end Go.Abs
namespace Go.Abs
open Go.Proofs
set_option linter.unusedVariables false
set_option linter.unusedSimpArgs false
set_option maxRecDepth 100000
end Go.Abs
namespace Go.Abs
open Go.Proofs
set_option linter.unusedVariables false
set_option linter.unusedSimpArgs false
set_option maxRecDepth 100000
theorem f63 (d : Drum) (acid : Int) (t : List Int) (hd : d.acids.length ≤ 1000) (ht : t.length ≤ 1000) : ACalls Tryz.prog 63 [eDrum d, eTruth acid t] (fun r => r = .pv (.bool (sizedB d acid t))) := by
  have k := f103 acid 0 (d.acids.length - 1)
  refine ACalls.of_body hT Tryz.func63 rfl (by kernel_rfl) rfl ?_
  (repeat' (first | refine stq ?_ | (refine AL_do2 rfl ?_; first | refine ⟨_, op_call1 rfl rfl rfl rfl (k), nrmA rfl ?_⟩) | (with_reducible refine AL_id ?_); (fail_if_success (refine AL_glit rfl rfl rfl (by first | exact .inl (by with_reducible rfl) | exact .inr (by with_reducible rfl)) ?_)); first | refine AL_gdec rfl rfl rfl (fun hg => ?_) (fun hg => ?_) | refine AL_gnot rfl rfl rfl (fun hg => ?_) (fun hg => ?_) | refine AL_gcases rfl rfl rfl (fun hg => ?_) (fun hg => ?_)))
  all_goals exact ⟨_, _, rfl, rfl, by simp_all [sizedB]; try omega⟩
set_option maxHeartbeats 8000000 in
theorem f72 (d : Drum) (a : Acid) (acid : Int) (t : List Int) (hd : DrumP d) (h0 : 0 ≤ acid) (hac : d.acids[acid.toNat]? = some a) (ht : (t.length : Int) = d.hours) : ACalls Tryz.prog 72 [eDrum d, eTruth acid t] (fun r => r = .pv (.bool (bitI d.known acid.toNat && truesB d a t))) := by
  obtain ⟨n, rfl⟩ : ∃ n : Nat, acid = n := ⟨acid.toNat, by omega⟩
  simp only [Int.toNat_natCast] at hac ⊢
  have ha := hd.acid a (List.mem_of_getElem? hac)
  have h11 := hd.h0
  have h12 := hd.h1
  have hal := hd.al
  have hnl : n < d.acids.length := (List.getElem?_eq_some_iff.1 hac).1
  have ha4 := hd.a1
  have hkb := known_bd hd
  have k68 := f68 d.known n hkb.1 hkb.2 (by omega)
  rw [← bit_has hkb.1 hkb.2 (by omega)] at k68
  have e1 := get_map eAcid hac
  have hsl := hd.sl
  have := ha.s0; have := ha.s1; have := ha.s2; have := ha.f0; have := ha.f1; have := ha.f2
  refine ACalls.of_body hT Tryz.func72 rfl (by kernel_rfl) rfl ?_
  cases q : bitI d.known n with
  | false =>
    rw [q] at k68
    (repeat' (first | refine stq ?_ | (refine AL_do2 rfl ?_; first | refine ⟨_, op_call1 rfl rfl rfl rfl (k68), nrmA rfl ?_⟩) | (with_reducible refine AL_id ?_); (fail_if_success (refine AL_glit rfl rfl rfl (by first | exact .inl (by with_reducible rfl) | exact .inr (by with_reducible rfl)) ?_)); first | refine AL_gdec rfl rfl rfl (fun hg => ?_) (fun hg => ?_) | refine AL_gnot rfl rfl rfl (fun hg => ?_) (fun hg => ?_) | refine AL_gcases rfl rfl rfl (fun hg => ?_) (fun hg => ?_)))
    exact ⟨_, _, rfl, rfl, rfl⟩
  | true =>
    rw [q] at k68
    (repeat' (first | refine stq ?_ | (refine AL_do2 rfl ?_; first | refine ⟨_, op_call1 rfl rfl rfl rfl (k68), nrmA rfl ?_⟩) | (with_reducible refine AL_id ?_); (fail_if_success (refine AL_glit rfl rfl rfl (by first | exact .inl (by with_reducible rfl) | exact .inr (by with_reducible rfl)) ?_)); first | refine AL_gdec rfl rfl rfl (fun hg => ?_) (fun hg => ?_) | refine AL_gnot rfl rfl rfl (fun hg => ?_) (fun hg => ?_) | refine AL_gcases rfl rfl rfl (fun hg => ?_) (fun hg => ?_)))
    refine AW_loopC (fun k : Nat => k ≤ t.length ∧ ∀ i, i < k → stepsB d a t i = true) (fun k => mkSt [(2, .box 0 0), (3, .box 1 0), (5, .box 2 0), (6, .pv (vi k))] (fiO d n t a) 3) (fun k => t.length - k) 0 ⟨Nat.zero_le _, by simp⟩ ?_ ?_
    · (refine Le.mk ?_ ?_; all_goals (repeat' (first | exact trivial | refine sle ?_ | refine ⟨?_, rfl, ?_⟩ | refine ⟨?_, by decide, rfl, ?_⟩ | fail)))
    · rintro k ⟨hk, hall⟩
      (repeat (refine stq ?_))
      refine AW_if rfl (fun hc => ?_) (fun hc => ?_)
      · have hk' : k < t.length := by omega
        obtain ⟨x, hx⟩ : ∃ x, t[k]? = some x := ⟨t[k], by simp [hk']⟩
        obtain ⟨y, hy⟩ : ∃ y, d.adds[k]? = some y := ⟨d.adds[k]'(by omega), by simp⟩
        obtain ⟨z0, hz0⟩ : ∃ z, d.adds[0]? = some z := ⟨d.adds[0]'(by omega), by simp⟩
        have ez0 : (d.adds.map eInt)[(0 : Int).toNat]? = some (eInt z0) := get_map eInt hz0
        have hz0b := hd.add z0 (List.mem_of_getElem? hz0)
        have e2 := get_map eInt hx
        have e3 := get_map eInt hy
        have hyb := hd.add y (List.mem_of_getElem? hy)
        have gx : t.getD k 0 = x := by rw [List.getD_eq_getElem?_getD, hx]; rfl
        have gy : d.adds.getD k 0 = y := by rw [List.getD_eq_getElem?_getD, hy]; rfl
        have fall : stepsB d a t k = false → truesB d a t = false := fun h => by
          cases hb : truesB d a t with
          | false => rfl
          | true => have := (steps_iff.1 hb).1 k (by omega); rw [h] at this; cases this
        have next : stepsB d a t k = true → ∀ i, i < k + 1 → stepsB d a t i = true := fun h i hi => by
          by_cases hik : i = k
          · rw [hik]; exact h
          · exact hall i (by omega)
        (repeat (refine stq ?_))
        iterate 17 (refine sdq ?_)
        refine DG_next (D_allocE hT rfl rfl rfl rfl) ?_
        refine DG_next (D_storeE hT rfl rfl rfl rfl rfl rfl rfl rfl rfl rfl) ?_
        refine DG_end hM (by kernel_rfl) ?_
        (repeat (refine stq ?_))
        by_cases hk0 : k = 0
        · subst hk0
          have hyz : y = z0 := Option.some.inj (hy.symm.trans hz0)
          subst hyz
          have es : stepsB d a t 0 = inB x (a.strength.low + y) (a.strength.high + y) := by
            simp only [stepsB, if_true, gx, gy, initS]
          have k103 := f103 x (a.strength.low + y) (a.strength.high + y)
          refine AW_if rfl (fun hc => by omega) (fun _ => ?_)
          cases hb : inB x (a.strength.low + y) (a.strength.high + y) with
          | false =>
            rw [hb] at k103 es
            (repeat (refine stq ?_))
            (repeat (first | refine sdq ?_ | refine DG_next (D_call rfl rfl rfl rfl rfl (k103)) ?_))
            refine DG_end hM (by kernel_rfl) ?_
            (repeat (refine stq ?_))
            exact ⟨_, _, rfl, rfl, by rw [fall es]; rfl⟩
          | true =>
            rw [hb] at k103 es
            (repeat (refine stq ?_))
            (repeat (first | refine sdq ?_ | refine DG_next (D_call rfl rfl rfl rfl rfl (k103)) ?_))
            refine DG_end hM (by kernel_rfl) ?_
            (repeat (refine stq ?_))
            refine ⟨0 + 1, ⟨hk', next es⟩, by omega, ?_⟩
            (refine Le.mk ?_ ?_; all_goals (repeat' (first | exact trivial | refine sle ?_ | refine ⟨?_, rfl, ?_⟩ | refine ⟨?_, by decide, rfl, ?_⟩ | fail)))
        · obtain ⟨z, hz⟩ : ∃ z, t[k - 1]? = some z := ⟨t[k - 1]'(by omega), by simp⟩
          have gz : t.getD (k - 1) 0 = z := by rw [List.getD_eq_getElem?_getD, hz]; rfl
          have e4 : (t.map eInt)[((k : Int) - 1).toNat]? = some (eInt z) := by
            rw [show ((k : Int) - 1).toNat = k - 1 by omega]; exact get_map eInt hz
          have hzb := steps_bd hd ha (t := t) (k - 1) (fun i hi => hall i (by omega))
          rw [gz] at hzb
          have haf : afterS a y ⟨z, z⟩ = ⟨max 0 (z - a.fall.high) + y, max 0 (z - a.fall.low) + y⟩ := rfl
          have k139 := f139 a y ⟨z, z⟩ ha hyb ⟨by simp only; omega, by simp only; omega, by simp only; omega, by simp only; omega⟩
          rw [haf] at k139
          have es : stepsB d a t k = inB x (max 0 (z - a.fall.high) + y) (max 0 (z - a.fall.low) + y) := by
            simp only [stepsB, if_neg hk0, gx, gy, gz, afterS]
          have k103 := f103 x (max 0 (z - a.fall.high) + y) (max 0 (z - a.fall.low) + y)
          refine AW_if rfl (fun _ => ?_) (fun hc => by omega)
          cases hb : inB x (max 0 (z - a.fall.high) + y) (max 0 (z - a.fall.low) + y) with
          | false =>
            rw [hb] at k103 es
            (repeat (refine stq ?_))
            (repeat (first | refine sdq ?_ | refine DG_next (D_call rfl rfl rfl rfl rfl (k139)) ?_))
            refine DG_end hM (by kernel_rfl) ?_
            (repeat (refine stq ?_))
            (repeat (first | refine sdq ?_ | refine DG_next (D_call rfl rfl rfl rfl rfl (k103)) ?_))
            refine DG_end hM (by kernel_rfl) ?_
            (repeat (refine stq ?_))
            exact ⟨_, _, rfl, rfl, by rw [fall es]; rfl⟩
          | true =>
            rw [hb] at k103 es
            (repeat (refine stq ?_))
            (repeat (first | refine sdq ?_ | refine DG_next (D_call rfl rfl rfl rfl rfl (k139)) ?_))
            refine DG_end hM (by kernel_rfl) ?_
            (repeat (refine stq ?_))
            (repeat (first | refine sdq ?_ | refine DG_next (D_call rfl rfl rfl rfl rfl (k103)) ?_))
            refine DG_end hM (by kernel_rfl) ?_
            (repeat (refine stq ?_))
            refine ⟨k + 1, ⟨hk', next es⟩, by omega, ?_⟩
            (refine Le.mk ?_ ?_; all_goals (repeat' (first | exact trivial | refine sle ?_ | refine ⟨?_, rfl, ?_⟩ | refine ⟨?_, by decide, rfl, ?_⟩ | fail)))
      · have hk' : k = t.length := by omega
        subst hk'
        have hts : truesB d a t = d.strips.all (seenB t) := by
          unfold truesB
          rw [show ((List.range d.hours.toNat).all (stepsB d a t)) = true from List.all_eq_true.2 fun i hi => hall i (by have := List.mem_range.1 hi; omega)]
          rfl
        (repeat (refine stq ?_))
        refine AW_loopC (fun k : Nat => k ≤ d.strips.length ∧ ∀ x ∈ d.strips.take k, seenB t x = true) (fun k => mkSt [(2, .box 0 0), (3, .box 1 0), (8, .pv (vi k))] [(0, .box ((eDrumC d).map FV.pv)), (1, .box [.pv (vi n), .pv (eInts t)])] 3) (fun k => d.strips.length - k) 0 ⟨Nat.zero_le _, by simp⟩ ?_ ?_
        · (refine Le.mk ?_ ?_; all_goals (repeat' (first | exact trivial | refine sle ?_ | refine ⟨?_, rfl, ?_⟩ | refine ⟨?_, by decide, rfl, ?_⟩ | fail)))
        · rintro k ⟨hk, hall2⟩
          (repeat (refine stq ?_))
          refine AW_if rfl (fun hc2 => ?_) (fun hc2 => ?_)
          · have hk' : k < d.strips.length := by omega
            obtain ⟨s, hs⟩ : ∃ x, d.strips[k]? = some x := ⟨d.strips[k], by simp [hk']⟩
            have e5 := get_map eStrip hs
            have hP := hd.strip s (List.mem_of_getElem? hs)
            have := hP.h0; have := hP.h1; have := hP.s0; have := hP.s1; have := hP.o0; have := hP.o1
            obtain ⟨x, hx⟩ : ∃ x, t[s.hour.toNat]? = some x := ⟨t[s.hour.toNat]'(by omega), by simp⟩
            have e6 := get_map eInt hx
            have e7 : seenB t s = inB x (s.seen - s.off) (s.seen + s.off) := by unfold seenB; rw [List.getD_eq_getElem?_getD, hx]; rfl
            have k103 := f103 x (s.seen - s.off) (s.seen + s.off)
            rw [← e7] at k103
            cases hb : seenB t s with
            | false =>
              rw [hb] at k103
              (repeat (refine stq ?_))
              (repeat (first | refine sdq ?_ | refine DG_next (D_call rfl rfl rfl rfl rfl (k103)) ?_))
              refine DG_end hM (by kernel_rfl) ?_
              (repeat (refine stq ?_))
              exact ⟨_, _, rfl, rfl, by
                rw [hts]
                rw [show d.strips.all (seenB t) = false from List.all_eq_false.2 ⟨s, List.mem_of_getElem? hs, by rw [hb]; decide⟩]; rfl⟩
            | true =>
              rw [hb] at k103
              (repeat (refine stq ?_))
              (repeat (first | refine sdq ?_ | refine DG_next (D_call rfl rfl rfl rfl rfl (k103)) ?_))
              refine DG_end hM (by kernel_rfl) ?_
              (repeat (refine stq ?_))
              refine ⟨k + 1, ⟨hk', fun x hx => ?_⟩, by omega, ?_⟩
              · rw [List.take_add_one, List.mem_append] at hx
                rcases hx with hx | hx
                · exact hall2 x hx
                · rw [hs] at hx; simp at hx; rw [hx]; exact hb
              · (refine Le.mk ?_ ?_; all_goals (repeat' (first | exact trivial | refine sle ?_ | refine ⟨?_, rfl, ?_⟩ | refine ⟨?_, by decide, rfl, ?_⟩ | fail)))
          · have hk' : k = d.strips.length := by omega
            subst hk'
            (repeat (refine stq ?_))
            exact ⟨_, _, rfl, rfl, by
              rw [hts, List.all_eq_true.2 fun x hx => hall2 x (by rw [List.take_length]; exact hx)]; rfl⟩
end Go.Abs
namespace Go.Abs
open Go.Proofs
set_option linter.unusedVariables false
set_option linter.unusedSimpArgs false
set_option maxRecDepth 100000
theorem f23' (d : Drum) : ACalls Tryz.prog 23 [eDrum d] (fun r => r = .pv (.bool (shortB d))) := by
  refine ACalls.of_body hT Tryz.func23 rfl (by kernel_rfl) rfl ?_
  (repeat' (first | refine stq ?_ | (with_reducible refine AL_id ?_); (fail_if_success (refine AL_glit rfl rfl rfl (by first | exact .inl (by with_reducible rfl) | exact .inr (by with_reducible rfl)) ?_)); first | refine AL_gdec rfl rfl rfl (fun hg => ?_) (fun hg => ?_) | refine AL_gnot rfl rfl rfl (fun hg => ?_) (fun hg => ?_) | refine AL_gcases rfl rfl rfl (fun hg => ?_) (fun hg => ?_)))
  all_goals exact ⟨_, _, rfl, rfl, congrArg (fun b => RV.pv (PV.bool b)) (by unfold shortB; rw [Bool.eq_iff_iff]; simp only [Bool.and_eq_true, decide_eq_true_eq, Bool.false_eq_true, false_iff]; omega)⟩
theorem short_ok {d : Drum} (h : shortB d = true) : drumOK d := by
  simp only [shortB, Bool.and_eq_true, decide_eq_true_eq] at h
  exact ⟨by omega, by omega, by omega, by omega⟩
theorem spans_same (l : List Span) (h : l.length ≤ 1000) : ACalls Tryz.prog 28 [eSpans l, eSpans l] (fun r => r = .pv (.bool true)) := same_of (f28 l l h) rfl
end Go.Abs
namespace Go.Abs
open Go.Proofs
set_option linter.unusedVariables false
set_option linter.unusedSimpArgs false
set_option maxRecDepth 100000
theorem f72' {d : Drum} {acid : Int} {t : List Int} (hP : DrumP d) (h : sizedB d acid t = true) : ACalls Tryz.prog 72 [eDrum d, eTruth acid t] (fun r => r = .pv (.bool (fitsB d acid t))) := by
  obtain ⟨h0, h1, h2⟩ := sized_of h
  exact f72 d _ acid t hP h0 h1 h2
end Go.Abs
