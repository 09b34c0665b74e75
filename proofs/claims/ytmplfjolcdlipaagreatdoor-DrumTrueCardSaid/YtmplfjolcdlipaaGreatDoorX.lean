/- Lemmas. -/
import Derived.Test.YtmplfjolcdlipaaGreatDoorNcA
import Derived.Test.YtmplfjolcdlipaaGreatDoorNcB
import Derived.Test.YtmplfjolcdlipaaGreatDoorNcC
import Derived.Test.YtmplfjolcdlipaaGreatDoorNcD
import Derived.Test.YtmplfjolcdlipaaGreatDoorNcE
import Derived.Test.YtmplfjolcdlipaaGreatDoorNcF
import Derived.Test.YtmplfjolcdlipaaGreatDoorNcG
import Derived.Test.YtmplfjolcdlipaaGreatDoorNcH
import Derived.Test.YtmplfjolcdlipaaGreatDoorDrA
import Derived.Test.YtmplfjolcdlipaaGreatDoorDrB
import Derived.Test.YtmplfjolcdlipaaGreatDoorDrC
import Derived.Test.YtmplfjolcdlipaaGreatDoorFA
import Derived.Test.YtmplfjolcdlipaaGreatDoorNcI
import Derived.Test.YtmplfjolcdlipaaGreatDoorNcJ
import Derived.Test.YtmplfjolcdlipaaGreatDoorNcK
import Derived.Test.YtmplfjolcdlipaaGreatDoorSh
import Derived.Test.YtmplfjolcdlipaaGreatDoorDrO
import Derived.Test.YtmplfjolcdlipaaGreatDoorDrD
import Derived.Test.YtmplfjolcdlipaaGreatDoorDrE
import Derived.Test.YtmplfjolcdlipaaGreatDoorDrF
import Derived.Test.YtmplfjolcdlipaaGreatDoorDrP
import Derived.Test.YtmplfjolcdlipaaGreatDoorDrQ
import Derived.Test.YtmplfjolcdlipaaGreatDoorDrR
import Derived.Test.YtmplfjolcdlipaaGreatDoorDrS
import Derived.Test.YtmplfjolcdlipaaGreatDoorDrU
import Derived.Test.YtmplfjolcdlipaaGreatDoorDrG
import Derived.Test.YtmplfjolcdlipaaGreatDoorDrV
import Derived.Test.YtmplfjolcdlipaaGreatDoorDrH
import Derived.Test.YtmplfjolcdlipaaGreatDoorDrI
import Derived.Test.YtmplfjolcdlipaaGreatDoorDrJ
import Derived.Test.YtmplfjolcdlipaaGreatDoorDrK
import Derived.Test.YtmplfjolcdlipaaGreatDoorDrL
import Derived.Test.YtmplfjolcdlipaaGreatDoorDrM
import Derived.Test.YtmplfjolcdlipaaGreatDoorDrN
import Derived.Test.YtmplfjolcdlipaaGreatDoorDrW
import Derived.Test.YtmplfjolcdlipaaGreatDoorDrBK
import Derived.Test.YtmplfjolcdlipaaGreatDoorDrBJ
import Derived.Test.YtmplfjolcdlipaaGreatDoorDrBL
set_option linter.unusedVariables false
set_option linter.unusedSimpArgs false
namespace Go.Abs
set_option linter.unusedVariables false
theorem stripped_strip {l : List Strip} {i : Nat} {s : Strip} (hs : s ∈ l) (hi : s.hour = (i : Int)) : ∀ (x : Span), s.seen - s.off ≤ (stripped l i x).low ∧ (stripped l i x).high ≤ s.seen + s.off := by
  induction l with
  | nil => cases hs
  | cons t l ih =>
    intro x
    rcases List.mem_cons.1 hs with rfl | hs
    · have := stripped_low l i (common x (stripSpan s))
      simp only [stripped, List.foldl_cons, hi, if_true] at this ⊢
      simp only [common, stripSpan] at this ⊢
      omega
    · exact ih hs _
theorem stripped_in {l : List Strip} {i : Nat} {n : Int} : ∀ {x : Span}, x.low ≤ n → n ≤ x.high → (∀ s ∈ l, s.hour = (i : Int) → s.seen - s.off ≤ n ∧ n ≤ s.seen + s.off) → (stripped l i x).low ≤ n ∧ n ≤ (stripped l i x).high := by
  induction l with
  | nil => intro x h1 h2 _; exact ⟨h1, h2⟩
  | cons s l ih =>
    intro x h1 h2 hs
    simp only [stripped, List.foldl_cons]
    have h3 := hs s (by simp)
    refine ih ?_ ?_ (fun t ht => hs t (by simp [ht]))
    · split
      · have := h3 (by assumption); simp only [common, stripSpan]; omega
      · exact h1
    · split
      · have := h3 (by assumption); simp only [common, stripSpan]; omega
      · exact h2
section
variable {d : Drum} {a : Acid}
def stepsB (d : Drum) (a : Acid) (t : List Int) (i : Nat) : Bool :=
  let s := if i = 0 then initS a (d.adds.getD 0 0) else afterS a (d.adds.getD i 0) ⟨t.getD (i - 1) 0, t.getD (i - 1) 0⟩
  inB (t.getD i 0) s.low s.high
def truesB (d : Drum) (a : Acid) (t : List Int) : Bool := (List.range d.hours.toNat).all (stepsB d a t) && d.strips.all (seenB t)
theorem steps_iff {t : List Int} : truesB d a t = true ↔ (∀ i, i < d.hours.toNat → stepsB d a t i = true) ∧ ∀ s ∈ d.strips, seenB t s = true := by
  simp [truesB, List.all_eq_true]
theorem seen_hour (hd : DrumP d) {t : List Int} (hs : ∀ s ∈ d.strips, seenB t s = true) (i : Nat) : ∀ s ∈ d.strips, s.hour = (i : Int) → s.seen - s.off ≤ t.getD i 0 ∧ t.getD i 0 ≤ s.seen + s.off := fun s h1 h2 => by
  have := hs s h1
  simp only [seenB, inB, Bool.and_eq_true, decide_eq_true_eq] at this
  rw [h2] at this
  exact this
theorem true_fwd (hd : DrumP d) (ha : AcidP a) {t : List Int} (ht : truesB d a t = true) : ∀ i, i < d.hours.toNat → (fwdS d a i).low ≤ t.getD i 0 ∧ t.getD i 0 ≤ (fwdS d a i).high
  | 0, hi => by
    obtain ⟨h1, h2⟩ := steps_iff.1 ht
    have h3 := h1 0 hi
    simp only [stepsB, if_true, inB, Bool.and_eq_true, decide_eq_true_eq] at h3
    simp only [fwdS]
    exact stripped_in h3.1 h3.2 (seen_hour hd h2 0)
  | i + 1, hi => by
    obtain ⟨h1, h2⟩ := steps_iff.1 ht
    have ih := true_fwd hd ha ht i (by omega)
    have h3 := h1 (i + 1) hi
    simp only [stepsB, Nat.add_one_ne_zero, if_false, inB, Bool.and_eq_true, decide_eq_true_eq, Nat.add_sub_cancel, afterS] at h3
    simp only [fwdS]
    refine stripped_in ?_ ?_ (seen_hour hd h2 (i + 1)) <;> simp only [afterS] <;> omega
theorem true_may (hd : DrumP d) (ha : AcidP a) {t : List Int} (ht : truesB d a t = true) : mayB d a = true :=
  mayB_iff.2 fun i hi => by have := true_fwd hd ha ht i hi; omega
theorem true_strong (hd : DrumP d) (ha : AcidP a) {t : List Int} (ht : truesB d a t = true) : ∀ k i, i + k + 1 = d.hours.toNat → (strongS d a i).low ≤ t.getD i 0 ∧ t.getD i 0 ≤ (strongS d a i).high
  | 0, i, hi => by
    have e : i = d.hours.toNat - 1 := by omega
    have := true_fwd hd ha ht i (by omega)
    rw [e, strong_last]
    rw [e] at this
    exact this
  | k + 1, i, hi => by
    have ih := true_strong hd ha ht k (i + 1) (by omega)
    have h1 := true_fwd hd ha ht i (by omega)
    have h2 := fwd_bd hd ha i
    have h3 := (steps_iff.1 ht).1 (i + 1) (by omega)
    simp only [stepsB, Nat.add_one_ne_zero, if_false, inB, Bool.and_eq_true, decide_eq_true_eq, Nat.add_sub_cancel, afterS] at h3
    have := ha.f0; have := ha.f1
    rw [strong_before (by omega)]
    simp only [common, beforeS]
    split <;> omega
theorem true_strong' (hd : DrumP d) (ha : AcidP a) {t : List Int} (ht : truesB d a t = true) {i : Nat} (hi : i < d.hours.toNat) : (strongS d a i).low ≤ t.getD i 0 ∧ t.getD i 0 ≤ (strongS d a i).high :=
  true_strong hd ha ht (d.hours.toNat - 1 - i) i (by omega)
theorem ends_get {high : Bool} {i : Nat} (hi : i < d.hours.toNat) : (endsL (strongL d a) high).getD i 0 = if high then (strongS d a i).high else (strongS d a i).low := by
  rw [List.getD_eq_getElem?_getD, endsL, List.getElem?_map, strongL_get hi]
  rfl
theorem ends_true (hd : DrumP d) (ha : AcidP a) (hm : mayB d a = true) (high : Bool) : truesB d a (endsL (strongL d a) high) = true := by
  refine steps_iff.2 ⟨fun i hi => ?_, fun s hs => ?_⟩
  · cases i with
    | zero =>
      have h1 := strong_ok' hd ha hm hi
      have h2 := stripped_low d.strips 0 (initS a (d.adds.getD 0 0))
      simp only [stepsB, if_true, inB, Bool.and_eq_true, decide_eq_true_eq]
      rw [ends_get hi]
      simp only [fwdS] at h1
      cases high <;> simp only [if_true, Bool.false_eq_true, if_false] <;> omega
    | succ i =>
      have g1 := strong_ok' hd ha hm hi
      have g2 := strong_ok' hd ha hm (i := i) (by omega)
      have g3 := fwd_step (d := d) (a := a) i
      have g4 := fwd_bd hd ha i
      have g5 := fwd_bd hd ha (i + 1)
      have g6 := add_bd hd (i + 1)
      have := ha.f0; have := ha.f1
      have e := strong_before (d := d) (a := a) hi
      simp only [stepsB, Nat.add_one_ne_zero, if_false, inB, Bool.and_eq_true, decide_eq_true_eq, Nat.add_sub_cancel, afterS]
      rw [ends_get hi, ends_get (by omega)]
      rw [e] at g2 ⊢
      simp only [afterS] at g3
      simp only [common, beforeS] at g2 ⊢
      generalize d.adds.getD (i + 1) 0 = n at *
      generalize strongS d a (i + 1) = x at *
      generalize fwdS d a (i + 1) = y at *
      generalize fwdS d a i = z at *
      by_cases hx : x.low > n
      · rw [if_pos hx] at g2 ⊢
        cases high <;> simp only [if_true, Bool.false_eq_true, if_false] <;> omega
      · rw [if_neg hx] at g2 ⊢
        cases high <;> simp only [if_true, Bool.false_eq_true, if_false] <;> omega
  · have hp := hd.strip s hs
    have := hp.h0; have := hp.h1
    have hi : s.hour.toNat < d.hours.toNat := by omega
    have h1 := strong_ok' hd ha hm hi
    simp only [seenB, inB, Bool.and_eq_true, decide_eq_true_eq]
    rw [ends_get hi]
    have h2 : s.seen - s.off ≤ (fwdS d a s.hour.toNat).low ∧ (fwdS d a s.hour.toNat).high ≤ s.seen + s.off := by
      have hh : s.hour = (s.hour.toNat : Int) := by omega
      generalize s.hour.toNat = i at *
      cases i with
      | zero => simp only [fwdS]; exact stripped_strip hs hh _
      | succ i => simp only [fwdS]; exact stripped_strip hs hh _
    cases high <;> simp only [if_true, Bool.false_eq_true, if_false] <;> omega
end
end Go.Abs
namespace Go.Abs
set_option linter.unusedVariables false
theorem foldl_hull : ∀ (l : List Span) (x : Span), (∀ s, s = x ∨ s ∈ l → (l.foldl hull2 x).low ≤ s.low ∧ s.high ≤ (l.foldl hull2 x).high) ∧ (∃ s, (s = x ∨ s ∈ l) ∧ (l.foldl hull2 x).low = s.low) ∧ ∃ s, (s = x ∨ s ∈ l) ∧ (l.foldl hull2 x).high = s.high
  | [], x => ⟨fun s h => (by rcases h with rfl | h; exact ⟨Int.le_refl _, Int.le_refl _⟩; cases h), ⟨x, .inl rfl, rfl⟩, x, .inl rfl, rfl⟩
  | y :: l, x => by
    obtain ⟨h1, ⟨s2, h2, g2⟩, s3, h3, g3⟩ := foldl_hull l (hull2 x y)
    have hx := h1 _ (.inl rfl)
    simp only [List.foldl_cons]
    refine ⟨fun s hs => ?_, ?_, ?_⟩
    · rcases hs with rfl | hs
      · simp only [hull2] at hx ⊢; omega
      · rcases List.mem_cons.1 hs with rfl | hs
        · simp only [hull2] at hx ⊢; omega
        · exact h1 s (.inr hs)
    · rcases h2 with rfl | h2
      · by_cases h : x.low ≤ y.low
        · exact ⟨x, .inl rfl, by rw [g2]; simp only [hull2]; omega⟩
        · exact ⟨y, .inr (by simp), by rw [g2]; simp only [hull2]; omega⟩
      · exact ⟨s2, .inr (by simp [h2]), g2⟩
    · rcases h3 with rfl | h3
      · by_cases h : x.high ≤ y.high
        · exact ⟨y, .inr (by simp), by rw [g3]; simp only [hull2]; omega⟩
        · exact ⟨x, .inl rfl, by rw [g3]; simp only [hull2]; omega⟩
      · exact ⟨s3, .inr (by simp [h3]), g3⟩
theorem hull_in {l : List Span} {s : Span} (h : s ∈ l) : (hullL l).low ≤ s.low ∧ s.high ≤ (hullL l).high := by
  cases l with
  | nil => cases h
  | cons x l => exact (foldl_hull l x).1 s (by rcases List.mem_cons.1 h with h | h <;> simp [h])
theorem hull_low {l : List Span} (h : l ≠ []) : ∃ s ∈ l, (hullL l).low = s.low := by
  cases l with
  | nil => exact absurd rfl h
  | cons x l =>
    obtain ⟨s, hs, h2⟩ := (foldl_hull l x).2.1
    exact ⟨s, by rcases hs with h | h <;> simp [h], h2⟩
theorem hull_high {l : List Span} (h : l ≠ []) : ∃ s ∈ l, (hullL l).high = s.high := by
  cases l with
  | nil => exact absurd rfl h
  | cons x l =>
    obtain ⟨s, hs, h2⟩ := (foldl_hull l x).2.2
    exact ⟨s, by rcases hs with h | h <;> simp [h], h2⟩
section
variable {d : Drum}
end
end Go.Abs
namespace Go.Abs
def eTruth (acid : Int) (t : List Int) : PV := .agg [vi acid, eInts t]
end Go.Abs
namespace Go.Abs
open Go.Proofs Go.RowKit
set_option linter.unusedVariables false
set_option maxRecDepth 100000
section
variable {H : Type} {enc : TypeId × Value → H} {W : World}
theorem rd80 : RdC enc Tryz.prog W 80 (fun t : Int × List Int => [vi t.1, eInts t.2]) :=
  RdC.map (t := 80) (fun x : Int × List Int × Unit => (x.1, x.2.1)) (fun x => by rfl) (RdC.strct (fs := [(3, 0), (23, 1)]) (by kernel_rfl) (by kernel_rfl) (RdF.cons 1 rd3 (by kernel_rfl) (by decide +kernel) (RdF.cons 1 rd23 (by kernel_rfl) (by decide +kernel) (RdF.nil (by kernel_rfl)))))
end
end Go.Abs
namespace Go.Abs
open Go.Proofs
set_option linter.unusedVariables false
set_option linter.unusedSimpArgs false
set_option maxRecDepth 100000
theorem f134 (d : Drum) (acid : Int) (t : List Int) (hd : d.acids.length ≤ 1000) (ht : t.length ≤ 1000) : ACalls Tryz.prog 134 [eDrum d, eTruth acid t] (fun r => r = .pv (.bool (sizedB d acid t))) := by
  refine ACalls.of_body hT Tryz.func134 rfl (by kernel_rfl) rfl ?_
  (repeat' (first | refine stq ?_ | (refine AL_do2 rfl ?_; first | refine ⟨_, op_call1 rfl rfl rfl rfl (f87 acid 0 (d.acids.length - 1)), nrmA rfl ?_⟩) | (with_reducible refine AL_id ?_); (fail_if_success (refine AL_glit rfl rfl rfl (by first | exact .inl (by with_reducible rfl) | exact .inr (by with_reducible rfl)) ?_)); first | refine AL_gdec rfl rfl rfl (fun hg => ?_) (fun hg => ?_) | refine AL_gnot rfl rfl rfl (fun hg => ?_) (fun hg => ?_) | refine AL_gcases rfl rfl rfl (fun hg => ?_) (fun hg => ?_)))
  all_goals exact ⟨_, _, rfl, rfl, by simp_all [sizedB]; try omega⟩
end Go.Abs
namespace Go.Abs
open Go.Proofs
set_option linter.unusedVariables false
set_option linter.unusedSimpArgs false
set_option maxRecDepth 100000
theorem steps_bd {d : Drum} {a : Acid} (hd : DrumP d) (ha : AcidP a) {t : List Int} : ∀ k, (∀ i, i ≤ k → stepsB d a t i = true) → 0 ≤ t.getD k 0 ∧ t.getD k 0 ≤ 100 * (k + 2)
  | 0, h => by
    have h1 := h 0 (Nat.le_refl _)
    have := ha.s0; have := ha.s2
    have := add_bd hd 0
    simp only [stepsB, if_true, inB, Bool.and_eq_true, decide_eq_true_eq, initS] at h1
    omega
  | k + 1, h => by
    have h1 := h (k + 1) (Nat.le_refl _)
    have ih := steps_bd hd ha k fun i hi => h i (by omega)
    have := ha.f0; have := ha.f1
    have := add_bd hd (k + 1)
    simp only [stepsB, Nat.add_one_ne_zero, if_false, inB, Bool.and_eq_true, decide_eq_true_eq, Nat.add_sub_cancel, afterS] at h1
    omega
abbrev fiO (d : Drum) (n : Nat) (t : List Int) (a : Acid) : List (Nat × AObj) := [(0, .box ((eDrumC d).map FV.pv)), (1, .box [.pv (vi n), .pv (eInts t)]), (2, .box ((eAcid a).map FV.pv))]
set_option maxHeartbeats 4000000 in
theorem f135 (d : Drum) (a : Acid) (acid : Int) (t : List Int) (hd : DrumP d) (h0 : 0 ≤ acid) (hac : d.acids[acid.toNat]? = some a) (ht : (t.length : Int) = d.hours) : ACalls Tryz.prog 135 [eDrum d, eTruth acid t] (fun r => r = .pv (.bool (bitI d.known acid.toNat && truesB d a t))) := by
  obtain ⟨n, rfl⟩ : ∃ n : Nat, acid = n := ⟨acid.toNat, by omega⟩
  simp only [Int.toNat_natCast] at hac ⊢
  have ha := hd.acid a (List.mem_of_getElem? hac)
  have h12 := hd.h1
  have hal := hd.al
  have k145 := f145 d.known n
  have e1 := get_map eAcid hac
  have k95 := c95 d.strips 169 [.ptr [vi n, eInts t]] (fun s => !seenB t s) (by have := hd.sl; omega) (fun s hs => f169 n t d.hours s (hd.strip s hs) h12 ht)
  rw [any_not'] at k95
  refine ACalls.of_body hT Tryz.func135 rfl (by kernel_rfl) rfl ?_
  cases q : bitI d.known n with
  | false =>
    rw [q] at k145
    (repeat' (first | refine stq ?_ | (refine AL_do2 rfl ?_; first | refine ⟨_, op_call1 rfl rfl rfl rfl (k145), nrmA rfl ?_⟩) | (with_reducible refine AL_id ?_); (fail_if_success (refine AL_glit rfl rfl rfl (by first | exact .inl (by with_reducible rfl) | exact .inr (by with_reducible rfl)) ?_)); first | refine AL_gdec rfl rfl rfl (fun hg => ?_) (fun hg => ?_) | refine AL_gnot rfl rfl rfl (fun hg => ?_) (fun hg => ?_) | refine AL_gcases rfl rfl rfl (fun hg => ?_) (fun hg => ?_)))
    exact ⟨_, _, rfl, rfl, rfl⟩
  | true =>
    rw [q] at k145
    (repeat' (first | refine stq ?_ | (refine AL_do2 rfl ?_; first | refine ⟨_, op_call1 rfl rfl rfl rfl (k145), nrmA rfl ?_⟩) | (with_reducible refine AL_id ?_); (fail_if_success (refine AL_glit rfl rfl rfl (by first | exact .inl (by with_reducible rfl) | exact .inr (by with_reducible rfl)) ?_)); first | refine AL_gdec rfl rfl rfl (fun hg => ?_) (fun hg => ?_) | refine AL_gnot rfl rfl rfl (fun hg => ?_) (fun hg => ?_) | refine AL_gcases rfl rfl rfl (fun hg => ?_) (fun hg => ?_)))
    refine AW_loopC (fun k : Nat => k ≤ t.length ∧ ∀ i, i < k → stepsB d a t i = true) (fun k => mkSt [(2, .box 0 0), (3, .box 1 0), (5, .box 2 0), (24, .pv (eInts t)), (25, .pv (vi t.length)), (26, .pv (vi k))] (fiO d n t a) 3) (fun k => t.length - k) 0 ⟨Nat.zero_le _, by simp⟩ ?_ ?_
    · (refine Le.mk ?_ ?_; all_goals (repeat' (first | exact trivial | refine sle ?_ | refine ⟨?_, rfl, ?_⟩ | refine ⟨?_, by decide, rfl, ?_⟩ | fail)))
    · rintro k ⟨hk, hall⟩
      (repeat (refine stq ?_))
      refine AW_if rfl (fun hc => ?_) (fun hc => ?_)
      · have hk' : k < t.length := by omega
        obtain ⟨x, hx⟩ : ∃ x, t[k]? = some x := ⟨t[k], by simp [hk']⟩
        obtain ⟨y, hy⟩ : ∃ y, d.adds[k]? = some y := ⟨d.adds[k]'(by omega), by simp⟩
        have e2 := get_map eInt hx
        have e3 := get_map eInt hy
        have hyb := hd.add y (List.mem_of_getElem? hy)
        have := ha.s0; have := ha.s1; have := ha.s2; have := ha.f0; have := ha.f1; have := ha.f2
        have gx : t.getD k 0 = x := by rw [List.getD_eq_getElem?_getD, hx]; rfl
        have gy : d.adds.getD k 0 = y := by rw [List.getD_eq_getElem?_getD, hy]; rfl
        have fall : stepsB d a t k = false → truesB d a t = false := fun h => by
          cases hb : truesB d a t with
          | false => rfl
          | true => have := (steps_iff.1 hb).1 k (by omega); rw [h] at this; cases this
        have next : stepsB d a t k = true → ∀ i, i < k + 1 → stepsB d a t i = true := fun h i hi => by
          by_cases hik : i = k
          · rw [hik]; exact h
          · exact hall i (by omega)
        by_cases hk0 : k = 0
        · subst hk0
          have es : stepsB d a t 0 = inB x (a.strength.low + y) (a.strength.high + y) := by
            simp only [stepsB, if_true, gx, gy, initS]
          have k87 := f87 x (a.strength.low + y) (a.strength.high + y)
          cases hb : inB x (a.strength.low + y) (a.strength.high + y) with
          | false =>
            rw [hb] at k87 es
            (repeat (refine stq ?_))
            (repeat (refine sdq ?_))
            refine DG_end hM (by kernel_rfl) ?_
            (repeat (refine stq ?_))
            (repeat (first | refine sdq ?_ | refine DG_next (D_call rfl rfl rfl rfl rfl (k87)) ?_))
            refine DG_end hM (by kernel_rfl) ?_
            (repeat (refine stq ?_))
            exact ⟨_, _, rfl, rfl, by rw [fall es]; rfl⟩
          | true =>
            rw [hb] at k87 es
            (repeat (refine stq ?_))
            (repeat (refine sdq ?_))
            refine DG_end hM (by kernel_rfl) ?_
            (repeat (refine stq ?_))
            (repeat (first | refine sdq ?_ | refine DG_next (D_call rfl rfl rfl rfl rfl (k87)) ?_))
            refine DG_end hM (by kernel_rfl) ?_
            (repeat (refine stq ?_))
            refine ⟨0 + 1, ⟨hk', next es⟩, by omega, ?_⟩
            (refine Le.mk ?_ ?_; all_goals (repeat' (first | exact trivial | refine sle ?_ | refine ⟨?_, rfl, ?_⟩ | refine ⟨?_, by decide, rfl, ?_⟩ | fail)))
        · obtain ⟨z, hz⟩ : ∃ z, t[k - 1]? = some z := ⟨t[k - 1]'(by omega), by simp⟩
          have gz : t.getD (k - 1) 0 = z := by rw [List.getD_eq_getElem?_getD, hz]; rfl
          have e4 : (t.map eInt)[((k : Int) - 1).toNat]? = some (eInt z) := by
            rw [show ((k : Int) - 1).toNat = k - 1 by omega]; exact get_map eInt hz
          have hzb := steps_bd hd ha (t := t) (k - 1) (fun i hi => hall i (by omega))
          rw [gz] at hzb
          have es : stepsB d a t k = inB x (max 0 (z - a.fall.high) + y) (max 0 (z - a.fall.low) + y) := by
            simp only [stepsB, if_neg hk0, gx, gy, gz, afterS]
          have k87 := f87 x (max 0 (z - a.fall.high) + y) (max 0 (z - a.fall.low) + y)
          have hm1 : (0 : Int) ≤ max 0 (z - a.fall.high) ∧ max 0 (z - a.fall.high) ≤ 10000 := by omega
          have hm2 : (0 : Int) ≤ max 0 (z - a.fall.low) ∧ max 0 (z - a.fall.low) ≤ 10000 := by omega
          cases hb : inB x (max 0 (z - a.fall.high) + y) (max 0 (z - a.fall.low) + y) with
          | false =>
            rw [hb] at k87 es
            (repeat (refine stq ?_))
            (repeat (refine sdq ?_))
            refine DG_end hM (by kernel_rfl) ?_
            (repeat (refine stq ?_))
            refine AW_if rfl (fun _ => ?_) (fun hc => by omega)
            (repeat (refine stq ?_))
            (repeat (refine sdq ?_))
            refine DG_end hM (by kernel_rfl) ?_
            (repeat (refine stq ?_))
            (repeat (first | refine sdq ?_ | refine DG_next (D_call rfl rfl rfl rfl rfl (k87)) ?_))
            refine DG_end hM (by kernel_rfl) ?_
            (repeat (refine stq ?_))
            exact ⟨_, _, rfl, rfl, by rw [fall es]; rfl⟩
          | true =>
            rw [hb] at k87 es
            (repeat (refine stq ?_))
            (repeat (refine sdq ?_))
            refine DG_end hM (by kernel_rfl) ?_
            (repeat (refine stq ?_))
            refine AW_if rfl (fun _ => ?_) (fun hc => by omega)
            (repeat (refine stq ?_))
            (repeat (refine sdq ?_))
            refine DG_end hM (by kernel_rfl) ?_
            (repeat (refine stq ?_))
            (repeat (first | refine sdq ?_ | refine DG_next (D_call rfl rfl rfl rfl rfl (k87)) ?_))
            refine DG_end hM (by kernel_rfl) ?_
            (repeat (refine stq ?_))
            refine ⟨k + 1, ⟨hk', next es⟩, by omega, ?_⟩
            (refine Le.mk ?_ ?_; all_goals (repeat' (first | exact trivial | refine sle ?_ | refine ⟨?_, rfl, ?_⟩ | refine ⟨?_, by decide, rfl, ?_⟩ | fail)))
      · have hk' : k = t.length := by omega
        subst hk'
        (repeat' (first | refine stq ?_ | (refine AL_do2 rfl ?_; first | refine ⟨_, op_callB rfl rfl rfl rfl (k95) rfl, nrmA rfl ?_⟩ | refine ⟨_, op_call1 rfl rfl rfl rfl (k95), nrmA rfl ?_⟩) | (with_reducible refine AL_id ?_); (fail_if_success (refine AL_glit rfl rfl rfl (by first | exact .inl (by with_reducible rfl) | exact .inr (by with_reducible rfl)) ?_)); first | refine AL_gdec rfl rfl rfl (fun hg => ?_) (fun hg => ?_) | refine AL_gnot rfl rfl rfl (fun hg => ?_) (fun hg => ?_) | refine AL_gcases rfl rfl rfl (fun hg => ?_) (fun hg => ?_)))
        exact ⟨_, _, rfl, rfl, by
          have : truesB d a t = d.strips.all (seenB t) := by
            unfold truesB
            rw [show ((List.range d.hours.toNat).all (stepsB d a t)) = true from List.all_eq_true.2 fun i hi => hall i (by have := List.mem_range.1 hi; omega)]
            rfl
          rw [this]; simp⟩
def fitsB (d : Drum) (acid : Int) (t : List Int) : Bool := bitI d.known acid.toNat && truesB d (d.acids.getD acid.toNat ⟨⟨0, 0⟩, ⟨0, 0⟩⟩) t
def fitsE (d : Drum) (acid : Int) (t : List Int) : Bool × Int := if drumB d && sizedB d acid t then (fitsB d acid t, 0) else (false, 2)
theorem sized_of {d : Drum} {acid : Int} {t : List Int} (h : sizedB d acid t = true) : 0 ≤ acid ∧ d.acids[acid.toNat]? = some (d.acids.getD acid.toNat ⟨⟨0, 0⟩, ⟨0, 0⟩⟩) ∧ (t.length : Int) = d.hours := by
  simp only [sizedB, inB, Bool.and_eq_true, decide_eq_true_eq] at h
  refine ⟨h.1.1, ?_, h.2⟩
  have : acid.toNat < d.acids.length := by omega
  rw [List.getD_eq_getElem?_getD]; simp [this]
theorem f64 (d : Drum) (acid : Int) (t : List Int) (hd : drumOK d) (ht : t.length ≤ 1000) : ACalls Tryz.prog 64 [eDrum d, eTruth acid t] (fun r => r = .tup [.bool (fitsE d acid t).1, vi (fitsE d acid t).2]) := by
  have k104 := f104 d hd
  have k134 := f134 d acid t hd.1 ht
  refine ACalls.of_body hT Tryz.func64 rfl (by kernel_rfl) rfl ?_
  cases q1 : drumB d with
  | false =>
    rw [q1] at k104
    (repeat' (first | refine stq ?_ | (refine AL_do2 rfl ?_; first | refine ⟨_, op_call1 rfl rfl rfl rfl (k104), nrmA rfl ?_⟩ | refine ⟨_, op_call1 rfl rfl rfl rfl (k134), nrmA rfl ?_⟩) | (with_reducible refine AL_id ?_); (fail_if_success (refine AL_glit rfl rfl rfl (by first | exact .inl (by with_reducible rfl) | exact .inr (by with_reducible rfl)) ?_)); first | refine AL_gdec rfl rfl rfl (fun hg => ?_) (fun hg => ?_) | refine AL_gnot rfl rfl rfl (fun hg => ?_) (fun hg => ?_) | refine AL_gcases rfl rfl rfl (fun hg => ?_) (fun hg => ?_)))
    exact ⟨_, _, rfl, rfl, by simp [fitsE, q1]⟩
  | true =>
    rw [q1] at k104
    cases q2 : sizedB d acid t with
    | false =>
      rw [q2] at k134
      (repeat' (first | refine stq ?_ | (refine AL_do2 rfl ?_; first | refine ⟨_, op_call1 rfl rfl rfl rfl (k104), nrmA rfl ?_⟩ | refine ⟨_, op_call1 rfl rfl rfl rfl (k134), nrmA rfl ?_⟩) | (with_reducible refine AL_id ?_); (fail_if_success (refine AL_glit rfl rfl rfl (by first | exact .inl (by with_reducible rfl) | exact .inr (by with_reducible rfl)) ?_)); first | refine AL_gdec rfl rfl rfl (fun hg => ?_) (fun hg => ?_) | refine AL_gnot rfl rfl rfl (fun hg => ?_) (fun hg => ?_) | refine AL_gcases rfl rfl rfl (fun hg => ?_) (fun hg => ?_)))
      exact ⟨_, _, rfl, rfl, by simp [fitsE, q1, q2]⟩
    | true =>
      rw [q2] at k134
      obtain ⟨h0, hac, hl⟩ := sized_of q2
      have k135 := f135 d _ acid t (drumP_of.1 q1) h0 hac hl
      (repeat' (first | refine stq ?_ | (refine AL_do2 rfl ?_; first | refine ⟨_, op_call1 rfl rfl rfl rfl (k104), nrmA rfl ?_⟩ | refine ⟨_, op_call1 rfl rfl rfl rfl (k134), nrmA rfl ?_⟩ | refine ⟨_, op_call1 rfl rfl rfl rfl (k135), nrmA rfl ?_⟩) | (with_reducible refine AL_id ?_); (fail_if_success (refine AL_glit rfl rfl rfl (by first | exact .inl (by with_reducible rfl) | exact .inr (by with_reducible rfl)) ?_)); first | refine AL_gdec rfl rfl rfl (fun hg => ?_) (fun hg => ?_) | refine AL_gnot rfl rfl rfl (fun hg => ?_) (fun hg => ?_) | refine AL_gcases rfl rfl rfl (fun hg => ?_) (fun hg => ?_)))
      exact ⟨_, _, rfl, rfl, by simp [fitsE, q1, q2, fitsB]⟩
end Go.Abs
