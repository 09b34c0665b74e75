/- Lemmas. -/
import Derived.Test.YtmplfjolcdlipaaGreatDoorNcA
import Derived.Test.YtmplfjolcdlipaaGreatDoorNcB
import Derived.Test.YtmplfjolcdlipaaGreatDoorNcC
import Derived.Test.YtmplfjolcdlipaaGreatDoorNcD
import Derived.Test.YtmplfjolcdlipaaGreatDoorNcE
import Derived.Test.YtmplfjolcdlipaaGreatDoorNcF
import Derived.Test.YtmplfjolcdlipaaGreatDoorNcG
import Derived.Test.YtmplfjolcdlipaaGreatDoorNcH
import Derived.Test.YtmplfjolcdlipaaGreatDoorDrA
import Derived.Test.YtmplfjolcdlipaaGreatDoorDrB
import Derived.Test.YtmplfjolcdlipaaGreatDoorDrC
import Derived.Test.YtmplfjolcdlipaaGreatDoorFA
import Derived.Test.YtmplfjolcdlipaaGreatDoorNcI
import Derived.Test.YtmplfjolcdlipaaGreatDoorNcJ
import Derived.Test.YtmplfjolcdlipaaGreatDoorNcK
import Derived.Test.YtmplfjolcdlipaaGreatDoorSh
import Derived.Test.YtmplfjolcdlipaaGreatDoorDrO
import Derived.Test.YtmplfjolcdlipaaGreatDoorDrD
import Derived.Test.YtmplfjolcdlipaaGreatDoorDrE
import Derived.Test.YtmplfjolcdlipaaGreatDoorDrF
import Derived.Test.YtmplfjolcdlipaaGreatDoorDrP
import Derived.Test.YtmplfjolcdlipaaGreatDoorDrQ
import Derived.Test.YtmplfjolcdlipaaGreatDoorDrR
import Derived.Test.YtmplfjolcdlipaaGreatDoorDrS
import Derived.Test.YtmplfjolcdlipaaGreatDoorDrU
import Derived.Test.YtmplfjolcdlipaaGreatDoorDrG
import Derived.Test.YtmplfjolcdlipaaGreatDoorDrV
import Derived.Test.YtmplfjolcdlipaaGreatDoorDrH
import Derived.Test.YtmplfjolcdlipaaGreatDoorDrI
import Derived.Test.YtmplfjolcdlipaaGreatDoorDrJ
import Derived.Test.YtmplfjolcdlipaaGreatDoorDrK
import Derived.Test.YtmplfjolcdlipaaGreatDoorDrL
import Derived.Test.YtmplfjolcdlipaaGreatDoorDrM
import Derived.Test.YtmplfjolcdlipaaGreatDoorDrN
import Derived.Test.YtmplfjolcdlipaaGreatDoorDrW
import Derived.Test.YtmplfjolcdlipaaGreatDoorDrBK
import Derived.Test.YtmplfjolcdlipaaGreatDoorDrBJ
import Derived.Test.YtmplfjolcdlipaaGreatDoorDrBL
set_option linter.unusedVariables false
set_option linter.unusedSimpArgs false
namespace Go.Abs
set_option linter.unusedVariables false
theorem stripped_in {l : List Strip} {i : Nat} {n : Int} : ∀ {x : Span}, x.low ≤ n → n ≤ x.high → (∀ s ∈ l, s.hour = (i : Int) → s.seen - s.off ≤ n ∧ n ≤ s.seen + s.off) → (stripped l i x).low ≤ n ∧ n ≤ (stripped l i x).high := by
  induction l with
  | nil => intro x h1 h2 _; exact ⟨h1, h2⟩
  | cons s l ih =>
    intro x h1 h2 hs
    simp only [stripped, List.foldl_cons]
    have h3 := hs s (by simp)
    refine ih ?_ ?_ (fun t ht => hs t (by simp [ht]))
    · split
      · have := h3 (by assumption); simp only [common, stripSpan]; omega
      · exact h1
    · split
      · have := h3 (by assumption); simp only [common, stripSpan]; omega
      · exact h2
section
variable {d : Drum} {a : Acid}
def stepsB (d : Drum) (a : Acid) (t : List Int) (i : Nat) : Bool :=
  let s := if i = 0 then initS a (d.adds.getD 0 0) else afterS a (d.adds.getD i 0) ⟨t.getD (i - 1) 0, t.getD (i - 1) 0⟩
  inB (t.getD i 0) s.low s.high
def truesB (d : Drum) (a : Acid) (t : List Int) : Bool := (List.range d.hours.toNat).all (stepsB d a t) && d.strips.all (seenB t)
theorem steps_iff {t : List Int} : truesB d a t = true ↔ (∀ i, i < d.hours.toNat → stepsB d a t i = true) ∧ ∀ s ∈ d.strips, seenB t s = true := by
  simp [truesB, List.all_eq_true]
theorem seen_hour (hd : DrumP d) {t : List Int} (hs : ∀ s ∈ d.strips, seenB t s = true) (i : Nat) : ∀ s ∈ d.strips, s.hour = (i : Int) → s.seen - s.off ≤ t.getD i 0 ∧ t.getD i 0 ≤ s.seen + s.off := fun s h1 h2 => by
  have := hs s h1
  simp only [seenB, inB, Bool.and_eq_true, decide_eq_true_eq] at this
  rw [h2] at this
  exact this
theorem true_fwd (hd : DrumP d) (ha : AcidP a) {t : List Int} (ht : truesB d a t = true) : ∀ i, i < d.hours.toNat → (fwdS d a i).low ≤ t.getD i 0 ∧ t.getD i 0 ≤ (fwdS d a i).high
  | 0, hi => by
    obtain ⟨h1, h2⟩ := steps_iff.1 ht
    have h3 := h1 0 hi
    simp only [stepsB, if_true, inB, Bool.and_eq_true, decide_eq_true_eq] at h3
    simp only [fwdS]
    exact stripped_in h3.1 h3.2 (seen_hour hd h2 0)
  | i + 1, hi => by
    obtain ⟨h1, h2⟩ := steps_iff.1 ht
    have ih := true_fwd hd ha ht i (by omega)
    have h3 := h1 (i + 1) hi
    simp only [stepsB, Nat.add_one_ne_zero, if_false, inB, Bool.and_eq_true, decide_eq_true_eq, Nat.add_sub_cancel, afterS] at h3
    simp only [fwdS]
    refine stripped_in ?_ ?_ (seen_hour hd h2 (i + 1)) <;> simp only [afterS] <;> omega
theorem true_may (hd : DrumP d) (ha : AcidP a) {t : List Int} (ht : truesB d a t = true) : mayB d a = true :=
  mayB_iff.2 fun i hi => by have := true_fwd hd ha ht i hi; omega
theorem true_strong (hd : DrumP d) (ha : AcidP a) {t : List Int} (ht : truesB d a t = true) : ∀ k i, i + k + 1 = d.hours.toNat → (strongS d a i).low ≤ t.getD i 0 ∧ t.getD i 0 ≤ (strongS d a i).high
  | 0, i, hi => by
    have e : i = d.hours.toNat - 1 := by omega
    have := true_fwd hd ha ht i (by omega)
    rw [e, strong_last]
    rw [e] at this
    exact this
  | k + 1, i, hi => by
    have ih := true_strong hd ha ht k (i + 1) (by omega)
    have h1 := true_fwd hd ha ht i (by omega)
    have h2 := fwd_bd hd ha i
    have h3 := (steps_iff.1 ht).1 (i + 1) (by omega)
    simp only [stepsB, Nat.add_one_ne_zero, if_false, inB, Bool.and_eq_true, decide_eq_true_eq, Nat.add_sub_cancel, afterS] at h3
    have := ha.f0; have := ha.f1
    rw [strong_before (by omega)]
    simp only [common, beforeS]
    split <;> omega
theorem true_strong' (hd : DrumP d) (ha : AcidP a) {t : List Int} (ht : truesB d a t = true) {i : Nat} (hi : i < d.hours.toNat) : (strongS d a i).low ≤ t.getD i 0 ∧ t.getD i 0 ≤ (strongS d a i).high :=
  true_strong hd ha ht (d.hours.toNat - 1 - i) i (by omega)
theorem ends_get {high : Bool} {i : Nat} (hi : i < d.hours.toNat) : (endsL (strongL d a) high).getD i 0 = if high then (strongS d a i).high else (strongS d a i).low := by
  rw [List.getD_eq_getElem?_getD, endsL, List.getElem?_map, strongL_get hi]
  rfl
end
end Go.Abs
namespace Go.Abs
set_option linter.unusedVariables false
theorem foldl_hull : ∀ (l : List Span) (x : Span), (∀ s, s = x ∨ s ∈ l → (l.foldl hull2 x).low ≤ s.low ∧ s.high ≤ (l.foldl hull2 x).high) ∧ (∃ s, (s = x ∨ s ∈ l) ∧ (l.foldl hull2 x).low = s.low) ∧ ∃ s, (s = x ∨ s ∈ l) ∧ (l.foldl hull2 x).high = s.high
  | [], x => ⟨fun s h => (by rcases h with rfl | h; exact ⟨Int.le_refl _, Int.le_refl _⟩; cases h), ⟨x, .inl rfl, rfl⟩, x, .inl rfl, rfl⟩
  | y :: l, x => by
    obtain ⟨h1, ⟨s2, h2, g2⟩, s3, h3, g3⟩ := foldl_hull l (hull2 x y)
    have hx := h1 _ (.inl rfl)
    simp only [List.foldl_cons]
    refine ⟨fun s hs => ?_, ?_, ?_⟩
    · rcases hs with rfl | hs
      · simp only [hull2] at hx ⊢; omega
      · rcases List.mem_cons.1 hs with rfl | hs
        · simp only [hull2] at hx ⊢; omega
        · exact h1 s (.inr hs)
    · rcases h2 with rfl | h2
      · by_cases h : x.low ≤ y.low
        · exact ⟨x, .inl rfl, by rw [g2]; simp only [hull2]; omega⟩
        · exact ⟨y, .inr (by simp), by rw [g2]; simp only [hull2]; omega⟩
      · exact ⟨s2, .inr (by simp [h2]), g2⟩
    · rcases h3 with rfl | h3
      · by_cases h : x.high ≤ y.high
        · exact ⟨y, .inr (by simp), by rw [g3]; simp only [hull2]; omega⟩
        · exact ⟨x, .inl rfl, by rw [g3]; simp only [hull2]; omega⟩
      · exact ⟨s3, .inr (by simp [h3]), g3⟩
theorem hull_in {l : List Span} {s : Span} (h : s ∈ l) : (hullL l).low ≤ s.low ∧ s.high ≤ (hullL l).high := by
  cases l with
  | nil => cases h
  | cons x l => exact (foldl_hull l x).1 s (by rcases List.mem_cons.1 h with h | h <;> simp [h])
theorem hull_low {l : List Span} (h : l ≠ []) : ∃ s ∈ l, (hullL l).low = s.low := by
  cases l with
  | nil => exact absurd rfl h
  | cons x l =>
    obtain ⟨s, hs, h2⟩ := (foldl_hull l x).2.1
    exact ⟨s, by rcases hs with h | h <;> simp [h], h2⟩
theorem hull_high {l : List Span} (h : l ≠ []) : ∃ s ∈ l, (hullL l).high = s.high := by
  cases l with
  | nil => exact absurd rfl h
  | cons x l =>
    obtain ⟨s, hs, h2⟩ := (foldl_hull l x).2.2
    exact ⟨s, by rcases hs with h | h <;> simp [h], h2⟩
theorem eat_nonneg {n p : Int} (hn : 0 ≤ n) (hp : 0 ≤ p) : 0 ≤ eatI n p := by
  unfold eatI
  rw [Int.tdiv_eq_ediv_of_nonneg (Int.mul_nonneg hn hp)]
  exact Int.ediv_nonneg (Int.mul_nonneg hn hp) (by decide)
theorem eat_mono {n m p : Int} (hn : 0 ≤ n) (hm : n ≤ m) (hp : 0 ≤ p) : eatI n p ≤ eatI m p := by
  unfold eatI
  rw [Int.tdiv_eq_ediv_of_nonneg (Int.mul_nonneg hn hp), Int.tdiv_eq_ediv_of_nonneg (Int.mul_nonneg (by omega) hp)]
  exact Int.ediv_le_ediv (by decide) (Int.mul_le_mul_of_nonneg_right hm hp)
def eaten (t : List Int) (p : Int) (h : Nat) : Int := sumI ((t.take h).map fun n => eatI n p)
theorem eaten_succ {t : List Int} {h : Nat} (hh : h < t.length) (p : Int) : eaten t p (h + 1) = eaten t p h + eatI (t.getD h 0) p := by
  unfold eaten
  rw [List.take_add_one, List.map_append, sumI_append, List.getD_eq_getElem?_getD]
  simp [hh, sumI]
theorem eaten_mono {t u : List Int} {p : Int} (hp : 0 ≤ p) : ∀ h, h ≤ t.length → h ≤ u.length → (∀ i, i < h → 0 ≤ t.getD i 0 ∧ t.getD i 0 ≤ u.getD i 0) → eaten t p h ≤ eaten u p h
  | 0, _, _, _ => by simp [eaten]
  | h + 1, h1, h2, hi => by
    have ih := eaten_mono hp h (by omega) (by omega) (fun i hh => hi i (by omega))
    have := hi h (by omega)
    have := eat_mono this.1 this.2 hp
    rw [eaten_succ (by omega), eaten_succ (by omega)]
    omega
theorem state_def (b : Batch) (t : List Int) (h : Nat) : stateI b t h = ⟨max 0 (b.rough - eaten t b.polish h), max 0 (b.thick - eaten t b.eat h)⟩ := rfl
theorem state_mono {b : Batch} (hb : BatchP3 b) {t u : List Int} {h : Nat} (h1 : h ≤ t.length) (h2 : h ≤ u.length) (hi : ∀ i, i < h → 0 ≤ t.getD i 0 ∧ t.getD i 0 ≤ u.getD i 0) : (stateI b u h).rough ≤ (stateI b t h).rough ∧ (stateI b u h).thick ≤ (stateI b t h).thick := by
  have := eaten_mono hb.p0 h h1 h2 hi
  have := eaten_mono hb.e0 h h1 h2 hi
  simp only [state_def]; omega
theorem state_later {b : Batch} (hb : BatchP3 b) {t : List Int} {h : Nat} (h1 : h < t.length) (h0 : 0 ≤ t.getD h 0) : (stateI b t (h + 1)).rough ≤ (stateI b t h).rough ∧ (stateI b t (h + 1)).thick ≤ (stateI b t h).thick := by
  have := eat_nonneg h0 hb.p0
  have := eat_nonneg h0 hb.e0
  simp only [state_def, eaten_succ h1]; omega
section
variable {d : Drum}
theorem ends_nonneg (hd : DrumP d) {p : Acid × Nat} (hp : p ∈ filledL d) (high : Bool) {i : Nat} (hi : i < d.hours.toNat) : 0 ≤ (endsL (strongL d p.1) high).getD i 0 := by
  have := strong_bd hd (filled_acid hd hp) (filled_mem.1 hp).2.2 hi
  rw [ends_get hi]
  cases high <;> simp only [if_true, Bool.false_eq_true, if_false] <;> omega
theorem state_bounds (hd : DrumP d) {b : Batch} (hb : BatchP3 b) {p : Acid × Nat} (hp : p ∈ filledL d) {t : List Int} (hl : t.length = d.hours.toNat) (ht : truesB d p.1 t = true) {h : Nat} (hh : h ≤ d.hours.toNat) :
    (boundsI d b h).rough.low ≤ (stateI b t h).rough ∧ (stateI b t h).rough ≤ (boundsI d b h).rough.high ∧ (boundsI d b h).thick.low ≤ (stateI b t h).thick ∧ (stateI b t h).thick ≤ (boundsI d b h).thick.high := by
  have ha := filled_acid hd hp
  have hm := (filled_mem.1 hp).2.2
  have h1 := hull_in (List.mem_map_of_mem (f := fun p : Acid × Nat => (⟨(hardS d b h p).rough, (weakS d b h p).rough⟩ : Span)) hp)
  have h2 := hull_in (List.mem_map_of_mem (f := fun p : Acid × Nat => (⟨(hardS d b h p).thick, (weakS d b h p).thick⟩ : Span)) hp)
  have g1 : (stateI b t h).rough ≤ (weakS d b h p).rough ∧ (stateI b t h).thick ≤ (weakS d b h p).thick := by
    refine state_mono hb (by rw [ends_len]; exact hh) (by omega) fun i hi => ?_
    have := true_strong' hd ha ht (i := i) (by omega)
    have := strong_bd hd ha hm (i := i) (by omega)
    rw [ends_get (by omega)]
    simp only [Bool.false_eq_true, if_false]; omega
  have g2 : (hardS d b h p).rough ≤ (stateI b t h).rough ∧ (hardS d b h p).thick ≤ (stateI b t h).thick := by
    refine state_mono hb (by omega) (by rw [ends_len]; exact hh) fun i hi => ?_
    have := true_strong' hd ha ht (i := i) (by omega)
    have := strong_bd hd ha hm (i := i) (by omega)
    rw [ends_get (by omega)]
    simp only [if_true]; omega
  dsimp only at h1 h2
  simp only [boundsI]
  omega
theorem bounds_later (hd : DrumP d) (hne : filledL d ≠ []) {b : Batch} (hb : BatchP3 b) {h : Nat} (hh : h < d.hours.toNat) : (boundsI d b (h + 1)).rough.high ≤ (boundsI d b h).rough.high ∧ (boundsI d b (h + 1)).thick.low ≤ (boundsI d b h).thick.low := by
  have hne1 : (filledL d).map (fun p : Acid × Nat => (⟨(hardS d b (h + 1) p).rough, (weakS d b (h + 1) p).rough⟩ : Span)) ≠ [] := by simpa using hne
  have hne2 : (filledL d).map (fun p : Acid × Nat => (⟨(hardS d b h p).thick, (weakS d b h p).thick⟩ : Span)) ≠ [] := by simpa using hne
  obtain ⟨s, hs, e1⟩ := hull_high hne1
  obtain ⟨x, hx, rfl⟩ := List.mem_map.1 hs
  obtain ⟨t, ht, e2⟩ := hull_low hne2
  obtain ⟨y, hy, rfl⟩ := List.mem_map.1 ht
  have h1 := hull_in (List.mem_map_of_mem (f := fun p : Acid × Nat => (⟨(hardS d b h p).rough, (weakS d b h p).rough⟩ : Span)) hx)
  have h2 := hull_in (List.mem_map_of_mem (f := fun p : Acid × Nat => (⟨(hardS d b (h + 1) p).thick, (weakS d b (h + 1) p).thick⟩ : Span)) hy)
  have g1 := (state_later hb (t := endsL (strongL d x.1) false) (h := h) (by rw [ends_len]; exact hh) (ends_nonneg hd hx false hh)).1
  have g2 := (state_later hb (t := endsL (strongL d y.1) true) (h := h) (by rw [ends_len]; exact hh) (ends_nonneg hd hy true hh)).2
  dsimp only at h1 h2 e1 e2
  simp only [boundsI]
  simp only [weakS, hardS] at h1 h2 e1 e2 g1 g2 ⊢
  omega
theorem bounds_until (hd : DrumP d) (hne : filledL d ≠ []) {b : Batch} (hb : BatchP3 b) {h : Nat} : ∀ k, h + k ≤ d.hours.toNat → (boundsI d b (h + k)).rough.high ≤ (boundsI d b h).rough.high ∧ (boundsI d b (h + k)).thick.low ≤ (boundsI d b h).thick.low
  | 0, _ => ⟨Int.le_refl _, Int.le_refl _⟩
  | k + 1, hk => by
    have h1 := bounds_until hd hne hb (h := h) k (by omega)
    have h2 := bounds_later hd hne hb (h := h + k) (by omega)
    rw [show h + (k + 1) = h + k + 1 by omega]; omega
theorem smooth_spec (hd : DrumP d) (hne : filledL d ≠ []) {b : Batch} (hb : BatchP3 b) {h : Nat} (hh : h ≤ d.hours.toNat) : (boundsI d b h).rough.high ≤ b.goal ↔ 0 ≤ smoothI d b ∧ smoothI d b ≤ h := by
  unfold smoothI
  rcases firstI_spec (fun h => decide ((boundsI d b h).rough.high ≤ b.goal)) (d.hours.toNat + 1) 0 with ⟨h1, h2⟩ | ⟨n, h1, h2, h3, h4, h5⟩
  · rw [h1]
    have := h2 h (by omega) (by omega)
    simp only [decide_eq_false_iff_not] at this
    exact ⟨fun h => absurd h this, fun h => by omega⟩
  · rw [h1]
    simp only [decide_eq_true_eq] at h4
    constructor
    · intro hg
      refine ⟨by omega, ?_⟩
      by_cases hn : h < n
      · have := h5 h (by omega) hn
        simp only [decide_eq_false_iff_not] at this
        exact absurd hg this
      · omega
    · rintro ⟨_, hg⟩
      have := (bounds_until hd hne hb (h := n) (h - n) (by omega)).1
      rw [show n + (h - n) = h by omega] at this
      omega
theorem thin_spec (hd : DrumP d) (hne : filledL d ≠ []) {b : Batch} (hb : BatchP3 b) {h : Nat} (hh : h ≤ d.hours.toNat) : (boundsI d b h).thick.low ≥ b.least ↔ (h : Int) ≤ thinI d b := by
  unfold thinI
  rcases lastI_spec (fun h => decide ((boundsI d b h).thick.low ≥ b.least)) (d.hours.toNat + 1) with ⟨h1, h2⟩ | ⟨n, h1, h2, h3, h4⟩
  · rw [h1]
    have := h2 h (by omega)
    simp only [decide_eq_false_iff_not] at this
    exact ⟨fun h => absurd h this, fun h => by omega⟩
  · rw [h1]
    simp only [decide_eq_true_eq] at h3
    constructor
    · intro hg
      by_cases hn : n < h
      · have := h4 h hn (by omega)
        simp only [decide_eq_false_iff_not] at this
        exact absurd hg this
      · omega
    · intro hg
      have := (bounds_until hd hne hb (h := h) (n - h) (by omega)).2
      rw [show h + (n - h) = n by omega] at this
      omega
end
end Go.Abs
namespace Go.Abs
def eTruth (acid : Int) (t : List Int) : PV := .agg [vi acid, eInts t]
end Go.Abs
namespace Go.Abs
open Go.Proofs Go.RowKit
set_option linter.unusedVariables false
set_option maxRecDepth 100000
section
variable {H : Type} {enc : TypeId × Value → H} {W : World}
theorem rd80 : RdC enc Tryz.prog W 80 (fun t : Int × List Int => [vi t.1, eInts t.2]) :=
  RdC.map (t := 80) (fun x : Int × List Int × Unit => (x.1, x.2.1)) (fun x => by rfl) (RdC.strct (fs := [(3, 0), (23, 1)]) (by kernel_rfl) (by kernel_rfl) (RdF.cons 1 rd3 (by kernel_rfl) (by decide +kernel) (RdF.cons 1 rd23 (by kernel_rfl) (by decide +kernel) (RdF.nil (by kernel_rfl)))))
end
end Go.Abs
namespace Go.Abs
open Go.RowKit
set_option linter.unusedVariables false
section
variable {P : Program} {T : Nat → Option TyI} {nt : Nat} {s : ASt} {o : Oper} {ops : Array Oper}
theorem equal_bool {t : Nat} {b c : Bool} (hu : P.underlying t = some .bool) (w : World) : (Op.equal t (.bool b) (.bool c)).run P w = .ok (b == c) w := by
  show (Op.equalIn (_ + 1) t (.bool b) (.bool c)).run P w = _
  rw [Op.equalIn]
  simp [underlying, hu]
theorem op_eqlB {t t' : TypeId} {x y : Operand} {ti : TyI} {b c : Bool} (hT : TabOK P T) (ht : T t = some ti) (hk : ti.kind = .bool) (ho : o.op = .binOp .eql t x y t') (hd : dstB nt o.dst = true)
    (hx : s.ev x = some (.pv (.bool b))) (hy : s.ev y = some (.pv (.bool c))) : OpTo P nt o s (s.putO o.dst (some (.pv (.bool (b == c))))) :=
  OpTo.value hd fun W0 D0 D φ a w hI => ⟨.bool (b == c), by
    simp [execOp, ho, hI.ev_bool hx, hI.ev_bool hy, eqGuard, binOp, equal_bool ((hT.ty ht).bool hk)], fun x' h => by cases h; exact ⟨rfl, .pv _ _ (.bool _)⟩⟩
section
variable {Q : Exit → ASt → Prop} {c : Code} {rest : List Oper} {b i id e sz : Nat} {fs : List FV} {es : List (List PV)}
end
end
end Go.Abs
namespace Go.Abs
open Go.Proofs
set_option linter.unusedVariables false
set_option linter.unusedSimpArgs false
set_option maxRecDepth 100000
theorem f134 (d : Drum) (acid : Int) (t : List Int) (hd : d.acids.length ≤ 1000) (ht : t.length ≤ 1000) : ACalls Tryz.prog 134 [eDrum d, eTruth acid t] (fun r => r = .pv (.bool (sizedB d acid t))) := by
  refine ACalls.of_body hT Tryz.func134 rfl (by kernel_rfl) rfl ?_
  (repeat' (first | refine stq ?_ | (refine AL_do2 rfl ?_; first | refine ⟨_, op_call1 rfl rfl rfl rfl (f87 acid 0 (d.acids.length - 1)), nrmA rfl ?_⟩) | (with_reducible refine AL_id ?_); (fail_if_success (refine AL_glit rfl rfl rfl (by first | exact .inl (by with_reducible rfl) | exact .inr (by with_reducible rfl)) ?_)); first | refine AL_gdec rfl rfl rfl (fun hg => ?_) (fun hg => ?_) | refine AL_gnot rfl rfl rfl (fun hg => ?_) (fun hg => ?_) | refine AL_gcases rfl rfl rfl (fun hg => ?_) (fun hg => ?_)))
  all_goals exact ⟨_, _, rfl, rfl, by simp_all [sizedB]; try omega⟩
end Go.Abs
namespace Go.Abs
open Go.Proofs
set_option linter.unusedVariables false
set_option linter.unusedSimpArgs false
set_option maxRecDepth 100000
theorem steps_bd {d : Drum} {a : Acid} (hd : DrumP d) (ha : AcidP a) {t : List Int} : ∀ k, (∀ i, i ≤ k → stepsB d a t i = true) → 0 ≤ t.getD k 0 ∧ t.getD k 0 ≤ 100 * (k + 2)
  | 0, h => by
    have h1 := h 0 (Nat.le_refl _)
    have := ha.s0; have := ha.s2
    have := add_bd hd 0
    simp only [stepsB, if_true, inB, Bool.and_eq_true, decide_eq_true_eq, initS] at h1
    omega
  | k + 1, h => by
    have h1 := h (k + 1) (Nat.le_refl _)
    have ih := steps_bd hd ha k fun i hi => h i (by omega)
    have := ha.f0; have := ha.f1
    have := add_bd hd (k + 1)
    simp only [stepsB, Nat.add_one_ne_zero, if_false, inB, Bool.and_eq_true, decide_eq_true_eq, Nat.add_sub_cancel, afterS] at h1
    omega
abbrev fiO (d : Drum) (n : Nat) (t : List Int) (a : Acid) : List (Nat × AObj) := [(0, .box ((eDrumC d).map FV.pv)), (1, .box [.pv (vi n), .pv (eInts t)]), (2, .box ((eAcid a).map FV.pv))]
set_option maxHeartbeats 4000000 in
theorem f135 (d : Drum) (a : Acid) (acid : Int) (t : List Int) (hd : DrumP d) (h0 : 0 ≤ acid) (hac : d.acids[acid.toNat]? = some a) (ht : (t.length : Int) = d.hours) : ACalls Tryz.prog 135 [eDrum d, eTruth acid t] (fun r => r = .pv (.bool (bitI d.known acid.toNat && truesB d a t))) := by
  obtain ⟨n, rfl⟩ : ∃ n : Nat, acid = n := ⟨acid.toNat, by omega⟩
  simp only [Int.toNat_natCast] at hac ⊢
  have ha := hd.acid a (List.mem_of_getElem? hac)
  have h12 := hd.h1
  have hal := hd.al
  have k145 := f145 d.known n
  have e1 := get_map eAcid hac
  have k95 := c95 d.strips 169 [.ptr [vi n, eInts t]] (fun s => !seenB t s) (by have := hd.sl; omega) (fun s hs => f169 n t d.hours s (hd.strip s hs) h12 ht)
  rw [any_not'] at k95
  refine ACalls.of_body hT Tryz.func135 rfl (by kernel_rfl) rfl ?_
  cases q : bitI d.known n with
  | false =>
    rw [q] at k145
    (repeat' (first | refine stq ?_ | (refine AL_do2 rfl ?_; first | refine ⟨_, op_call1 rfl rfl rfl rfl (k145), nrmA rfl ?_⟩) | (with_reducible refine AL_id ?_); (fail_if_success (refine AL_glit rfl rfl rfl (by first | exact .inl (by with_reducible rfl) | exact .inr (by with_reducible rfl)) ?_)); first | refine AL_gdec rfl rfl rfl (fun hg => ?_) (fun hg => ?_) | refine AL_gnot rfl rfl rfl (fun hg => ?_) (fun hg => ?_) | refine AL_gcases rfl rfl rfl (fun hg => ?_) (fun hg => ?_)))
    exact ⟨_, _, rfl, rfl, rfl⟩
  | true =>
    rw [q] at k145
    (repeat' (first | refine stq ?_ | (refine AL_do2 rfl ?_; first | refine ⟨_, op_call1 rfl rfl rfl rfl (k145), nrmA rfl ?_⟩) | (with_reducible refine AL_id ?_); (fail_if_success (refine AL_glit rfl rfl rfl (by first | exact .inl (by with_reducible rfl) | exact .inr (by with_reducible rfl)) ?_)); first | refine AL_gdec rfl rfl rfl (fun hg => ?_) (fun hg => ?_) | refine AL_gnot rfl rfl rfl (fun hg => ?_) (fun hg => ?_) | refine AL_gcases rfl rfl rfl (fun hg => ?_) (fun hg => ?_)))
    refine AW_loopC (fun k : Nat => k ≤ t.length ∧ ∀ i, i < k → stepsB d a t i = true) (fun k => mkSt [(2, .box 0 0), (3, .box 1 0), (5, .box 2 0), (24, .pv (eInts t)), (25, .pv (vi t.length)), (26, .pv (vi k))] (fiO d n t a) 3) (fun k => t.length - k) 0 ⟨Nat.zero_le _, by simp⟩ ?_ ?_
    · (refine Le.mk ?_ ?_; all_goals (repeat' (first | exact trivial | refine sle ?_ | refine ⟨?_, rfl, ?_⟩ | refine ⟨?_, by decide, rfl, ?_⟩ | fail)))
    · rintro k ⟨hk, hall⟩
      (repeat (refine stq ?_))
      refine AW_if rfl (fun hc => ?_) (fun hc => ?_)
      · have hk' : k < t.length := by omega
        obtain ⟨x, hx⟩ : ∃ x, t[k]? = some x := ⟨t[k], by simp [hk']⟩
        obtain ⟨y, hy⟩ : ∃ y, d.adds[k]? = some y := ⟨d.adds[k]'(by omega), by simp⟩
        have e2 := get_map eInt hx
        have e3 := get_map eInt hy
        have hyb := hd.add y (List.mem_of_getElem? hy)
        have := ha.s0; have := ha.s1; have := ha.s2; have := ha.f0; have := ha.f1; have := ha.f2
        have gx : t.getD k 0 = x := by rw [List.getD_eq_getElem?_getD, hx]; rfl
        have gy : d.adds.getD k 0 = y := by rw [List.getD_eq_getElem?_getD, hy]; rfl
        have fall : stepsB d a t k = false → truesB d a t = false := fun h => by
          cases hb : truesB d a t with
          | false => rfl
          | true => have := (steps_iff.1 hb).1 k (by omega); rw [h] at this; cases this
        have next : stepsB d a t k = true → ∀ i, i < k + 1 → stepsB d a t i = true := fun h i hi => by
          by_cases hik : i = k
          · rw [hik]; exact h
          · exact hall i (by omega)
        by_cases hk0 : k = 0
        · subst hk0
          have es : stepsB d a t 0 = inB x (a.strength.low + y) (a.strength.high + y) := by
            simp only [stepsB, if_true, gx, gy, initS]
          have k87 := f87 x (a.strength.low + y) (a.strength.high + y)
          cases hb : inB x (a.strength.low + y) (a.strength.high + y) with
          | false =>
            rw [hb] at k87 es
            (repeat (refine stq ?_))
            (repeat (refine sdq ?_))
            refine DG_end hM (by kernel_rfl) ?_
            (repeat (refine stq ?_))
            (repeat (first | refine sdq ?_ | refine DG_next (D_call rfl rfl rfl rfl rfl (k87)) ?_))
            refine DG_end hM (by kernel_rfl) ?_
            (repeat (refine stq ?_))
            exact ⟨_, _, rfl, rfl, by rw [fall es]; rfl⟩
          | true =>
            rw [hb] at k87 es
            (repeat (refine stq ?_))
            (repeat (refine sdq ?_))
            refine DG_end hM (by kernel_rfl) ?_
            (repeat (refine stq ?_))
            (repeat (first | refine sdq ?_ | refine DG_next (D_call rfl rfl rfl rfl rfl (k87)) ?_))
            refine DG_end hM (by kernel_rfl) ?_
            (repeat (refine stq ?_))
            refine ⟨0 + 1, ⟨hk', next es⟩, by omega, ?_⟩
            (refine Le.mk ?_ ?_; all_goals (repeat' (first | exact trivial | refine sle ?_ | refine ⟨?_, rfl, ?_⟩ | refine ⟨?_, by decide, rfl, ?_⟩ | fail)))
        · obtain ⟨z, hz⟩ : ∃ z, t[k - 1]? = some z := ⟨t[k - 1]'(by omega), by simp⟩
          have gz : t.getD (k - 1) 0 = z := by rw [List.getD_eq_getElem?_getD, hz]; rfl
          have e4 : (t.map eInt)[((k : Int) - 1).toNat]? = some (eInt z) := by
            rw [show ((k : Int) - 1).toNat = k - 1 by omega]; exact get_map eInt hz
          have hzb := steps_bd hd ha (t := t) (k - 1) (fun i hi => hall i (by omega))
          rw [gz] at hzb
          have es : stepsB d a t k = inB x (max 0 (z - a.fall.high) + y) (max 0 (z - a.fall.low) + y) := by
            simp only [stepsB, if_neg hk0, gx, gy, gz, afterS]
          have k87 := f87 x (max 0 (z - a.fall.high) + y) (max 0 (z - a.fall.low) + y)
          have hm1 : (0 : Int) ≤ max 0 (z - a.fall.high) ∧ max 0 (z - a.fall.high) ≤ 10000 := by omega
          have hm2 : (0 : Int) ≤ max 0 (z - a.fall.low) ∧ max 0 (z - a.fall.low) ≤ 10000 := by omega
          cases hb : inB x (max 0 (z - a.fall.high) + y) (max 0 (z - a.fall.low) + y) with
          | false =>
            rw [hb] at k87 es
            (repeat (refine stq ?_))
            (repeat (refine sdq ?_))
            refine DG_end hM (by kernel_rfl) ?_
            (repeat (refine stq ?_))
            refine AW_if rfl (fun _ => ?_) (fun hc => by omega)
            (repeat (refine stq ?_))
            (repeat (refine sdq ?_))
            refine DG_end hM (by kernel_rfl) ?_
            (repeat (refine stq ?_))
            (repeat (first | refine sdq ?_ | refine DG_next (D_call rfl rfl rfl rfl rfl (k87)) ?_))
            refine DG_end hM (by kernel_rfl) ?_
            (repeat (refine stq ?_))
            exact ⟨_, _, rfl, rfl, by rw [fall es]; rfl⟩
          | true =>
            rw [hb] at k87 es
            (repeat (refine stq ?_))
            (repeat (refine sdq ?_))
            refine DG_end hM (by kernel_rfl) ?_
            (repeat (refine stq ?_))
            refine AW_if rfl (fun _ => ?_) (fun hc => by omega)
            (repeat (refine stq ?_))
            (repeat (refine sdq ?_))
            refine DG_end hM (by kernel_rfl) ?_
            (repeat (refine stq ?_))
            (repeat (first | refine sdq ?_ | refine DG_next (D_call rfl rfl rfl rfl rfl (k87)) ?_))
            refine DG_end hM (by kernel_rfl) ?_
            (repeat (refine stq ?_))
            refine ⟨k + 1, ⟨hk', next es⟩, by omega, ?_⟩
            (refine Le.mk ?_ ?_; all_goals (repeat' (first | exact trivial | refine sle ?_ | refine ⟨?_, rfl, ?_⟩ | refine ⟨?_, by decide, rfl, ?_⟩ | fail)))
      · have hk' : k = t.length := by omega
        subst hk'
        (repeat' (first | refine stq ?_ | (refine AL_do2 rfl ?_; first | refine ⟨_, op_callB rfl rfl rfl rfl (k95) rfl, nrmA rfl ?_⟩ | refine ⟨_, op_call1 rfl rfl rfl rfl (k95), nrmA rfl ?_⟩) | (with_reducible refine AL_id ?_); (fail_if_success (refine AL_glit rfl rfl rfl (by first | exact .inl (by with_reducible rfl) | exact .inr (by with_reducible rfl)) ?_)); first | refine AL_gdec rfl rfl rfl (fun hg => ?_) (fun hg => ?_) | refine AL_gnot rfl rfl rfl (fun hg => ?_) (fun hg => ?_) | refine AL_gcases rfl rfl rfl (fun hg => ?_) (fun hg => ?_)))
        exact ⟨_, _, rfl, rfl, by
          have : truesB d a t = d.strips.all (seenB t) := by
            unfold truesB
            rw [show ((List.range d.hours.toNat).all (stepsB d a t)) = true from List.all_eq_true.2 fun i hi => hall i (by have := List.mem_range.1 hi; omega)]
            rfl
          rw [this]; simp⟩
def fitsB (d : Drum) (acid : Int) (t : List Int) : Bool := bitI d.known acid.toNat && truesB d (d.acids.getD acid.toNat ⟨⟨0, 0⟩, ⟨0, 0⟩⟩) t
theorem sized_of {d : Drum} {acid : Int} {t : List Int} (h : sizedB d acid t = true) : 0 ≤ acid ∧ d.acids[acid.toNat]? = some (d.acids.getD acid.toNat ⟨⟨0, 0⟩, ⟨0, 0⟩⟩) ∧ (t.length : Int) = d.hours := by
  simp only [sizedB, inB, Bool.and_eq_true, decide_eq_true_eq] at h
  refine ⟨h.1.1, ?_, h.2⟩
  have : acid.toNat < d.acids.length := by omega
  rw [List.getD_eq_getElem?_getD]; simp [this]
end Go.Abs
namespace Go.Abs
set_option linter.unusedVariables false
theorem win1_iff {d : Drum} {b : Batch} {n : Int} : inS (winP1 d b) n ↔ 0 ≤ smoothI d b ∧ smoothI d b ≤ n ∧ n ≤ thinI d b := by
  unfold winP1
  split
  · simp only [inS]; constructor <;> intro h <;> omega
  · simp only [inS]; constructor <;> intro h <;> omega
def sureB (d : Drum) (b : Batch) (h : Nat) : Bool := decide ((boundsI d b h).rough.high ≤ b.goal) && decide ((boundsI d b h).thick.low ≥ b.least)
theorem sure_iff {d : Drum} (hd : DrumP d) (hne : filledL d ≠ []) {b : Batch} (hb : BatchP3 b) {h : Nat} (hh : h ≤ d.hours.toNat) : sureB d b h = true ↔ inS (winP1 d b) h := by
  rw [win1_iff]
  simp only [sureB, Bool.and_eq_true, decide_eq_true_eq]
  rw [smooth_spec hd hne hb hh, thin_spec hd hne hb hh]
  constructor
  · rintro ⟨⟨h1, h2⟩, h3⟩; exact ⟨h1, h2, h3⟩
  · rintro ⟨h1, h2, h3⟩; exact ⟨⟨h1, h2⟩, h3⟩
theorem all_iff {d : Drum} {n : Int} : inS (allW d) n ↔ (0 ≤ n ∧ n ≤ 12) ∧ ∀ b ∈ d.batches, inS (winP1 d b) n := by
  unfold allW
  rw [pick_iff]
  refine and_congr_right fun _ => ?_
  simp only [winP, List.getElem?_map, Option.map_eq_some_iff]
  constructor
  · intro h b hb
    obtain ⟨i, hi⟩ := List.mem_iff_getElem?.1 hb
    exact h i _ ⟨b, hi, rfl⟩ trivial
  · rintro h i s ⟨b, hb, rfl⟩ _
    exact h b (List.mem_of_getElem? hb)
theorem all_sure {d : Drum} (hd : DrumP d) (hne : filledL d ≠ []) {h : Nat} (hh : h ≤ d.hours.toNat) : inS (allW d) h ↔ ∀ b ∈ d.batches, sureB d b h = true := by
  rw [all_iff]
  have := hd.h1
  constructor
  · rintro ⟨_, h2⟩ b hb; exact (sure_iff hd hne (hd.batch b hb) hh).2 (h2 b hb)
  · intro h2; exact ⟨by omega, fun b hb => (sure_iff hd hne (hd.batch b hb) hh).1 (h2 b hb)⟩
end Go.Abs
namespace Go.Abs
open Go.Proofs
set_option linter.unusedVariables false
set_option linter.unusedSimpArgs false
set_option maxRecDepth 100000
set_option maxHeartbeats 4000000 in
theorem f136c (b : Batch) (hb : BatchP3 b) (hours : Nat) (hh : hours ≤ 12) (g : Nat) (caps : List PV) (t : List Int) (hl : hours ≤ t.length) (ht : bdU 1400 t) (hg : ∀ (i : Nat) (x : Int), t[i]? = some x → ACalls Tryz.prog g ([vi i] ++ caps) (fun r => r = .pv (vi x))) :
    ACalls Tryz.prog 136 [.agg (eBatch b), vi hours, .fn g caps] (fun r => r = .pv (.agg (eState (stateI b t hours)))) := by
  have hp0 := hb.p0; have hp1 := hb.p1; have he0 := hb.e0; have he1 := hb.e1
  have hr0 := hb.r0; have hr1 := hb.r1; have ht0 := hb.t0; have ht1 := hb.t1
  refine ACalls.of_body hT Tryz.func136 rfl (by kernel_rfl) rfl ?_
  (repeat (refine stq ?_))
  refine AW_own_nil (e := 3) (sz := 1) (t := 7) rfl rfl ?_
  refine AW_own_nil (e := 3) (sz := 1) (t := 8) rfl rfl ?_
  (repeat (refine stq ?_))
  refine AW_loopC (fun k : Nat => k ≤ hours) (fun k => mkSt [(2, .pv (.fn g caps)), (3, .box 0 0), (6, .box 1 0), (7, .arr 2), (8, .arr 3), (11, .pv (vi hours)), (12, .pv (vi k))] [(0, .box ((eBatch b).map FV.pv)), (1, .box [.pv (vi 0), .pv (vi 0)]), (2, .arr 3 1 ((eatL t b.polish k).map eInt)), (3, .arr 3 1 ((eatL t b.eat k).map eInt))] 4) (fun k => hours - k) 0 (Nat.zero_le _) ?_ ?_
  · (refine Le.mk ?_ ?_; all_goals (repeat' (first | exact trivial | refine sle ?_ | refine ⟨?_, rfl, ?_⟩ | refine ⟨?_, by decide, rfl, ?_⟩ | fail)))
  · intro k hk
    (repeat (refine stq ?_))
    refine AW_if rfl (fun hc => ?_) (fun hc => ?_)
    · have hk' : k < hours := by omega
      obtain ⟨x, hx⟩ : ∃ x, t[k]? = some x := ⟨t[k]'(by omega), by simp⟩
      have hxb := ht x (List.mem_of_getElem? hx)
      have q1 := eat_bd hxb.1 hxb.2 hp0 hp1
      have q2 := eat_bd hxb.1 hxb.2 he0 he1
      have m1 : -9223372036854775808 ≤ x * b.polish ∧ x * b.polish ≤ 9223372036854775807 := by omega
      have m2 : -9223372036854775808 ≤ x * b.eat ∧ x * b.eat ≤ 9223372036854775807 := by omega
      have w1 : IntKind.i64.wrap ((x * b.polish).tdiv 100) = eatI x b.polish := wrap_small (show -1000000 ≤ eatI x b.polish ∧ eatI x b.polish ≤ 1000000 by omega)
      have w2 : IntKind.i64.wrap ((x * b.eat).tdiv 100) = eatI x b.eat := wrap_small (show -1000000 ≤ eatI x b.eat ∧ eatI x b.eat ≤ 1000000 by omega)
      have s1 := eatL_succ (p := b.polish) hx
      have s2 := eatL_succ (p := b.eat) hx
      have l1 : (eatL t b.polish k).length ≤ 1000 := by simp [eatL]; omega
      have l2 : (eatL t b.eat k).length ≤ 1000 := by simp [eatL]; omega
      generalize eatL t b.polish k = u at *
      generalize eatL t b.eat k = v at *
      (repeat' (first | refine stq ?_ | (refine AL_do2 rfl ?_; first | refine ⟨_, op_call1 rfl rfl rfl rfl (hg k x hx), nrmA rfl ?_⟩) | (with_reducible refine AL_id ?_); (fail_if_success (refine AL_glit rfl rfl rfl (by first | exact .inl (by with_reducible rfl) | exact .inr (by with_reducible rfl)) ?_)); first | refine AL_gdec rfl rfl rfl (fun hg => ?_) (fun hg => ?_) | refine AL_gnot rfl rfl rfl (fun hg => ?_) (fun hg => ?_) | refine AL_gcases rfl rfl rfl (fun hg => ?_) (fun hg => ?_)))
      (repeat (first | refine DG_next (D_quo rfl rfl rfl rfl rfl (by decide) w1) ?_ | refine DG_next (D_quo rfl rfl rfl rfl rfl (by decide) w2) ?_ | refine sdq ?_))
      refine DG_end hM (by kernel_rfl) ?_
      (repeat (refine stq ?_))
      refine ⟨k + 1, hk', by omega, ?_⟩
      rw [s1, s2]
      (refine Le.mkR [(0, 0), (1, 1), (2, 4), (3, 5)] ?_ ?_ rfl; all_goals (repeat' (first | exact trivial | refine sle ?_ | refine ⟨?_, rfl, ?_⟩ | refine ⟨?_, by decide, rfl, ?_⟩ | fail)))
      · rw [List.map_append]; rfl
      · rw [List.map_append]; rfl
    · have hk' : k = hours := by omega
      subst hk'
      have b1 := eatL_bd (p := b.polish) (h := k) ht ⟨hp0, hp1⟩
      have b2 := eatL_bd (p := b.eat) (h := k) ht ⟨he0, he1⟩
      have l1 : (eatL t b.polish k).length ≤ 12 := by simp [eatL]; omega
      have l2 : (eatL t b.eat k).length ≤ 12 := by simp [eatL]; omega
      have k1 := f170 (eatL t b.polish k) (by omega) b1
      have k2 := f170 (eatL t b.eat k) (by omega) b2
      have q1 := sumI_bdU b1
      have q2 := sumI_bdU b2
      have hs : stateI b t k = ⟨max 0 (b.rough - sumI (eatL t b.polish k)), max 0 (b.thick - sumI (eatL t b.eat k))⟩ := rfl
      rw [hs]
      generalize eatL t b.polish k = u at *
      generalize eatL t b.eat k = v at *
      refine AW_pure (t := 7) rfl rfl ?_
      refine AW_pure (t := 8) rfl rfl ?_
      (repeat (refine stq ?_))
      (repeat (first | refine sdq ?_ | refine DG_next (D_call rfl rfl rfl rfl rfl (k1)) ?_ | refine DG_next (D_call rfl rfl rfl rfl rfl (k2)) ?_))
      refine DG_end hM (by kernel_rfl) ?_
      (repeat (refine stq ?_))
      exact ⟨_, _, rfl, rfl, rfl⟩
theorem f137 (acid : Int) (t : List Int) (i : Nat) (x : Int) (hx : t[i]? = some x) : ACalls Tryz.prog 137 [vi i, .ptr [vi acid, eInts t]] (fun r => r = .pv (vi x)) := by
  have e1 := get_map eInt hx
  have hl : i < t.length := (List.getElem?_eq_some_iff.1 hx).1
  refine ACalls.of_body hT Tryz.func137 rfl (by kernel_rfl) rfl ?_
  (repeat' (first | refine stq ?_ | (with_reducible refine AL_id ?_); (fail_if_success (refine AL_glit rfl rfl rfl (by first | exact .inl (by with_reducible rfl) | exact .inr (by with_reducible rfl)) ?_)); first | refine AL_gdec rfl rfl rfl (fun hg => ?_) (fun hg => ?_) | refine AL_gnot rfl rfl rfl (fun hg => ?_) (fun hg => ?_) | refine AL_gcases rfl rfl rfl (fun hg => ?_) (fun hg => ?_)))
  exact ⟨_, _, rfl, rfl, rfl⟩
end Go.Abs
namespace Go.Abs
open Go.Proofs
set_option linter.unusedVariables false
set_option linter.unusedSimpArgs false
set_option maxRecDepth 100000
def eStates (l : List State) : PV := .sl (l.map eState)
theorem true_bdU {d : Drum} {a : Acid} (hd : DrumP d) (ha : AcidP a) {t : List Int} (hl : (t.length : Int) = d.hours) (ht : truesB d a t = true) : bdU 1400 t := fun x hx => by
  obtain ⟨i, hi⟩ := List.mem_iff_getElem?.1 hx
  have hlt := (List.getElem?_eq_some_iff.1 hi).1
  have h1 := true_fwd hd ha ht i (by omega)
  have h2 := fwd_bd hd ha i
  have h12 := hd.h1
  rw [List.getD_eq_getElem?_getD, hi] at h1
  simp only [Option.getD_some] at h1
  omega
def runOK (d : Drum) (acid : Int) (t : List Int) (hours : Int) : Bool := drumB d && sizedB d acid t && fitsB d acid t && inB hours 0 d.hours
def runE (d : Drum) (acid : Int) (t : List Int) (hours : Int) : List State × Int := if runOK d acid t hours then (d.batches.map fun b => stateI b t hours.toNat, 0) else ([], 2)
set_option maxHeartbeats 4000000 in
theorem f70 (d : Drum) (acid : Int) (t : List Int) (hours : Int) (hd : drumOK d) (htl0 : t.length ≤ 1000) : ACalls Tryz.prog 70 [eDrum d, eTruth acid t, vi hours] (fun r => r = .tup [eStates (runE d acid t hours).1, vi (runE d acid t hours).2]) := by
  have k104 := f104 d hd
  have k134 := f134 d acid t hd.1 htl0
  have k87 := f87 hours 0 d.hours
  refine ACalls.of_body hT Tryz.func70 rfl (by kernel_rfl) rfl ?_
  cases q1 : drumB d with
  | false =>
    rw [q1] at k104
    (repeat' (first | refine stq ?_ | (refine AL_do2 rfl ?_; first | refine ⟨_, op_call1 rfl rfl rfl rfl (k104), nrmA rfl ?_⟩ | refine ⟨_, op_call1 rfl rfl rfl rfl (k134), nrmA rfl ?_⟩ | refine ⟨_, op_call1 rfl rfl rfl rfl (k87), nrmA rfl ?_⟩) | (with_reducible refine AL_id ?_); (fail_if_success (refine AL_glit rfl rfl rfl (by first | exact .inl (by with_reducible rfl) | exact .inr (by with_reducible rfl)) ?_)); first | refine AL_gdec rfl rfl rfl (fun hg => ?_) (fun hg => ?_) | refine AL_gnot rfl rfl rfl (fun hg => ?_) (fun hg => ?_) | refine AL_gcases rfl rfl rfl (fun hg => ?_) (fun hg => ?_)))
    all_goals (try (exfalso; simp at hg; done))
    exact ⟨_, _, rfl, rfl, by simp [runE, runOK, q1, eStates]⟩
  | true =>
    rw [q1] at k104
    cases q2 : sizedB d acid t with
    | false =>
      rw [q2] at k134
      (repeat' (first | refine stq ?_ | (refine AL_do2 rfl ?_; first | refine ⟨_, op_call1 rfl rfl rfl rfl (k104), nrmA rfl ?_⟩ | refine ⟨_, op_call1 rfl rfl rfl rfl (k134), nrmA rfl ?_⟩ | refine ⟨_, op_call1 rfl rfl rfl rfl (k87), nrmA rfl ?_⟩) | (with_reducible refine AL_id ?_); (fail_if_success (refine AL_glit rfl rfl rfl (by first | exact .inl (by with_reducible rfl) | exact .inr (by with_reducible rfl)) ?_)); first | refine AL_gdec rfl rfl rfl (fun hg => ?_) (fun hg => ?_) | refine AL_gnot rfl rfl rfl (fun hg => ?_) (fun hg => ?_) | refine AL_gcases rfl rfl rfl (fun hg => ?_) (fun hg => ?_)))
      all_goals (try (exfalso; simp at hg; done))
      exact ⟨_, _, rfl, rfl, by simp [runE, runOK, q1, q2, eStates]⟩
    | true =>
      rw [q2] at k134
      have hP := drumP_of.1 q1
      obtain ⟨h0, hac, hl⟩ := sized_of q2
      have k135 : ACalls Tryz.prog 135 [eDrum d, eTruth acid t] (fun r => r = .pv (.bool (fitsB d acid t))) := f135 d _ acid t hP h0 hac hl
      cases q3 : fitsB d acid t with
      | false =>
        rw [q3] at k135
        (repeat' (first | refine stq ?_ | (refine AL_do2 rfl ?_; first | refine ⟨_, op_call1 rfl rfl rfl rfl (k104), nrmA rfl ?_⟩ | refine ⟨_, op_call1 rfl rfl rfl rfl (k134), nrmA rfl ?_⟩ | refine ⟨_, op_call1 rfl rfl rfl rfl (k135), nrmA rfl ?_⟩ | refine ⟨_, op_call1 rfl rfl rfl rfl (k87), nrmA rfl ?_⟩) | (with_reducible refine AL_id ?_); (fail_if_success (refine AL_glit rfl rfl rfl (by first | exact .inl (by with_reducible rfl) | exact .inr (by with_reducible rfl)) ?_)); first | refine AL_gdec rfl rfl rfl (fun hg => ?_) (fun hg => ?_) | refine AL_gnot rfl rfl rfl (fun hg => ?_) (fun hg => ?_) | refine AL_gcases rfl rfl rfl (fun hg => ?_) (fun hg => ?_)))
        all_goals (try (exfalso; simp at hg; done))
        exact ⟨_, _, rfl, rfl, by simp [runE, runOK, q1, q2, q3, eStates]⟩
      | true =>
        rw [q3] at k135
        cases q4 : inB hours 0 d.hours with
        | false =>
          rw [q4] at k87
          (repeat' (first | refine stq ?_ | (refine AL_do2 rfl ?_; first | refine ⟨_, op_call1 rfl rfl rfl rfl (k104), nrmA rfl ?_⟩ | refine ⟨_, op_call1 rfl rfl rfl rfl (k134), nrmA rfl ?_⟩ | refine ⟨_, op_call1 rfl rfl rfl rfl (k135), nrmA rfl ?_⟩ | refine ⟨_, op_call1 rfl rfl rfl rfl (k87), nrmA rfl ?_⟩) | (with_reducible refine AL_id ?_); (fail_if_success (refine AL_glit rfl rfl rfl (by first | exact .inl (by with_reducible rfl) | exact .inr (by with_reducible rfl)) ?_)); first | refine AL_gdec rfl rfl rfl (fun hg => ?_) (fun hg => ?_) | refine AL_gnot rfl rfl rfl (fun hg => ?_) (fun hg => ?_) | refine AL_gcases rfl rfl rfl (fun hg => ?_) (fun hg => ?_)))
          all_goals (try (exfalso; simp at hg; done))
          exact ⟨_, _, rfl, rfl, by simp [runE, runOK, q1, q2, q3, q4, eStates]⟩
        | true =>
          rw [q4] at k87
          rw [runE, if_pos (by simp [runOK, q1, q2, q3, q4])]
          simp only [inB, Bool.and_eq_true, decide_eq_true_eq] at q4
          obtain ⟨h, rfl⟩ : ∃ h : Nat, hours = h := ⟨hours.toNat, by omega⟩
          simp only [Int.toNat_natCast]
          have h12 := hP.h1
          have hbl := hP.b1
          have htb := true_bdU hP (hP.acid _ (List.mem_of_getElem? hac)) hl (by simp only [fitsB, Bool.and_eq_true] at q3; exact q3.2)
          (repeat' (first | refine stq ?_ | (refine AL_do2 rfl ?_; first | refine ⟨_, op_call1 rfl rfl rfl rfl (k104), nrmA rfl ?_⟩ | refine ⟨_, op_call1 rfl rfl rfl rfl (k134), nrmA rfl ?_⟩ | refine ⟨_, op_call1 rfl rfl rfl rfl (k135), nrmA rfl ?_⟩ | refine ⟨_, op_call1 rfl rfl rfl rfl (k87), nrmA rfl ?_⟩) | (with_reducible refine AL_id ?_); (fail_if_success (refine AL_glit rfl rfl rfl (by first | exact .inl (by with_reducible rfl) | exact .inr (by with_reducible rfl)) ?_)); first | refine AL_gdec rfl rfl rfl (fun hg => ?_) (fun hg => ?_) | refine AL_gnot rfl rfl rfl (fun hg => ?_) (fun hg => ?_) | refine AL_gcases rfl rfl rfl (fun hg => ?_) (fun hg => ?_)))
          all_goals (try (exfalso; simp at hg; done))
          refine AW_own_nil (e := 101) (sz := 2) (t := 8) rfl rfl ?_
          (repeat (refine stq ?_))
          refine AW_loopC (fun k : Nat => k ≤ d.batches.length) (fun k => mkSt [(2, .pv (vi h)), (4, .box 1 0), (8, .arr 2), (35, .pv (.sl (d.batches.map eBatch))), (36, .pv (vi d.batches.length)), (37, .pv (vi k))] [(1, .box [.pv (vi acid), .pv (eInts t)]), (2, .arr 101 2 (((d.batches.take k).map fun b => stateI b t h).map eState))] 3) (fun k => d.batches.length - k) 0 (Nat.zero_le _) ?_ ?_
          · (refine Le.mk ?_ ?_; all_goals (repeat' (first | exact trivial | refine sle ?_ | refine ⟨?_, rfl, ?_⟩ | refine ⟨?_, by decide, rfl, ?_⟩ | fail)))
          · intro k hk
            (repeat (refine stq ?_))
            refine AW_if rfl (fun hc => ?_) (fun hc => ?_)
            · have hk' : k < d.batches.length := by omega
              obtain ⟨b, hb⟩ : ∃ b, d.batches[k]? = some b := ⟨d.batches[k], by simp [hk']⟩
              have e1 := get_map eBatch hb
              have k136 := f136c b (hP.batch b (List.mem_of_getElem? hb)) h (by omega) 137 [.ptr [vi acid, eInts t]] t (by omega) htb (fun i x hx => f137 acid t i x hx)
              have hsn : (d.batches.take (k + 1)).map (fun b => stateI b t h) = (d.batches.take k).map (fun b => stateI b t h) ++ [stateI b t h] := map_take_succ _ hb
              have htl : ((d.batches.take k).map fun b => stateI b t h).length ≤ 1000 := by simp; omega
              generalize ((d.batches.take k).map fun b => stateI b t h) = ts at *
              generalize stateI b t h = B at *
              (repeat' (first | refine stq ?_ | (refine AL_do2 rfl ?_; first | refine ⟨_, op_callB rfl rfl rfl rfl (k136) rfl, nrmA rfl ?_⟩ | refine ⟨_, op_call1 rfl rfl rfl rfl (k136), nrmA rfl ?_⟩) | (with_reducible refine AL_id ?_); (fail_if_success (refine AL_glit rfl rfl rfl (by first | exact .inl (by with_reducible rfl) | exact .inr (by with_reducible rfl)) ?_)); first | refine AL_gdec rfl rfl rfl (fun hg => ?_) (fun hg => ?_) | refine AL_gnot rfl rfl rfl (fun hg => ?_) (fun hg => ?_) | refine AL_gcases rfl rfl rfl (fun hg => ?_) (fun hg => ?_)))
              refine ⟨k + 1, hk', by omega, ?_⟩
              rw [hsn]
              (refine Le.mkR [(1, 1), (2, 6)] ?_ ?_ rfl; all_goals (repeat' (first | exact trivial | refine sle ?_ | refine ⟨?_, rfl, ?_⟩ | refine ⟨?_, by decide, rfl, ?_⟩ | fail)))
              rw [List.map_append]; rfl
            · have hk' : k = d.batches.length := by omega
              subst hk'
              rw [List.take_length]
              refine AW_pure (t := 8) rfl rfl ?_
              (repeat (refine stq ?_))
              exact ⟨_, _, rfl, rfl, rfl⟩
end Go.Abs
namespace Go.Abs
open Go.Proofs
set_option linter.unusedVariables false
set_option linter.unusedSimpArgs false
set_option maxRecDepth 100000
def windowE (d : Drum) : Span × Int := if errE d true = 0 then (if openS (allW d) then (allW d, 0) else (⟨0, 0⟩, 5)) else (⟨0, 0⟩, errE d true)
set_option maxHeartbeats 4000000 in
theorem f55 (d : Drum) (hd : drumOK d) : ACalls Tryz.prog 55 [eDrum d] (fun r => r = .tup [eS (windowE d).1, vi (windowE d).2]) := by
  have k84 := f84 d true hd
  refine ACalls.of_body hT Tryz.func55 rfl (by kernel_rfl) rfl ?_
  by_cases he : errE d true = 0
  · obtain ⟨hP, _, hne, ha⟩ := asked_ok he
    rw [ha] at k84
    have k84 : ACalls Tryz.prog 84 [eDrum d, .bool true] (fun r => r = .tup [.sl ((filledL d).map (eFilled d)), vi 0]) := k84
    have hbl := hP.b1
    have hwl : (winP d).length ≤ 5 := by rw [winP_len]; exact hbl
    have h1 := shl_small hbl
    (repeat' (first | refine stq ?_ | (refine AL_do2 rfl ?_; first | refine ⟨_, op_call1 rfl rfl rfl rfl (k84), nrmA rfl ?_⟩) | (with_reducible refine AL_id ?_); (fail_if_success (refine AL_glit rfl rfl rfl (by first | exact .inl (by with_reducible rfl) | exact .inr (by with_reducible rfl)) ?_)); first | refine AL_gdec rfl rfl rfl (fun hg => ?_) (fun hg => ?_) | refine AL_gnot rfl rfl rfl (fun hg => ?_) (fun hg => ?_) | refine AL_gcases rfl rfl rfl (fun hg => ?_) (fun hg => ?_)))
    refine AL_doS rfl (op_callXs (objs := []) (n := 0) [] [] [] (fun av => f98 d hP hne) rfl rfl rfl rfl (by (repeat' (first | exact trivial | refine And.intro ?_ ?_)); all_goals (first | rfl | decide)) rfl (by (repeat' (first | exact trivial | refine And.intro ?_ ?_)); all_goals (first | rfl | decide)) rfl trivial (by simp) (fun av sf h => trivial)) ?_
    rintro s' ⟨av, sf, ⟨l, rfl⟩, rfl⟩
    have k100 := f100 l (winP d) hwl
    rw [winP_len] at k100
    have k99 := f99 l (winP d) (allB d.batches.length) (by omega)
    have k102 := f102 l (winP d) (allB d.batches.length) (by omega)
    rw [of_all hP] at k99 k102
    rw [windowE, if_pos he]
    cases q : openS (allW d) with
    | false =>
      rw [q] at k99
      (repeat (refine stq ?_))
      (repeat (first | refine DG_next (D_callMemo rfl rfl rfl rfl (fun s1 => (by (repeat' (first | exact trivial | refine And.intro ?_ ?_)); all_goals (first | rfl | decide))) rfl rfl k100) ?_ | refine DG_next (D_callMemo rfl rfl rfl rfl (fun s1 => (by (repeat' (first | exact trivial | refine And.intro ?_ ?_)); all_goals (first | rfl | decide))) rfl rfl k99) ?_ | refine sdq ?_))
      refine DG_end hM (by kernel_rfl) ?_
      (repeat (refine stq ?_))
      exact ⟨_, _, rfl, rfl, rfl⟩
    | true =>
      rw [q] at k99
      (repeat (refine stq ?_))
      (repeat (first | refine DG_next (D_callMemo rfl rfl rfl rfl (fun s1 => (by (repeat' (first | exact trivial | refine And.intro ?_ ?_)); all_goals (first | rfl | decide))) rfl rfl k100) ?_ | refine DG_next (D_callMemo rfl rfl rfl rfl (fun s1 => (by (repeat' (first | exact trivial | refine And.intro ?_ ?_)); all_goals (first | rfl | decide))) rfl rfl k99) ?_ | refine sdq ?_))
      refine DG_end hM (by kernel_rfl) ?_
      (repeat (refine stq ?_))
      (repeat (first | refine DG_next (D_callMemo rfl rfl rfl rfl (fun s1 => (by (repeat' (first | exact trivial | refine And.intro ?_ ?_)); all_goals (first | rfl | decide))) rfl rfl k100) ?_ | refine sdq ?_))
      refine DG_end hM (by kernel_rfl) ?_
      (repeat (refine stq ?_))
      refine AL_doS rfl (op_callXs (objs := [(0, memoO (memoF (winP d)) l)]) (n := 1) [(0, 2)] [0] [] (fun av => k102) rfl rfl rfl rfl (by (repeat' (first | exact trivial | refine And.intro ?_ ?_)); all_goals (first | rfl | decide)) rfl (by (repeat' (first | exact trivial | refine And.intro ?_ ?_)); all_goals (first | rfl | decide)) rfl trivial (by simp) (fun av sf h => by subst h; exact ⟨.inr ⟨_, _, _, _, _, rfl, rfl⟩, trivial⟩)) ?_
      rintro s' ⟨av2, sf, rfl, rfl⟩
      (repeat (refine stq ?_))
      exact ⟨_, _, rfl, rfl, rfl⟩
  · rw [asked_err he] at k84
    have k84 : ACalls Tryz.prog 84 [eDrum d, .bool true] (fun r => r = .tup [.sl [], vi (errE d true)]) := k84
    (repeat' (first | refine stq ?_ | (refine AL_do2 rfl ?_; first | refine ⟨_, op_call1 rfl rfl rfl rfl (k84), nrmA rfl ?_⟩) | (with_reducible refine AL_id ?_); (fail_if_success (refine AL_glit rfl rfl rfl (by first | exact .inl (by with_reducible rfl) | exact .inr (by with_reducible rfl)) ?_)); first | refine AL_gdec rfl rfl rfl (fun hg => ?_) (fun hg => ?_) | refine AL_gnot rfl rfl rfl (fun hg => ?_) (fun hg => ?_) | refine AL_gcases rfl rfl rfl (fun hg => ?_) (fun hg => ?_)))
    refine AW_if rfl (fun hc => ?_) (fun hc => absurd (by omega) hc)
    (repeat (refine stq ?_))
    exact ⟨_, _, rfl, rfl, by rw [windowE, if_neg he]; rfl⟩
end Go.Abs
