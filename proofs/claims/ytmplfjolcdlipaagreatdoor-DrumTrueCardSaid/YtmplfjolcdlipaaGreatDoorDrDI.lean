/- What the statements ask of lists; one acid alone. -/
import Derived.Test.YtmplfjolcdlipaaGreatDoorDrDG
import Derived.Test.YtmplfjolcdlipaaGreatDoorX
set_option linter.unusedVariables false
set_option linter.unusedSimpArgs false
namespace Go.Abs
open Go.Proofs
set_option linter.unusedVariables false
set_option linter.unusedSimpArgs false
set_option maxRecDepth 100000
theorem f67 (l : List Int) (x : Int) (hl : l.length ≤ 1000) : ACalls Tryz.prog 67 [eInts l, vi x] (fun r => r = .pv (.bool (decide (x ∈ l)))) := by
  refine ACalls.of_body hT Tryz.func67 rfl (by kernel_rfl) rfl ?_
  (repeat (refine stq ?_))
  refine AW_loopC (fun k : Nat => k ≤ l.length ∧ ∀ j y, j < k → l[j]? = some y → y ≠ x) (fun k => mkSt [(0, .pv (eInts l)), (1, .pv (vi x)), (5, .pv (vi k))] [] 0) (fun k => l.length - k) 0 ⟨Nat.zero_le _, fun j y h => by omega⟩ ?_ ?_
  · (refine Le.mk ?_ ?_; all_goals (repeat' (first | exact trivial | refine sle ?_ | refine ⟨?_, rfl, ?_⟩ | refine ⟨?_, by decide, rfl, ?_⟩ | fail)))
  · rintro k ⟨hk, hall⟩
    (repeat (refine stq ?_))
    refine AW_if rfl (fun hc => ?_) (fun hc => ?_)
    · have hk' : k < l.length := by omega
      obtain ⟨y, hy⟩ : ∃ y, l[k]? = some y := ⟨l[k], by simp [hk']⟩
      have e1 := get_map eInt hy
      (repeat (refine stq ?_))
      refine AW_if rfl (fun hc2 => ?_) (fun hc2 => ?_)
      · (repeat (refine stq ?_))
        exact ⟨_, _, rfl, rfl, by rw [decide_eq_true (hc2 ▸ List.mem_of_getElem? hy)]⟩
      · (repeat (refine stq ?_))
        refine ⟨k + 1, ⟨hk', fun j z hj hz => ?_⟩, by omega, ?_⟩
        · by_cases hjk : j = k
          · rw [hjk, hy] at hz; cases hz; exact hc2
          · exact hall j z (by omega) hz
        · (refine Le.mk ?_ ?_; all_goals (repeat' (first | exact trivial | refine sle ?_ | refine ⟨?_, rfl, ?_⟩ | refine ⟨?_, by decide, rfl, ?_⟩ | fail)))
    · have hk' : k = l.length := by omega
      (repeat (refine stq ?_))
      exact ⟨_, _, rfl, rfl, by
        rw [decide_eq_false fun h => ?_]
        obtain ⟨j, hj⟩ := List.mem_iff_getElem?.1 h
        exact hall j x (by have := (List.getElem?_eq_some_iff.1 hj).1; omega) hj rfl⟩
def plainP (s : Span) : Prop := 0 ≤ s.low ∧ s.low ≤ s.high ∧ s.high ≤ 1300
theorem f66 (d : Drum) (l : List Span) (hl : l.length ≤ 1000) (hp : ∀ s ∈ l, plainP s) : ACalls Tryz.prog 66 [eDrum d, eSpans l] (fun r => r = .pv (.bool (decide ((l.length : Int) = d.hours)))) := by
  refine ACalls.of_body hT Tryz.func66 rfl (by kernel_rfl) rfl ?_
  (repeat (refine stq ?_))
  refine AW_loopC (fun k : Nat => k ≤ l.length) (fun k => mkSt [(1, .pv (eSpans l)), (2, .box 0 0), (5, .pv (vi k))] [(0, .box ((eDrumC d).map FV.pv))] 1) (fun k => l.length - k) 0 (Nat.zero_le _) ?_ ?_
  · (refine Le.mk ?_ ?_; all_goals (repeat' (first | exact trivial | refine sle ?_ | refine ⟨?_, rfl, ?_⟩ | refine ⟨?_, by decide, rfl, ?_⟩ | fail)))
  · intro k hk
    (repeat (refine stq ?_))
    refine AW_if rfl (fun hc => ?_) (fun hc => ?_)
    · have hk' : k < l.length := by omega
      obtain ⟨y, hy⟩ : ∃ y, l[k]? = some y := ⟨l[k], by simp [hk']⟩
      have e1 := get_map eSpan hy
      obtain ⟨h1, h2, h3⟩ := hp y (List.mem_of_getElem? hy)
      (repeat (refine stq ?_))
      iterate 5 (refine sdq ?_)
      refine DG_cmp hT rfl (fun hg => absurd hg (by omega)) (fun _ => ?_)
      iterate 11 (refine sdq ?_)
      refine DG_cmp hT rfl (fun hg => absurd hg (by omega)) (fun _ => ?_)
      iterate 7 (refine sdq ?_)
      refine DG_cmp hT rfl (fun hg => absurd hg (by omega)) (fun _ => ?_)
      refine sdq ?_
      refine DG_end hM (by kernel_rfl) ?_
      (repeat (refine stq ?_))
      refine ⟨k + 1, hk', by omega, ?_⟩
      (refine Le.mk ?_ ?_; all_goals (repeat' (first | exact trivial | refine sle ?_ | refine ⟨?_, rfl, ?_⟩ | refine ⟨?_, by decide, rfl, ?_⟩ | fail)))
    · (repeat (refine stq ?_))
      exact ⟨_, _, rfl, rfl, rfl⟩
theorem strength_len (d : Drum) : (strengthL d).length = d.hours.toNat := by simp [strengthL]
theorem strength_get {d : Drum} {i : Nat} (h : i < d.hours.toNat) : (strengthL d)[i]? = some (hullL ((filledL d).map fun p => strongS d p.1 i)) := by
  unfold strengthL
  rw [List.getElem?_map, List.getElem?_range h]; rfl
theorem strength_plain {d : Drum} (hP : DrumP d) (hne : filledL d ≠ []) : ∀ s ∈ strengthL d, plainP s := fun s hs => by
  obtain ⟨i, hi, rfl⟩ := List.mem_map.1 hs
  have hi := List.mem_range.1 hi
  have hn : (filledL d).map (fun p => strongS d p.1 i) ≠ [] := by simp [hne]
  obtain ⟨x, hx, e1⟩ := hull_low hn
  obtain ⟨y, hy, e2⟩ := hull_high hn
  have hxb := hull_in hx
  obtain ⟨p, hp, rfl⟩ := List.mem_map.1 hx
  obtain ⟨q, hq, rfl⟩ := List.mem_map.1 hy
  have b1 := strong_bd hP (filled_acid hP hp) (filled_mem.1 hp).2.2 hi
  have b2 := strong_bd hP (filled_acid hP hq) (filled_mem.1 hq).2.2 hi
  have h12 := hP.h1
  refine ⟨?_, ?_, ?_⟩ <;> omega
theorem strength_true {d : Drum} (hP : DrumP d) {p : Acid × Nat} (hp : p ∈ filledL d) {t : List Int} (ht : truesB d p.1 t = true) {i : Nat} (hi : i < d.hours.toNat) : (hullL ((filledL d).map fun p => strongS d p.1 i)).low ≤ t.getD i 0 ∧ t.getD i 0 ≤ (hullL ((filledL d).map fun p => strongS d p.1 i)).high := by
  have h1 := hull_in (List.mem_map.2 ⟨p, hp, rfl⟩ : strongS d p.1 i ∈ (filledL d).map fun p => strongS d p.1 i)
  have h2 := true_strong' hP (filled_acid hP hp) ht hi
  omega
def oneD (d : Drum) (n : Nat) : Drum := { d with known := shlR .i64 1 n }
theorem one_fwd (d : Drum) (n : Nat) (a : Acid) : ∀ i, fwdS (oneD d n) a i = fwdS d a i
  | 0 => rfl
  | i + 1 => by simp only [fwdS, one_fwd d n a i]; rfl
theorem one_bwd (d : Drum) (n : Nat) (a : Acid) : ∀ i, bwdS (oneD d n) a i = bwdS d a i
  | 0 => one_fwd d n a _
  | i + 1 => by
    simp only [bwdS, one_bwd d n a i, one_fwd]; rfl
theorem one_strong (d : Drum) (n : Nat) (a : Acid) (i : Nat) : strongS (oneD d n) a i = strongS d a i := one_bwd d n a _
theorem one_may (d : Drum) (n : Nat) (a : Acid) : mayB (oneD d n) a = mayB d a := by
  unfold mayB; simp only [one_fwd]; rfl
def oneBitsOK : Bool := (List.range 5).all fun n => (List.range 5).all fun i => hasI (shlR .i64 1 (n : Int)) i == decide (i = n)
theorem one_bits_ok : oneBitsOK = true := by decide +kernel
theorem one_has {n i : Nat} (hn : n < 5) (hi : i < 5) : hasI (shlR .i64 1 n) i = decide (i = n) := by
  have := List.all_eq_true.1 (List.all_eq_true.1 one_bits_ok n (List.mem_range.2 hn)) i (List.mem_range.2 hi)
  simpa using this
def oneKnownOK : Bool := (List.range 5).all fun m => (List.range m).all fun n => decide (1 ≤ shlR .i64 1 (n : Int)) && decide (shlR .i64 1 (n : Int) ≤ 2 ^ m - 1)
theorem one_known_ok : oneKnownOK = true := by decide +kernel
theorem one_P {d : Drum} {n : Nat} (hP : DrumP d) (hn : n < d.acids.length) : DrumP (oneD d n) := by
  have ha := hP.a1
  have := List.all_eq_true.1 (List.all_eq_true.1 one_known_ok d.acids.length (List.mem_range.2 (by omega))) n (List.mem_range.2 hn)
  simp only [Bool.and_eq_true, decide_eq_true_eq] at this
  exact { hP with k0 := this.1, k1 := this.2 }
theorem one_mem {d : Drum} {n : Nat} {a : Acid} (hP : DrumP d) (ha : d.acids[n]? = some a) {p : Acid × Nat} : p ∈ filledL (oneD d n) ↔ p = (a, n) ∧ mayB d a = true := by
  have hn := (List.getElem?_eq_some_iff.1 ha).1
  have h4 := hP.a1
  rw [filled_mem, one_may]
  constructor
  · rintro ⟨h1, h2, h3⟩
    have h1 : d.acids[p.2]? = some p.1 := h1
    have hp := (List.getElem?_eq_some_iff.1 h1).1
    have h2 : hasI (shlR .i64 1 n) p.2 = true := h2
    rw [one_has (by omega) (by omega)] at h2
    have h2 := of_decide_eq_true h2
    rw [h2, ha] at h1
    have h1 := Option.some.inj h1
    rw [← h1] at h3
    exact ⟨Prod.ext h1.symm h2, h3⟩
  · rintro ⟨rfl, h3⟩
    refine ⟨ha, ?_, h3⟩
    show hasI (shlR .i64 1 n) n = true
    rw [one_has (by omega) (by omega)]; simp
theorem hull_const {l : List Span} {s : Span} (hne : l ≠ []) (h : ∀ x ∈ l, x = s) : hullL l = s := by
  obtain ⟨x, hx, e1⟩ := hull_low hne
  obtain ⟨y, hy, e2⟩ := hull_high hne
  rw [h x hx] at e1
  rw [h y hy] at e2
  cases hl : hullL l
  rw [hl] at e1 e2
  cases s
  simp only at e1 e2
  rw [e1, e2]
theorem one_strength {d : Drum} {n : Nat} {a : Acid} (hP : DrumP d) (ha : d.acids[n]? = some a) (hm : mayB d a = true) : strengthL (oneD d n) = strongL d a := by
  unfold strengthL strongL
  refine List.map_congr_left fun i hi => ?_
  refine hull_const ?_ fun x hx => ?_
  · have : (a, n) ∈ filledL (oneD d n) := (one_mem hP ha).2 ⟨rfl, hm⟩
    intro e
    rw [List.map_eq_nil_iff] at e
    rw [e] at this; cases this
  · obtain ⟨p, hp, rfl⟩ := List.mem_map.1 hx
    obtain ⟨rfl, _⟩ := (one_mem hP ha).1 hp
    exact one_strong d n a i
theorem could_mem {d : Drum} {n : Nat} {a : Acid} (ha : d.acids[n]? = some a) : (n : Int) ∈ couldL d ↔ hasI d.known n = true ∧ mayB d a = true := by
  unfold couldL
  rw [List.mem_map]
  constructor
  · rintro ⟨p, hp, e⟩
    have e : p.2 = n := by omega
    obtain ⟨h1, h2, h3⟩ := filled_mem.1 hp
    rw [e, ha] at h1
    have h1 := Option.some.inj h1
    rw [e] at h2
    exact ⟨h2, by rw [h1]; exact h3⟩
  · rintro ⟨h1, h2⟩
    exact ⟨(a, n), filled_mem.2 ⟨ha, h1, h2⟩, rfl⟩
theorem filled_le (d : Drum) : (filledL d).length ≤ d.acids.length := by
  unfold filledL
  have h1 := List.length_filter_le (fun p : Acid × Nat => hasI d.known p.2 && mayB d p.1) d.acids.zipIdx
  simpa using h1
end Go.Abs
