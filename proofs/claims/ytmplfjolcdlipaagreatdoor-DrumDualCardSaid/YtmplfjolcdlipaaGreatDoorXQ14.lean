/- Lemmas. -/
import Derived.Test.YtmplfjolcdlipaaGreatDoorNcA
import Derived.Test.YtmplfjolcdlipaaGreatDoorNcB
import Derived.Test.YtmplfjolcdlipaaGreatDoorNcC
import Derived.Test.YtmplfjolcdlipaaGreatDoorNcD
import Derived.Test.YtmplfjolcdlipaaGreatDoorNcE
import Derived.Test.YtmplfjolcdlipaaGreatDoorNcF
import Derived.Test.YtmplfjolcdlipaaGreatDoorNcG
import Derived.Test.YtmplfjolcdlipaaGreatDoorNcH
import Derived.Test.YtmplfjolcdlipaaGreatDoorDrA
import Derived.Test.YtmplfjolcdlipaaGreatDoorDrB
import Derived.Test.YtmplfjolcdlipaaGreatDoorDrC
import Derived.Test.YtmplfjolcdlipaaGreatDoorFA
import Derived.Test.YtmplfjolcdlipaaGreatDoorNcI
import Derived.Test.YtmplfjolcdlipaaGreatDoorNcJ
import Derived.Test.YtmplfjolcdlipaaGreatDoorNcK
import Derived.Test.YtmplfjolcdlipaaGreatDoorSh
import Derived.Test.YtmplfjolcdlipaaGreatDoorDrO
import Derived.Test.YtmplfjolcdlipaaGreatDoorDrD
import Derived.Test.YtmplfjolcdlipaaGreatDoorDrE
import Derived.Test.YtmplfjolcdlipaaGreatDoorDrF
import Derived.Test.YtmplfjolcdlipaaGreatDoorDrP
import Derived.Test.YtmplfjolcdlipaaGreatDoorDrQ
import Derived.Test.YtmplfjolcdlipaaGreatDoorDrR
import Derived.Test.YtmplfjolcdlipaaGreatDoorDrS
import Derived.Test.YtmplfjolcdlipaaGreatDoorDrU
import Derived.Test.YtmplfjolcdlipaaGreatDoorDrG
import Derived.Test.YtmplfjolcdlipaaGreatDoorDrV
import Derived.Test.YtmplfjolcdlipaaGreatDoorDrH
import Derived.Test.YtmplfjolcdlipaaGreatDoorDrI
import Derived.Test.YtmplfjolcdlipaaGreatDoorDrJ
import Derived.Test.YtmplfjolcdlipaaGreatDoorDrK
import Derived.Test.YtmplfjolcdlipaaGreatDoorDrL
import Derived.Test.YtmplfjolcdlipaaGreatDoorDrM
import Derived.Test.YtmplfjolcdlipaaGreatDoorDrN
import Derived.Test.YtmplfjolcdlipaaGreatDoorDrW
import Derived.Test.YtmplfjolcdlipaaGreatDoorDrBK
import Derived.Test.YtmplfjolcdlipaaGreatDoorDrBJ
import Derived.Test.YtmplfjolcdlipaaGreatDoorDrBL
set_option linter.unusedVariables false
set_option linter.unusedSimpArgs false
namespace Go.Abs
open Go.RowKit Go.ChangeShapes
set_option linter.unusedVariables false
section
variable {H : Type} {enc : TypeId × Value → H} {P : Program} {W : World}
theorem cells_slice {t el : TypeId} {v : Value} {r : Reach} {b : Nat} (ht : P.underlying t = some (.slice el)) (h : Value.okWide P W r b t v) : v.cells = #[v] := by
  cases v <;> first | rfl | (simp [Value.okWide, ht, Cell.okWide, Cell.ok] at h)
end
end Go.Abs
namespace Go.Abs
set_option linter.unusedVariables false
section
variable {d : Drum}
theorem smooth_bd (d : Drum) (b : Batch) : -1 ≤ smoothI d b ∧ smoothI d b ≤ d.hours.toNat := by
  unfold smoothI
  rcases firstI_spec (fun h => decide ((boundsI d b h).rough.high ≤ b.goal)) (d.hours.toNat + 1) 0 with ⟨h1, h2⟩ | ⟨n, h1, h2, h3, h4, h5⟩ <;> rw [h1] <;> omega
theorem thin_bd (d : Drum) (b : Batch) : -1 ≤ thinI d b ∧ thinI d b ≤ d.hours.toNat := by
  unfold thinI
  rcases lastI_spec (fun h => decide ((boundsI d b h).thick.low ≥ b.least)) (d.hours.toNat + 1) with ⟨h1, h2⟩ | ⟨n, h1, h2, h3, h4⟩ <;> rw [h1] <;> omega
end
end Go.Abs
namespace Go.Abs
set_option linter.unusedVariables false
def winR1 (d : Drum) (b : Batch) : Span := if smoothI d b < 0 ∨ thinI d b < 0 ∨ smoothI d b > thinI d b then ⟨1, 0⟩ else ⟨smoothI d b, thinI d b⟩
def winR (d : Drum) : List Span := d.batches.map (winR1 d)
theorem span_ext {s t : Span} (h : ∀ n, inS s n ↔ inS t n) : openS s = openS t ∧ (openS s = true → s = t) := by
  have e : openS s = openS t := by
    rw [Bool.eq_iff_iff, open_iff, open_iff]
    exact ⟨fun ⟨n, hn⟩ => ⟨n, (h n).1 hn⟩, fun ⟨n, hn⟩ => ⟨n, (h n).2 hn⟩⟩
  refine ⟨e, fun ho => ?_⟩
  have ho' := ho
  rw [e] at ho'
  simp only [openS, decide_eq_true_eq] at ho ho'
  have h1 := (h s.low).1 ⟨Int.le_refl _, ho⟩
  have h2 := (h s.high).1 ⟨ho, Int.le_refl _⟩
  have h3 := (h t.low).2 ⟨Int.le_refl _, ho'⟩
  have h4 := (h t.high).2 ⟨ho', Int.le_refl _⟩
  simp only [inS] at *
  cases s; cases t
  simp only [Span.mk.injEq] at *
  omega
theorem win1_iff {d : Drum} {b : Batch} {n : Int} : inS (winP1 d b) n ↔ 0 ≤ smoothI d b ∧ smoothI d b ≤ n ∧ n ≤ thinI d b := by
  unfold winP1
  split
  · simp only [inS]; constructor <;> intro h <;> omega
  · simp only [inS]; constructor <;> intro h <;> omega
theorem win1_same {d : Drum} {b : Batch} {n : Int} : inS (winR1 d b) n ↔ inS (winP1 d b) n := by
  rw [win1_iff]
  unfold winR1
  split
  · simp only [inS]; constructor <;> intro h <;> omega
  · simp only [inS]; constructor <;> intro h <;> omega
theorem win_same {d : Drum} {p : Nat → Bool} {n : Int} : inS (meetL (pick (winR d) p)) n ↔ inS (meetL (pick (winP d) p)) n := by
  rw [pick_iff, pick_iff]
  refine and_congr_right fun _ => ?_
  simp only [winR, winP, List.getElem?_map, Option.map_eq_some_iff]
  constructor
  · rintro h i s ⟨b, hb, rfl⟩ hp; exact win1_same.1 (h i _ ⟨b, hb, rfl⟩ hp)
  · rintro h i s ⟨b, hb, rfl⟩ hp; exact win1_same.2 (h i _ ⟨b, hb, rfl⟩ hp)
theorem win_open (d : Drum) (p : Nat → Bool) : openS (meetL (pick (winR d) p)) = openS (meetL (pick (winP d) p)) ∧ (openS (meetL (pick (winP d) p)) = true → meetL (pick (winR d) p) = meetL (pick (winP d) p)) := by
  have h := span_ext (s := meetL (pick (winR d) p)) (t := meetL (pick (winP d) p)) fun n => win_same
  exact ⟨h.1, fun ho => h.2 (by rw [h.1]; exact ho)⟩
theorem all_iff {d : Drum} {n : Int} : inS (allW d) n ↔ (0 ≤ n ∧ n ≤ 12) ∧ ∀ b ∈ d.batches, inS (winP1 d b) n := by
  unfold allW
  rw [pick_iff]
  refine and_congr_right fun _ => ?_
  simp only [winP, List.getElem?_map, Option.map_eq_some_iff]
  constructor
  · intro h b hb
    obtain ⟨i, hi⟩ := List.mem_iff_getElem?.1 hb
    exact h i _ ⟨b, hi, rfl⟩ trivial
  · rintro h i s ⟨b, hb, rfl⟩ _
    exact h b (List.mem_of_getElem? hb)
end Go.Abs
namespace Go.Abs
set_option linter.unusedVariables false
def stepL (all : List (List Int)) : List (List Int) := all.flatMap fun l => (List.range ((runsI l).toNat + 1)).map fun m : Nat => l ++ [(m : Int)]
def bfsI : Nat → List (List Int)
  | 0 => [[]]
  | k + 1 => stepL (bfsI k)
def iterL : Nat → List (List Int) → List (List Int)
  | 0, a => a
  | k + 1, a => iterL k (stepL a)
theorem iter_flat : ∀ (k : Nat) (a : List (List Int)), iterL k a = a.flatMap (levelI k)
  | 0, a => by simp [iterL, levelI, List.flatMap_singleton']
  | k + 1, a => by
    rw [iterL, iter_flat k, stepL, List.flatMap_assoc]
    congr 1
    funext l
    rw [List.flatMap_map]; rfl
theorem iter_succ : ∀ (k : Nat) (a : List (List Int)), iterL (k + 1) a = stepL (iterL k a)
  | 0, a => rfl
  | k + 1, a => by rw [iterL, iter_succ k (stepL a)]; rfl
theorem bfs_level (k : Nat) : bfsI k = levelI k [] := by
  have : bfsI k = iterL k [[]] := by
    induction k with
    | zero => rfl
    | succ k ih => rw [bfsI, ih, iter_succ]
  rw [this, iter_flat]; simp
end Go.Abs
namespace Go.Abs
set_option linter.unusedVariables false
theorem lists_mem (below : Nat) : ∀ (m fr : Nat) (l : List Int), l ∈ listsI below m fr ↔ l.length = m ∧ l.Pairwise (· < ·) ∧ ∀ x ∈ l, (fr : Int) ≤ x ∧ x < (below : Int)
  | 0, fr, l => by
    simp only [listsI, List.mem_singleton]
    constructor
    · rintro rfl; simp
    · rintro ⟨h, _⟩; exact List.length_eq_zero_iff.1 h
  | m + 1, fr, l => by
    simp only [listsI, List.mem_flatMap, List.mem_range'_1, List.mem_map]
    constructor
    · rintro ⟨n, hn, r, hr, rfl⟩
      obtain ⟨h1, h2, h3⟩ := (lists_mem below m (n + 1) r).1 hr
      refine ⟨by simp [h1], List.pairwise_cons.2 ⟨fun x hx => by have := (h3 x hx).1; omega, h2⟩, fun x hx => ?_⟩
      rcases List.mem_cons.1 hx with rfl | hx
      · omega
      · have := h3 x hx; omega
    · rintro ⟨h1, h2, h3⟩
      match l, h1, h2, h3 with
      | x :: r, h1, h2, h3 =>
        have hx := h3 x (by simp)
        rw [List.pairwise_cons] at h2
        refine ⟨x.toNat, by omega, r, (lists_mem below m (x.toNat + 1) r).2 ⟨by simpa using h1, h2.2, fun y hy => ?_⟩, ?_⟩
        · have := h2.1 y hy; have := h3 y (by simp [hy]); omega
        · rw [show ((x.toNat : Nat) : Int) = x by omega]
theorem orderN_mem {n : Nat} {l : List Int} : l ∈ orderN n ↔ l.length ≤ n ∧ l.Pairwise (· < ·) ∧ ∀ x ∈ l, 0 ≤ x ∧ x < (n : Int) := by
  simp only [orderN, List.mem_flatMap, List.mem_range, lists_mem]
  constructor
  · rintro ⟨k, hk, h1, h2, h3⟩; exact ⟨by omega, h2, h3⟩
  · rintro ⟨h1, h2, h3⟩; exact ⟨l.length, by omega, rfl, h2, h3⟩
theorem orderA_mem {n : Nat} {l : List Int} : l ∈ orderA n ↔ l ∈ orderN n := by
  simp only [orderA, orderN, List.mem_flatMap, List.mem_reverse]
theorem sorts_stab {W : List Span} {l : List Int} (hl : l.length = W.length) (h0 : ∀ x ∈ l, 0 ≤ x) (hs : sortsB W l = true) : ∃ P, stabs W P ∧ (P.length : Int) = runsI l := by
  have hn := runs_nonneg l
  simp only [sortsB, Bool.and_eq_true, List.all_eq_true, List.mem_range] at hs
  have hp : ∀ r, r < (runsI l).toNat → ∃ p, inS (meetL (pick W fun i => decide (l[i]? = some (r : Int)))) p := fun r hr => open_iff.1 (hs.2 r hr)
  have key : ∀ k, k ≤ (runsI l).toNat → ∃ P : List Int, P.length = k ∧ ∀ (r : Nat) (p : Int), P[r]? = some p → inS (meetL (pick W fun i => decide (l[i]? = some (r : Int)))) p := by
    intro k
    induction k with
    | zero => intro _; exact ⟨[], rfl, by simp⟩
    | succ k ih =>
      intro hk
      obtain ⟨P, h1, h2⟩ := ih (by omega)
      obtain ⟨p, hp⟩ := hp k (by omega)
      refine ⟨P ++ [p], by simp [h1], fun r q hq => ?_⟩
      by_cases hr : r < P.length
      · rw [List.getElem?_append_left hr] at hq
        exact h2 r q hq
      · rw [List.getElem?_append_right (by omega)] at hq
        have hr0 : r = k := by
          have := (List.getElem?_eq_some_iff.1 hq).1
          simp at this; omega
        subst hr0
        rw [h1, Nat.sub_self] at hq
        simp only [List.getElem?_cons_zero, Option.some.injEq] at hq
        subst hq; exact hp
  obtain ⟨P, h1, h2⟩ := key _ (Nat.le_refl _)
  refine ⟨P, ⟨fun p hp => ?_, fun s hs' => ?_⟩, by omega⟩
  · obtain ⟨r, hr⟩ := List.mem_iff_getElem?.1 hp
    exact (pick_iff.1 (h2 r p hr)).1
  · obtain ⟨i, hi⟩ := List.mem_iff_getElem?.1 hs'
    have hil : i < l.length := by rw [hl]; exact (List.getElem?_eq_some_iff.1 hi).1
    have hx : l[i]? = some l[i] := by simp [hil]
    have h3 := h0 _ (List.mem_of_getElem? hx)
    have h4 := runs_lt (List.mem_of_getElem? hx)
    obtain ⟨p, hp⟩ : ∃ p, P[l[i].toNat]? = some p := ⟨P[l[i].toNat]'(by omega), by simp⟩
    refine ⟨p, List.mem_of_getElem? hp, (pick_iff.1 (h2 _ p hp)).2 i s hi ?_⟩
    rw [hx, show ((l[i].toNat : Nat) : Int) = l[i] by omega]
    simp
def apartQ (W : List Span) (q : Nat → Bool) : Prop := ∀ i j s t, W[i]? = some s → W[j]? = some t → q i = true → q j = true → i ≠ j → ∀ n, ¬ (inS s n ∧ inS t n)
theorem filter_or {q r : Nat → Bool} {j : Nat} (hr : ∀ i, r i = true → q i = true) (hj : r j = false) (hq : q j = true) (ho : ∀ i, q i = true → i = j ∨ r i = true) : ∀ (J : List Nat), J.Nodup → j ∈ J → (J.filter q).length = (J.filter r).length + 1
  | [], _, h => by cases h
  | x :: J, hn, h => by
    rw [List.nodup_cons] at hn
    by_cases hx : x = j
    · subst hx
      rw [List.filter_cons_of_pos hq, List.filter_cons_of_neg (by simp [hj])]
      have : J.filter q = J.filter r := List.filter_congr fun y hy => by
        rw [Bool.eq_iff_iff]
        refine ⟨fun h => ?_, hr y⟩
        rcases ho y h with rfl | h
        · exact absurd hy hn.1
        · exact h
      rw [this]; rfl
    · have ih := filter_or hr hj hq ho J hn.2 (by rcases List.mem_cons.1 h with h | h; exact absurd h.symm hx; exact h)
      by_cases hq' : q x = true
      · have hr' : r x = true := by
          rcases ho x hq' with h | h
          · exact absurd h hx
          · exact h
        rw [List.filter_cons_of_pos hq', List.filter_cons_of_pos hr', List.length_cons, List.length_cons, ih]
      · have hr' : ¬ r x = true := fun h => hq' (hr x h)
        rw [List.filter_cons_of_neg hq', List.filter_cons_of_neg hr', ih]
theorem least_of {α : Type} (f : α → Int) : ∀ (l : List α), l ≠ [] → ∃ x ∈ l, ∀ y ∈ l, f x ≤ f y
  | [], h => absurd rfl h
  | [x], _ => ⟨x, by simp, fun y hy => by simp only [List.mem_singleton] at hy; subst hy; exact Int.le_refl _⟩
  | x :: z :: l, _ => by
    obtain ⟨y, hy, h⟩ := least_of f (z :: l) (by simp)
    by_cases hxy : f x ≤ f y
    · exact ⟨x, by simp, fun w hw => by
        rcases List.mem_cons.1 hw with rfl | hw
        · exact Int.le_refl _
        · have := h w hw; omega⟩
    · exact ⟨y, by simp only [List.mem_cons] at hy ⊢; exact .inr hy, fun w hw => by
        rcases List.mem_cons.1 hw with rfl | hw
        · omega
        · exact h w hw⟩
theorem dual_go {W : List Span} (hW : ∀ s ∈ W, 0 ≤ s.low ∧ s.low ≤ s.high ∧ s.high ≤ 12) : ∀ (k : Nat) (J : List Nat), J.length ≤ k → J.Nodup → (∀ i ∈ J, i < W.length) →
    ∃ (P : List Int) (q : Nat → Bool), (∀ p ∈ P, 0 ≤ p ∧ p ≤ 12) ∧ (∀ i s, i ∈ J → W[i]? = some s → ∃ p ∈ P, inS s p) ∧ (J.filter q).length = P.length ∧ (∀ i, q i = true → i ∈ J) ∧ apartQ W q
  | 0, J, hk, _, _ => by
    have := List.length_eq_zero_iff.1 (Nat.le_zero.1 hk)
    subst this
    exact ⟨[], fun _ => false, by simp, by simp, by simp, by simp, fun i j s t _ _ h => by simp at h⟩
  | k + 1, J, hk, hn, hJ => by
    by_cases he : J = []
    · subst he
      exact ⟨[], fun _ => false, by simp, by simp, by simp, by simp, fun i j s t _ _ h => by simp at h⟩
    · obtain ⟨j, hj, hmin⟩ := least_of (fun i => (W.getD i ⟨0, 0⟩).high) J he
      have hjW := hJ j hj
      have gd : ∀ i, i < W.length → ∃ s, W[i]? = some s ∧ W.getD i ⟨0, 0⟩ = s := fun i hi => ⟨W[i], by simp [hi], by rw [List.getD_eq_getElem?_getD]; simp [hi]⟩
      obtain ⟨sj, hsj, ej⟩ := gd j hjW
      have hsjW := hW sj (List.mem_of_getElem? hsj)
      let f : Nat → Bool := fun i => decide (sj.high < (W.getD i ⟨0, 0⟩).low)
      have hfj : f j = false := by simp only [f, ej, decide_eq_false_iff_not]; omega
      have hlen : (J.filter f).length ≤ k := by
        have h1 : (J.filter f).length < J.length := by
          have := List.length_filter_lt_length_iff_exists (p := f) (l := J)
          exact this.2 ⟨j, hj, by simp [hfj]⟩
        omega
      obtain ⟨P, q, h1, h2, h3, h4, h5⟩ := dual_go hW k (J.filter f) hlen (hn.filter _) (fun i hi => hJ i (List.mem_filter.1 hi).1)
      refine ⟨sj.high :: P, fun i => decide (i = j) || q i, ?_, ?_, ?_, ?_, ?_⟩
      · intro p hp
        rcases List.mem_cons.1 hp with rfl | hp
        · omega
        · exact h1 p hp
      · intro i s hi hs
        by_cases hf : f i = true
        · obtain ⟨p, hp, hsp⟩ := h2 i s (List.mem_filter.2 ⟨hi, hf⟩) hs
          exact ⟨p, by simp [hp], hsp⟩
        · refine ⟨sj.high, by simp, ?_⟩
          have hm := hmin i hi
          have hsi : W.getD i ⟨0, 0⟩ = s := by rw [List.getD_eq_getElem?_getD, hs]; rfl
          simp only [f, decide_eq_true_eq, hsi] at hf
          rw [ej, hsi] at hm
          exact ⟨by omega, hm⟩
      · have hqj : q j = false := by
          cases h : q j with
          | false => rfl
          | true => have := (List.mem_filter.1 (h4 j h)).2; rw [hfj] at this; cases this
        rw [filter_or (q := fun i => decide (i = j) || q i) (r := q) (j := j) (fun i h => by simp [h]) hqj (by simp) (fun i h => by simpa using h) J hn hj, List.length_cons, ← h3]
        congr 2
        rw [List.filter_filter]
        refine List.filter_congr fun i hi => ?_
        cases h : q i with
        | false => simp
        | true => have := (List.mem_filter.1 (h4 i h)).2; simp [this]
      · intro i hi
        simp only [Bool.or_eq_true, decide_eq_true_eq] at hi
        rcases hi with rfl | hi
        · exact hj
        · exact (List.mem_filter.1 (h4 i hi)).1
      · have far : ∀ i s, W[i]? = some s → q i = true → sj.high < s.low := fun i s hi hq => by
          have := (List.mem_filter.1 (h4 i hq)).2
          simp only [f, decide_eq_true_eq] at this
          rw [List.getD_eq_getElem?_getD, hi] at this
          exact this
        intro i i' s t hs ht hi hi' hne n hn'
        simp only [Bool.or_eq_true, decide_eq_true_eq] at hi hi'
        rcases hi with rfl | hi
        · rcases hi' with rfl | hi'
          · exact hne rfl
          · have := far i' t ht hi'
            rw [hsj] at hs; cases hs
            simp only [inS] at hn'; omega
        · rcases hi' with rfl | hi'
          · have := far i s hs hi
            rw [hsj] at ht; cases ht
            simp only [inS] at hn'; omega
          · exact h5 i i' s t hs ht hi hi' hne n hn'
end Go.Abs
namespace Go.Abs
open Go.Proofs
set_option linter.unusedVariables false
set_option linter.unusedSimpArgs false
set_option maxRecDepth 100000
def windowE (d : Drum) : Span × Int := if errE d true = 0 then (if openS (allW d) then (allW d, 0) else (⟨0, 0⟩, 5)) else (⟨0, 0⟩, errE d true)
set_option maxHeartbeats 4000000 in
theorem f55 (d : Drum) (hd : drumOK d) : ACalls Tryz.prog 55 [eDrum d] (fun r => r = .tup [eS (windowE d).1, vi (windowE d).2]) := by
  have k84 := f84 d true hd
  refine ACalls.of_body hT Tryz.func55 rfl (by kernel_rfl) rfl ?_
  by_cases he : errE d true = 0
  · obtain ⟨hP, _, hne, ha⟩ := asked_ok he
    rw [ha] at k84
    have k84 : ACalls Tryz.prog 84 [eDrum d, .bool true] (fun r => r = .tup [.sl ((filledL d).map (eFilled d)), vi 0]) := k84
    have hbl := hP.b1
    have hwl : (winP d).length ≤ 5 := by rw [winP_len]; exact hbl
    have h1 := shl_small hbl
    (repeat' (first | refine stq ?_ | (refine AL_do2 rfl ?_; first | refine ⟨_, op_call1 rfl rfl rfl rfl (k84), nrmA rfl ?_⟩) | (with_reducible refine AL_id ?_); (fail_if_success (refine AL_glit rfl rfl rfl (by first | exact .inl (by with_reducible rfl) | exact .inr (by with_reducible rfl)) ?_)); first | refine AL_gdec rfl rfl rfl (fun hg => ?_) (fun hg => ?_) | refine AL_gnot rfl rfl rfl (fun hg => ?_) (fun hg => ?_) | refine AL_gcases rfl rfl rfl (fun hg => ?_) (fun hg => ?_)))
    refine AL_doS rfl (op_callXs (objs := []) (n := 0) [] [] [] (fun av => f98 d hP hne) rfl rfl rfl rfl (by (repeat' (first | exact trivial | refine And.intro ?_ ?_)); all_goals (first | rfl | decide)) rfl (by (repeat' (first | exact trivial | refine And.intro ?_ ?_)); all_goals (first | rfl | decide)) rfl trivial (by simp) (fun av sf h => trivial)) ?_
    rintro s' ⟨av, sf, ⟨l, rfl⟩, rfl⟩
    have k100 := f100 l (winP d) hwl
    rw [winP_len] at k100
    have k99 := f99 l (winP d) (allB d.batches.length) (by omega)
    have k102 := f102 l (winP d) (allB d.batches.length) (by omega)
    rw [of_all hP] at k99 k102
    rw [windowE, if_pos he]
    cases q : openS (allW d) with
    | false =>
      rw [q] at k99
      (repeat (refine stq ?_))
      (repeat (first | refine DG_next (D_callMemo rfl rfl rfl rfl (fun s1 => (by (repeat' (first | exact trivial | refine And.intro ?_ ?_)); all_goals (first | rfl | decide))) rfl rfl k100) ?_ | refine DG_next (D_callMemo rfl rfl rfl rfl (fun s1 => (by (repeat' (first | exact trivial | refine And.intro ?_ ?_)); all_goals (first | rfl | decide))) rfl rfl k99) ?_ | refine sdq ?_))
      refine DG_end hM (by kernel_rfl) ?_
      (repeat (refine stq ?_))
      exact ⟨_, _, rfl, rfl, rfl⟩
    | true =>
      rw [q] at k99
      (repeat (refine stq ?_))
      (repeat (first | refine DG_next (D_callMemo rfl rfl rfl rfl (fun s1 => (by (repeat' (first | exact trivial | refine And.intro ?_ ?_)); all_goals (first | rfl | decide))) rfl rfl k100) ?_ | refine DG_next (D_callMemo rfl rfl rfl rfl (fun s1 => (by (repeat' (first | exact trivial | refine And.intro ?_ ?_)); all_goals (first | rfl | decide))) rfl rfl k99) ?_ | refine sdq ?_))
      refine DG_end hM (by kernel_rfl) ?_
      (repeat (refine stq ?_))
      (repeat (first | refine DG_next (D_callMemo rfl rfl rfl rfl (fun s1 => (by (repeat' (first | exact trivial | refine And.intro ?_ ?_)); all_goals (first | rfl | decide))) rfl rfl k100) ?_ | refine sdq ?_))
      refine DG_end hM (by kernel_rfl) ?_
      (repeat (refine stq ?_))
      refine AL_doS rfl (op_callXs (objs := [(0, memoO (memoF (winP d)) l)]) (n := 1) [(0, 2)] [0] [] (fun av => k102) rfl rfl rfl rfl (by (repeat' (first | exact trivial | refine And.intro ?_ ?_)); all_goals (first | rfl | decide)) rfl (by (repeat' (first | exact trivial | refine And.intro ?_ ?_)); all_goals (first | rfl | decide)) rfl trivial (by simp) (fun av sf h => by subst h; exact ⟨.inr ⟨_, _, _, _, _, rfl, rfl⟩, trivial⟩)) ?_
      rintro s' ⟨av2, sf, rfl, rfl⟩
      (repeat (refine stq ?_))
      exact ⟨_, _, rfl, rfl, rfl⟩
  · rw [asked_err he] at k84
    have k84 : ACalls Tryz.prog 84 [eDrum d, .bool true] (fun r => r = .tup [.sl [], vi (errE d true)]) := k84
    (repeat' (first | refine stq ?_ | (refine AL_do2 rfl ?_; first | refine ⟨_, op_call1 rfl rfl rfl rfl (k84), nrmA rfl ?_⟩) | (with_reducible refine AL_id ?_); (fail_if_success (refine AL_glit rfl rfl rfl (by first | exact .inl (by with_reducible rfl) | exact .inr (by with_reducible rfl)) ?_)); first | refine AL_gdec rfl rfl rfl (fun hg => ?_) (fun hg => ?_) | refine AL_gnot rfl rfl rfl (fun hg => ?_) (fun hg => ?_) | refine AL_gcases rfl rfl rfl (fun hg => ?_) (fun hg => ?_)))
    refine AW_if rfl (fun hc => ?_) (fun hc => absurd (by omega) hc)
    (repeat (refine stq ?_))
    exact ⟨_, _, rfl, rfl, by rw [windowE, if_neg he]; rfl⟩
end Go.Abs
namespace Go.Abs
open Go.RowKit
set_option linter.unusedVariables false
section
variable {P : Program} {T : Nat → Option TyI} {nt : Nat} {s : ASt} {o : Oper} {ops : Array Oper}
theorem evB_mapO {s : ASt} : ∀ {l : List Operand} {ys : List FV} {ps : List PV}, evL s l = some ys → mapO (s.pvOf true 5) ys = some ps → mapO s.evB l = some ps
  | [], ys, ps, h, hp => by simp only [evL, Option.some.injEq] at h; subst h; exact hp
  | x :: l, ys, ps, h, hp => by
    unfold evL at h
    split at h
    · rename_i y ys' h1 h2
      cases h
      unfold mapO at hp
      split at hp
      · rename_i q qs q1 q2
        cases hp
        have := evB_mapO h2 q2
        unfold mapO
        rw [this]
        have : s.evB x = some q := by unfold ASt.evB; rw [h1]; exact q1
        rw [this]
      · cases hp
    · cases h
theorem D_callB {g id : Nat} {ob : AObj} {args : Array Operand} {ts : Array TypeId} {ys : List FV} {ps : List PV} {p : PV} (hg : guardT ops s o = true) (ho : o.op = .call { callee := .value (.func g), args, argTypes := ts }) (hd : dstB nt o.dst = true) (ha : evL s args.toList = some ys)
    (hob : s.obj id = some ob) (hx : ∀ s1 : ASt, s1.obj id = some ob → mapO (s1.pvOf true 5) ys = some ps) (hc : ACalls P g ps (fun r => r = .pv p)) (hfl : (RV.pv p).flat = true) : StepOK P nt ops o s ⟨some (.pv p), false, [id], []⟩ (s.putO o.dst (some (.pv p))) :=
  StepOK.mkP hg fun s1 h1 h2 => op_callB (r := .pv p) (g := g) (caps := []) (ps := ps) ho hd rfl
    (evB_mapO (by rw [evL_agree fun x hx => ev_agree h1 (by simp [ho, Op.operands, Call.operands]; right; simpa using hx)]; exact ha) (hx s1 (by rw [h2 id (by simp)]; exact hob))) (by rw [List.append_nil]; exact hc) hfl
end
end Go.Abs
namespace Go.Abs
open Go.Proofs
set_option linter.unusedVariables false
set_option linter.unusedSimpArgs false
set_option maxRecDepth 100000
theorem f116 (d : Drum) (n : Int) (hb : d.batches.length ≤ 1000) : ACalls Tryz.prog 116 [vi n, .ptr (eDrumC d)] (fun r => r = .pv (.bool (!inB n 0 (d.batches.length - 1)))) := by
  have k87 := f87 n 0 (d.batches.length - 1)
  refine ACalls.of_body hT Tryz.func116 rfl (by kernel_rfl) rfl ?_
  (repeat' (first | refine stq ?_ | (refine AL_do2 rfl ?_; first | refine ⟨_, op_call1 rfl rfl rfl rfl (k87), nrmA rfl ?_⟩) | (with_reducible refine AL_id ?_); (fail_if_success (refine AL_glit rfl rfl rfl (by first | exact .inl (by with_reducible rfl) | exact .inr (by with_reducible rfl)) ?_)); first | refine AL_gdec rfl rfl rfl (fun hg => ?_) (fun hg => ?_) | refine AL_gnot rfl rfl rfl (fun hg => ?_) (fun hg => ?_) | refine AL_gcases rfl rfl rfl (fun hg => ?_) (fun hg => ?_)))
  exact ⟨_, _, rfl, rfl, rfl⟩
def badNo (d : Drum) (n : Int) : Bool := !inB n 0 (d.batches.length - 1)
def fineS (d : Drum) (l : List Int) : Bool := decide (l.length = d.batches.length) && !l.any (badNo d)
theorem lent27 (d : Drum) (l : List Int) (s1 : ASt) (h : s1.obj 0 = some (.box ((eDrumC d).map FV.pv))) : mapO (s1.pvOf true 5) [.pv (eInts l), .fn 116 [.box 0 0]] = some [eInts l, .fn 116 [.ptr (eDrumC d)]] := by
  simp only [mapO, ASt.pvOf, h, eDrumC, List.map_cons, List.map_nil, List.drop_zero]
def sortsE (d : Drum) (l : List Int) : Bool × Int := if errE d (fineS d l) = 0 then (sortsP (winP d) l, 0) else (false, errE d (fineS d l))
set_option maxHeartbeats 4000000 in
theorem f44 (d : Drum) (l : List Int) (hd : drumOK d) (hl : l.length ≤ 1000) (hb : d.batches.length ≤ 1000) : ACalls Tryz.prog 44 [eDrum d, eInts l] (fun r => r = .tup [.bool (sortsE d l).1, vi (sortsE d l).2]) := by
  have k84 := f84 d (fineS d l) hd
  have k115 := c115 l 116 [.ptr (eDrumC d)] (badNo d) hl (fun x _ => f116 d x hb)
  refine ACalls.of_body hT Tryz.func44 rfl (by kernel_rfl) rfl ?_
  by_cases he : errE d (fineS d l) = 0
  · obtain ⟨hP, hfine, hne, ha⟩ := asked_ok he
    rw [ha] at k84
    have hfine' := hfine
    unfold fineS at hfine'
    simp only [Bool.and_eq_true, decide_eq_true_eq, Bool.not_eq_true'] at hfine'
    obtain ⟨hlen, hany⟩ := hfine'
    have hbl := hP.b1
    have h0 : ∀ x ∈ l, 0 ≤ x := fun x hx => by
      have := List.any_eq_false.1 hany x hx
      unfold badNo inB at this
      simp at this
      omega
    rw [hfine] at k84
    have k84 : ACalls Tryz.prog 84 [eDrum d, .bool true] (fun r => r = .tup [.sl ((filledL d).map (eFilled d)), vi 0]) := k84
    rw [hany] at k115
    (repeat (refine stq ?_))
    (repeat' (first | refine DG_next (StepOK.skipU rfl rfl) ?_ | refine DG_next (D_callB (id := 0) (ob := .box ((eDrumC d).map FV.pv)) (ys := [.pv (eInts l), .fn 116 [.box 0 0]]) rfl rfl rfl rfl rfl (lent27 d l) k115 rfl) ?_ | ((refine DG_cmp hT rfl (fun hg => ?_) (fun hg => ?_)) <;> (try (exfalso; omega))) | refine DG_next (D_shl rfl rfl rfl rfl rfl (by omega)) ?_ | refine DG_next (D_shr rfl rfl rfl rfl rfl (by omega)) ?_ | refine sdq ?_ | refine DG_next (D_call_tup rfl rfl rfl rfl rfl (k84)) ?_))
    refine DG_end hM (by kernel_rfl) ?_
    (repeat (refine stq ?_))
    refine AL_doS rfl (op_callXs (objs := []) (n := 0) [] [] [] (fun av => f98 d hP hne) rfl rfl rfl rfl (by (repeat' (first | exact trivial | refine And.intro ?_ ?_)); all_goals (first | rfl | decide)) rfl (by (repeat' (first | exact trivial | refine And.intro ?_ ?_)); all_goals (first | rfl | decide)) rfl trivial (by simp) (fun av sf h => trivial)) ?_
    rintro s' ⟨av, sf, ⟨m, rfl⟩, rfl⟩
    have k117 := f117 m (winP d) l (by rw [winP_len]; omega) (by omega) h0
    (repeat (refine stq ?_))
    refine AL_doS rfl (op_callXs (objs := [(0, memoO (memoF (winP d)) m)]) (n := 1) [(0, 1)] [0] [] (fun av => k117) rfl rfl rfl rfl (by (repeat' (first | exact trivial | refine And.intro ?_ ?_)); all_goals (first | rfl | decide)) rfl (by (repeat' (first | exact trivial | refine And.intro ?_ ?_)); all_goals (first | rfl | decide)) rfl trivial (by simp) (fun av sf h => by subst h; exact ⟨.inr ⟨_, _, _, _, _, rfl, rfl⟩, trivial⟩)) ?_
    rintro s' ⟨av2, sf, rfl, rfl⟩
    (repeat (refine stq ?_))
    exact ⟨_, _, rfl, rfl, by unfold sortsE; rw [if_pos he]⟩
  · rw [asked_err he] at k84
    by_cases hlen : (l.length : Int) = d.batches.length
    · have hf : fineS d l = !l.any (badNo d) := by unfold fineS; rw [decide_eq_true (by omega)]; rfl
      rw [hf] at k84 he
      have k84 : ACalls Tryz.prog 84 [eDrum d, .bool (!l.any (badNo d))] (fun r => r = .tup [.sl [], vi (errE d (!l.any (badNo d)))]) := k84
      (repeat (refine stq ?_))
      (repeat' (first | refine DG_next (StepOK.skipU rfl rfl) ?_ | refine DG_next (D_callB (id := 0) (ob := .box ((eDrumC d).map FV.pv)) (ys := [.pv (eInts l), .fn 116 [.box 0 0]]) rfl rfl rfl rfl rfl (lent27 d l) k115 rfl) ?_ | ((refine DG_cmp hT rfl (fun hg => ?_) (fun hg => ?_)) <;> (try (exfalso; omega))) | refine DG_next (D_shl rfl rfl rfl rfl rfl (by omega)) ?_ | refine DG_next (D_shr rfl rfl rfl rfl rfl (by omega)) ?_ | refine sdq ?_ | refine DG_next (D_call_tup rfl rfl rfl rfl rfl (k84)) ?_))
      refine DG_end hM (by kernel_rfl) ?_
      (repeat (refine stq ?_))
      refine AW_if rfl (fun hc => ?_) (fun hc => absurd (by omega) hc)
      (repeat (refine stq ?_))
      exact ⟨_, _, rfl, rfl, by unfold sortsE; rw [hf, if_neg he]⟩
    · have hf : fineS d l = false := by unfold fineS; rw [decide_eq_false (by omega)]; rfl
      rw [hf] at k84 he
      have k84 : ACalls Tryz.prog 84 [eDrum d, .bool false] (fun r => r = .tup [.sl [], vi (errE d false)]) := k84
      (repeat (refine stq ?_))
      (repeat' (first | refine DG_next (StepOK.skipU rfl rfl) ?_ | ((refine DG_cmp hT rfl (fun hg => ?_) (fun hg => ?_)) <;> (try (exfalso; omega))) | refine DG_next (D_shl rfl rfl rfl rfl rfl (by omega)) ?_ | refine DG_next (D_shr rfl rfl rfl rfl rfl (by omega)) ?_ | refine sdq ?_ | refine DG_next (D_call_tup rfl rfl rfl rfl rfl (k84)) ?_))
      refine DG_end hM (by kernel_rfl) ?_
      (repeat (refine stq ?_))
      refine AW_if rfl (fun hc => ?_) (fun hc => absurd (by omega) hc)
      (repeat (refine stq ?_))
      exact ⟨_, _, rfl, rfl, by unfold sortsE; rw [hf, if_neg he]⟩
end Go.Abs
