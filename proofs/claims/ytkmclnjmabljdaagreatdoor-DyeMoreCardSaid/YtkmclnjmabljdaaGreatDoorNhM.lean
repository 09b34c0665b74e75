/- DyeCoats: the order of sets, and which sets suit: plain laws. -/
import Derived.Test.YtkmclnjmabljdaaGreatDoorNhB
set_option linter.unusedVariables false
set_option linter.unusedSimpArgs false
namespace Go.Abs
open Go.Proofs
set_option linter.unusedVariables false
set_option linter.unusedSimpArgs false
set_option maxRecDepth 100000

theorem chosen_len_idx (l : List Stock) (set : Int) : (chosenL l set).length = ((List.range l.length).filter fun i => bitI set i).length := by
  have h1 : (l.zipIdx.filter fun p => bitI set p.2).map (·.2) = (List.range l.length).filter fun i => bitI set i := by
    have h2 : l.zipIdx.map (·.2) = List.range l.length := by simp [List.range_eq_range']
    rw [← h2, List.filter_map]; rfl
  have h3 := congrArg List.length h1
  simp only [List.length_map] at h3
  simp only [chosenL, List.length_map]; exact h3
def onesOK (n : Nat) : Bool := (List.range (2 ^ n)).all fun a => decide (ones64 (w64 (a : Int)) = ((((List.range n).filter fun i => bitI (a : Int) i).length : Nat) : Int))
theorem ones0 : onesOK 0 = true := by decide +kernel
theorem ones1 : onesOK 1 = true := by decide +kernel
theorem ones2 : onesOK 2 = true := by decide +kernel
theorem ones3 : onesOK 3 = true := by decide +kernel
theorem ones4 : onesOK 4 = true := by decide +kernel
theorem ones5 : onesOK 5 = true := by decide +kernel
theorem ones_len {l : List Stock} (hl : l.length ≤ 5) {a : Int} (h0 : 0 ≤ a) (h1 : a < ((2 ^ l.length : Nat) : Int)) : ones64 (w64 a) = (chosenL l a).length := by
  rw [chosen_len_idx]
  obtain ⟨n, rfl⟩ : ∃ n : Nat, a = n := ⟨a.toNat, by omega⟩
  have hok : onesOK l.length = true := by
    have := ones0; have := ones1; have := ones2; have := ones3; have := ones4; have := ones5
    generalize l.length = m at hl
    rcases m with _ | _ | _ | _ | _ | _ | m <;> first | assumption | omega
  have := List.all_eq_true.1 hok n (by simp; omega)
  simpa using this
theorem comp_lt {x y : Int} : compI x y = -1 ↔ x < y := by
  unfold compI
  by_cases h : x < y
  · simp [h]
  · rw [if_neg h]
    by_cases h2 : y < x
    · rw [if_pos h2]; constructor <;> intro h3 <;> omega
    · rw [if_neg h2]; constructor <;> intro h3 <;> omega
theorem or3 {a b c d e f : Int} : orI [compI a b, compI c d, compI e f] < 0 ↔ a < b ∨ a = b ∧ (c < d ∨ c = d ∧ e < f) := by
  simp only [orI]
  rcases Int.lt_trichotomy a b with h | h | h
  · have : compI a b = -1 := comp_lt.2 h
    rw [this]; simp [h]
  · have : compI a b = 0 := by unfold compI; rw [if_neg (by omega), if_neg (by omega)]
    rw [this]
    rcases Int.lt_trichotomy c d with h' | h' | h'
    · have : compI c d = -1 := comp_lt.2 h'
      rw [this]; simp [h, h']
    · have : compI c d = 0 := by unfold compI; rw [if_neg (by omega), if_neg (by omega)]
      rw [this]
      rcases Int.lt_trichotomy e f with h'' | h'' | h''
      · have : compI e f = -1 := comp_lt.2 h''
        rw [this]; simp [h, h', h'']
      · have : compI e f = 0 := by unfold compI; rw [if_neg (by omega), if_neg (by omega)]
        rw [this]; simp; omega
      · have : compI e f = 1 := by unfold compI; rw [if_neg (by omega), if_pos h'']
        rw [this]; simp; omega
    · have : compI c d = 1 := by unfold compI; rw [if_neg (by omega), if_pos h']
      rw [this]; simp; omega
  · have : compI a b = 1 := by unfold compI; rw [if_neg (by omega), if_pos h]
    rw [this]; simp; omega
theorem better_less {l : List Stock} (hl : l.length ≤ 5) {a b : Int} (ha : 0 ≤ a ∧ a < ((2 ^ l.length : Nat) : Int)) (hb : 0 ≤ b ∧ b < ((2 ^ l.length : Nat) : Int)) : betterI l a b = lessI l a b := by
  unfold betterI lessI
  rw [ones_len hl ha.1 ha.2, ones_len hl hb.1 hb.2]
  apply decide_eq_decide.2
  rw [or3]
  have e1 : priceI l a = priceC l a := rfl
  have e2 : priceI l b = priceC l b := rfl
  rw [e1, e2]; omega
theorem chosen_split (l : List Stock) (set : Int) (k : Nat) : ∃ r, chosenL l set = chosenL (l.take k) set ++ r := by
  refine ⟨(((l.drop k).zipIdx (l.take k).length).filter fun p => bitI set p.2).map (·.1), ?_⟩
  conv => lhs; rw [← List.take_append_drop k l]
  unfold chosenL
  rw [List.zipIdx_append, List.filter_append, List.map_append]
  simp
theorem alike_comm {h : List Dye} {x : List Int} {a b : List Bath} {eye : Span} : alikeI h x a b eye = alikeI h x b a eye := by
  have key : ∀ (p : Int → Bool), (∀ n, p (-n) = p n) → (apartL h x a b).any p = (apartL h x b a).any p := fun p hp => by
    rw [Bool.eq_iff_iff, List.any_eq_true, List.any_eq_true]
    constructor
    · rintro ⟨n, hn, h⟩; exact ⟨-n, apartL_neg n |>.1 hn, by rw [hp]; exact h⟩
    · rintro ⟨n, hn, h⟩; exact ⟨-n, apartL_neg n |>.1 hn, by rw [hp]; exact h⟩
  unfold alikeI
  rw [key (fun n => decide (max n (-n) ≤ eye.high)) (fun n => by simp only [Int.neg_neg]; rw [Int.max_comm]), key (fun n => decide (max n (-n) > eye.low)) (fun n => by simp only [Int.neg_neg]; rw [Int.max_comm])]
/-- What the reference asks of one stock of a set, the stocks before it given. -/
def okI (h : List Dye) (c : Coat) (pre : List Stock) (s : Stock) : Bool :=
  ((List.range c.lamps.length).all fun k => nearB (lookI h (c.lamps.getD k []) s.baths) (c.old.getD k ⟨0, 0⟩) c.eye.low) &&
  pre.all fun o => c.lamps.all fun x => decide (alikeI h x s.baths o.baths c.eye = 3)
theorem allIdx_iff {α : Type} (p : Nat → α → Bool) : ∀ (l : List α) (i : Nat), allIdx p l i = true ↔ ∀ k x, l[k]? = some x → p (i + k) x = true
  | [], i => by simp [allIdx]
  | y :: l, i => by
    simp only [allIdx, Bool.and_eq_true, allIdx_iff p l (i + 1)]
    constructor
    · rintro ⟨h1, h2⟩ k x hk
      cases k with
      | zero => simp only [List.getElem?_cons_zero, Option.some.injEq] at hk; subst hk; exact h1
      | succ k => have := h2 k x (by simpa using hk); rwa [show i + (k + 1) = i + 1 + k by omega]
    · intro h
      exact ⟨h 0 y rfl, fun k x hk => by have := h (k + 1) x (by simpa using hk); rwa [show i + 1 + k = i + (k + 1) by omega]⟩
theorem stock_ok {h : List Dye} {c : Coat} {own : List Stock} {i : Nat} {s : Stock} : stockI h c own i s = okI h c (own.take i) s := by
  rw [Bool.eq_iff_iff]
  unfold stockI okI
  rw [allIdx_iff]
  simp only [Bool.and_eq_true, List.all_eq_true, List.mem_range, decide_eq_true_eq, pairI, Nat.zero_add, Bool.not_eq_true', List.any_eq_false, decide_not, Bool.not_eq_true', decide_eq_false_iff_not, Decidable.not_not, nearB]
  have hmax : ∀ (u v e : Int), ¬ max u v > e ↔ u ≤ e ∧ v ≤ e := fun u v e => by omega
  constructor
  · intro hp
    refine ⟨fun k hk => ?_, fun o ho x hx => ?_⟩
    · have := (hp k c.lamps[k] (by simp [hk])).1
      rw [hmax] at this
      have e : c.lamps.getD k [] = c.lamps[k] := by simp [List.getD, hk]
      rw [e]; exact ⟨this.2, this.1⟩
    · obtain ⟨k, hk⟩ := List.mem_iff_getElem?.1 hx
      rw [alike_comm]
      exact (hp k x hk).2 o ho
  · rintro ⟨h1, h2⟩ k x hk
    have hk' : k < c.lamps.length := (List.getElem?_eq_some_iff.1 hk).1
    have e : c.lamps.getD k [] = x := by simp [List.getD, hk]
    have := h1 k hk'
    rw [e] at this
    refine ⟨by rw [hmax]; exact ⟨this.2, this.1⟩, fun o ho => ?_⟩
    rw [alike_comm]
    exact h2 o ho x (List.mem_of_getElem? hk)
/-- All stocks of a set among the first k. -/
def okUp (h : List Dye) (c : Coat) (l : List Stock) (set : Int) (k : Nat) : Prop :=
  ∀ i s, i < k → l[i]? = some s → bitI set i = true → okI h c (chosenL (l.take i) set) s = true
theorem chosen_at {l : List Stock} {set : Int} {i : Nat} {s : Stock} (hs : l[i]? = some s) (hb : bitI set i = true) : (chosenL l set)[(chosenL (l.take i) set).length]? = some s ∧ (chosenL l set).take (chosenL (l.take i) set).length = chosenL (l.take i) set := by
  obtain ⟨r, hr⟩ := chosen_split l set (i + 1)
  rw [chosenL_succ set hs, hb, if_pos rfl] at hr
  rw [hr]
  constructor
  · simp
  · simp
theorem chosen_idx {l : List Stock} {set : Int} : ∀ (k : Nat) (p : Nat) (s : Stock), (chosenL (l.take k) set)[p]? = some s → ∃ i, i < k ∧ l[i]? = some s ∧ bitI set i = true ∧ (chosenL (l.take i) set).length = p
  | 0, p, s, h => by simp [chosenL] at h
  | k + 1, p, s, h => by
    by_cases hk : k < l.length
    · have hx : l[k]? = some l[k] := by simp [hk]
      rw [chosenL_succ set hx] at h
      split at h
      · rename_i hb
        rcases Nat.lt_or_ge p (chosenL (l.take k) set).length with hp | hp
        · rw [List.getElem?_append_left hp] at h
          obtain ⟨i, h1, h2, h3, h4⟩ := chosen_idx k p s h
          exact ⟨i, by omega, h2, h3, h4⟩
        · rw [List.getElem?_append_right hp] at h
          have hp0 : p - (chosenL (l.take k) set).length = 0 := by
            rcases Nat.eq_zero_or_pos (p - (chosenL (l.take k) set).length) with h0 | h0
            · exact h0
            · rw [List.getElem?_eq_none (by simp only [List.length_singleton]; omega)] at h; cases h
          rw [hp0] at h
          simp only [List.getElem?_cons_zero, Option.some.injEq] at h
          exact ⟨k, by omega, by rw [hx, h], hb, by omega⟩
      · obtain ⟨i, h1, h2, h3, h4⟩ := chosen_idx k p s h
        exact ⟨i, by omega, h2, h3, h4⟩
    · rw [List.take_of_length_le (by omega)] at h
      have h' : (chosenL (l.take k) set)[p]? = some s := by rw [List.take_of_length_le (by omega)]; exact h
      obtain ⟨i, h1, h2, h3, h4⟩ := chosen_idx k p s h'
      exact ⟨i, by omega, h2, h3, h4⟩
theorem all_ok {h : List Dye} {c : Coat} {l : List Stock} {set : Int} : allIdx (stockI h c (chosenL l set)) (chosenL l set) 0 = true ↔ okUp h c l set l.length := by
  rw [allIdx_iff]
  constructor
  · intro hp i s hi hs hb
    obtain ⟨h1, h2⟩ := chosen_at hs hb
    have := hp _ s h1
    rw [stock_ok, Nat.zero_add, h2] at this
    exact this
  · intro hp k s hk
    have hk' : (chosenL (l.take l.length) set)[k]? = some s := by rw [List.take_length]; exact hk
    obtain ⟨i, h1, h2, h3, h4⟩ := chosen_idx l.length k s hk'
    have := hp i s h1 h2 h3
    rw [stock_ok, Nat.zero_add, ← h4, (chosen_at h2 h3).2]
    exact this
theorem suits_bad {h : List Dye} {c : Coat} {l : List Stock} {set : Int} {i : Nat} {s : Stock} (hs : l[i]? = some s) (hb : bitI set i = true) (ho : okI h c (chosenL (l.take i) set) s = false) : suitsI h c l set = false := by
  unfold suitsI
  rw [Bool.and_eq_false_iff]
  refine .inl ?_
  rw [Bool.eq_false_iff]
  intro hh
  have := all_ok.1 hh i s (List.getElem?_eq_some_iff.1 hs).1 hs hb
  rw [ho] at this; cases this
theorem okUp_succ {h : List Dye} {c : Coat} {l : List Stock} {set : Int} {k : Nat} {s : Stock} (hu : okUp h c l set k) (hs : l[k]? = some s) (ho : bitI set k = true → okI h c (chosenL (l.take k) set) s = true) : okUp h c l set (k + 1) := fun i x hi hx hb => by
  rcases Nat.lt_or_ge i k with hik | hik
  · exact hu i x hik hx hb
  · have : i = k := by omega
    subst this
    rw [hs] at hx; cases hx
    exact ho hb
theorem chosen_mem_idx {l : List Stock} {set : Int} {i j : Nat} {o : Stock} (h : l[j]? = some o) (hb : bitI set j = true) (hj : j < i) : o ∈ chosenL (l.take i) set :=
  List.mem_of_getElem? (chosen_at (l := l.take i) (i := j) (by rw [List.getElem?_take, if_pos hj]; exact h) hb).1
theorem setsI_bd {h : List Dye} {c : Coat} {l : List Stock} {k : Nat} : ∀ x ∈ setsI h c l k, 0 ≤ x ∧ x < k := fun x hx => by
  simp only [setsI, List.mem_filter, List.mem_map, List.mem_range] at hx
  obtain ⟨⟨n, hn, rfl⟩, _⟩ := hx
  simp only [Int.ofNat_eq_natCast]; omega
theorem bestI_mem (p : Int → Int → Bool) : ∀ (l : List Int), l.length > 0 → bestI p l ∈ l
  | [], h => by simp at h
  | x :: l, _ => by
    have key : ∀ (l : List Int) (a : Int), l.foldl (fun out x => bif p x out then x else out) a = a ∨ l.foldl (fun out x => bif p x out then x else out) a ∈ l := by
      intro l
      induction l with
      | nil => intro a; exact .inl rfl
      | cons y l ih =>
        intro a
        rw [List.foldl_cons]
        rcases ih (bif p y a then y else a) with h | h
        · rw [h]
          cases p y a
          · exact .inl rfl
          · exact .inr (by simp)
        · exact .inr (by simp [h])
    simp only [bestI]
    rcases key l x with h | h
    · rw [h]; simp
    · simp [h]
/-- The best set of the first k ones, or -1. -/
def bstI (h : List Dye) (c : Coat) (l : List Stock) (k : Nat) : Int := if (setsI h c l k).length > 0 then bestI (betterI l) (setsI h c l k) else -1
theorem bstI_bd (h : List Dye) (c : Coat) (l : List Stock) (k : Nat) : -1 ≤ bstI h c l k ∧ bstI h c l k < k ∧ (0 ≤ bstI h c l k ↔ (setsI h c l k).length > 0) := by
  unfold bstI
  split
  · rename_i h0
    have := setsI_bd _ (bestI_mem (betterI l) _ h0)
    exact ⟨by omega, by omega, fun _ => h0, fun _ => by omega⟩
  · rename_i h0
    exact ⟨by omega, by omega, fun h => absurd h (by omega), fun h => absurd h h0⟩
theorem bstI_succ (h : List Dye) (c : Coat) (l : List Stock) (k : Nat) : bstI h c l (k + 1) = if (bstI h c l k < 0 ∨ betterI l k (bstI h c l k) = true) ∧ suitsI h c l k = true then (k : Int) else bstI h c l k := by
  have hb := bstI_bd h c l k
  have hs := setsI_succ h c l k
  cases b : suitsI h c l k with
  | false =>
    rw [b] at hs
    simp only [Bool.false_eq_true, if_false] at hs
    rw [if_neg (by simp)]
    unfold bstI; rw [hs]
  | true =>
    rw [b, if_pos rfl] at hs
    have hbs := bestI_snoc (betterI l) (setsI h c l k) (k : Int)
    have e1 : bstI h c l (k + 1) = bestI (betterI l) (setsI h c l k ++ [(k : Int)]) := by
      unfold bstI; rw [hs, if_pos (by simp)]
    rw [e1, hbs]
    by_cases h0 : (setsI h c l k).length = 0
    · rw [if_pos h0, if_pos ⟨.inl (by omega), rfl⟩]
    · rw [if_neg h0]
      have e2 : bstI h c l k = bestI (betterI l) (setsI h c l k) := by unfold bstI; rw [if_pos (by omega)]
      rw [← e2]
      cases b2 : betterI l k (bstI h c l k) with
      | false => rw [if_neg (by simp; omega)]; rfl
      | true => rw [if_pos ⟨.inr rfl, rfl⟩]; rfl
end Go.Abs
