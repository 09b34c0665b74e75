/- DyeReached. -/
import Derived.Test.YtkmclnjmabljdaaGreatDoorNhS
set_option linter.unusedVariables false
set_option linter.unusedSimpArgs false

namespace Go.Abs
open Go.Proofs
set_option linter.unusedVariables false
set_option linter.unusedSimpArgs false
set_option maxRecDepth 100000

/-- The next list after another one. -/
def nextL : List Span → List Int → Option (List Int)
  | s :: l, n :: xs => match nextL l xs with
    | some ys => some (n :: ys)
    | none => if n < s.high then some ((n + 1) :: lowsI l) else none
  | _, _ => none
theorem numsL_count (l : List Span) : ∀ (n : Int), ((numsL l).map (n :: ·)).length = (numsL l).length := fun n => by simp
theorem numsL_pos : ∀ {l : List Span}, (∀ s ∈ l, s.low ≤ s.high) → 0 < (numsL l).length
  | [], _ => by simp [numsL]
  | s :: l, h => by
    have h1 := numsL_pos fun u hu => h u (List.mem_cons_of_mem _ hu)
    have h2 := h s (by simp)
    simp only [numsL]
    rw [flatMap_const_len (c := (numsL l).length) (numsL_count l), range_len]
    exact Nat.mul_pos (by omega) h1
theorem numsL_zero : ∀ {l : List Span}, (∀ s ∈ l, s.low ≤ s.high) → (numsL l)[0]? = some (lowsI l)
  | [], _ => rfl
  | s :: l, h => by
    have h1 := numsL_zero fun u hu => h u (List.mem_cons_of_mem _ hu)
    have h2 := h s (by simp)
    have h3 := numsL_pos fun u hu => h u (List.mem_cons_of_mem _ hu)
    have h4 : (rangeI s.low s.high)[0]? = some (s.low + ((0 : Nat) : Int)) := range_get (by omega)
    have := flatMap_const_get (c := (numsL l).length) (f := fun n => (numsL l).map (n :: ·)) (numsL_count l) (rangeI s.low s.high) 0 0 _ h4 h3
    simp only [numsL]
    rw [show (0 : Nat) * (numsL l).length + 0 = 0 by simp] at this
    rw [this, List.getElem?_map, h1]; simp [lowsI]
theorem next_enum : ∀ {l : List Span}, (∀ s ∈ l, s.low ≤ s.high) → ∀ (k : Nat) (x : List Int), (numsL l)[k]? = some x → nextL l x = (numsL l)[k + 1]?
  | [], _, k, x, hx => by
    cases k with
    | zero => simp only [numsL, List.getElem?_cons_zero, Option.some.injEq] at hx; subst hx; rfl
    | succ k => simp [numsL] at hx
  | s :: l, h, k, x, hx => by
    have hl := fun u hu => h u (List.mem_cons_of_mem _ hu)
    have hs := h s (by simp)
    have hp := numsL_pos hl
    generalize hc : (numsL l).length = c at hp
    have hcount : ∀ n : Int, ((numsL l).map (n :: ·)).length = c := fun n => by simp [hc]
    have hlen : (numsL (s :: l)).length = (s.high - s.low + 1).toNat * c := by
      simp only [numsL]; rw [flatMap_const_len hcount, range_len]
    have hk : k < (s.high - s.low + 1).toNat * c := by rw [← hlen]; exact (List.getElem?_eq_some_iff.1 hx).1
    have hq : k / c < (s.high - s.low + 1).toNat := Nat.div_lt_of_lt_mul (by rw [Nat.mul_comm]; exact hk)
    have hr : k % c < c := Nat.mod_lt _ hp
    have hkd : k / c * c + k % c = k := by rw [Nat.mul_comm]; exact Nat.div_add_mod k c
    have get : ∀ q r, q < (s.high - s.low + 1).toNat → r < c → (numsL (s :: l))[q * c + r]? = ((numsL l)[r]?).map ((s.low + (q : Int)) :: ·) := fun q r h1 h2 => by
      have := flatMap_const_get (f := fun n => (numsL l).map (n :: ·)) hcount (rangeI s.low s.high) q r _ (range_get h1) h2
      simp only [numsL]; rw [this, List.getElem?_map]
    have hx' := get (k / c) (k % c) hq hr
    rw [hkd, hx] at hx'
    obtain ⟨ys, hys⟩ : ∃ ys, (numsL l)[k % c]? = some ys := ⟨(numsL l)[k % c]'(by omega), by simp⟩
    rw [hys] at hx'
    simp only [Option.map_some, Option.some.injEq] at hx'
    subst hx'
    have ih := next_enum hl (k % c) ys hys
    simp only [nextL]
    rw [ih]
    by_cases h1 : k % c + 1 < c
    · have g := get (k / c) (k % c + 1) hq h1
      rw [show k / c * c + (k % c + 1) = k + 1 by omega] at g
      rw [g]
      obtain ⟨zs, hzs⟩ : ∃ zs, (numsL l)[k % c + 1]? = some zs := ⟨(numsL l)[k % c + 1]'(by omega), by simp⟩
      rw [hzs]; rfl
    · have h2 : k % c + 1 = c := by omega
      have h3 : (numsL l)[k % c + 1]? = none := List.getElem?_eq_none (by omega)
      rw [h3]
      simp only
      have h4 : k + 1 = (k / c + 1) * c + 0 := by rw [Nat.add_mul, Nat.one_mul]; omega
      by_cases h5 : s.low + ((k / c : Nat) : Int) < s.high
      · rw [if_pos h5, h4, get (k / c + 1) 0 (by omega) hp, numsL_zero hl]
        simp only [Option.map_some, Option.some.injEq]
        congr 1
        generalize k / c = q
        omega
      · rw [if_neg h5]
        symm
        apply List.getElem?_eq_none
        rw [hlen, h4]
        have : (s.high - s.low + 1).toNat = k / c + 1 := by omega
        rw [this]; omega
theorem nextL_none : ∀ {l : List Span} {x : List Int}, x.length = l.length → (∀ (j : Nat) n s, x[j]? = some n → l[j]? = some s → s.high ≤ n) → nextL l x = none
  | [], x, _, _ => by cases x <;> rfl
  | s :: l, [], hl, _ => by simp at hl
  | s :: l, n :: xs, hl, h => by
    have ih := nextL_none (l := l) (x := xs) (by simpa using hl) fun j m t hm ht => h (j + 1) m t (by simpa using hm) (by simpa using ht)
    have h0 := h 0 n s rfl rfl
    simp only [nextL, ih]
    rw [if_neg (by omega)]
theorem nextL_at : ∀ {l : List Span} {x : List Int} (i : Nat) (n : Int) (s : Span), x.length = l.length → x[i]? = some n → l[i]? = some s → n < s.high → (∀ (j : Nat) m t, i < j → x[j]? = some m → l[j]? = some t → t.high ≤ m) →
    nextL l x = some (x.take i ++ (n + 1) :: lowsI (l.drop (i + 1)))
  | [], x, i, n, s, _, _, hs, _, _ => by simp at hs
  | t :: l, [], i, n, s, hl, _, _, _, _ => by simp at hl
  | t :: l, y :: xs, 0, n, s, hl, hn, hs, hlt, h => by
    simp only [List.getElem?_cons_zero, Option.some.injEq] at hn hs
    subst hn; subst hs
    have ih := nextL_none (l := l) (x := xs) (by simpa using hl) fun j m u hm hu => h (j + 1) m u (by omega) (by simpa using hm) (by simpa using hu)
    simp only [nextL, ih]
    rw [if_pos hlt]; simp
  | t :: l, y :: xs, i + 1, n, s, hl, hn, hs, hlt, h => by
    have ih := nextL_at (l := l) (x := xs) i n s (by simpa using hl) (by simpa using hn) (by simpa using hs) hlt fun j m u hj hm hu => h (j + 1) m u (by omega) (by simpa using hm) (by simpa using hu)
    simp only [nextL, ih]
    simp
def nextE (l : List Span) (x : List Int) : List Int × Bool := match nextL l x with
  | some y => (y, true)
  | none => (lowsI l, false)
/-- The list while its last numbers have been put back. -/
def backI (l : List Span) (x : List Int) (i : Nat) : List Int := x.take i ++ lowsI (l.drop i)
theorem back_len {l : List Span} {x : List Int} {i : Nat} (hl : x.length = l.length) (hi : i ≤ x.length) : (backI l x i).length = x.length := by
  simp [backI, lowsI]; omega
theorem back_get {l : List Span} {x : List Int} {i : Nat} {n : Int} (hn : x[i]? = some n) : (backI l x (i + 1))[i]? = some n := by
  have h := (List.getElem?_eq_some_iff.1 hn).1
  unfold backI
  rw [List.getElem?_append_left (by simp; omega), List.getElem?_take, if_pos (by omega), hn]
theorem back_set {l : List Span} {x : List Int} {i : Nat} {n : Int} {s : Span} (hl : x.length = l.length) (hn : x[i]? = some n) (hs : l[i]? = some s) : (backI l x (i + 1)).set i s.low = backI l x i := by
  have h := (List.getElem?_eq_some_iff.1 hn).1
  have h' := (List.getElem?_eq_some_iff.1 hs)
  unfold backI
  rw [List.set_append_left _ _ (by simp; omega), List.take_add_one, hn]
  simp only [Option.toList]
  rw [List.set_append_right _ _ (by simp; omega)]
  have e : i - (x.take i).length = 0 := by simp; omega
  rw [e]
  simp only [List.set_cons_zero, List.append_assoc, List.singleton_append]
  congr 1
  rw [List.drop_eq_getElem_cons h'.1, h'.2]; simp [lowsI]
theorem back_up {l : List Span} {x : List Int} {i : Nat} {n m : Int} (hn : x[i]? = some n) : (backI l x (i + 1)).set i m = x.take i ++ m :: lowsI (l.drop (i + 1)) := by
  have h := (List.getElem?_eq_some_iff.1 hn).1
  unfold backI
  rw [List.set_append_left _ _ (by simp; omega), List.take_add_one, hn]
  simp only [Option.toList]
  rw [List.set_append_right _ _ (by simp; omega)]
  have e : i - (x.take i).length = 0 := by simp; omega
  rw [e]; simp
set_option maxHeartbeats 2000000 in
theorem f62 (s : Sorter) (x : List Int) (hl : x.length = s.looks.length) (h6 : x.length ≤ 6) (hb : bdL 3000 x) : ACalls Tryz.prog 62 [eSorter s, eInts x] (fun r => r = .tup [eInts (nextE s.looks x).1, .bool (nextE s.looks x).2]) := by
  refine ACalls.of_body hT Tryz.func62 rfl (by kernel_rfl) rfl ?_
  (repeat' (first | refine stq ?_ | (refine AL_do2 rfl ?_; first | refine ⟨_, op_append_nil1 hT rfl rfl rfl rfl rfl rfl rfl rfl rfl rfl (by intro y hy; (first | (simp only [List.mem_cons, List.not_mem_nil, or_false] at hy; subst hy; rfl) | (simp only [List.mem_cons, List.not_mem_nil, or_false] at hy; rcases hy with hy | hy <;> subst hy <;> rfl) | (obtain ⟨_, _, rfl⟩ := List.mem_map.1 hy; rfl) | (cases hy))) (by simp only [List.length_map, List.length_take, List.length_cons, List.length_nil, List.length_append]; omega) rfl, ?_⟩) | (with_reducible refine AL_id ?_); (fail_if_success (refine AL_glit rfl rfl rfl (by first | exact .inl (by with_reducible rfl) | exact .inr (by with_reducible rfl)) ?_)); first | refine AL_gdec rfl rfl rfl (fun hg => ?_) (fun hg => ?_) | refine AL_gnot rfl rfl rfl (fun hg => ?_) (fun hg => ?_) | refine AL_gcases rfl rfl rfl (fun hg => ?_) (fun hg => ?_)))
  refine AW_loopC (fun i : Nat => i ≤ x.length ∧ ∀ (j : Nat) n t, i ≤ j → x[j]? = some n → s.looks[j]? = some t → t.high ≤ n) (fun i => mkSt [(2, .box 0 0), (6, .arr 1), (7, .pv (vi ((i : Int) - 1)))] [(0, .box [.pv (vi s.eye.low), .pv (vi s.eye.high), .pv (vi s.tire), .pv (eSpans s.looks)]), (1, .arr 3 1 ((backI s.looks x i).map eInt))] 2) (fun i => i) x.length ⟨Nat.le_refl _, fun j n t hj hn _ => by have := (List.getElem?_eq_some_iff.1 hn).1; omega⟩ ?_ ?_
  · (refine Le.mk ?_ ?_; all_goals (repeat' (first | exact trivial | refine sle ?_ | refine ⟨?_, rfl, ?_⟩ | refine ⟨?_, by decide, rfl, ?_⟩ | fail)))
    show some (AObj.arr 3 1 (x.map eInt)) = some (AObj.arr 3 1 ((backI s.looks x x.length).map eInt))
    have : s.looks.drop x.length = [] := by rw [hl]; exact List.drop_length ..
    simp [backI, lowsI, this]
  · rintro i ⟨hi, hhi⟩
    have hbl := back_len (l := s.looks) hl hi
    have hbl2 : ((backI s.looks x i).map eInt).length = x.length := by simpa using hbl
    (repeat (refine stq ?_))
    refine AW_if rfl (fun hc => ?_) (fun hc => ?_)
    · obtain ⟨i, rfl⟩ : ∃ i', i = i' + 1 := ⟨i - 1, by omega⟩
      have hix : ((i + 1 : Nat) : Int) - 1 = i := by omega
      obtain ⟨n, hn⟩ : ∃ n, x[i]? = some n := ⟨x[i]'(by omega), by simp⟩
      obtain ⟨t, ht⟩ : ∃ t, s.looks[i]? = some t := ⟨s.looks[i]'(by omega), by simp⟩
      have e1 : ((backI s.looks x (i + 1)).map eInt)[i]? = some (eInt n) := by rw [List.getElem?_map, back_get hn]; rfl
      have e2 := get_map eSpan ht
      have hnb := hb n (List.mem_of_getElem? hn)
      rw [hix]
      (repeat (refine stq ?_))
      (repeat (refine sdq ?_))
      refine DG_next (D_indexAddr_arr (n := (i : Int)) hT rfl rfl rfl rfl rfl rfl rfl rfl rfl (by omega) (by rw [hbl2]; omega) rfl) ?_
      refine DG_next (D_load_aptr (el := eInt n) hT rfl rfl rfl rfl rfl rfl e1 rfl) ?_
      (repeat (refine sdq ?_))
      refine DG_end hM (by kernel_rfl) ?_
      (repeat (refine stq ?_))
      refine AW_if rfl (fun hc2 => ?_) (fun hc2 => ?_)
      · have hat := nextL_at (l := s.looks) (x := x) i n t hl hn ht hc2 fun j m u hj hm hu => hhi j m u (by omega) hm hu
        have hst := back_up (l := s.looks) (m := n + 1) hn
        (repeat (refine stq ?_))
        refine AL_do2 rfl ⟨_, op_indexAddr_arr hT rfl rfl rfl rfl rfl rfl rfl rfl (by omega) (by rw [hbl2]; omega) rfl, ?_⟩
        refine AL_do2 rfl ⟨_, op_load_aptr (el := eInt n) hT rfl rfl rfl rfl rfl e1 rfl, ?_⟩
        (repeat (refine stq ?_))
        refine AL_do2 rfl ⟨_, op_indexAddr_arr hT rfl rfl rfl rfl rfl rfl rfl rfl (by omega) (by rw [hbl2]; omega) rfl, ?_⟩
        refine AL_do2 rfl ⟨_, op_store_aptr (el := eInt n) hT rfl rfl rfl rfl rfl e1 rfl rfl rfl rfl, ?_⟩
        refine AL_pure (t := 6) rfl rfl ?_
        (repeat (refine stq ?_))
        refine ⟨_, _, rfl, rfl, ?_⟩
        have hst' : ((backI s.looks x (i + 1)).map eInt).set i (eInt (n + 1)) = (x.take i ++ (n + 1) :: lowsI (s.looks.drop (i + 1))).map eInt := by rw [← List.map_set, hst]
        show RV.tup [.sl (((backI s.looks x (i + 1)).map eInt).set i (eInt (n + 1))), .bool true] = _
        rw [hst']; simp [nextE, hat, eInts]
      · have hst := back_set hl hn ht
        (repeat (refine stq ?_))
        refine AL_do2 rfl ⟨_, op_indexAddr_arr hT rfl rfl rfl rfl rfl rfl rfl rfl (by omega) (by rw [hbl2]; omega) rfl, ?_⟩
        refine AL_do2 rfl ⟨_, op_store_aptr (el := eInt n) hT rfl rfl rfl rfl rfl e1 rfl rfl rfl rfl, ?_⟩
        (repeat (refine stq ?_))
        refine ⟨i, ⟨by omega, fun j m u hj hm hu => ?_⟩, by omega, ?_⟩
        · rcases Nat.lt_or_ge i j with h1 | h1
          · exact hhi j m u h1 hm hu
          · have : j = i := by omega
            subst this
            rw [hn] at hm; rw [ht] at hu
            cases hm; cases hu; omega
        · (refine Le.mk ?_ ?_; all_goals (repeat' (first | exact trivial | refine sle ?_ | refine ⟨?_, rfl, ?_⟩ | refine ⟨?_, by decide, rfl, ?_⟩ | fail)))
          show some (AObj.arr 3 1 (((backI s.looks x (i + 1)).map eInt).set i (eInt t.low))) = some (AObj.arr 3 1 ((backI s.looks x i).map eInt))
          rw [← List.map_set, hst]
    · have hi0 : i = 0 := by omega
      subst hi0
      have hnone : nextL s.looks x = none := nextL_none hl fun j n t hn ht => hhi j n t (Nat.zero_le _) hn ht
      refine AW_pure (t := 6) rfl rfl ?_
      (repeat (refine stq ?_))
      exact ⟨_, _, rfl, rfl, by simp [nextE, hnone, backI, eInts]⟩
/-- How many lists and eyes there are. -/
def manyI (e : Int) (l : List Span) : Int := l.foldl (fun p s => p * (s.high - s.low + 1)) e
theorem many_succ {e : Int} {l : List Span} {k : Nat} {s : Span} (h : l[k]? = some s) : manyI e (l.take (k + 1)) = manyI e (l.take k) * (s.high - s.low + 1) := by
  unfold manyI; rw [List.take_add_one, h]; simp
theorem many_bd {e : Int} (he : 1 ≤ e ∧ e ≤ 5) : ∀ (l : List Span), (∀ s ∈ l, s.low ≤ s.high ∧ s.high - s.low ≤ 6) → 1 ≤ manyI e l ∧ manyI e l ≤ 5 * 7 ^ l.length := by
  intro l
  refine snocInd (p := fun l => (∀ s ∈ l, s.low ≤ s.high ∧ s.high - s.low ≤ 6) → 1 ≤ manyI e l ∧ manyI e l ≤ 5 * 7 ^ l.length) (fun _ => by simpa [manyI] using he) (fun l s ih h => ?_) l
  have ih := ih fun t ht => h t (by simp [ht])
  have hs := h s (by simp)
  have e1 : manyI e (l ++ [s]) = manyI e l * (s.high - s.low + 1) := by simp [manyI]
  rw [e1, List.length_append, List.length_singleton, Int.pow_succ]
  constructor
  · have := Int.mul_le_mul ih.1 (show (1 : Int) ≤ s.high - s.low + 1 by omega) (by omega) (by omega)
    omega
  · have := Int.mul_le_mul ih.2 (show s.high - s.low + 1 ≤ 7 by omega) (by omega) (by omega)
    rw [Int.mul_assoc] at this; exact this
/-- The truths in the order in which they are gone through. -/
def goneR (s : Sorter) (k j : Nat) : List (List Int × Int) := (((numsL s.looks).take k).flatMap fun l => (rangeI s.eye.low s.eye.high).map fun e => (l, e)) ++ ((rangeI s.eye.low s.eye.high).take j).map fun e => (((numsL s.looks)[k]?).getD [], e)
theorem gone_snoc {s : Sorter} {k j : Nat} {x : List Int} (hx : (numsL s.looks)[k]? = some x) (hj : j < (s.eye.high - s.eye.low + 1).toNat) : goneR s k (j + 1) = goneR s k j ++ [(x, s.eye.low + j)] := by
  unfold goneR; rw [map_take_succ _ (range_get hj), List.append_assoc, hx]; rfl
theorem gone_round {s : Sorter} {k : Nat} {x : List Int} (hx : (numsL s.looks)[k]? = some x) : goneR s (k + 1) 0 = goneR s k (s.eye.high - s.eye.low + 1).toNat := by
  have h1 : (rangeI s.eye.low s.eye.high).take (s.eye.high - s.eye.low + 1).toNat = rangeI s.eye.low s.eye.high := List.take_of_length_le (by simp [rangeI])
  unfold goneR
  rw [flatMap_take_succ hx, h1, hx]; simp
theorem gone_end {s : Sorter} : goneR s (numsL s.looks).length 0 = truthsI s := by
  unfold goneR; rw [List.take_length]; simp [truthsI]
theorem reached_eq {s : Sorter} {trays : List Int} (h1 : isSorterB s = true) (h2 : traysB s trays = true) : provesE s trays = if sameI s trays (truthsI s) = [] then ([], ⟨0, 0⟩, 7) else (hullsI s.looks.length (sameI s trays (truthsI s)), spanOf (eyesI (sameI s trays (truthsI s))), 0) := by
  rw [proves_good h1 h2]
  have hc := hulls_congr (n := s.looks.length) (fun y => same_mem (s := s) (trays := trays) (y := y))
  have hn : sameI s trays (truthsR s) = [] ↔ sameI s trays (truthsI s) = [] := by
    rw [List.eq_nil_iff_forall_not_mem, List.eq_nil_iff_forall_not_mem]
    exact ⟨fun h y hy => h y (same_mem.2 hy), fun h y hy => h y (same_mem.1 hy)⟩
  unfold provesL
  by_cases h : sameI s trays (truthsI s) = []
  · rw [if_pos h, if_neg (by simp [hn.2 h])]
  · rw [if_neg h, if_pos (by simp; exact fun h' => h (hn.1 h'))]
    simp only [hc.1, hc.2]
abbrev reO (s : Sorter) (x : List Span) (y : Span) (L : List Span) (E : Span) : List (Nat × AObj) := [(0, .box [.pv (vi s.eye.low), .pv (vi s.eye.high), .pv (vi s.tire), .pv (eSpans s.looks)]), (2, .box [.pv (vi y.low), .pv (vi y.high)]), (3, .arr 37 2 (L.map eSpan)), (4, .box [.pv (vi E.low), .pv (vi E.high)])]
abbrev reE (trays l : List Int) (x : List Span) (e : Int) (met : Bool) : List (Nat × FV) := [(1, .pv (eInts trays)), (2, .box 0 0), (6, .pv (eInts l)), (8, .pv (eSpans x)), (9, .box 2 0), (10, .pv (vi e)), (11, .arr 3), (12, .box 4 0), (13, .pv (.bool met))]
set_option maxHeartbeats 8000000 in
theorem f10 (s : Sorter) (trays : List Int) : ACalls Tryz.prog 10 [eSorter s, eInts trays] (fun r => r = .pv (.bool true)) := by
  refine ACalls.of_body hT Tryz.func10 rfl (by kernel_rfl) rfl ?_
  by_cases hs : s.looks.length ≤ 6 ∧ trays.length ≤ 6
  · obtain ⟨h1, h2⟩ := hs
    have k51 := f51 s (by omega)
    have k55 := f55 s trays (by omega) (by omega)
    cases q1 : isSorterB s with
    | false =>
      rw [q1] at k51
      (repeat' (first | (exfalso; omega) | refine AW_if rfl (fun hc => absurd hc (by omega)) (fun _ => ?_) | refine AW_if rfl (fun _ => ?_) (fun hc => absurd (by omega) hc) | refine stq ?_ | (refine AL_do2 rfl ?_; first | refine ⟨_, op_call1 rfl rfl rfl rfl (k51), nrmA rfl ?_⟩ | refine ⟨_, op_call1 rfl rfl rfl rfl (f28), nrmA rfl ?_⟩) | (with_reducible refine AL_id ?_); (fail_if_success (refine AL_glit rfl rfl rfl (by first | exact .inl (by with_reducible rfl) | exact .inr (by with_reducible rfl)) ?_)); first | refine AL_gdec rfl rfl rfl (fun hg => ?_) (fun hg => ?_) | refine AL_gnot rfl rfl rfl (fun hg => ?_) (fun hg => ?_) | refine AL_gcases rfl rfl rfl (fun hg => ?_) (fun hg => ?_)))
      all_goals exact ⟨_, _, rfl, rfl, rfl⟩
    | true =>
      rw [q1] at k51
      cases q2 : traysB s trays with
      | false =>
        rw [q2] at k55
        (repeat' (first | (exfalso; omega) | refine AW_if rfl (fun hc => absurd hc (by omega)) (fun _ => ?_) | refine AW_if rfl (fun _ => ?_) (fun hc => absurd (by omega) hc) | refine stq ?_ | (refine AL_do2 rfl ?_; first | refine ⟨_, op_call1 rfl rfl rfl rfl (k51), nrmA rfl ?_⟩ | refine ⟨_, op_call1 rfl rfl rfl rfl (k55), nrmA rfl ?_⟩ | refine ⟨_, op_call1 rfl rfl rfl rfl (f28), nrmA rfl ?_⟩) | (with_reducible refine AL_id ?_); (fail_if_success (refine AL_glit rfl rfl rfl (by first | exact .inl (by with_reducible rfl) | exact .inr (by with_reducible rfl)) ?_)); first | refine AL_gdec rfl rfl rfl (fun hg => ?_) (fun hg => ?_) | refine AL_gnot rfl rfl rfl (fun hg => ?_) (fun hg => ?_) | refine AL_gcases rfl rfl rfl (fun hg => ?_) (fun hg => ?_)))
        all_goals exact ⟨_, _, rfl, rfl, rfl⟩
      | true =>
        rw [q2] at k55
        have hP := sorterP_of q1
        have hey := hP.eye
        have hti := hP.tire
        have hln := hP.len
        have hlk := hP.looks
        have hlow : ∀ t ∈ s.looks, t.low ≤ t.high := fun t ht => (hlk t ht).2.1
        have k54 := f54' s trays (by omega) (by omega)
        rw [reached_eq q1 q2] at k54
        (repeat' (first | (exfalso; omega) | refine AW_if rfl (fun hc => absurd hc (by omega)) (fun _ => ?_) | refine AW_if rfl (fun _ => ?_) (fun hc => absurd (by omega) hc) | refine stq ?_ | (refine AL_do2 rfl ?_; first | refine ⟨_, op_call1 rfl rfl rfl rfl (k51), nrmA rfl ?_⟩ | refine ⟨_, op_call1 rfl rfl rfl rfl (k55), nrmA rfl ?_⟩) | (with_reducible refine AL_id ?_); (fail_if_success (refine AL_glit rfl rfl rfl (by first | exact .inl (by with_reducible rfl) | exact .inr (by with_reducible rfl)) ?_)); first | refine AL_gdec rfl rfl rfl (fun hg => ?_) (fun hg => ?_) | refine AL_gnot rfl rfl rfl (fun hg => ?_) (fun hg => ?_) | refine AL_gcases rfl rfl rfl (fun hg => ?_) (fun hg => ?_)))
        refine AW_own_nil (e := 3) (sz := 1) (t := 6) rfl rfl ?_
        (repeat (refine stq ?_))
        refine AW_loopC (fun k : Nat => k ≤ s.looks.length) (fun k => mkSt [(1, .pv (eInts trays)), (2, .box 0 0), (5, .pv (vi (manyI (s.eye.high - s.eye.low + 1) (s.looks.take k)))), (6, .arr 1), (7, .pv (vi k))] (soO s ++ [(1, .arr 3 1 ((lowsI (s.looks.take k)).map eInt))]) 2) (fun k => s.looks.length - k) 0 (Nat.zero_le _) ?_ ?_
        · (refine Le.mk ?_ ?_; all_goals (repeat' (first | exact trivial | refine sle ?_ | refine ⟨?_, rfl, ?_⟩ | refine ⟨?_, by decide, rfl, ?_⟩ | fail)))
        · intro k hk
          (repeat (refine stq ?_))
          refine AW_if rfl (fun hc => ?_) (fun hc => ?_)
          · have hk' : k < s.looks.length := by omega
            obtain ⟨t, ht⟩ : ∃ t, s.looks[k]? = some t := ⟨s.looks[k], by simp [hk']⟩
            have e1 := get_map eSpan ht
            have htb := hlk t (List.mem_of_getElem? ht)
            have hmb := many_bd (e := s.eye.high - s.eye.low + 1) (by omega) (s.looks.take (k + 1)) fun u hu => by have := hlk u (List.mem_of_mem_take hu); omega
            have hpw : (5 : Int) * 7 ^ (s.looks.take (k + 1)).length ≤ 12005 := by
              have : (s.looks.take (k + 1)).length ≤ 4 := by simp; omega
              have h3 : (7 : Nat) ^ (s.looks.take (k + 1)).length ≤ 7 ^ 4 := Nat.pow_le_pow_right (by omega) this
              have h4 : ((7 : Int)) ^ (s.looks.take (k + 1)).length = (((7 : Nat) ^ (s.looks.take (k + 1)).length : Nat) : Int) := by simp
              omega
            rw [many_succ ht] at hmb
            have hms := many_succ (e := s.eye.high - s.eye.low + 1) ht
            have m1 : -9223372036854775808 ≤ manyI (s.eye.high - s.eye.low + 1) (s.looks.take k) * (t.high - t.low + 1) ∧ manyI (s.eye.high - s.eye.low + 1) (s.looks.take k) * (t.high - t.low + 1) ≤ 9223372036854775807 := by omega
            have hll : (lowsI (s.looks.take k)).length ≤ 4 := by simp [lowsI]; omega
            have hls : lowsI (s.looks.take (k + 1)) = lowsI (s.looks.take k) ++ [t.low] := map_take_succ _ ht
            generalize manyI (s.eye.high - s.eye.low + 1) (s.looks.take k) = m at m1 hms hmb ⊢
            (repeat (refine stq ?_))
            (repeat (refine sdq ?_))
            refine DG_end hM (by kernel_rfl) ?_
            (repeat (refine stq ?_))
            refine ⟨k + 1, hk', by omega, ?_⟩
            (refine Le.mkR [(0, 0), (1, 3)] ?_ ?_ rfl; all_goals (repeat' (first | exact trivial | refine sle ?_ | refine ⟨?_, rfl, ?_⟩ | refine ⟨?_, by decide, rfl, ?_⟩ | fail)))
            · show some (FV.pv (vi (m * (t.high - t.low + 1)))) = some (FV.pv (vi (manyI (s.eye.high - s.eye.low + 1) (s.looks.take (k + 1)))))
              rw [hms]
            · show some (AObj.arr 3 1 ((lowsI (s.looks.take k)).map eInt ++ [eInt t.low])) = some (AObj.arr 3 1 ((lowsI (s.looks.take (k + 1))).map eInt))
              rw [hls, List.map_append]; rfl
          · have hk' : k = s.looks.length := by omega
            subst hk'
            rw [List.take_length]
            generalize manyI (s.eye.high - s.eye.low + 1) s.looks = m
            refine AW_pure (t := 6) rfl rfl ?_
            (repeat (refine stq ?_))
            refine AW_if rfl (fun hc2 => ?_) (fun hc2 => ?_)
            · (repeat' (first | refine stq ?_ | (refine AL_do2 rfl ?_; first | refine ⟨_, op_call1 rfl rfl rfl rfl (f28), nrmA rfl ?_⟩) | (with_reducible refine AL_id ?_); (fail_if_success (refine AL_glit rfl rfl rfl (by first | exact .inl (by with_reducible rfl) | exact .inr (by with_reducible rfl)) ?_)); first | refine AL_gdec rfl rfl rfl (fun hg => ?_) (fun hg => ?_) | refine AL_gnot rfl rfl rfl (fun hg => ?_) (fun hg => ?_) | refine AL_gcases rfl rfl rfl (fun hg => ?_) (fun hg => ?_)))
              exact ⟨_, _, rfl, rfl, rfl⟩
            have hll : (lowsI s.looks).length = s.looks.length := by simp [lowsI]
            have hprov : ∃ x y e, x.length ≤ 1000 ∧ (if sameI s trays (truthsI s) = [] then ([], ⟨0, 0⟩, 7) else (hullsI s.looks.length (sameI s trays (truthsI s)), spanOf (eyesI (sameI s trays (truthsI s))), 0) : List Span × Span × Int) = (x, y, e) := by
              split
              · exact ⟨_, _, _, by simp, rfl⟩
              · exact ⟨_, _, _, by rw [hulls_len]; omega, rfl⟩
            obtain ⟨x, y, e, hxl, hxy⟩ := hprov
            rw [hxy] at k54
            have k54 : ACalls Tryz.prog 54 [eSorter s, eInts trays] (fun r => r = .tup [eSpans x, eS y, vi e]) := k54
            (repeat' (first | refine stq ?_ | (refine AL_do2 rfl ?_; first | refine ⟨_, op_call1 rfl rfl rfl rfl (k54), nrmA rfl ?_⟩) | (with_reducible refine AL_id ?_); (fail_if_success (refine AL_glit rfl rfl rfl (by first | exact .inl (by with_reducible rfl) | exact .inr (by with_reducible rfl)) ?_)); first | refine AL_gdec rfl rfl rfl (fun hg => ?_) (fun hg => ?_) | refine AL_gnot rfl rfl rfl (fun hg => ?_) (fun hg => ?_) | refine AL_gcases rfl rfl rfl (fun hg => ?_) (fun hg => ?_)))
            refine AL_do2 rfl ⟨_, op_makeSlice (n := (lowsI s.looks).length) (zp := [vi 0, vi 0]) hT rfl rfl rfl rfl rfl rfl rfl rfl rfl rfl (by omega) rfl, ?_⟩
            rw [← hulls_nil]
            rw [show hullsI (lowsI s.looks).length [] = hullsI s.looks.length [] by rw [hll]]
            (repeat (refine stq ?_))
            have hNpos := numsL_pos hlow
            generalize hN : (numsL s.looks).length = N at hNpos
            refine AW_loopC (fun k : Nat => k ≤ N) (fun k => mkSt (reE trays (((numsL s.looks)[k]?).getD (lowsI s.looks)) x e (decide (sameI s trays (goneR s k 0) ≠ [])) ++ [(14, .pv (.bool (decide (k < N))))]) (reO s x y (hullsI s.looks.length (sameI s trays (goneR s k 0))) (spanOf (eyesI (sameI s trays (goneR s k 0))))) 5) (fun k => N - k) 0 (Nat.zero_le _) ?_ ?_
            · (refine Le.mk ?_ ?_; all_goals (repeat' (first | exact trivial | refine sle ?_ | refine ⟨?_, rfl, ?_⟩ | refine ⟨?_, by decide, rfl, ?_⟩ | fail)))
              all_goals first
                | (show some (FV.pv (.bool true)) = some (FV.pv (.bool (decide (0 < N)))); rw [decide_eq_true hNpos])
                | (show some (FV.pv (eInts (lowsI s.looks))) = some (FV.pv (eInts (((numsL s.looks)[0]?).getD (lowsI s.looks)))); rw [numsL_zero hlow]; rfl)
            · intro k hk
              (repeat (refine stq ?_))
              refine AW_if rfl (fun hc3 => ?_) (fun hc3 => ?_)
              · obtain ⟨l, hl⟩ : ∃ l, (numsL s.looks)[k]? = some l := ⟨(numsL s.looks)[k]'(by omega), by simp⟩
                rw [hl]
                simp only [Option.getD_some]
                have hlS := numsL_mem.1 (List.mem_of_getElem? hl)
                have hl1 := numsL_len _ _ (List.mem_of_getElem? hl)
                have hlw := within_iff.2 hlS
                have hlb := allIn_bd (c := 3000) hl1 (by simp only [withinB, Bool.and_eq_true] at hlw; exact hlw.2) fun u hu => by have := hlk u hu; omega
                have hnx := next_enum hlow k l hl
                have hnE : nextE s.looks l = (((numsL s.looks)[k + 1]?).getD (lowsI s.looks), decide (k + 1 < N)) := by
                  unfold nextE
                  rw [hnx]
                  by_cases hk1 : k + 1 < N
                  · obtain ⟨z, hz⟩ : ∃ z, (numsL s.looks)[k + 1]? = some z := ⟨(numsL s.looks)[k + 1]'(by omega), by simp⟩
                    rw [hz, decide_eq_true hk1]; rfl
                  · rw [List.getElem?_eq_none (by omega), decide_eq_false hk1]; rfl
                (repeat (refine stq ?_))
                refine AW_loopC (fun j : Nat => j ≤ (s.eye.high - s.eye.low + 1).toNat) (fun j => mkSt (reE trays l x e (decide (sameI s trays (goneR s k j) ≠ [])) ++ [(15, .pv (vi (s.eye.low + j)))]) (reO s x y (hullsI s.looks.length (sameI s trays (goneR s k j))) (spanOf (eyesI (sameI s trays (goneR s k j))))) 5) (fun j => (s.eye.high - s.eye.low + 1).toNat - j) 0 (Nat.zero_le _) ?_ ?_
                · (refine Le.mk ?_ ?_; all_goals (repeat' (first | exact trivial | refine sle ?_ | refine ⟨?_, rfl, ?_⟩ | refine ⟨?_, by decide, rfl, ?_⟩ | fail)))
                  show some (FV.pv (vi s.eye.low)) = some (FV.pv (vi (s.eye.low + ((0 : Nat) : Int)))); simp
                · intro j hj
                  (repeat (refine stq ?_))
                  refine AW_if rfl (fun hc4 => ?_) (fun hc4 => ?_)
                  · have hj' : j < (s.eye.high - s.eye.low + 1).toNat := by omega
                    have k53 := f53 s l (s.eye.low + j) (by omega) (by omega)
                    have hlo : looksB s l (s.eye.low + j) = true := by simp only [looksB, hlw, Bool.true_and, inB, Bool.and_eq_true, decide_eq_true_eq]; omega
                    rw [show layE s l (s.eye.low + j) = (layI s.tire l (s.eye.low + j), 0) by unfold layE; rw [if_pos (by rw [q1, Bool.true_and]; exact hlo)]] at k53
                    have hyl := layI_len s.tire l (s.eye.low + j)
                    have k59 := f59 (layI s.tire l (s.eye.low + j)) trays (by omega)
                    have hps : sameI s trays (goneR s k (j + 1)) = if layI s.tire l (s.eye.low + j) = trays then sameI s trays (goneR s k j) ++ [(l, s.eye.low + (j : Int))] else sameI s trays (goneR s k j) := by rw [gone_snoc hl hj']; exact same_snoc
                    have k53 : ACalls Tryz.prog 53 [eSorter s, eInts l, vi (s.eye.low + j)] (fun r => r = .tup [eInts (layI s.tire l (s.eye.low + j)), vi 0]) := k53
                    generalize layI s.tire l (s.eye.low + j) = z at k53 hyl hps k59
                    generalize sameI s trays (goneR s k j) = F at *
                    (repeat' (first | refine stq ?_ | (refine AL_do2 rfl ?_; first | refine ⟨_, op_call1 rfl rfl rfl rfl (k53), nrmA rfl ?_⟩ | refine ⟨_, op_call1 rfl rfl rfl rfl (k59), nrmA rfl ?_⟩) | (with_reducible refine AL_id ?_); (fail_if_success (refine AL_glit rfl rfl rfl (by first | exact .inl (by with_reducible rfl) | exact .inr (by with_reducible rfl)) ?_)); first | refine AL_gdec rfl rfl rfl (fun hg => ?_) (fun hg => ?_) | refine AL_gnot rfl rfl rfl (fun hg => ?_) (fun hg => ?_) | refine AL_gcases rfl rfl rfl (fun hg => ?_) (fun hg => ?_)))
                    refine AW_cond rfl (fun hc5 => ?_) (fun hc5 => ?_)
                    · have hne : ¬ z = trays := by simpa using hc5
                      rw [if_neg hne] at hps
                      (repeat (refine stq ?_))
                      refine ⟨j + 1, hj', by omega, ?_⟩
                      rw [hps]
                      (refine Le.mk ?_ ?_; all_goals (repeat' (first | exact trivial | refine sle ?_ | refine ⟨?_, rfl, ?_⟩ | refine ⟨?_, by decide, rfl, ?_⟩ | fail)))
                      show some (FV.pv (vi (s.eye.low + j + 1))) = some (FV.pv (vi (s.eye.low + ((j + 1 : Nat) : Int)))); rw [show s.eye.low + (j : Int) + 1 = s.eye.low + ((j + 1 : Nat) : Int) by omega]
                    · have heq : z = trays := by simpa using hc5
                      rw [if_pos heq] at hps
                      have hwe := @wid_eye F l (s.eye.low + j)
                      have hwc := fun (n : Int) (i : Nat) (h : l[i]? = some n) => @wid_col F l (s.eye.low + j) n i h
                      generalize hG : F ++ [(l, s.eye.low + (j : Int))] = G at *
                      generalize decide (F ≠ []) = met at *
                      (repeat (refine stq ?_))
                      refine AW_loopC (fun i : Nat => i ≤ s.looks.length) (fun i => mkSt (reE trays l x e met ++ [(15, .pv (vi (s.eye.low + j))), (18, .pv (vi i))]) (reO s x y (mixI s.looks.length F G i) (spanOf (eyesI F))) 5) (fun i => s.looks.length - i) 0 (Nat.zero_le _) ?_ ?_
                      · rw [mix_zero]; (refine Le.mk ?_ ?_; all_goals (repeat' (first | exact trivial | refine sle ?_ | refine ⟨?_, rfl, ?_⟩ | refine ⟨?_, by decide, rfl, ?_⟩ | fail)))
                      · intro i hi
                        have hml := mix_len (F := F) (G := G) hi
                        have hml2 : ((mixI s.looks.length F G i).map eSpan).length = s.looks.length := by rw [List.length_map, hml]
                        (repeat (refine stq ?_))
                        refine AW_if rfl (fun hc6 => ?_) (fun hc6 => ?_)
                        · have hi' : i < s.looks.length := by omega
                          obtain ⟨n, hn⟩ : ∃ n, l[i]? = some n := ⟨l[i]'(by omega), by simp⟩
                          have e2 := get_map eInt hn
                          have hg := mix_get (F := F) (G := G) hi'
                          have hst := mix_set (F := F) (G := G) hi'
                          rw [← hwc n i hn] at hst
                          generalize spanOf (colI F i) = u at hg hst
                          have e3 : ((mixI s.looks.length F G i).map eSpan)[i]? = some (eSpan u) := by rw [List.getElem?_map, hg]; rfl
                          have hst' : ((mixI s.looks.length F G i).map eSpan).set i (eSpan (widR (!met) u n)) = (mixI s.looks.length F G (i + 1)).map eSpan := by rw [← List.map_set, hst]
                          generalize (mixI s.looks.length F G i).map eSpan = A at e3 hst' hml2 ⊢
                          cases met with
                          | false =>
                            have e4 : (A.set i (eSpan ⟨n, n⟩))[i]? = some (eSpan ⟨n, n⟩) := by rw [List.getElem?_set, if_pos rfl, if_pos (by omega)]
                            have hml3 : (A.set i (eSpan ⟨n, n⟩)).length = s.looks.length := by rw [List.length_set]; exact hml2
                            (repeat' (first | refine stq ?_ | (refine AL_do2 rfl ?_; first | refine ⟨_, op_call1 rfl rfl rfl rfl (f60 n), nrmA rfl ?_⟩) | (with_reducible refine AL_id ?_); (fail_if_success (refine AL_glit rfl rfl rfl (by first | exact .inl (by with_reducible rfl) | exact .inr (by with_reducible rfl)) ?_)); first | refine AL_gdec rfl rfl rfl (fun hg => ?_) (fun hg => ?_) | refine AL_gnot rfl rfl rfl (fun hg => ?_) (fun hg => ?_) | refine AL_gcases rfl rfl rfl (fun hg => ?_) (fun hg => ?_)))
                            refine AL_do2 rfl ⟨_, op_indexAddr_arr hT rfl rfl rfl rfl rfl rfl rfl rfl (by omega) (by rw [hml2]; omega) rfl, ?_⟩
                            refine AL_do2 rfl ⟨_, op_store_aptr (el := eSpan u) hT rfl rfl rfl rfl rfl e3 rfl rfl rfl rfl, ?_⟩
                            (repeat (refine stq ?_))
                            (repeat (refine sdq ?_))
                            refine DG_next (D_indexAddr_arr (n := (i : Int)) hT rfl rfl rfl rfl rfl rfl rfl rfl rfl (by omega) (by rw [List.length_set, hml2]; omega) rfl) ?_
                            (repeat (refine sdq ?_))
                            refine DG_next (D_load_aptr (el := eSpan ⟨n, n⟩) hT rfl rfl rfl rfl rfl rfl e4 rfl) ?_
                            (repeat (refine sdq ?_))
                            refine DG_next (D_indexAddr_arr (n := (i : Int)) hT rfl rfl rfl rfl rfl rfl rfl rfl rfl (by omega) (by rw [List.length_set, hml2]; omega) rfl) ?_
                            (repeat (refine sdq ?_))
                            refine DG_next (D_load_aptr (el := eSpan ⟨n, n⟩) hT rfl rfl rfl rfl rfl rfl e4 rfl) ?_
                            (repeat (first | refine sdq ?_ | refine DG_next (D_call rfl rfl rfl rfl rfl (f61 (min n n) (max n n))) ?_))
                            refine DG_next (D_indexAddr_arr (n := (i : Int)) hT rfl rfl rfl rfl rfl rfl rfl rfl rfl (by omega) (by rw [List.length_set, hml2]; omega) rfl) ?_
                            refine DG_end hM (by kernel_rfl) ?_
                            (repeat (refine stq ?_))
                            refine AL_do2 rfl ⟨_, op_store_aptr (el := eSpan ⟨n, n⟩) hT rfl rfl rfl rfl rfl e4 rfl rfl rfl rfl, ?_⟩
                            (repeat (refine stq ?_))
                            refine ⟨i + 1, hi', by omega, ?_⟩
                            (refine Le.mk ?_ ?_; all_goals (repeat' (first | exact trivial | refine sle ?_ | refine ⟨?_, rfl, ?_⟩ | refine ⟨?_, by decide, rfl, ?_⟩ | fail)))
                            show some (AObj.arr 37 2 ((A.set i (eSpan ⟨n, n⟩)).set i (eSpan ⟨min n n, max n n⟩))) = some (AObj.arr 37 2 ((mixI s.looks.length F G (i + 1)).map eSpan))
                            rw [List.set_set, ← hst', Int.min_self, Int.max_self]; rfl
                          | true =>
                            (repeat (refine stq ?_))
                            (repeat (refine sdq ?_))
                            refine DG_next (D_indexAddr_arr (n := (i : Int)) hT rfl rfl rfl rfl rfl rfl rfl rfl rfl (by omega) (by rw [hml2]; omega) rfl) ?_
                            (repeat (refine sdq ?_))
                            refine DG_next (D_load_aptr (el := eSpan u) hT rfl rfl rfl rfl rfl rfl e3 rfl) ?_
                            (repeat (refine sdq ?_))
                            refine DG_next (D_indexAddr_arr (n := (i : Int)) hT rfl rfl rfl rfl rfl rfl rfl rfl rfl (by omega) (by rw [hml2]; omega) rfl) ?_
                            (repeat (refine sdq ?_))
                            refine DG_next (D_load_aptr (el := eSpan u) hT rfl rfl rfl rfl rfl rfl e3 rfl) ?_
                            (repeat (first | refine sdq ?_ | refine DG_next (D_call rfl rfl rfl rfl rfl (f61 (min u.low n) (max u.high n))) ?_))
                            refine DG_next (D_indexAddr_arr (n := (i : Int)) hT rfl rfl rfl rfl rfl rfl rfl rfl rfl (by omega) (by rw [hml2]; omega) rfl) ?_
                            refine DG_end hM (by kernel_rfl) ?_
                            (repeat (refine stq ?_))
                            refine AL_do2 rfl ⟨_, op_store_aptr (el := eSpan u) hT rfl rfl rfl rfl rfl e3 rfl rfl rfl rfl, ?_⟩
                            (repeat (refine stq ?_))
                            refine ⟨i + 1, hi', by omega, ?_⟩
                            (refine Le.mk ?_ ?_; all_goals (repeat' (first | exact trivial | refine sle ?_ | refine ⟨?_, rfl, ?_⟩ | refine ⟨?_, by decide, rfl, ?_⟩ | fail)))
                            show some (AObj.arr 37 2 (A.set i (eSpan ⟨min u.low n, max u.high n⟩))) = some (AObj.arr 37 2 ((mixI s.looks.length F G (i + 1)).map eSpan))
                            rw [← hst']; rfl
                        · have hi' : i = s.looks.length := by omega
                          subst hi'
                          rw [mix_end]
                          generalize spanOf (eyesI F) = E at *
                          cases met with
                          | false =>
                            (repeat' (first | refine stq ?_ | (refine AL_do2 rfl ?_; first | refine ⟨_, op_call1 rfl rfl rfl rfl (f60 (s.eye.low + j)), nrmA rfl ?_⟩ | refine ⟨_, op_call1 rfl rfl rfl rfl (f61 (min (s.eye.low + j) (s.eye.low + j)) (max (s.eye.low + j) (s.eye.low + j))), nrmA rfl ?_⟩) | (with_reducible refine AL_id ?_); (fail_if_success (refine AL_glit rfl rfl rfl (by first | exact .inl (by with_reducible rfl) | exact .inr (by with_reducible rfl)) ?_)); first | refine AL_gdec rfl rfl rfl (fun hg => ?_) (fun hg => ?_) | refine AL_gnot rfl rfl rfl (fun hg => ?_) (fun hg => ?_) | refine AL_gcases rfl rfl rfl (fun hg => ?_) (fun hg => ?_)))
                            refine ⟨j + 1, hj', by omega, ?_⟩
                            rw [hps, ← hwe]
                            (refine Le.mk ?_ ?_; all_goals (repeat' (first | exact trivial | refine sle ?_ | refine ⟨?_, rfl, ?_⟩ | refine ⟨?_, by decide, rfl, ?_⟩ | fail)))
                            all_goals first
                              | (show some (FV.pv (.bool true)) = some (FV.pv (.bool (decide (G ≠ [])))); rw [← hG]; simp; done)
                              | (show some (FV.pv (vi (s.eye.low + j + 1))) = some (FV.pv (vi (s.eye.low + ((j + 1 : Nat) : Int)))); rw [show s.eye.low + (j : Int) + 1 = s.eye.low + ((j + 1 : Nat) : Int) by omega])
                              | (show some (AObj.box [.pv (vi (min (s.eye.low + j) (s.eye.low + j))), .pv (vi (max (s.eye.low + j) (s.eye.low + j)))]) = some (AObj.box [.pv (vi (s.eye.low + j)), .pv (vi (s.eye.low + j))]); rw [Int.min_self, Int.max_self])
                          | true =>
                            (repeat' (first | refine stq ?_ | (refine AL_do2 rfl ?_; first | refine ⟨_, op_call1 rfl rfl rfl rfl (f61 (min E.low (s.eye.low + j)) (max E.high (s.eye.low + j))), nrmA rfl ?_⟩) | (with_reducible refine AL_id ?_); (fail_if_success (refine AL_glit rfl rfl rfl (by first | exact .inl (by with_reducible rfl) | exact .inr (by with_reducible rfl)) ?_)); first | refine AL_gdec rfl rfl rfl (fun hg => ?_) (fun hg => ?_) | refine AL_gnot rfl rfl rfl (fun hg => ?_) (fun hg => ?_) | refine AL_gcases rfl rfl rfl (fun hg => ?_) (fun hg => ?_)))
                            refine ⟨j + 1, hj', by omega, ?_⟩
                            rw [hps, ← hwe]
                            (refine Le.mk ?_ ?_; all_goals (repeat' (first | exact trivial | refine sle ?_ | refine ⟨?_, rfl, ?_⟩ | refine ⟨?_, by decide, rfl, ?_⟩ | fail)))
                            all_goals first
                              | (show some (FV.pv (.bool true)) = some (FV.pv (.bool (decide (G ≠ [])))); rw [← hG]; simp; done)
                              | (show some (FV.pv (vi (s.eye.low + j + 1))) = some (FV.pv (vi (s.eye.low + ((j + 1 : Nat) : Int)))); rw [show s.eye.low + (j : Int) + 1 = s.eye.low + ((j + 1 : Nat) : Int) by omega])
                              | (show some (AObj.box [.pv (vi (min (s.eye.low + j) (s.eye.low + j))), .pv (vi (max (s.eye.low + j) (s.eye.low + j)))]) = some (AObj.box [.pv (vi (s.eye.low + j)), .pv (vi (s.eye.low + j))]); rw [Int.min_self, Int.max_self])
                  · have hj' : j = (s.eye.high - s.eye.low + 1).toNat := by omega
                    subst hj'
                    rw [← gone_round hl]
                    have k62 := f62 s l hl1 (by omega) hlb
                    rw [hnE] at k62
                    dsimp only at k62
                    (repeat' (first | refine stq ?_ | (refine AL_do2 rfl ?_; first | refine ⟨_, op_call1 rfl rfl rfl rfl (k62), nrmA rfl ?_⟩) | (with_reducible refine AL_id ?_); (fail_if_success (refine AL_glit rfl rfl rfl (by first | exact .inl (by with_reducible rfl) | exact .inr (by with_reducible rfl)) ?_)); first | refine AL_gdec rfl rfl rfl (fun hg => ?_) (fun hg => ?_) | refine AL_gnot rfl rfl rfl (fun hg => ?_) (fun hg => ?_) | refine AL_gcases rfl rfl rfl (fun hg => ?_) (fun hg => ?_)))
                    refine ⟨k + 1, by omega, by omega, ?_⟩
                    (refine Le.mk ?_ ?_; all_goals (repeat' (first | exact trivial | refine sle ?_ | refine ⟨?_, rfl, ?_⟩ | refine ⟨?_, by decide, rfl, ?_⟩ | fail)))
              · have hkN : k = N := by omega
                subst hkN
                rw [← hN, gone_end]
                refine AW_pure (t := 11) rfl rfl ?_
                by_cases hF : sameI s trays (truthsI s) = []
                · rw [if_pos hF] at hxy
                  simp only [Prod.mk.injEq] at hxy
                  obtain ⟨rfl, rfl, rfl⟩ := hxy
                  rw [show decide (sameI s trays (truthsI s) ≠ []) = false by simp [hF]]
                  (repeat' (first | refine stq ?_ | (refine AL_do2 rfl ?_; first | refine ⟨_, op_call1 rfl rfl rfl rfl (f28), nrmA rfl ?_⟩) | (with_reducible refine AL_id ?_); (fail_if_success (refine AL_glit rfl rfl rfl (by first | exact .inl (by with_reducible rfl) | exact .inr (by with_reducible rfl)) ?_)); first | refine AL_gdec rfl rfl rfl (fun hg => ?_) (fun hg => ?_) | refine AL_gnot rfl rfl rfl (fun hg => ?_) (fun hg => ?_) | refine AL_gcases rfl rfl rfl (fun hg => ?_) (fun hg => ?_)))
                  exact ⟨_, _, rfl, rfl, rfl⟩
                · rw [if_neg hF] at hxy
                  simp only [Prod.mk.injEq] at hxy
                  obtain ⟨hx1, hy1, rfl⟩ := hxy
                  rw [show decide (sameI s trays (truthsI s) ≠ []) = true by simp [hF], hx1, hy1]
                  have k32 := same_of (f32 x x hxl) rfl
                  (repeat' (first | refine stq ?_ | (refine AL_do2 rfl ?_; first | refine ⟨_, op_call1 rfl rfl rfl rfl (k32), nrmA rfl ?_⟩ | refine ⟨_, op_eqlS1 [y.low, y.high] aggEq37 rfl rfl rfl rfl rfl, ?_⟩ | refine ⟨_, op_call1 rfl rfl rfl rfl (f28), nrmA rfl ?_⟩) | (with_reducible refine AL_id ?_); (fail_if_success (refine AL_glit rfl rfl rfl (by first | exact .inl (by with_reducible rfl) | exact .inr (by with_reducible rfl)) ?_)); first | refine AL_gdec rfl rfl rfl (fun hg => ?_) (fun hg => ?_) | refine AL_gnot rfl rfl rfl (fun hg => ?_) (fun hg => ?_) | refine AL_gcases rfl rfl rfl (fun hg => ?_) (fun hg => ?_)))
                  exact ⟨_, _, rfl, rfl, rfl⟩
  · (repeat' (first | (exfalso; omega) | refine AW_if rfl (fun hc => absurd hc (by omega)) (fun _ => ?_) | refine AW_if rfl (fun _ => ?_) (fun hc => absurd (by omega) hc) | refine stq ?_ | (refine AL_do2 rfl ?_; first | refine ⟨_, op_call1 rfl rfl rfl rfl (f28), nrmA rfl ?_⟩) | (with_reducible refine AL_id ?_); (fail_if_success (refine AL_glit rfl rfl rfl (by first | exact .inl (by with_reducible rfl) | exact .inr (by with_reducible rfl)) ?_)); first | refine AL_gdec rfl rfl rfl (fun hg => ?_) (fun hg => ?_) | refine AL_gnot rfl rfl rfl (fun hg => ?_) (fun hg => ?_) | refine AL_gcases rfl rfl rfl (fun hg => ?_) (fun hg => ?_)))
    all_goals exact ⟨_, _, rfl, rfl, rfl⟩
end Go.Abs
