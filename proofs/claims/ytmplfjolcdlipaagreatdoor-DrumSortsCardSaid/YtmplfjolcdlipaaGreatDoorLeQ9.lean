/- Sortings, and batches that are apart, as the reference has them. -/
import Derived.Test.YtmplfjolcdlipaaGreatDoorLdQ9
import Derived.Test.YtmplfjolcdlipaaGreatDoorDrM
import Derived.Test.YtmplfjolcdlipaaGreatDoorDrL
import Derived.Test.YtmplfjolcdlipaaGreatDoorLaQ9
import Derived.Test.YtmplfjolcdlipaaGreatDoorNcAbsSLQ9
import Derived.Test.YtmplfjolcdlipaaGreatDoorXQ9
import Derived.Test.YtmplfjolcdlipaaGreatDoorDrJ
set_option linter.unusedVariables false
set_option linter.unusedSimpArgs false
namespace Go.Abs
open Go.Proofs
set_option linter.unusedVariables false
set_option linter.unusedSimpArgs false
set_option maxRecDepth 100000
theorem runs_take {l : List Int} {k : Nat} {x : Int} (h : l[k]? = some x) : runsI (l.take (k + 1)) = max (runsI (l.take k)) (x + 1) := by
  rw [List.take_add_one, h]
  exact runs_append _ _
theorem runs_bd {l : List Int} {m : Int} (h0 : 0 ≤ m) (h : ∀ x ∈ l, x < m) : runsI l ≤ m := by
  rcases (runs_foldl l 0).2.2 with e | ⟨x, hx, e⟩
  · unfold runsI; omega
  · have := h x hx; unfold runsI; omega
theorem f53 (l : List Int) (hl : l.length ≤ 1000) (hb : ∀ x ∈ l, -1000 ≤ x ∧ x ≤ 1000) : ACalls Tryz.prog 53 [eInts l] (fun r => r = .pv (vi (runsI l))) := by
  refine ACalls.of_body hT Tryz.func53 rfl (by kernel_rfl) rfl ?_
  (repeat (refine stq ?_))
  refine AW_loopC (fun k : Nat => k ≤ l.length) (fun k => mkSt [(0, .pv (eInts l)), (3, .pv (vi (runsI (l.take k)))), (4, .pv (vi k))] [] 0) (fun k => l.length - k) 0 (Nat.zero_le _) ?_ ?_
  · (refine Le.mk ?_ ?_; all_goals (repeat' (first | exact trivial | refine sle ?_ | refine ⟨?_, rfl, ?_⟩ | refine ⟨?_, by decide, rfl, ?_⟩ | fail)))
  · intro k hk
    (repeat (refine stq ?_))
    refine AW_if rfl (fun hc => ?_) (fun hc => ?_)
    · have hk' : k < l.length := by omega
      obtain ⟨x, hx⟩ : ∃ x, l[k]? = some x := ⟨l[k], by simp [hk']⟩
      have e1 := get_map eInt hx
      have hxb := hb x (List.mem_of_getElem? hx)
      have hs := runs_take hx
      generalize runsI (l.take k) = m at *
      (repeat (refine stq ?_))
      refine ⟨k + 1, hk', by omega, ?_⟩
      rw [hs]
      (refine Le.mk ?_ ?_; all_goals (repeat' (first | exact trivial | refine sle ?_ | refine ⟨?_, rfl, ?_⟩ | refine ⟨?_, by decide, rfl, ?_⟩ | fail)))
    · have hk' : k = l.length := by omega
      subst hk'
      rw [List.take_length]
      (repeat (refine stq ?_))
      exact ⟨_, _, rfl, rfl, rfl⟩
def numB (d : Drum) (l : List Int) : Bool := l.all (fun x => inB x 0 (d.batches.length - 1)) && decide (l.length = d.batches.length)
theorem num_fine (d : Drum) (l : List Int) : numB d l = fineS d l := by
  unfold numB fineS
  rw [Bool.and_comm]
  congr 1
  induction l with
  | nil => rfl
  | cons x l ih => simp only [List.all_cons, List.any_cons, Bool.not_or, ih, badNo, Bool.not_not]
theorem f47 (d : Drum) (l : List Int) (hl : l.length ≤ 9223372036854775807) (hb : d.batches.length ≤ 1000) : ACalls Tryz.prog 47 [eDrum d, eInts l] (fun r => r = .pv (.bool (numB d l))) := by
  refine ACalls.of_body hT Tryz.func47 rfl (by kernel_rfl) rfl ?_
  (repeat (refine stq ?_))
  refine AW_loopC (fun k : Nat => k ≤ l.length ∧ (l.take k).all (fun x => inB x 0 (d.batches.length - 1)) = true) (fun k => mkSt [(1, .pv (eInts l)), (2, .box 0 0), (5, .pv (vi k))] [(0, .box ((eDrumC d).map FV.pv))] 1) (fun k => l.length - k) 0 ⟨Nat.zero_le _, by simp⟩ ?_ ?_
  · (refine Le.mk ?_ ?_; all_goals (repeat' (first | exact trivial | refine sle ?_ | refine ⟨?_, rfl, ?_⟩ | refine ⟨?_, by decide, rfl, ?_⟩ | fail)))
  · rintro k ⟨hk, hall⟩
    (repeat (refine stq ?_))
    refine AW_if rfl (fun hc => ?_) (fun hc => ?_)
    · have hk' : k < l.length := by omega
      obtain ⟨x, hx⟩ : ∃ x, l[k]? = some x := ⟨l[k], by simp [hk']⟩
      have e1 := get_map eInt hx
      have k103 := f103 x 0 (d.batches.length - 1)
      have hn : (l.take (k + 1)).all (fun x => inB x 0 (d.batches.length - 1)) = ((l.take k).all (fun x => inB x 0 (d.batches.length - 1)) && inB x 0 (d.batches.length - 1)) := by
        rw [List.take_add_one, hx, List.all_append]; simp
      cases hb : inB x 0 (d.batches.length - 1) with
      | false =>
        rw [hb] at k103
        (repeat (refine stq ?_))
        (repeat (first | refine sdq ?_ | refine DG_next (D_call rfl rfl rfl rfl rfl (k103)) ?_))
        refine DG_end hM (by kernel_rfl) ?_
        (repeat (refine stq ?_))
        exact ⟨_, _, rfl, rfl, by
          have : l.all (fun x => inB x 0 (d.batches.length - 1)) = false := List.all_eq_false.2 ⟨x, List.mem_of_getElem? hx, by rw [hb]; decide⟩
          unfold numB; rw [this]; rfl⟩
      | true =>
        rw [hb] at k103
        (repeat (refine stq ?_))
        (repeat (first | refine sdq ?_ | refine DG_next (D_call rfl rfl rfl rfl rfl (k103)) ?_))
        refine DG_end hM (by kernel_rfl) ?_
        (repeat (refine stq ?_))
        refine ⟨k + 1, ⟨hk', by rw [hn, hall, hb]; rfl⟩, by omega, ?_⟩
        (refine Le.mk ?_ ?_; all_goals (repeat' (first | exact trivial | refine sle ?_ | refine ⟨?_, rfl, ?_⟩ | refine ⟨?_, by decide, rfl, ?_⟩ | fail)))
    · have hk' : k = l.length := by omega
      subst hk'
      rw [List.take_length] at hall
      (repeat (refine stq ?_))
      exact ⟨_, _, rfl, rfl, by
        unfold numB; rw [hall]
        by_cases h : l.length = d.batches.length
        · rw [decide_eq_true h, decide_eq_true (by omega)]; rfl
        · rw [decide_eq_false h, decide_eq_false (by omega)]; rfl⟩
theorem f128 (W : List Span) (hW : W.length ≤ 1000) : ACalls Tryz.prog 128 [eSpans W] (fun r => r = .pv (.bool (W.all openS))) := by
  refine ACalls.of_body hT Tryz.func128 rfl (by kernel_rfl) rfl ?_
  (repeat (refine stq ?_))
  refine AW_loopC (fun k : Nat => k ≤ W.length ∧ (W.take k).all openS = true) (fun k => mkSt [(0, .pv (eSpans W)), (3, .pv (vi k))] [] 0) (fun k => W.length - k) 0 ⟨Nat.zero_le _, by simp⟩ ?_ ?_
  · (refine Le.mk ?_ ?_; all_goals (repeat' (first | exact trivial | refine sle ?_ | refine ⟨?_, rfl, ?_⟩ | refine ⟨?_, by decide, rfl, ?_⟩ | fail)))
  · rintro k ⟨hk, hall⟩
    (repeat (refine stq ?_))
    refine AW_if rfl (fun hc => ?_) (fun hc => ?_)
    · have hk' : k < W.length := by omega
      obtain ⟨x, hx⟩ : ∃ x, W[k]? = some x := ⟨W[k], by simp [hk']⟩
      have e1 := get_map eSpan hx
      have hn : (W.take (k + 1)).all openS = ((W.take k).all openS && openS x) := by
        rw [List.take_add_one, hx, List.all_append]; simp
      by_cases ho : x.low ≤ x.high
      · (repeat (refine stq ?_))
        iterate 10 (refine sdq ?_)
        refine DG_cmp hT rfl (fun hg => absurd hg (by omega)) (fun _ => ?_)
        refine DG_end hM (by kernel_rfl) ?_
        (repeat (refine stq ?_))
        refine ⟨k + 1, ⟨hk', by rw [hn, hall]; unfold openS; rw [decide_eq_true ho]; rfl⟩, by omega, ?_⟩
        (refine Le.mk ?_ ?_; all_goals (repeat' (first | exact trivial | refine sle ?_ | refine ⟨?_, rfl, ?_⟩ | refine ⟨?_, by decide, rfl, ?_⟩ | fail)))
      · (repeat (refine stq ?_))
        iterate 10 (refine sdq ?_)
        refine DG_cmp hT rfl (fun _ => ?_) (fun hg => absurd hg (by omega))
        refine DG_end hM (by kernel_rfl) ?_
        (repeat (refine stq ?_))
        exact ⟨_, _, rfl, rfl, by
          rw [show W.all openS = false from List.all_eq_false.2 ⟨x, List.mem_of_getElem? hx, by unfold openS; rw [decide_eq_false ho]; decide⟩]⟩
    · have hk' : k = W.length := by omega
      subst hk'
      rw [List.take_length] at hall
      (repeat (refine stq ?_))
      exact ⟨_, _, rfl, rfl, by rw [hall]⟩
def sortsR1 (W : List Span) (l : List Int) (i : Nat) : Bool := decide (l.getD i 0 ≤ runsI (l.take i)) && openS (commonR W l (l.getD i 0))
def sortsR (W : List Span) (l : List Int) : Bool := (List.range l.length).all (sortsR1 W l)
theorem all_range_succ {k : Nat} {p : Nat → Bool} : (List.range (k + 1)).all p = ((List.range k).all p && p k) := by
  rw [List.range_succ, List.all_append]; simp
theorem f48 (W : List Span) (l : List Int) (hW : W.length ≤ 1000) (hl : l.length ≤ 1000) (hwl : l.length = 0 ∨ W.length ≤ l.length) (hb : ∀ x ∈ l, -1000 ≤ x ∧ x ≤ 1000) : ACalls Tryz.prog 48 [eSpans W, eInts l] (fun r => r = .pv (.bool (sortsR W l))) := by
  refine ACalls.of_body hT Tryz.func48 rfl (by kernel_rfl) rfl ?_
  (repeat (refine stq ?_))
  refine AW_loopC (fun k : Nat => k ≤ l.length ∧ (List.range k).all (sortsR1 W l) = true) (fun k => mkSt [(0, .pv (eSpans W)), (1, .pv (eInts l)), (5, .pv (vi k))] [] 0) (fun k => l.length - k) 0 ⟨Nat.zero_le _, by simp⟩ ?_ ?_
  · (refine Le.mk ?_ ?_; all_goals (repeat' (first | exact trivial | refine sle ?_ | refine ⟨?_, rfl, ?_⟩ | refine ⟨?_, by decide, rfl, ?_⟩ | fail)))
  · rintro k ⟨hk, hall⟩
    (repeat (refine stq ?_))
    refine AW_if rfl (fun hc => ?_) (fun hc => ?_)
    · have hk' : k < l.length := by omega
      obtain ⟨x, hx⟩ : ∃ x, l[k]? = some x := ⟨l[k], by simp [hk']⟩
      have e1 := get_map eInt hx
      have hn := all_range_succ (k := k) (p := sortsR1 W l)
      have gx : l.getD k 0 = x := by rw [List.getD_eq_getElem?_getD, hx]; rfl
      have k53 := f53 (l.take k) (by simp; omega) (fun y hy => hb y (List.mem_of_mem_take hy))
      have k57 := f57 W l x hW hl hwl
      have h1 : sortsR1 W l k = (decide (x ≤ runsI (l.take k)) && openS (commonR W l x)) := by unfold sortsR1; rw [gx]
      have bad : sortsR1 W l k = false → sortsR W l = false := fun h => List.all_eq_false.2 ⟨k, List.mem_range.2 hk', by rw [h]; decide⟩
      have htk : eInts (l.take k) = .sl ((l.map eInt).take k) := by unfold eInts; rw [List.map_take]
      rw [htk] at k53
      generalize runsI (l.take k) = m at *
      generalize commonR W l x = c at *
      by_cases hm : x ≤ m
      · by_cases ho : c.low ≤ c.high
        · have hv : sortsR1 W l k = true := by rw [h1]; unfold openS; rw [decide_eq_true hm, decide_eq_true ho]; rfl
          (repeat (refine stq ?_))
          iterate 6 (refine sdq ?_)
          refine DG_next (D_slice_to (hi := k) hT rfl rfl rfl rfl rfl rfl rfl (by intro y hy; (first | (simp only [List.mem_cons, List.not_mem_nil, or_false] at hy; subst hy; rfl) | (simp only [List.mem_cons, List.not_mem_nil, or_false] at hy; rcases hy with hy | hy <;> subst hy <;> rfl) | (obtain ⟨_, _, rfl⟩ := List.mem_map.1 hy; rfl) | (cases hy))) rfl (by rw [List.length_map]; omega)) ?_
          refine DG_next (D_call rfl rfl rfl rfl rfl k53) ?_
          refine DG_cmp hT rfl (fun hg => absurd hg (by omega)) (fun _ => ?_)
          refine DG_end hM (by kernel_rfl) ?_
          (repeat (refine stq ?_))
          refine AL_do2 rfl ⟨_, op_call1 rfl rfl rfl rfl (k57), ?_⟩
          (repeat (refine stq ?_))
          refine AW_if rfl (fun hc => absurd hc (by omega)) (fun _ => ?_)
          (repeat (refine stq ?_))
          refine ⟨k + 1, ⟨hk', by rw [hn, hall, hv]; rfl⟩, by omega, ?_⟩
          (refine Le.mk ?_ ?_; all_goals (repeat' (first | exact trivial | refine sle ?_ | refine ⟨?_, rfl, ?_⟩ | refine ⟨?_, by decide, rfl, ?_⟩ | fail)))
        · have hv : sortsR1 W l k = false := by rw [h1]; unfold openS; rw [decide_eq_true hm, decide_eq_false ho]; rfl
          (repeat (refine stq ?_))
          iterate 6 (refine sdq ?_)
          refine DG_next (D_slice_to (hi := k) hT rfl rfl rfl rfl rfl rfl rfl (by intro y hy; (first | (simp only [List.mem_cons, List.not_mem_nil, or_false] at hy; subst hy; rfl) | (simp only [List.mem_cons, List.not_mem_nil, or_false] at hy; rcases hy with hy | hy <;> subst hy <;> rfl) | (obtain ⟨_, _, rfl⟩ := List.mem_map.1 hy; rfl) | (cases hy))) rfl (by rw [List.length_map]; omega)) ?_
          refine DG_next (D_call rfl rfl rfl rfl rfl k53) ?_
          refine DG_cmp hT rfl (fun hg => absurd hg (by omega)) (fun _ => ?_)
          refine DG_end hM (by kernel_rfl) ?_
          (repeat (refine stq ?_))
          refine AL_do2 rfl ⟨_, op_call1 rfl rfl rfl rfl (k57), ?_⟩
          (repeat (refine stq ?_))
          refine AW_if rfl (fun _ => ?_) (fun hc => absurd (by omega) hc)
          (repeat (refine stq ?_))
          exact ⟨_, _, rfl, rfl, by rw [bad hv]⟩
      · have hv : sortsR1 W l k = false := by rw [h1, decide_eq_false hm]; rfl
        (repeat (refine stq ?_))
        iterate 6 (refine sdq ?_)
        refine DG_next (D_slice_to (hi := k) hT rfl rfl rfl rfl rfl rfl rfl (by intro y hy; (first | (simp only [List.mem_cons, List.not_mem_nil, or_false] at hy; subst hy; rfl) | (simp only [List.mem_cons, List.not_mem_nil, or_false] at hy; rcases hy with hy | hy <;> subst hy <;> rfl) | (obtain ⟨_, _, rfl⟩ := List.mem_map.1 hy; rfl) | (cases hy))) rfl (by rw [List.length_map]; omega)) ?_
        refine DG_next (D_call rfl rfl rfl rfl rfl k53) ?_
        refine DG_cmp hT rfl (fun _ => ?_) (fun hg => absurd hg (by omega))
        refine DG_end hM (by kernel_rfl) ?_
        (repeat (refine stq ?_))
        exact ⟨_, _, rfl, rfl, by rw [bad hv]⟩
    · have hk' : k = l.length := by omega
      subst hk'
      (repeat (refine stq ?_))
      exact ⟨_, _, rfl, rfl, by rw [show sortsR W l = true from hall]⟩
end Go.Abs
namespace Go.Abs
open Go.Proofs
set_option linter.unusedVariables false
set_option linter.unusedSimpArgs false
set_option maxRecDepth 100000
def bfsOK : Bool := (List.range 6).all fun i => decide ((bfsI i).length ≤ 60) && (bfsI i).all fun l => decide (l.length = i) && l.all fun x => decide (0 ≤ x) && decide (x < i)
theorem bfs_ok : bfsOK = true := by decide +kernel
theorem bfs_bd {i : Nat} (hi : i ≤ 5) : (bfsI i).length ≤ 60 ∧ ∀ l ∈ bfsI i, l.length = i ∧ ∀ x ∈ l, 0 ≤ x ∧ x < (i : Int) := by
  have := List.all_eq_true.1 bfs_ok i (List.mem_range.2 (by omega))
  simp only [Bool.and_eq_true, decide_eq_true_eq, List.all_eq_true] at this
  exact ⟨this.1, fun l hl => this.2 l hl⟩
theorem step_succ {L : List (List Int)} {k : Nat} {l : List Int} (h : L[k]? = some l) : stepL (L.take (k + 1)) = stepL (L.take k) ++ (List.range ((runsI l).toNat + 1)).map fun m : Nat => l ++ [(m : Int)] := by
  unfold stepL
  rw [List.take_add_one, h, List.flatMap_append]
  simp
theorem step_mono (L : List (List Int)) (k : Nat) : (stepL (L.take k)).length ≤ (stepL L).length := by
  have : stepL L = stepL (L.take k) ++ stepL (L.drop k) := by
    unfold stepL
    rw [← List.flatMap_append, List.take_append_drop]
  rw [this, List.length_append]; omega
theorem best_succ {α : Type} (b : α → α → Bool) (l : List α) (x : α) : bestL b (l ++ [x]) = match bestL b l with | none => some x | some o => some (if b x o then x else o) := by
  cases l with
  | nil => rfl
  | cons y l => simp only [List.cons_append, bestL, List.foldl_append, List.foldl_cons, List.foldl_nil]
def bestF : Option (List Int) → FV
  | none => .nils
  | some l => .pv (eInts l)
def sortR (W : List Span) : List Int := (bestL fewB ((bfsI W.length).filter (sortsR W))).getD []
theorem best_in (M : List (List Int)) (b : List Int) (hb : bestL fewB M = some b) : b ∈ M := by
  cases M with
  | nil => cases hb
  | cons y M =>
    simp only [bestL, Option.some.injEq] at hb
    subst hb
    have : ∀ (M : List (List Int)) (o : List Int), M.foldl (fun o y => if fewB y o then y else o) o = o ∨ M.foldl (fun o y => if fewB y o then y else o) o ∈ M := by
      intro M
      induction M with
      | nil => intro o; exact .inl rfl
      | cons z M ih =>
        intro o
        simp only [List.foldl_cons]
        rcases ih (if fewB z o then z else o) with h | h
        · rw [h]; split
          · exact .inr (by simp)
          · exact .inl rfl
        · exact .inr (by simp [h])
    rcases this M y with h | h
    · rw [h]; simp
    · simp [h]
set_option maxHeartbeats 8000000 in
theorem f51 (W : List Span) (h1 : 1 ≤ W.length) (hW : W.length ≤ 5) (hne : (bfsI W.length).filter (sortsR W) ≠ []) : ACalls Tryz.prog 51 [eSpans W] (fun r => r = .pv (eInts (sortR W))) := by
  refine ACalls.of_body hT Tryz.func51 rfl (by kernel_rfl) rfl ?_
  (repeat (refine stq ?_))
  refine AW_pure (t := 3) rfl rfl ?_
  refine AW_loopC (fun i : Nat => i ≤ W.length) (fun i => mkSt [(0, .pv (eSpans W)), (3, .pv (eRows (bfsI i))), (4, .pv (vi i))] [] 0) (fun i => W.length - i) 0 (Nat.zero_le _) ?_ ?_
  · (refine Le.mk ?_ ?_; all_goals (repeat' (first | exact trivial | refine sle ?_ | refine ⟨?_, rfl, ?_⟩ | refine ⟨?_, by decide, rfl, ?_⟩ | fail)))
  · intro i hi
    (repeat (refine stq ?_))
    refine AW_if rfl (fun hc => ?_) (fun hc => ?_)
    · have hi' : i < W.length := by omega
      obtain ⟨b1, b2⟩ := bfs_bd (i := i) (by omega)
      have b3 := (bfs_bd (i := i + 1) (by omega)).1
      have hst : bfsI (i + 1) = stepL (bfsI i) := rfl
      rw [hst] at b3
      generalize bfsI i = L at *
      (repeat (refine stq ?_))
      refine AW_own_nil (e := 23) (sz := 1) (t := 5) rfl rfl ?_
      refine AW_loopC (fun k : Nat => k ≤ L.length) (fun k => mkSt [(0, .pv (eSpans W)), (3, .pv (eRows L)), (4, .pv (vi i)), (5, .arr 0), (6, .pv (vi k))] [(0, .arr 23 1 ((stepL (L.take k)).map eRow))] 1) (fun k => L.length - k) 0 (Nat.zero_le _) ?_ ?_
      · (refine Le.mk ?_ ?_; all_goals (repeat' (first | exact trivial | refine sle ?_ | refine ⟨?_, rfl, ?_⟩ | refine ⟨?_, by decide, rfl, ?_⟩ | fail)))
      · intro k hk
        (repeat (refine stq ?_))
        refine AW_if rfl (fun hc2 => ?_) (fun hc2 => ?_)
        · have hk' : k < L.length := by omega
          obtain ⟨l, hl⟩ : ∃ l, L[k]? = some l := ⟨L[k], by simp [hk']⟩
          have e1 := get_map eRow hl
          obtain ⟨l1, l2⟩ := b2 l (List.mem_of_getElem? hl)
          have k53 := f53 l (by omega) (fun x hx => by have := l2 x hx; omega)
          have hr0 := runs_nonneg l
          have hr1 := runs_bd (l := l) (m := (i : Int)) (by omega) (fun x hx => (l2 x hx).2)
          obtain ⟨rn, hrn⟩ : ∃ rn : Nat, runsI l = rn := ⟨(runsI l).toNat, by omega⟩
          have hs := step_succ hl
          have hm1 := step_mono L k
          rw [hrn, Int.toNat_natCast] at hs
          rw [hrn] at k53 hr1
          generalize stepL (L.take k) = ts at *
          (repeat (refine stq ?_))
          refine AW_loopC (fun j : Nat => j ≤ rn + 1) (fun j => mkSt [(0, .pv (eSpans W)), (3, .pv (eRows L)), (4, .pv (vi i)), (5, .arr 0), (6, .pv (vi k)), (7, .pv (vi j))] [(0, .arr 23 1 ((ts ++ (List.range j).map fun m : Nat => l ++ [(m : Int)]).map eRow))] 1) (fun j => rn + 1 - j) 0 (Nat.zero_le _) ?_ ?_
          · (refine Le.mk ?_ ?_; all_goals (repeat' (first | exact trivial | refine sle ?_ | refine ⟨?_, rfl, ?_⟩ | refine ⟨?_, by decide, rfl, ?_⟩ | fail)))
            rw [List.range_zero, List.map_nil, List.append_nil]; rfl
          · intro j hj
            (repeat (refine stq ?_))
            refine AL_do2 rfl ⟨_, op_call1 rfl rfl rfl rfl (k53), ?_⟩
            (repeat (refine stq ?_))
            refine AW_if rfl (fun hc3 => ?_) (fun hc3 => ?_)
            · have hj' : j < rn + 1 := by omega
              have hsj : ts ++ (List.range (j + 1)).map (fun m : Nat => l ++ [(m : Int)]) = (ts ++ (List.range j).map fun m : Nat => l ++ [(m : Int)]) ++ [l ++ [(j : Int)]] := by
                rw [List.range_succ, List.map_append, ← List.append_assoc]; rfl
              have hul : (ts ++ (List.range j).map fun m : Nat => l ++ [(m : Int)]).length ≤ 200 := by simp; omega
              generalize (ts ++ (List.range j).map fun m : Nat => l ++ [(m : Int)]) = us at *
              (repeat (refine stq ?_))
              refine AL_do2 rfl ⟨_, op_append_nil1 (e := 3) (sz := 1) hT rfl rfl rfl rfl rfl rfl rfl rfl rfl rfl (by intro y hy; (first | (simp only [List.mem_cons, List.not_mem_nil, or_false] at hy; subst hy; rfl) | (simp only [List.mem_cons, List.not_mem_nil, or_false] at hy; rcases hy with hy | hy <;> subst hy <;> rfl) | (obtain ⟨_, _, rfl⟩ := List.mem_map.1 hy; rfl) | (cases hy))) (by simp only [List.length_map, List.length_take, List.length_cons, List.length_nil, List.length_append]; omega) rfl, ?_⟩
              (repeat (refine stq ?_))
              refine AL_pure (t := 40) rfl rfl ?_
              (repeat (refine stq ?_))
              refine ⟨j + 1, hj', by omega, ?_⟩
              rw [hsj]
              (refine Le.mkR [(0, 5)] ?_ ?_ rfl; all_goals (repeat' (first | exact trivial | refine sle ?_ | refine ⟨?_, rfl, ?_⟩ | refine ⟨?_, by decide, rfl, ?_⟩ | fail)))
              rw [List.map_append]
              have : eRow (l ++ [(j : Int)]) = [.sl (l.map eInt ++ [eInt j])] := by unfold eRow eInts; rw [List.map_append]; rfl
              rw [show [l ++ [(j : Int)]].map eRow = [eRow (l ++ [(j : Int)])] from rfl, this]; rfl
            · have hj' : j = rn + 1 := by omega
              subst hj'
              rw [← hs]
              (repeat (refine stq ?_))
              refine ⟨k + 1, hk', by omega, ?_⟩
              (refine Le.mk ?_ ?_; all_goals (repeat' (first | exact trivial | refine sle ?_ | refine ⟨?_, rfl, ?_⟩ | refine ⟨?_, by decide, rfl, ?_⟩ | fail)))
        · have hk' : k = L.length := by omega
          subst hk'
          rw [List.take_length]
          refine AW_pure (t := 5) rfl rfl ?_
          (repeat (refine stq ?_))
          refine ⟨i + 1, hi', by omega, ?_⟩
          rw [hst]
          (refine Le.mk ?_ ?_; all_goals (repeat' (first | exact trivial | refine sle ?_ | refine ⟨?_, rfl, ?_⟩ | refine ⟨?_, by decide, rfl, ?_⟩ | fail)))
    · have hi' : i = W.length := by omega
      subst hi'
      obtain ⟨b1, b2⟩ := bfs_bd (i := W.length) hW
      have hsr : sortR W = (bestL fewB ((bfsI W.length).filter (sortsR W))).getD [] := rfl
      rw [hsr]
      generalize bfsI W.length = L at *
      (repeat (refine stq ?_))
      refine AW_loopC (fun k : Nat => k ≤ L.length) (fun k => mkSt [(0, .pv (eSpans W)), (3, .pv (eRows L)), (8, bestF (bestL fewB ((L.take k).filter (sortsR W)))), (9, .pv (vi k))] [] 0) (fun k => L.length - k) 0 (Nat.zero_le _) ?_ ?_
      · (refine Le.mk ?_ ?_; all_goals (repeat' (first | exact trivial | refine sle ?_ | refine ⟨?_, rfl, ?_⟩ | refine ⟨?_, by decide, rfl, ?_⟩ | fail)))
      · intro k hk
        (repeat (refine stq ?_))
        refine AW_if rfl (fun hc2 => ?_) (fun hc2 => ?_)
        · have hk' : k < L.length := by omega
          obtain ⟨l, hl⟩ : ∃ l, L[k]? = some l := ⟨L[k], by simp [hk']⟩
          have e1 := get_map eRow hl
          obtain ⟨l1, l2⟩ := b2 l (List.mem_of_getElem? hl)
          have k48 := f48 W l (by omega) (by omega) (.inr (by omega)) (fun x hx => by have := l2 x hx; omega)
          have k53 := f53 l (by omega) (fun x hx => by have := l2 x hx; omega)
          have hfl : (L.take (k + 1)).filter (sortsR W) = (L.take k).filter (sortsR W) ++ (if sortsR W l then [l] else []) := by
            rw [List.take_add_one, hl, List.filter_append]
            cases h : sortsR W l <;> simp [h]
          have hmem : ∀ b, bestL fewB ((L.take k).filter (sortsR W)) = some b → b ∈ L := fun b hb => by
            exact List.mem_of_mem_take (List.mem_filter.1 (best_in _ b hb)).1
          have hbs := best_succ fewB ((L.take k).filter (sortsR W)) l
          generalize (L.take k).filter (sortsR W) = M at *
          cases hsv : sortsR W l with
          | false =>
            rw [hsv] at k48 hfl
            rw [if_neg (by simp), List.append_nil] at hfl
            have hfl2 : bestL fewB ((L.take (k + 1)).filter (sortsR W)) = bestL fewB M := by rw [hfl]
            cases ho : bestL fewB M
            all_goals
              rw [ho] at hfl2
              (repeat' (first | refine AL_skip rfl rfl ?_ | refine stq ?_ | (refine AL_do2 rfl ?_; first | refine ⟨_, op_call1 rfl rfl rfl rfl (k48), nrmA rfl ?_⟩) | ((first | (with_reducible refine AL_id ?_); (fail_if_success (refine AL_glit rfl rfl rfl (by first | exact .inl (by with_reducible rfl) | exact .inr (by with_reducible rfl)) ?_)); first | refine AL_gdec rfl rfl rfl (fun hg => ?_) (fun hg => ?_) | refine AL_gnot rfl rfl rfl (fun hg => ?_) (fun hg => ?_) | refine AL_gcases rfl rfl rfl (fun hg => ?_) (fun hg => ?_)) <;> (try (exfalso; omega))) | refine AW_if rfl (fun hc => absurd hc (by omega)) (fun _ => ?_) | refine AW_if rfl (fun _ => ?_) (fun hc => absurd (by omega) hc)))
              refine ⟨k + 1, hk', by omega, ?_⟩
              rw [hfl2]
              (refine Le.mk ?_ ?_; all_goals (repeat' (first | exact trivial | refine sle ?_ | refine ⟨?_, rfl, ?_⟩ | refine ⟨?_, by decide, rfl, ?_⟩ | fail)))
          | true =>
            rw [hsv] at k48 hfl
            rw [if_pos rfl] at hfl
            cases ho : bestL fewB M with
            | none =>
              rw [ho] at hbs
              (repeat' (first | refine AL_skip rfl rfl ?_ | refine stq ?_ | (refine AL_do2 rfl ?_; first | refine ⟨_, op_call1 rfl rfl rfl rfl (k48), nrmA rfl ?_⟩ | refine ⟨_, op_eql_nils hT rfl rfl rfl rfl rfl, ?_⟩) | ((first | (with_reducible refine AL_id ?_); (fail_if_success (refine AL_glit rfl rfl rfl (by first | exact .inl (by with_reducible rfl) | exact .inr (by with_reducible rfl)) ?_)); first | refine AL_gdec rfl rfl rfl (fun hg => ?_) (fun hg => ?_) | refine AL_gnot rfl rfl rfl (fun hg => ?_) (fun hg => ?_) | refine AL_gcases rfl rfl rfl (fun hg => ?_) (fun hg => ?_)) <;> (try (exfalso; omega))) | refine AW_if rfl (fun hc => absurd hc (by omega)) (fun _ => ?_) | refine AW_if rfl (fun _ => ?_) (fun hc => absurd (by omega) hc)))
              refine ⟨k + 1, hk', by omega, ?_⟩
              rw [hfl, hbs]
              (refine Le.mk ?_ ?_; all_goals (repeat' (first | exact trivial | refine sle ?_ | refine ⟨?_, rfl, ?_⟩ | refine ⟨?_, by decide, rfl, ?_⟩ | fail)))
            | some b =>
              rw [ho] at hbs
              have hbs : bestL fewB (M ++ [l]) = some (if fewB l b then l else b) := hbs
              obtain ⟨c1, c2⟩ := b2 b (hmem b ho)
              have k53b := f53 b (by omega) (fun x hx => by have := c2 x hx; omega)
              (repeat' (first | refine AL_skip rfl rfl ?_ | refine stq ?_ | (refine AL_do2 rfl ?_; first | refine ⟨_, op_call1 rfl rfl rfl rfl (k48), nrmA rfl ?_⟩) | ((first | (with_reducible refine AL_id ?_); (fail_if_success (refine AL_glit rfl rfl rfl (by first | exact .inl (by with_reducible rfl) | exact .inr (by with_reducible rfl)) ?_)); first | refine AL_gdec rfl rfl rfl (fun hg => ?_) (fun hg => ?_) | refine AL_gnot rfl rfl rfl (fun hg => ?_) (fun hg => ?_) | refine AL_gcases rfl rfl rfl (fun hg => ?_) (fun hg => ?_)) <;> (try (exfalso; omega))) | refine AW_if rfl (fun hc => absurd hc (by omega)) (fun _ => ?_) | refine AW_if rfl (fun _ => ?_) (fun hc => absurd (by omega) hc)))
              refine AL_doS rfl (op_eql_slnil (es := b.map eInt) hT rfl rfl rfl rfl rfl (fun el hel => by obtain ⟨x, _, rfl⟩ := List.mem_map.1 hel; exact Nat.one_pos)) ?_
              rintro s' ⟨bb, hbb, rfl⟩
              cases bb with
              | true =>
                exfalso
                have := hbb rfl
                rw [List.map_eq_nil_iff] at this
                rw [this] at c1
                simp at c1; omega
              | false =>
                have hf : fewB l b = decide (runsI l < runsI b) := rfl
                by_cases hlt : runsI l < runsI b
                · rw [hf, decide_eq_true hlt] at hbs
                  (repeat' (first | refine AL_skip rfl rfl ?_ | refine stq ?_ | (refine AL_do2 rfl ?_; first | refine ⟨_, op_call1 rfl rfl rfl rfl (k53), nrmA rfl ?_⟩ | refine ⟨_, op_call1 rfl rfl rfl rfl (k53b), nrmA rfl ?_⟩) | ((first | (with_reducible refine AL_id ?_); (fail_if_success (refine AL_glit rfl rfl rfl (by first | exact .inl (by with_reducible rfl) | exact .inr (by with_reducible rfl)) ?_)); first | refine AL_gdec rfl rfl rfl (fun hg => ?_) (fun hg => ?_) | refine AL_gnot rfl rfl rfl (fun hg => ?_) (fun hg => ?_) | refine AL_gcases rfl rfl rfl (fun hg => ?_) (fun hg => ?_)) <;> (try (exfalso; omega))) | refine AW_if rfl (fun hc => absurd hc (by omega)) (fun _ => ?_) | refine AW_if rfl (fun _ => ?_) (fun hc => absurd (by omega) hc)))
                  all_goals (try (exfalso; omega))
                  refine ⟨k + 1, hk', by omega, ?_⟩
                  rw [hfl, hbs]
                  (refine Le.mk ?_ ?_; all_goals (repeat' (first | exact trivial | refine sle ?_ | refine ⟨?_, rfl, ?_⟩ | refine ⟨?_, by decide, rfl, ?_⟩ | fail)))
                · rw [hf, decide_eq_false hlt] at hbs
                  (repeat' (first | refine AL_skip rfl rfl ?_ | refine stq ?_ | (refine AL_do2 rfl ?_; first | refine ⟨_, op_call1 rfl rfl rfl rfl (k53), nrmA rfl ?_⟩ | refine ⟨_, op_call1 rfl rfl rfl rfl (k53b), nrmA rfl ?_⟩) | ((first | (with_reducible refine AL_id ?_); (fail_if_success (refine AL_glit rfl rfl rfl (by first | exact .inl (by with_reducible rfl) | exact .inr (by with_reducible rfl)) ?_)); first | refine AL_gdec rfl rfl rfl (fun hg => ?_) (fun hg => ?_) | refine AL_gnot rfl rfl rfl (fun hg => ?_) (fun hg => ?_) | refine AL_gcases rfl rfl rfl (fun hg => ?_) (fun hg => ?_)) <;> (try (exfalso; omega))) | refine AW_if rfl (fun hc => absurd hc (by omega)) (fun _ => ?_) | refine AW_if rfl (fun _ => ?_) (fun hc => absurd (by omega) hc)))
                  all_goals (try (exfalso; omega))
                  refine ⟨k + 1, hk', by omega, ?_⟩
                  rw [hfl, hbs]
                  (refine Le.mk ?_ ?_; all_goals (repeat' (first | exact trivial | refine sle ?_ | refine ⟨?_, rfl, ?_⟩ | refine ⟨?_, by decide, rfl, ?_⟩ | fail)))
        · have hk' : k = L.length := by omega
          subst hk'
          rw [List.take_length]
          cases ho : bestL fewB (L.filter (sortsR W)) with
          | none =>
            exfalso
            match he : L.filter (sortsR W) with
            | [] => exact hne he
            | x :: M => rw [he] at ho; cases ho
          | some b =>
            (repeat (refine stq ?_))
            exact ⟨_, _, rfl, rfl, rfl⟩
end Go.Abs
namespace Go.Abs
open Go.Proofs
set_option linter.unusedVariables false
set_option linter.unusedSimpArgs false
set_option maxRecDepth 100000
def sp0 : Span := ⟨0, 0⟩
def pairR (W : List Span) (l : List Int) (i k : Nat) : Bool := !openS (common (W.getD (l.getD i 0).toNat sp0) (W.getD (l.getD k 0).toNat sp0))
def rowR (W : List Span) (l : List Int) (i : Nat) : Bool := (List.range i).all (pairR W l i)
def apartR (W : List Span) (l : List Int) : Bool := (List.range l.length).all (rowR W l)
set_option maxHeartbeats 4000000 in
theorem f130 (W : List Span) (l : List Int) (hW : W.length ≤ 1000) (hl : l.length ≤ 1000) (hin : ∀ x ∈ l, 0 ≤ x ∧ x < (W.length : Int)) : ACalls Tryz.prog 130 [eSpans W, eInts l] (fun r => r = .pv (.bool (apartR W l))) := by
  refine ACalls.of_body hT Tryz.func130 rfl (by kernel_rfl) rfl ?_
  (repeat (refine stq ?_))
  refine AW_loopC (fun i : Nat => i ≤ l.length ∧ (List.range i).all (rowR W l) = true) (fun i => mkSt [(0, .pv (eSpans W)), (1, .pv (eInts l)), (5, .pv (vi i))] [] 0) (fun i => l.length - i) 0 ⟨Nat.zero_le _, by simp⟩ ?_ ?_
  · (refine Le.mk ?_ ?_; all_goals (repeat' (first | exact trivial | refine sle ?_ | refine ⟨?_, rfl, ?_⟩ | refine ⟨?_, by decide, rfl, ?_⟩ | fail)))
  · rintro i ⟨hi, hall⟩
    (repeat (refine stq ?_))
    refine AW_if rfl (fun hc => ?_) (fun hc => ?_)
    · have hi' : i < l.length := by omega
      obtain ⟨x, hx⟩ : ∃ x, l[i]? = some x := ⟨l[i], by simp [hi']⟩
      have e1 := get_map eInt hx
      have hxb := hin x (List.mem_of_getElem? hx)
      have gx : l.getD i 0 = x := by rw [List.getD_eq_getElem?_getD, hx]; rfl
      obtain ⟨s, hs⟩ : ∃ s, W[x.toNat]? = some s := ⟨W[x.toNat]'(by omega), by simp⟩
      have e2 : (W.map eSpan)[x.toNat]? = some (eSpan s) := get_map eSpan hs
      have gs : W.getD x.toNat sp0 = s := by rw [List.getD_eq_getElem?_getD, hs]; rfl
      have hn := all_range_succ (k := i) (p := rowR W l)
      have bad : rowR W l i = false → apartR W l = false := fun h => List.all_eq_false.2 ⟨i, List.mem_range.2 hi', by rw [h]; decide⟩
      (repeat (refine stq ?_))
      refine AW_loopC (fun k : Nat => k ≤ i ∧ (List.range k).all (pairR W l i) = true) (fun k => mkSt [(0, .pv (eSpans W)), (1, .pv (eInts l)), (5, .pv (vi i)), (6, .pv (vi k))] [] 0) (fun k => i - k) 0 ⟨Nat.zero_le _, by simp⟩ ?_ ?_
      · (refine Le.mk ?_ ?_; all_goals (repeat' (first | exact trivial | refine sle ?_ | refine ⟨?_, rfl, ?_⟩ | refine ⟨?_, by decide, rfl, ?_⟩ | fail)))
      · rintro k ⟨hk, hall2⟩
        (repeat (refine stq ?_))
        refine AW_if rfl (fun hc2 => ?_) (fun hc2 => ?_)
        · have hk' : k < i := by omega
          obtain ⟨y, hy⟩ : ∃ y, l[k]? = some y := ⟨l[k]'(by omega), by simp⟩
          have e3 := get_map eInt hy
          have hyb := hin y (List.mem_of_getElem? hy)
          have gy : l.getD k 0 = y := by rw [List.getD_eq_getElem?_getD, hy]; rfl
          obtain ⟨u, hu⟩ : ∃ u, W[y.toNat]? = some u := ⟨W[y.toNat]'(by omega), by simp⟩
          have e4 : (W.map eSpan)[y.toNat]? = some (eSpan u) := get_map eSpan hu
          have gu : W.getD y.toNat sp0 = u := by rw [List.getD_eq_getElem?_getD, hu]; rfl
          have hp : pairR W l i k = !openS (common s u) := by unfold pairR; rw [gx, gy, gs, gu]
          have k132 := f132 s u
          have hn2 := all_range_succ (k := k) (p := pairR W l i)
          have bad2 : pairR W l i k = false → rowR W l i = false := fun h => List.all_eq_false.2 ⟨k, List.mem_range.2 hk', by rw [h]; decide⟩
          generalize common s u = c at *
          (repeat (refine stq ?_))
          iterate 14 (refine sdq ?_)
          refine DG_next (D_call rfl rfl rfl rfl rfl k132) ?_
          refine DG_next (D_allocE hT rfl rfl rfl rfl) ?_
          refine DG_next (D_storeE hT rfl rfl rfl rfl rfl rfl rfl rfl rfl rfl) ?_
          refine DG_end hM (by kernel_rfl) ?_
          by_cases ho : c.low ≤ c.high
          · have hv : pairR W l i k = false := by rw [hp]; unfold openS; rw [decide_eq_true ho]; rfl
            (repeat (refine stq ?_))
            refine AW_if rfl (fun _ => ?_) (fun hc => absurd (by omega) hc)
            (repeat (refine stq ?_))
            exact ⟨_, _, rfl, rfl, by rw [bad (bad2 hv)]⟩
          · have hv : pairR W l i k = true := by rw [hp]; unfold openS; rw [decide_eq_false ho]; rfl
            (repeat (refine stq ?_))
            refine AW_if rfl (fun hc => absurd hc (by omega)) (fun _ => ?_)
            (repeat (refine stq ?_))
            refine ⟨k + 1, ⟨hk', by rw [hn2, hall2, hv]; rfl⟩, by omega, ?_⟩
            (refine Le.mk ?_ ?_; all_goals (repeat' (first | exact trivial | refine sle ?_ | refine ⟨?_, rfl, ?_⟩ | refine ⟨?_, by decide, rfl, ?_⟩ | fail)))
        · have hk' : k = i := by omega
          subst hk'
          (repeat (refine stq ?_))
          refine ⟨k + 1, ⟨hi', by rw [hn, hall, show rowR W l k = true from hall2]; rfl⟩, by omega, ?_⟩
          (refine Le.mk ?_ ?_; all_goals (repeat' (first | exact trivial | refine sle ?_ | refine ⟨?_, rfl, ?_⟩ | refine ⟨?_, by decide, rfl, ?_⟩ | fail)))
    · have hi' : i = l.length := by omega
      subst hi'
      (repeat (refine stq ?_))
      exact ⟨_, _, rfl, rfl, by rw [show apartR W l = true from hall]⟩
theorem find_orderA {n K : Nat} {p : List Int → Bool} {A B : List (List Int)} {l : List Int} (hK : K ≤ n) (h1 : ∀ k, K < k → k ≤ n → ∀ x ∈ listsI n k 0, p x = false) (h2 : listsI n K 0 = A ++ l :: B) (h3 : ∀ x ∈ A, p x = false) (h4 : p l = true) : (orderA n).find? p = some l := by
  unfold orderA
  have e : (List.range (n + 1)).reverse = (List.range' (K + 1) (n - K)).reverse ++ K :: (List.range K).reverse := by
    have : List.range (n + 1) = List.range K ++ K :: (List.range' (K + 1) (n - K)) := by
      rw [List.range_eq_range', List.range_eq_range', show n + 1 = K + (n - K + 1) by omega, ← List.range'_append_1, List.range'_succ]; simp
    rw [this, List.reverse_append, List.reverse_cons]; simp
  rw [e, List.flatMap_append, List.flatMap_cons, h2, List.find?_eq_some_iff_append]
  refine ⟨h4, ((List.range' (K + 1) (n - K)).reverse).flatMap (fun k => listsI n k 0) ++ A, B ++ ((List.range K).reverse).flatMap fun k => listsI n k 0, by simp, fun x hx => ?_⟩
  rcases List.mem_append.1 hx with hx | hx
  · obtain ⟨k, hk, hx⟩ := List.mem_flatMap.1 hx
    rw [List.mem_reverse, List.mem_range'_1] at hk
    simp [h1 k (by omega) (by omega) x hx]
  · simp [h3 x hx]
def longR (W : List Span) : List Int := ((orderA W.length).find? (apartR W)).getD []
set_option maxHeartbeats 4000000 in
theorem f54 (W : List Span) (hW : W.length ≤ 5) : ACalls Tryz.prog 54 [eSpans W] (fun r => r = .pv (eInts (longR W))) := by
  have kl : ∀ k : Nat, k ≤ W.length → ACalls Tryz.prog 129 [vi 0, vi W.length, vi k] (fun r => r = .pv (eRows (listsI W.length k 0))) := fun k hk => f129 W.length hW k 0 (by omega) (by omega)
  have kn : ∀ l, l.length ≤ 1000 → (∀ x ∈ l, 0 ≤ x ∧ x < (W.length : Int)) → ACalls Tryz.prog 130 [eSpans W, eInts l] (fun r => r = .pv (.bool (apartR W l))) := fun l hl hb => f130 W l (by omega) hl hb
  refine ACalls.of_body hT Tryz.func54 rfl (by kernel_rfl) rfl ?_
  (repeat (refine stq ?_))
  refine AW_loopC (fun m : Nat => m ≤ W.length ∧ ∀ j, m < j → j ≤ W.length → ∀ x ∈ listsI W.length j 0, apartR W x = false) (fun m => mkSt [(0, .pv (eSpans W)), (3, .pv (vi m))] [] 0) (fun m => m) W.length ⟨Nat.le_refl _, fun j h1 h2 => by omega⟩ ?_ ?_
  · (refine Le.mk ?_ ?_; all_goals (repeat' (first | exact trivial | refine sle ?_ | refine ⟨?_, rfl, ?_⟩ | refine ⟨?_, by decide, rfl, ?_⟩ | fail)))
  · rintro m ⟨hm, hall⟩
    (repeat (refine stq ?_))
    refine AW_if rfl (fun hc => ?_) (fun hc => ?_)
    · have hm' : 0 < m := by omega
      have k129 := kl m hm
      have hLl : ∀ l ∈ listsI W.length m 0, l.length ≤ 6 ∧ ∀ x ∈ l, 0 ≤ x ∧ x < (W.length : Int) := fun l hl => by
        obtain ⟨g1, g2, g3⟩ := (lists_mem W.length m 0 l).1 hl
        exact ⟨by omega, fun x hx => by have := g3 x hx; omega⟩
      have hLb := lists_bd (b := W.length) (m := m) (f := 0) (by omega) (by omega) (by omega)
      have found : ∀ A B l, listsI W.length m 0 = A ++ l :: B → (∀ x ∈ A, apartR W x = false) → apartR W l = true → longR W = l := fun A B l e hA hl => by
        unfold longR
        rw [find_orderA (K := m) hm (fun j h1 h2 => hall j h1 h2) e hA hl]; rfl
      have next : (∀ x ∈ listsI W.length m 0, apartR W x = false) → ∀ j, m - 1 < j → j ≤ W.length → ∀ x ∈ listsI W.length j 0, apartR W x = false := fun h j h1 h2 => by
        by_cases hjm : j = m
        · rw [hjm]; exact h
        · exact hall j (by omega) h2
      generalize listsI W.length m 0 = L at *
      (repeat (refine stq ?_))
      refine AL_do2 rfl ⟨_, op_call1 rfl rfl rfl rfl (k129), ?_⟩
      (repeat (refine stq ?_))
      refine AW_loopC (fun i : Nat => i ≤ L.length ∧ ∀ x ∈ L.take i, apartR W x = false) (fun i => mkSt [(0, .pv (eSpans W)), (3, .pv (vi m)), (4, .pv (eRows L)), (5, .pv (vi i))] [] 0) (fun i => L.length - i) 0 ⟨Nat.zero_le _, by simp⟩ ?_ ?_
      · (refine Le.mk ?_ ?_; all_goals (repeat' (first | exact trivial | refine sle ?_ | refine ⟨?_, rfl, ?_⟩ | refine ⟨?_, by decide, rfl, ?_⟩ | fail)))
      · rintro i ⟨hi, hno⟩
        (repeat (refine stq ?_))
        refine AW_if rfl (fun hc2 => ?_) (fun hc2 => ?_)
        · have hi' : i < L.length := by omega
          obtain ⟨l, hl⟩ : ∃ l, L[i]? = some l := ⟨L[i], by simp [hi']⟩
          have e1 := get_map eRow hl
          obtain ⟨hll, hlb⟩ := hLl l (List.mem_of_getElem? hl)
          have k130 := kn l (by omega) hlb
          cases hb : apartR W l with
          | true =>
            rw [hb] at k130
            have he := found (L.take i) (L.drop (i + 1)) l (by rw [← (List.getElem?_eq_some_iff.1 hl).2]; simp) hno hb
            (repeat (refine stq ?_))
            refine AL_do2 rfl ⟨_, op_call1 rfl rfl rfl rfl (k130), ?_⟩
            (repeat (refine stq ?_))
            exact ⟨_, _, rfl, rfl, by rw [he]⟩
          | false =>
            rw [hb] at k130
            (repeat (refine stq ?_))
            refine AL_do2 rfl ⟨_, op_call1 rfl rfl rfl rfl (k130), ?_⟩
            (repeat (refine stq ?_))
            refine ⟨i + 1, ⟨hi', fun x hx => ?_⟩, by omega, ?_⟩
            · rw [List.take_add_one, List.mem_append] at hx
              rcases hx with hx | hx
              · exact hno x hx
              · rw [hl] at hx; simp at hx; rw [hx]; exact hb
            · (refine Le.mk ?_ ?_; all_goals (repeat' (first | exact trivial | refine sle ?_ | refine ⟨?_, rfl, ?_⟩ | refine ⟨?_, by decide, rfl, ?_⟩ | fail)))
        · have hi' : i = L.length := by omega
          subst hi'
          rw [List.take_length] at hno
          (repeat (refine stq ?_))
          refine ⟨m - 1, ⟨by omega, next hno⟩, by omega, ?_⟩
          (refine Le.mk ?_ ?_; all_goals (repeat' (first | exact trivial | refine sle ?_ | refine ⟨?_, rfl, ?_⟩ | refine ⟨?_, by decide, rfl, ?_⟩ | fail)))
          exact congrArg some (congrArg FV.pv (congrArg vi (by omega)))
    · have hm' : m = 0 := by omega
      subst hm'
      have he : longR W = [] := by
        unfold longR
        rw [find_orderA (K := 0) (A := []) (B := []) (l := []) (Nat.zero_le _) (fun j h1 h2 => hall j h1 h2) rfl (by simp) rfl]; rfl
      rw [he]
      (repeat (refine stq ?_))
      exact ⟨_, _, rfl, rfl, rfl⟩
theorem rgs_iff (l : List Int) : rgsGo 0 l = true ↔ ∀ i, i < l.length → l.getD i 0 ≤ runsI (l.take i) := by
  induction h : l.length generalizing l with
  | zero => rw [List.length_eq_zero_iff] at h; subst h; simp [rgsGo]
  | succ n ih =>
    obtain ⟨r, x, rfl⟩ : ∃ r x, l = r ++ [x] := ⟨l.dropLast, l.getLast (by intro e; rw [e] at h; cases h), (List.dropLast_concat_getLast _).symm⟩
    have hr : r.length = n := by simpa using h
    rw [rgs_append, Bool.and_eq_true, ih r hr, decide_eq_true_eq]
    constructor
    · rintro ⟨h1, h2⟩ i hi
      by_cases hin : i < n
      · have := h1 i (by omega)
        rw [List.getD_eq_getElem?_getD, List.getElem?_append_left (by omega), ← List.getD_eq_getElem?_getD, List.take_append_of_le_length (by omega)]
        exact this
      · have : i = r.length := by omega
        subst this
        have e1 : (r ++ [x]).getD r.length 0 = x := by simp
        have e2 : (r ++ [x]).take r.length = r := by simp
        rw [e1, e2]; exact h2
    · intro h1
      refine ⟨fun i hi => ?_, ?_⟩
      · have := h1 i (by omega)
        rw [List.getD_eq_getElem?_getD, List.getElem?_append_left (by omega), ← List.getD_eq_getElem?_getD, List.take_append_of_le_length (by omega)] at this
        exact this
      · have := h1 r.length (by omega)
        have e1 : (r ++ [x]).getD r.length 0 = x := by simp
        have e2 : (r ++ [x]).take r.length = r := by simp
        rw [e1, e2] at this; exact this
theorem runs_hit : ∀ (l : List Int), rgsGo 0 l = true → (∀ x ∈ l, 0 ≤ x) → ∀ r : Nat, (r : Int) < runsI l → (r : Int) ∈ l := by
  intro l
  induction h : l.length generalizing l with
  | zero => rw [List.length_eq_zero_iff] at h; subst h; intro _ _ r hr; simp [runsI] at hr; omega
  | succ n ih =>
    obtain ⟨q, x, rfl⟩ : ∃ r x, l = r ++ [x] := ⟨l.dropLast, l.getLast (by intro e; rw [e] at h; cases h), (List.dropLast_concat_getLast _).symm⟩
    have hq : q.length = n := by simpa using h
    intro hg h0 r hr
    rw [rgs_append, Bool.and_eq_true, decide_eq_true_eq] at hg
    rw [runs_append] at hr
    have hx : x ≤ runsI q := hg.2
    by_cases hr1 : (r : Int) < runsI q
    · exact List.mem_append.2 (.inl (ih q hq hg.1 (fun y hy => h0 y (by simp [hy])) r hr1))
    · have : (r : Int) = x := by omega
      rw [this]; simp
theorem sortsR_eq {W : List Span} {l : List Int} (h0 : ∀ x ∈ l, 0 ≤ x) : sortsR W l = sortsB W l := by
  rw [Bool.eq_iff_iff]
  unfold sortsR sortsB
  simp only [List.all_eq_true, List.mem_range, Bool.and_eq_true, sortsR1, decide_eq_true_eq]
  have hrun : ∀ r : Int, l.length ≠ 0 → openS (commonR W l r) = runB W l r := fun r hl => by
    have : comP l r = fun i : Nat => decide (l[i]? = some r) := by funext i; simp [comP, hl]
    unfold commonR runB
    rw [this]
  constructor
  · intro h
    refine ⟨(rgs_iff l).2 fun i hi => (h i hi).1, fun r hr => ?_⟩
    have hg := (rgs_iff l).2 fun i hi => (h i hi).1
    have hm := runs_hit l hg h0 r (by omega)
    obtain ⟨i, hi⟩ := List.mem_iff_getElem?.1 hm
    have hil := (List.getElem?_eq_some_iff.1 hi).1
    have := (h i hil).2
    rw [List.getD_eq_getElem?_getD, hi] at this
    rw [← hrun _ (by omega)]
    exact this
  · rintro ⟨h1, h2⟩ i hi
    refine ⟨(rgs_iff l).1 h1 i hi, ?_⟩
    obtain ⟨x, hx⟩ : ∃ x, l[i]? = some x := ⟨l[i], by simp [hi]⟩
    have gx : l.getD i 0 = x := by rw [List.getD_eq_getElem?_getD, hx]; rfl
    have hxm := List.mem_of_getElem? hx
    have := h0 x hxm
    have hlt := runs_lt hxm
    rw [gx, hrun _ (by omega)]
    have := h2 x.toNat (by omega)
    rwa [show ((x.toNat : Nat) : Int) = x by omega] at this
end Go.Abs
namespace Go.Abs
open Go.Proofs
set_option linter.unusedVariables false
set_option linter.unusedSimpArgs false
set_option maxRecDepth 100000
theorem find_congr {α : Type} {p q : α → Bool} : ∀ {L : List α}, (∀ x ∈ L, p x = q x) → L.find? p = L.find? q
  | [], _ => rfl
  | x :: L, h => by
    rw [List.find?_cons, List.find?_cons, h x (by simp), find_congr (L := L) fun y hy => h y (by simp [hy])]
theorem winR_bd {d : Drum} (hP : DrumP d) {s : Span} (hs : s ∈ winR d) {n : Int} (hn : inS s n) : 0 ≤ n ∧ n ≤ 12 := by
  obtain ⟨b, hb, rfl⟩ := List.mem_map.1 hs
  have h1 := win1_iff.1 (win1_same.1 hn)
  have h2 := thin_bd d b
  have := hP.h1
  omega
theorem two_open {d : Drum} (hP : DrumP d) {a b : Int} {s u : Span} (ha0 : 0 ≤ a) (hb0 : 0 ≤ b) (ha : (winR d)[a.toNat]? = some s) (hb : (winR d)[b.toNat]? = some u) :
    openS (common s u) = openS (meetL (pick (winP d) fun i => decide ((i : Int) = a) || decide ((i : Int) = b))) := by
  rw [← (win_open d _).1, Bool.eq_iff_iff, open_iff, open_iff]
  have hsm := List.mem_of_getElem? ha
  constructor
  · rintro ⟨n, h1, h2⟩
    simp only [common] at h1 h2
    have g1 : inS s n := ⟨by omega, by omega⟩
    have g2 : inS u n := ⟨by omega, by omega⟩
    refine ⟨n, pick_iff.2 ⟨winR_bd hP hsm g1, fun i w hi hp => ?_⟩⟩
    simp only [Bool.or_eq_true, decide_eq_true_eq] at hp
    rcases hp with hp | hp
    · rw [show a.toNat = i by omega, hi] at ha; cases ha; exact g1
    · rw [show b.toNat = i by omega, hi] at hb; cases hb; exact g2
  · rintro ⟨n, hn⟩
    obtain ⟨_, h2⟩ := pick_iff.1 hn
    have g1 := h2 a.toNat s ha (by simp; left; omega)
    have g2 := h2 b.toNat u hb (by simp; right; omega)
    exact ⟨n, by simp only [common]; exact Int.max_le.2 ⟨g1.1, g2.1⟩, by simp only [common]; exact Int.le_min.2 ⟨g1.2, g2.2⟩⟩
theorem apart_same {d : Drum} (hP : DrumP d) {l : List Int} (hl : ∀ x ∈ l, 0 ≤ x ∧ x < (d.batches.length : Int)) : apartR (winR d) l = apartB (winP d) l := by
  rw [Bool.eq_iff_iff]
  unfold apartB
  rw [pairs_iff]
  simp only [apartR, rowR, List.all_eq_true, List.mem_range]
  have key : ∀ (i k : Nat) (x y : Int), l[i]? = some x → l[k]? = some y → pairR (winR d) l i k = !openS (meetL (pick (winP d) fun j => decide ((j : Int) = x) || decide ((j : Int) = y))) := fun i k x y hx hy => by
    have hxb := hl x (List.mem_of_getElem? hx)
    have hyb := hl y (List.mem_of_getElem? hy)
    have gx : l.getD i 0 = x := by rw [List.getD_eq_getElem?_getD, hx]; rfl
    have gy : l.getD k 0 = y := by rw [List.getD_eq_getElem?_getD, hy]; rfl
    obtain ⟨s, hs⟩ : ∃ s, (winR d)[x.toNat]? = some s := ⟨(winR d)[x.toNat]'(by rw [winR_len]; omega), by simp⟩
    obtain ⟨u, hu⟩ : ∃ s, (winR d)[y.toNat]? = some s := ⟨(winR d)[y.toNat]'(by rw [winR_len]; omega), by simp⟩
    unfold pairR
    rw [gx, gy, List.getD_eq_getElem?_getD, hs, List.getD_eq_getElem?_getD, hu]
    show (!openS (common s u)) = _
    rw [two_open hP hxb.1 hyb.1 hs hu]
  constructor
  · intro h i j x y hij hx hy
    have := h j (List.getElem?_eq_some_iff.1 hy).1 i hij
    rw [key j i y x hy hx] at this
    exact this
  · intro h i hi k hk
    obtain ⟨x, hx⟩ : ∃ x, l[i]? = some x := ⟨l[i], by simp [hi]⟩
    obtain ⟨y, hy⟩ : ∃ x, l[k]? = some x := ⟨l[k]'(by omega), by simp⟩
    rw [key i k x y hx hy]
    exact h k i y x hk hy hx
theorem long_same {d : Drum} (hP : DrumP d) : longR (winR d) = longestI (winP d) := by
  unfold longR longestI
  rw [winR_len, winP_len, find_congr fun l hl => ?_]
  exact apart_same hP fun x hx => (orderN_mem.1 (orderA_mem.1 hl)).2.2 x hx
theorem sortsB_same (d : Drum) (l : List Int) : sortsB (winR d) l = sortsB (winP d) l := by
  unfold sortsB
  congr 2
  funext r
  exact (win_open d _).1
theorem sort_same {d : Drum} (hP : DrumP d) : sortR (winR d) = sortI (winP d) := by
  unfold sortR sortI
  rw [winR_len, winP_len, ← bfs_level]
  congr 2
  refine List.filter_congr fun l hl => ?_
  rw [sortsR_eq fun x hx => (((bfs_bd hP.b1).2 l hl).2 x hx).1]
  exact sortsB_same d l
theorem shl_bits : ((List.range 5).all fun i => (List.range 5).all fun j => bitI (shlR .i64 1 (i : Int)) j == decide (j = i)) = true := by decide +kernel
theorem shl_bit {i j : Nat} (hi : i < 5) (hj : j < 5) : bitI (shlR .i64 1 i) j = decide (j = i) := by
  have := List.all_eq_true.1 (List.all_eq_true.1 shl_bits i (List.mem_range.2 hi)) j (List.mem_range.2 hj)
  simpa using this
theorem whole_same {d : Drum} (hP : DrumP d) : (winR d).all openS = eachB (winP d) := by
  have hb1 := hP.b1
  rw [Bool.eq_iff_iff]
  unfold eachB
  simp only [List.all_eq_true, List.mem_range]
  have key : ∀ (i : Nat) (s : Span), (winR d)[i]? = some s → openS (ofB (winP d) (shlR .i64 1 i)) = openS s := fun i s hs => by
    have hil := (List.getElem?_eq_some_iff.1 hs).1
    rw [winR_len] at hil
    unfold ofB
    rw [← (win_open d _).1, Bool.eq_iff_iff, open_iff, open_iff]
    constructor
    · rintro ⟨n, hn⟩
      exact ⟨n, (pick_iff.1 hn).2 i s hs (by rw [shl_bit (by omega) (by omega)]; simp)⟩
    · rintro ⟨n, hn⟩
      refine ⟨n, pick_iff.2 ⟨winR_bd hP (List.mem_of_getElem? hs) hn, fun j u hj hp => ?_⟩⟩
      have hjl := (List.getElem?_eq_some_iff.1 hj).1
      rw [winR_len] at hjl
      rw [shl_bit (by omega) (by omega)] at hp
      have := of_decide_eq_true hp
      subst this
      rw [hs] at hj; cases hj; exact hn
  constructor
  · intro h i hi
    rw [winP_len] at hi
    obtain ⟨s, hs⟩ : ∃ s, (winR d)[i]? = some s := ⟨(winR d)[i]'(by rw [winR_len]; exact hi), by simp⟩
    rw [key i s hs]; exact h s (List.mem_of_getElem? hs)
  · intro h s hs
    obtain ⟨i, hi⟩ := List.mem_iff_getElem?.1 hs
    have hil := (List.getElem?_eq_some_iff.1 hi).1
    rw [winR_len] at hil
    rw [← key i s hi]; exact h i (by rw [winP_len]; exact hil)
theorem sort_some {d : Drum} (hP : DrumP d) (he : eachB (winP d) = true) : (bfsI (winR d).length).filter (sortsR (winR d)) ≠ [] := by
  rw [← whole_same hP] at he
  have hst : stabs (winR d) ((winR d).map fun s => s.low) := by
    refine ⟨fun p hp => ?_, fun s hs => ?_⟩
    · obtain ⟨s, hs, rfl⟩ := List.mem_map.1 hp
      have := List.all_eq_true.1 he s hs
      simp only [openS, decide_eq_true_eq] at this
      exact winR_bd hP hs ⟨Int.le_refl _, this⟩
    · have := List.all_eq_true.1 he s hs
      simp only [openS, decide_eq_true_eq] at this
      exact ⟨s.low, List.mem_map.2 ⟨s, hs, rfl⟩, Int.le_refl _, this⟩
  obtain ⟨l, hl, hsl, _⟩ := stab_sorts hst
  rw [← bfs_level] at hl
  have h5 : (winR d).length ≤ 5 := by rw [winR_len]; exact hP.b1
  intro e
  have : l ∈ (bfsI (winR d).length).filter (sortsR (winR d)) := List.mem_filter.2 ⟨hl, by rw [sortsR_eq fun x hx => (((bfs_bd h5).2 l hl).2 x hx).1]; exact hsl⟩
  rw [e] at this; cases this
theorem f50 (d : Drum) (hd : drumOK d) : ACalls Tryz.prog 50 [eDrum d] (fun r => r = .pv (vi (if errE d true = 0 then (if eachB (winP d) then 0 else 5) else errE d true))) := by
  have k27 := f27 d true hd
  by_cases he : errE d true = 0
  · obtain ⟨hP, _, hne, _⟩ := asked_ok he
    have k49 := f49 d hP
    have k128 := f128 (winR d) (by rw [winR_len]; have := hP.b1; omega)
    rw [whole_same hP] at k128
    rw [he] at k27
    rw [if_pos he]
    generalize winR d = W at *
    cases q : eachB (winP d) with
    | true =>
      rw [q] at k128
      refine ACalls.of_body hT Tryz.func50 rfl (by kernel_rfl) rfl ?_
      (repeat (refine stq ?_))
      refine AL_do2 rfl ⟨_, op_call1 rfl rfl rfl rfl (k27), ?_⟩
      (repeat (refine stq ?_))
      refine AL_do2 rfl ⟨_, op_call1 rfl rfl rfl rfl (k49), ?_⟩
      (repeat (refine stq ?_))
      refine AL_do2 rfl ⟨_, op_call1 rfl rfl rfl rfl (k128), ?_⟩
      (repeat (refine stq ?_))
      exact ⟨_, _, rfl, rfl, rfl⟩
    | false =>
      rw [q] at k128
      refine ACalls.of_body hT Tryz.func50 rfl (by kernel_rfl) rfl ?_
      (repeat (refine stq ?_))
      refine AL_do2 rfl ⟨_, op_call1 rfl rfl rfl rfl (k27), ?_⟩
      (repeat (refine stq ?_))
      refine AL_do2 rfl ⟨_, op_call1 rfl rfl rfl rfl (k49), ?_⟩
      (repeat (refine stq ?_))
      refine AL_do2 rfl ⟨_, op_call1 rfl rfl rfl rfl (k128), ?_⟩
      (repeat (refine stq ?_))
      exact ⟨_, _, rfl, rfl, rfl⟩
  · rw [if_neg he]
    generalize errE d true = e at *
    refine ACalls.of_body hT Tryz.func50 rfl (by kernel_rfl) rfl ?_
    (repeat' (first | refine stq ?_ | (refine AL_do2 rfl ?_; first | refine ⟨_, op_call1 rfl rfl rfl rfl (k27), nrmA rfl ?_⟩) | ((first | (with_reducible refine AL_id ?_); (fail_if_success (refine AL_glit rfl rfl rfl (by first | exact .inl (by with_reducible rfl) | exact .inr (by with_reducible rfl)) ?_)); first | refine AL_gdec rfl rfl rfl (fun hg => ?_) (fun hg => ?_) | refine AL_gnot rfl rfl rfl (fun hg => ?_) (fun hg => ?_) | refine AL_gcases rfl rfl rfl (fun hg => ?_) (fun hg => ?_)) <;> (try (exfalso; omega))) | refine AW_if rfl (fun hc => absurd hc (by omega)) (fun _ => ?_) | refine AW_if rfl (fun _ => ?_) (fun hc => absurd (by omega) hc)))
    all_goals first | exact ⟨_, _, rfl, rfl, rfl⟩ | (exfalso; omega)
end Go.Abs
namespace Go.Abs
open Go.Proofs
set_option linter.unusedVariables false
set_option linter.unusedSimpArgs false
set_option maxRecDepth 100000
theorem sortI_in {d : Drum} (hP : DrumP d) : (sortI (winP d)).length ≤ 5 ∧ ∀ x ∈ sortI (winP d), 0 ≤ x ∧ x < 5 := by
  unfold sortI
  cases h : bestL fewB ((levelI (winP d).length []).filter (sortsB (winP d))) with
  | none => simp
  | some l =>
    have hm : l ∈ bfsI (winP d).length := by
      rw [bfs_level]
      exact (List.mem_filter.1 (best_in _ l h)).1
    have hb1 := hP.b1
    rw [winP_len] at hm
    obtain ⟨_, b2⟩ := bfs_bd hb1
    obtain ⟨c1, c2⟩ := b2 l hm
    exact ⟨by show l.length ≤ 5; omega, fun x hx => by have := c2 x hx; omega⟩
theorem long_len (W : List Span) : (longestI W).length ≤ W.length := by
  unfold longestI
  cases h : (orderA W.length).find? (apartB W) with
  | none => simp
  | some l => exact (orderN_mem.1 (orderA_mem.1 (List.mem_of_find?_eq_some h))).1
set_option maxHeartbeats 16000000 in
theorem f9 (d : Drum) (l : List Int) : ACalls Tryz.prog 9 [eDrum d, eInts l] (fun r => r = .pv (.bool true)) := by
  have k23 := f23' d
  cases hs : shortB d with
  | false =>
    rw [hs] at k23
    refine ACalls.of_body hT Tryz.func9 rfl (by kernel_rfl) rfl ?_
    (repeat' (first | refine stq ?_ | (refine AL_do2 rfl ?_; first | refine ⟨_, op_call1 rfl rfl rfl rfl (k23), nrmA rfl ?_⟩ | refine ⟨_, op_call1 rfl rfl rfl rfl (f24), nrmA rfl ?_⟩) | (with_reducible refine AL_id ?_); (fail_if_success (refine AL_glit rfl rfl rfl (by first | exact .inl (by with_reducible rfl) | exact .inr (by with_reducible rfl)) ?_)); first | refine AL_gdec rfl rfl rfl (fun hg => ?_) (fun hg => ?_) | refine AL_gnot rfl rfl rfl (fun hg => ?_) (fun hg => ?_) | refine AL_gcases rfl rfl rfl (fun hg => ?_) (fun hg => ?_)))
    all_goals (try (exfalso; simp at hg; done))
    exact ⟨_, _, rfl, rfl, rfl⟩
  | true =>
    rw [hs] at k23
    have hd := short_ok hs
    by_cases hl : l.length ≤ 7
    · have hb : d.batches.length ≤ 1000 := hd.2.2.2
      have k47 := f47 d l (by omega) hb
      rw [num_fine] at k47
      have k27 := f27 d (fineS d l) hd
      have k49 := fun hP => f49 d hP
      have SECOND : (∃ e : Int, e ≠ 0 ∧ ACalls Tryz.prog 45 [eDrum d] (fun r => r = .tup [eInts [], vi 0, vi e]) ∧ ACalls Tryz.prog 46 [eDrum d] (fun r => r = .tup [eInts [], vi e]) ∧ ACalls Tryz.prog 50 [eDrum d] (fun r => r = .pv (vi e))) ∨
          (DrumP d ∧ ∃ (W : List Span) (S A : List Int), ACalls Tryz.prog 45 [eDrum d] (fun r => r = .tup [eInts S, vi (runsI S), vi 0]) ∧ ACalls Tryz.prog 46 [eDrum d] (fun r => r = .tup [eInts A, vi 0]) ∧ ACalls Tryz.prog 50 [eDrum d] (fun r => r = .pv (vi 0)) ∧ ACalls Tryz.prog 49 [eDrum d] (fun r => r = .pv (eSpans W)) ∧ W = winR d ∧
            ACalls Tryz.prog 51 [eSpans W] (fun r => r = .pv (eInts S)) ∧ ACalls Tryz.prog 53 [eInts S] (fun r => r = .pv (vi (runsI S))) ∧ ACalls Tryz.prog 54 [eSpans W] (fun r => r = .pv (eInts A)) ∧ ACalls Tryz.prog 52 [eInts S, eInts S] (fun r => r = .pv (.bool true)) ∧ ACalls Tryz.prog 52 [eInts A, eInts A] (fun r => r = .pv (.bool true))) := by
        have k45 := f45 d hd
        have k46 := f46 d hd
        have k50 := f50 d hd
        rw [sortRE] at k45
        rw [apartE] at k46
        by_cases he : errE d true = 0
        · obtain ⟨hP, _, hne, _⟩ := asked_ok he
          rw [if_pos he] at k45 k46 k50
          cases hw : eachB (winP d) with
          | false =>
            rw [hw] at k45 k46 k50
            exact .inl ⟨5, by decide, k45, k46, k50⟩
          | true =>
            rw [if_pos hw] at k45 k46 k50
            have hb0 := hP.b0
            have hb1 := hP.b1
            have k51 := f51 (winR d) (by rw [winR_len]; exact hb0) (by rw [winR_len]; exact hb1) (sort_some hP hw)
            rw [sort_same hP] at k51
            have k54 := f54 (winR d) (by rw [winR_len]; exact hb1)
            rw [long_same hP] at k54
            obtain ⟨s1, s2⟩ := sortI_in hP
            have a1 := long_len (winP d)
            rw [winP_len] at a1
            exact .inr ⟨hP, _, sortI (winP d), longestI (winP d), k45, k46, k50, f49 d hP, rfl, k51, f53 (sortI (winP d)) (by omega) (fun x hx => by have := s2 x hx; omega), k54, ints_same (sortI (winP d)) (by omega), ints_same (longestI (winP d)) (by omega)⟩
        · rw [if_neg he] at k45 k46 k50
          exact .inl ⟨_, he, k45, k46, k50⟩
      by_cases he : errE d (fineS d l) = 0
      · obtain ⟨hP, hfine, hne, _⟩ := asked_ok he
        have k44 := f44 d l hd (by omega) hb
        rw [sortsE, if_pos he] at k44
        rw [he] at k27
        rw [← num_fine, numB, Bool.and_eq_true, decide_eq_true_eq, List.all_eq_true] at hfine
        obtain ⟨n1, n2⟩ := hfine
        have hb1 := hP.b1
        have n3 : ∀ x ∈ l, 0 ≤ x ∧ x < 5 := fun x hx => by
          have := n1 x hx
          simp only [inB, Bool.and_eq_true, decide_eq_true_eq] at this
          omega
        have k48 := f48 (winR d) l (by rw [winR_len]; omega) (by omega) (.inr (by rw [winR_len]; omega)) (fun x hx => by have := n3 x hx; omega)
        have hsame : sortsR (winR d) l = sortsP (winP d) l := by
          rw [sortsP_eq (by rw [winP_len]; omega) hl (fun x hx => (n3 x hx).1), sortsR_eq fun x hx => (n3 x hx).1, sortsB_same]
        rw [hsame] at k48
        have k49' := f49 d hP
        have hfn : fineS d l = true := by rw [← num_fine, numB, Bool.and_eq_true, decide_eq_true_eq, List.all_eq_true]; exact ⟨n1, n2⟩
        rw [hfn] at k47 k27
        generalize sortsP (winP d) l = v at *
        rcases SECOND with ⟨e, he0, k45, k46, k50⟩ | ⟨_, W, S, A, k45, k46, k50, k49w, rfl, k51, k53, k54, k52, k52a⟩
        all_goals cases v
        all_goals
          refine ACalls.of_body hT Tryz.func9 rfl (by kernel_rfl) rfl ?_
          (repeat' (first | refine stq ?_ | (refine AL_do2 rfl ?_; first | refine ⟨_, op_call1 rfl rfl rfl rfl (k23), nrmA rfl ?_⟩ | refine ⟨_, op_call1 rfl rfl rfl rfl (k44), nrmA rfl ?_⟩) | ((first | (with_reducible refine AL_id ?_); (fail_if_success (refine AL_glit rfl rfl rfl (by first | exact .inl (by with_reducible rfl) | exact .inr (by with_reducible rfl)) ?_)); first | refine AL_gdec rfl rfl rfl (fun hg => ?_) (fun hg => ?_) | refine AL_gnot rfl rfl rfl (fun hg => ?_) (fun hg => ?_) | refine AL_gcases rfl rfl rfl (fun hg => ?_) (fun hg => ?_)) <;> (try (exfalso; omega))) | refine AW_if rfl (fun hc => absurd hc (by omega)) (fun _ => ?_) | refine AW_if rfl (fun _ => ?_) (fun hc => absurd (by omega) hc)))
          all_goals (try (exfalso; omega))
          refine AL_do2 rfl ⟨_, op_call1 rfl rfl rfl rfl (k45), ?_⟩
          (repeat (refine stq ?_))
          refine AL_do2 rfl ⟨_, op_call1 rfl rfl rfl rfl (k46), ?_⟩
          (repeat (refine stq ?_))
          (repeat (first | refine sdq ?_ | refine DG_next (D_call rfl rfl rfl rfl rfl (k47)) ?_ | refine DG_next (D_call rfl rfl rfl rfl rfl (k27)) ?_))
          refine DG_end hM (by kernel_rfl) ?_
          (repeat' (first | refine AL_skip rfl rfl ?_ | refine stq ?_ | (refine AL_do2 rfl ?_; first | refine ⟨_, op_call1 rfl rfl rfl rfl (k49'), nrmA rfl ?_⟩ | refine ⟨_, op_call1 rfl rfl rfl rfl (k48), nrmA rfl ?_⟩ | refine ⟨_, op_call1 rfl rfl rfl rfl (k50), nrmA rfl ?_⟩ | refine ⟨_, op_call1 rfl rfl rfl rfl (f24), nrmA rfl ?_⟩ | refine ⟨_, op_call1 rfl rfl rfl rfl (k51), nrmA rfl ?_⟩ | refine ⟨_, op_call1 rfl rfl rfl rfl (k52), nrmA rfl ?_⟩ | refine ⟨_, op_call1 rfl rfl rfl rfl (k52a), nrmA rfl ?_⟩ | refine ⟨_, op_call1 rfl rfl rfl rfl (k53), nrmA rfl ?_⟩ | refine ⟨_, op_call1 rfl rfl rfl rfl (k54), nrmA rfl ?_⟩ | refine ⟨_, op_neqB hT rfl rfl rfl rfl rfl rfl, ?_⟩) | ((first | (with_reducible refine AL_id ?_); (fail_if_success (refine AL_glit rfl rfl rfl (by first | exact .inl (by with_reducible rfl) | exact .inr (by with_reducible rfl)) ?_)); first | refine AL_gdec rfl rfl rfl (fun hg => ?_) (fun hg => ?_) | refine AL_gnot rfl rfl rfl (fun hg => ?_) (fun hg => ?_) | refine AL_gcases rfl rfl rfl (fun hg => ?_) (fun hg => ?_)) <;> (try (exfalso; omega))) | refine AW_if rfl (fun hc => absurd hc (by omega)) (fun _ => ?_) | refine AW_if rfl (fun _ => ?_) (fun hc => absurd (by omega) hc)))
          all_goals first | exact ⟨_, _, rfl, rfl, rfl⟩ | (exfalso; omega)
      · have k44 := f44 d l hd (by omega) hb
        rw [sortsE, if_neg he] at k44
        generalize errE d (fineS d l) = e1 at *
        generalize fineS d l = v at *
        refine ACalls.of_body hT Tryz.func9 rfl (by kernel_rfl) rfl ?_
        (repeat' (first | refine stq ?_ | (refine AL_do2 rfl ?_; first | refine ⟨_, op_call1 rfl rfl rfl rfl (k23), nrmA rfl ?_⟩ | refine ⟨_, op_call1 rfl rfl rfl rfl (k44), nrmA rfl ?_⟩) | ((first | (with_reducible refine AL_id ?_); (fail_if_success (refine AL_glit rfl rfl rfl (by first | exact .inl (by with_reducible rfl) | exact .inr (by with_reducible rfl)) ?_)); first | refine AL_gdec rfl rfl rfl (fun hg => ?_) (fun hg => ?_) | refine AL_gnot rfl rfl rfl (fun hg => ?_) (fun hg => ?_) | refine AL_gcases rfl rfl rfl (fun hg => ?_) (fun hg => ?_)) <;> (try (exfalso; omega))) | refine AW_if rfl (fun hc => absurd hc (by omega)) (fun _ => ?_) | refine AW_if rfl (fun _ => ?_) (fun hc => absurd (by omega) hc)))
        all_goals (try (exfalso; omega))
        rcases SECOND with ⟨e, he0, k45, k46, k50⟩ | ⟨_, W, S, A, k45, k46, k50, k49w, rfl, k51, k53, k54, k52, k52a⟩
        · refine AL_do2 rfl ⟨_, op_call1 rfl rfl rfl rfl (k45), ?_⟩
          (repeat (refine stq ?_))
          refine AL_do2 rfl ⟨_, op_call1 rfl rfl rfl rfl (k46), ?_⟩
          (repeat (refine stq ?_))
          (repeat (first | refine sdq ?_ | refine DG_next (D_call rfl rfl rfl rfl rfl (k47)) ?_ | refine DG_next (D_call rfl rfl rfl rfl rfl (k27)) ?_))
          refine DG_end hM (by kernel_rfl) ?_
          (repeat' (first | refine AL_skip rfl rfl ?_ | refine stq ?_ | (refine AL_do2 rfl ?_; first | refine ⟨_, op_call1 rfl rfl rfl rfl (k50), nrmA rfl ?_⟩ | refine ⟨_, op_call1 rfl rfl rfl rfl (f24), nrmA rfl ?_⟩) | ((first | (with_reducible refine AL_id ?_); (fail_if_success (refine AL_glit rfl rfl rfl (by first | exact .inl (by with_reducible rfl) | exact .inr (by with_reducible rfl)) ?_)); first | refine AL_gdec rfl rfl rfl (fun hg => ?_) (fun hg => ?_) | refine AL_gnot rfl rfl rfl (fun hg => ?_) (fun hg => ?_) | refine AL_gcases rfl rfl rfl (fun hg => ?_) (fun hg => ?_)) <;> (try (exfalso; omega))) | refine AW_if rfl (fun hc => absurd hc (by omega)) (fun _ => ?_) | refine AW_if rfl (fun _ => ?_) (fun hc => absurd (by omega) hc)))
          all_goals first | exact ⟨_, _, rfl, rfl, rfl⟩ | (exfalso; omega)
        · refine AL_do2 rfl ⟨_, op_call1 rfl rfl rfl rfl (k45), ?_⟩
          (repeat (refine stq ?_))
          refine AL_do2 rfl ⟨_, op_call1 rfl rfl rfl rfl (k46), ?_⟩
          (repeat (refine stq ?_))
          (repeat (first | refine sdq ?_ | refine DG_next (D_call rfl rfl rfl rfl rfl (k47)) ?_ | refine DG_next (D_call rfl rfl rfl rfl rfl (k27)) ?_))
          refine DG_end hM (by kernel_rfl) ?_
          (repeat' (first | refine AL_skip rfl rfl ?_ | refine stq ?_ | (refine AL_do2 rfl ?_; first | refine ⟨_, op_call1 rfl rfl rfl rfl (k49w), nrmA rfl ?_⟩ | refine ⟨_, op_call1 rfl rfl rfl rfl (k50), nrmA rfl ?_⟩ | refine ⟨_, op_call1 rfl rfl rfl rfl (f24), nrmA rfl ?_⟩ | refine ⟨_, op_call1 rfl rfl rfl rfl (k51), nrmA rfl ?_⟩ | refine ⟨_, op_call1 rfl rfl rfl rfl (k52), nrmA rfl ?_⟩ | refine ⟨_, op_call1 rfl rfl rfl rfl (k52a), nrmA rfl ?_⟩ | refine ⟨_, op_call1 rfl rfl rfl rfl (k53), nrmA rfl ?_⟩ | refine ⟨_, op_call1 rfl rfl rfl rfl (k54), nrmA rfl ?_⟩) | ((first | (with_reducible refine AL_id ?_); (fail_if_success (refine AL_glit rfl rfl rfl (by first | exact .inl (by with_reducible rfl) | exact .inr (by with_reducible rfl)) ?_)); first | refine AL_gdec rfl rfl rfl (fun hg => ?_) (fun hg => ?_) | refine AL_gnot rfl rfl rfl (fun hg => ?_) (fun hg => ?_) | refine AL_gcases rfl rfl rfl (fun hg => ?_) (fun hg => ?_)) <;> (try (exfalso; omega))) | refine AW_if rfl (fun hc => absurd hc (by omega)) (fun _ => ?_) | refine AW_if rfl (fun _ => ?_) (fun hc => absurd (by omega) hc)))
          all_goals first | exact ⟨_, _, rfl, rfl, rfl⟩ | (exfalso; omega)
    · refine ACalls.of_body hT Tryz.func9 rfl (by kernel_rfl) rfl ?_
      (repeat' (first | refine stq ?_ | (refine AL_do2 rfl ?_; first | refine ⟨_, op_call1 rfl rfl rfl rfl (k23), nrmA rfl ?_⟩ | refine ⟨_, op_call1 rfl rfl rfl rfl (f24), nrmA rfl ?_⟩) | ((first | (with_reducible refine AL_id ?_); (fail_if_success (refine AL_glit rfl rfl rfl (by first | exact .inl (by with_reducible rfl) | exact .inr (by with_reducible rfl)) ?_)); first | refine AL_gdec rfl rfl rfl (fun hg => ?_) (fun hg => ?_) | refine AL_gnot rfl rfl rfl (fun hg => ?_) (fun hg => ?_) | refine AL_gcases rfl rfl rfl (fun hg => ?_) (fun hg => ?_)) <;> (try (exfalso; omega))) | refine AW_if rfl (fun hc => absurd hc (by omega)) (fun _ => ?_) | refine AW_if rfl (fun _ => ?_) (fun hc => absurd (by omega) hc)))
      all_goals first | exact ⟨_, _, rfl, rfl, rfl⟩ | (exfalso; omega)
end Go.Abs
