/- Windows, what they have in common, and lists of batches, as the reference has them. -/
import Derived.Test.YtmplfjolcdlipaaGreatDoorLaQ10
import Derived.Test.YtmplfjolcdlipaaGreatDoorDrH
import Derived.Test.YtmplfjolcdlipaaGreatDoorXQ10
import Derived.Test.YtmplfjolcdlipaaGreatDoorDrI
import Derived.Test.YtmplfjolcdlipaaGreatDoorLcQ10
set_option linter.unusedVariables false
set_option linter.unusedSimpArgs false
namespace Go.Abs
open Go.Proofs
set_option linter.unusedVariables false
set_option linter.unusedSimpArgs false
set_option maxRecDepth 100000
set_option maxHeartbeats 4000000 in
theorem f49 (d : Drum) (hP : DrumP d) : ACalls Tryz.prog 49 [eDrum d] (fun r => r = .pv (eSpans (winR d))) := by
  have hbl := hP.b1
  refine ACalls.of_body hT Tryz.func49 rfl (by kernel_rfl) rfl ?_
  (repeat (refine stq ?_))
  refine AW_own_nil (e := 67) (sz := 2) (t := 3) rfl rfl ?_
  (repeat (refine stq ?_))
  refine AW_loopC (fun k : Nat => k ≤ d.batches.length) (fun k => mkSt [(1, .box 0 0), (3, .arr 1), (4, .pv (vi k))] [(0, .box ((eDrumC d).map FV.pv)), (1, .arr 67 2 (((d.batches.take k).map (winR1 d)).map eSpan))] 2) (fun k => d.batches.length - k) 0 (Nat.zero_le _) ?_ ?_
  · (refine Le.mk ?_ ?_; all_goals (repeat' (first | exact trivial | refine sle ?_ | refine ⟨?_, rfl, ?_⟩ | refine ⟨?_, by decide, rfl, ?_⟩ | fail)))
  · intro k hk
    (repeat (refine stq ?_))
    refine AW_if rfl (fun hc => ?_) (fun hc => ?_)
    · have hk' : k < d.batches.length := by omega
      obtain ⟨b, hb⟩ : ∃ b, d.batches[k]? = some b := ⟨d.batches[k], by simp [hk']⟩
      have k33 := f33 d hP k b hb
      have k34 := f34 d hP k b hb
      have hsn : (d.batches.take (k + 1)).map (winR1 d) = (d.batches.take k).map (winR1 d) ++ [winR1 d b] := map_take_succ _ hb
      have htl : ((d.batches.take k).map (winR1 d)).length ≤ 1000 := by simp; omega
      have hw : winR1 d b = if smoothI d b < 0 ∨ thinI d b < 0 ∨ smoothI d b > thinI d b then ⟨1, 0⟩ else ⟨smoothI d b, thinI d b⟩ := rfl
      generalize ((d.batches.take k).map (winR1 d)) = ts at *
      generalize winR1 d b = B at *
      generalize smoothI d b = x at *
      generalize thinI d b = y at *
      by_cases hq : x < 0 ∨ y < 0 ∨ x > y
      · rw [if_pos hq] at hw
        subst hw
        (repeat (refine stq ?_))
        (repeat (first | refine sdq ?_ | refine DG_next (D_call rfl rfl rfl rfl rfl (k33)) ?_ | refine DG_next (D_call rfl rfl rfl rfl rfl (k34)) ?_))
        refine DG_end hM (by kernel_rfl) ?_
        (repeat' (first | refine stq ?_ | ((first | (with_reducible refine AL_id ?_); (fail_if_success (refine AL_glit rfl rfl rfl (by first | exact .inl (by with_reducible rfl) | exact .inr (by with_reducible rfl)) ?_)); first | refine AL_gdec rfl rfl rfl (fun hg => ?_) (fun hg => ?_) | refine AL_gnot rfl rfl rfl (fun hg => ?_) (fun hg => ?_) | refine AL_gcases rfl rfl rfl (fun hg => ?_) (fun hg => ?_)) <;> (try (exfalso; omega))) | refine AW_if rfl (fun hc => absurd hc (by omega)) (fun _ => ?_) | refine AW_if rfl (fun _ => ?_) (fun hc => absurd (by omega) hc)))
        all_goals (try (exfalso; omega))
        all_goals
          refine ⟨k + 1, hk', by omega, ?_⟩
          rw [hsn]
          (refine Le.mkR [(0, 0), (1, 3)] ?_ ?_ rfl; all_goals (repeat' (first | exact trivial | refine sle ?_ | refine ⟨?_, rfl, ?_⟩ | refine ⟨?_, by decide, rfl, ?_⟩ | fail)))
          rw [List.map_append]; rfl
      · rw [if_neg hq] at hw
        subst hw
        (repeat (refine stq ?_))
        (repeat (first | refine sdq ?_ | refine DG_next (D_call rfl rfl rfl rfl rfl (k33)) ?_ | refine DG_next (D_call rfl rfl rfl rfl rfl (k34)) ?_))
        refine DG_end hM (by kernel_rfl) ?_
        (repeat' (first | refine stq ?_ | ((first | (with_reducible refine AL_id ?_); (fail_if_success (refine AL_glit rfl rfl rfl (by first | exact .inl (by with_reducible rfl) | exact .inr (by with_reducible rfl)) ?_)); first | refine AL_gdec rfl rfl rfl (fun hg => ?_) (fun hg => ?_) | refine AL_gnot rfl rfl rfl (fun hg => ?_) (fun hg => ?_) | refine AL_gcases rfl rfl rfl (fun hg => ?_) (fun hg => ?_)) <;> (try (exfalso; omega))) | refine AW_if rfl (fun hc => absurd hc (by omega)) (fun _ => ?_) | refine AW_if rfl (fun _ => ?_) (fun hc => absurd (by omega) hc)))
        all_goals (try (exfalso; omega))
        all_goals
          refine ⟨k + 1, hk', by omega, ?_⟩
          rw [hsn]
          (refine Le.mkR [(0, 0), (1, 3)] ?_ ?_ rfl; all_goals (repeat' (first | exact trivial | refine sle ?_ | refine ⟨?_, rfl, ?_⟩ | refine ⟨?_, by decide, rfl, ?_⟩ | fail)))
          rw [List.map_append]; rfl
    · have hk' : k = d.batches.length := by omega
      subst hk'
      rw [List.take_length]
      refine AW_pure (t := 3) rfl rfl ?_
      (repeat (refine stq ?_))
      exact ⟨_, _, rfl, rfl, rfl⟩
def comP (R : List Int) (run : Int) (i : Nat) : Bool := decide (R.length = 0) || decide (R[i]? = some run)
def commonR (l : List Span) (R : List Int) (run : Int) : Span := meetL (pick l (comP R run))
set_option maxHeartbeats 4000000 in
theorem f57 (l : List Span) (R : List Int) (run : Int) (hl : l.length ≤ 1000) (hR : R.length ≤ 1000) (h : R.length = 0 ∨ l.length ≤ R.length) : ACalls Tryz.prog 57 [eSpans l, eInts R, vi run] (fun r => r = .pv (eS (commonR l R run))) := by
  refine ACalls.of_body hT Tryz.func57 rfl (by kernel_rfl) rfl ?_
  (repeat (refine stq ?_))
  refine AW_loopC (fun k : Nat => k ≤ l.length) (fun k => mkSt [(0, .pv (eSpans l)), (1, .pv (eInts R)), (2, .pv (vi run)), (6, .box 0 0), (7, .box 1 0), (8, .pv (vi k))]
    [(0, .box [.pv (vi 0), .pv (vi 0)]), (1, .box [.pv (vi (meetL (pick (l.take k) (comP R run))).low), .pv (vi (meetL (pick (l.take k) (comP R run))).high)])] 2) (fun k => l.length - k) 0 (Nat.zero_le _) ?_ ?_
  · (refine Le.mk ?_ ?_; all_goals (repeat' (first | exact trivial | refine sle ?_ | refine ⟨?_, rfl, ?_⟩ | refine ⟨?_, by decide, rfl, ?_⟩ | fail)))
  · intro k hk
    (repeat (refine stq ?_))
    refine AW_if rfl (fun hc => ?_) (fun hc => ?_)
    · have hk' : k < l.length := by omega
      obtain ⟨x, hx⟩ : ∃ x, l[k]? = some x := ⟨l[k], by simp [hk']⟩
      have e1 := get_map eSpan hx
      have hs := meet_succ (comP R run) hx
      have hu : ∀ u : Span, vi u.low = vi u.low := fun _ => rfl
      generalize hum : meetL (pick (l.take k) (comP R run)) = u at *
      have k132 := f132 u x
      by_cases h0 : R.length = 0
      · have hp : comP R run k = true := by simp [comP, h0]
        rw [hp, if_pos rfl] at hs
        (repeat' (first | refine stq ?_ | ((first | (with_reducible refine AL_id ?_); (fail_if_success (refine AL_glit rfl rfl rfl (by first | exact .inl (by with_reducible rfl) | exact .inr (by with_reducible rfl)) ?_)); first | refine AL_gdec rfl rfl rfl (fun hg => ?_) (fun hg => ?_) | refine AL_gnot rfl rfl rfl (fun hg => ?_) (fun hg => ?_) | refine AL_gcases rfl rfl rfl (fun hg => ?_) (fun hg => ?_)) <;> (try (exfalso; omega))) | refine AW_if rfl (fun hc => absurd hc (by omega)) (fun _ => ?_) | refine AW_if rfl (fun _ => ?_) (fun hc => absurd (by omega) hc)))
        all_goals (try (exfalso; omega))
        (repeat (first | refine sdq ?_ | refine DG_next (D_call rfl rfl rfl rfl rfl (k132)) ?_))
        refine DG_end hM (by kernel_rfl) ?_
        (repeat (refine stq ?_))
        refine ⟨k + 1, hk', by omega, ?_⟩
        rw [hs]
        (refine Le.mk ?_ ?_; all_goals (repeat' (first | exact trivial | refine sle ?_ | refine ⟨?_, rfl, ?_⟩ | refine ⟨?_, by decide, rfl, ?_⟩ | fail)))
      · obtain ⟨y, hy⟩ : ∃ y, R[k]? = some y := ⟨R[k]'(by omega), by simp⟩
        have e2 := get_map eInt hy
        have hp : comP R run k = decide (y = run) := by simp [comP, h0, hy]
        by_cases hyr : y = run
        · rw [hp, decide_eq_true hyr, if_pos rfl] at hs
          (repeat' (first | refine stq ?_ | ((first | (with_reducible refine AL_id ?_); (fail_if_success (refine AL_glit rfl rfl rfl (by first | exact .inl (by with_reducible rfl) | exact .inr (by with_reducible rfl)) ?_)); first | refine AL_gdec rfl rfl rfl (fun hg => ?_) (fun hg => ?_) | refine AL_gnot rfl rfl rfl (fun hg => ?_) (fun hg => ?_) | refine AL_gcases rfl rfl rfl (fun hg => ?_) (fun hg => ?_)) <;> (try (exfalso; omega))) | refine AW_if rfl (fun hc => absurd hc (by omega)) (fun _ => ?_) | refine AW_if rfl (fun _ => ?_) (fun hc => absurd (by omega) hc)))
          all_goals (try (exfalso; omega))
          (repeat (first | refine sdq ?_ | refine DG_next (D_call rfl rfl rfl rfl rfl (k132)) ?_))
          refine DG_end hM (by kernel_rfl) ?_
          (repeat (refine stq ?_))
          refine ⟨k + 1, hk', by omega, ?_⟩
          rw [hs]
          (refine Le.mk ?_ ?_; all_goals (repeat' (first | exact trivial | refine sle ?_ | refine ⟨?_, rfl, ?_⟩ | refine ⟨?_, by decide, rfl, ?_⟩ | fail)))
        · rw [hp, decide_eq_false hyr, if_neg (by simp)] at hs
          (repeat' (first | refine stq ?_ | ((first | (with_reducible refine AL_id ?_); (fail_if_success (refine AL_glit rfl rfl rfl (by first | exact .inl (by with_reducible rfl) | exact .inr (by with_reducible rfl)) ?_)); first | refine AL_gdec rfl rfl rfl (fun hg => ?_) (fun hg => ?_) | refine AL_gnot rfl rfl rfl (fun hg => ?_) (fun hg => ?_) | refine AL_gcases rfl rfl rfl (fun hg => ?_) (fun hg => ?_)) <;> (try (exfalso; omega))) | refine AW_if rfl (fun hc => absurd hc (by omega)) (fun _ => ?_) | refine AW_if rfl (fun _ => ?_) (fun hc => absurd (by omega) hc)))
          all_goals (try (exfalso; omega))
          refine ⟨k + 1, hk', by omega, ?_⟩
          rw [hs]
          (refine Le.mk ?_ ?_; all_goals (repeat' (first | exact trivial | refine sle ?_ | refine ⟨?_, rfl, ?_⟩ | refine ⟨?_, by decide, rfl, ?_⟩ | fail)))
    · have hk' : k = l.length := by omega
      subst hk'
      rw [List.take_length]
      (repeat (refine stq ?_))
      exact ⟨_, _, rfl, rfl, rfl⟩
theorem pick_all (l : List Span) {p : Nat → Bool} (h : ∀ i, i < l.length → p i = true) : pick l p = l := by
  unfold pick
  rw [List.filter_eq_self.2 fun x hx => ?_]
  · simp
  · obtain ⟨s, i⟩ := x
    have := List.mem_zipIdx_iff_getElem?.1 hx
    exact h i (List.getElem?_eq_some_iff.1 this).1
theorem common_nil (l : List Span) (run : Int) : commonR l [] run = meetL l := by
  unfold commonR
  rw [pick_all l (p := comP [] run) fun i _ => rfl]
def leftL (W : List Span) (gone : List Int) : List Span := pick W fun i => !gone.contains (i : Int)
set_option maxHeartbeats 4000000 in
theorem f168 (W : List Span) (gone : List Int) (hW : W.length ≤ 1000) (hg : gone.length ≤ 1000) : ACalls Tryz.prog 168 [eSpans W, eInts gone] (fun r => r = .pv (eSpans (leftL W gone))) := by
  refine ACalls.of_body hT Tryz.func168 rfl (by kernel_rfl) rfl ?_
  (repeat (refine stq ?_))
  refine AW_own_nil (e := 67) (sz := 2) (t := 5) rfl rfl ?_
  (repeat (refine stq ?_))
  refine AW_loopC (fun k : Nat => k ≤ W.length) (fun k => mkSt [(0, .pv (eSpans W)), (1, .pv (eInts gone)), (5, .arr 0), (6, .pv (vi k))] [(0, .arr 67 2 ((leftL (W.take k) gone).map eSpan))] 1) (fun k => W.length - k) 0 (Nat.zero_le _) ?_ ?_
  · (refine Le.mk ?_ ?_; all_goals (repeat' (first | exact trivial | refine sle ?_ | refine ⟨?_, rfl, ?_⟩ | refine ⟨?_, by decide, rfl, ?_⟩ | fail)))
  · intro k hk
    (repeat (refine stq ?_))
    refine AW_if rfl (fun hc => ?_) (fun hc => ?_)
    · have hk' : k < W.length := by omega
      obtain ⟨x, hx⟩ : ∃ x, W[k]? = some x := ⟨W[k], by simp [hk']⟩
      have e1 := get_map eSpan hx
      have hs : leftL (W.take (k + 1)) gone = if (!gone.contains (k : Int)) then leftL (W.take k) gone ++ [x] else leftL (W.take k) gone := pick_succ (fun i => !gone.contains (i : Int)) hx
      have hL : (leftL (W.take k) gone).length ≤ 1000 := by
        unfold leftL pick
        rw [List.length_map]
        refine Nat.le_trans (List.length_filter_le _ _) ?_
        rw [List.length_zipIdx, List.length_take]; omega
      generalize leftL (W.take k) gone = ts at *
      (repeat (refine stq ?_))
      refine AW_loopC (fun j : Nat => j ≤ gone.length) (fun j => mkSt [(0, .pv (eSpans W)), (1, .pv (eInts gone)), (5, .arr 0), (6, .pv (vi k)), (7, .pv (.bool ((gone.take j).contains (k : Int)))), (8, .pv (vi j))] [(0, .arr 67 2 (ts.map eSpan))] 1) (fun j => gone.length - j) 0 (Nat.zero_le _) ?_ ?_
      · (refine Le.mk ?_ ?_; all_goals (repeat' (first | exact trivial | refine sle ?_ | refine ⟨?_, rfl, ?_⟩ | refine ⟨?_, by decide, rfl, ?_⟩ | fail)))
      · intro j hj
        (repeat (refine stq ?_))
        refine AW_if rfl (fun hc2 => ?_) (fun hc2 => ?_)
        · have hj' : j < gone.length := by omega
          obtain ⟨y, hy⟩ : ∃ y, gone[j]? = some y := ⟨gone[j], by simp [hj']⟩
          have e2 := get_map eInt hy
          have hn : (gone.take (j + 1)).contains (k : Int) = ((gone.take j).contains (k : Int) || decide (y = (k : Int))) := by
            rw [List.take_add_one, hy, Bool.eq_iff_iff]
            simp only [List.contains_iff_mem, List.mem_append, Bool.or_eq_true, decide_eq_true_eq, Option.toList_some, List.mem_singleton]
            exact ⟨fun h => h.imp id (·.symm), fun h => h.imp id (·.symm)⟩
          cases hb : (gone.take j).contains (k : Int) with
          | true =>
            rw [hb] at hn
            (repeat (refine stq ?_))
            refine ⟨j + 1, hj', by omega, ?_⟩
            rw [hn]
            (refine Le.mk ?_ ?_; all_goals (repeat' (first | exact trivial | refine sle ?_ | refine ⟨?_, rfl, ?_⟩ | refine ⟨?_, by decide, rfl, ?_⟩ | fail)))
          | false =>
            rw [hb] at hn
            (repeat (refine stq ?_))
            refine ⟨j + 1, hj', by omega, ?_⟩
            rw [hn]
            (refine Le.mk ?_ ?_; all_goals (repeat' (first | exact trivial | refine sle ?_ | refine ⟨?_, rfl, ?_⟩ | refine ⟨?_, by decide, rfl, ?_⟩ | fail)))
        · have hj' : j = gone.length := by omega
          subst hj'
          rw [List.take_length]
          cases hb : gone.contains (k : Int) with
          | true =>
            rw [hb, if_neg (by simp)] at hs
            (repeat (refine stq ?_))
            refine ⟨k + 1, hk', by omega, ?_⟩
            rw [hs]
            (refine Le.mk ?_ ?_; all_goals (repeat' (first | exact trivial | refine sle ?_ | refine ⟨?_, rfl, ?_⟩ | refine ⟨?_, by decide, rfl, ?_⟩ | fail)))
          | false =>
            rw [hb, if_pos (by simp)] at hs
            (repeat (refine stq ?_))
            refine ⟨k + 1, hk', by omega, ?_⟩
            rw [hs]
            (refine Le.mkR [(0, 2)] ?_ ?_ rfl; all_goals (repeat' (first | exact trivial | refine sle ?_ | refine ⟨?_, rfl, ?_⟩ | refine ⟨?_, by decide, rfl, ?_⟩ | fail)))
            rw [List.map_append]; rfl
    · have hk' : k = W.length := by omega
      subst hk'
      rw [List.take_length]
      refine AW_pure (t := 5) rfl rfl ?_
      (repeat (refine stq ?_))
      exact ⟨_, _, rfl, rfl, rfl⟩
theorem left_len (W : List Span) (gone : List Int) : (leftL W gone).length ≤ W.length := by
  unfold leftL pick
  rw [List.length_map]
  refine Nat.le_trans (List.length_filter_le _ _) ?_
  rw [List.length_zipIdx]; exact Nat.le_refl _
theorem f133 (W : List Span) (gone : List Int) (hW : W.length ≤ 1000) (hg : gone.length ≤ 1000) : ACalls Tryz.prog 133 [eSpans W, eInts gone] (fun r => r = .pv (.bool (restB W gone))) := by
  have k168 := f168 W gone hW hg
  have hl := left_len W gone
  have k57 := f57 (leftL W gone) [] 0 (by omega) (by simp) (.inl rfl)
  rw [common_nil] at k57
  have hr : restB W gone = decide ((meetL (leftL W gone)).low ≤ (meetL (leftL W gone)).high) := rfl
  rw [hr]
  generalize leftL W gone = L at *
  generalize meetL L = s at *
  refine ACalls.of_body hT Tryz.func133 rfl (by kernel_rfl) rfl ?_
  (repeat' (first | refine stq ?_ | (refine AL_do2 rfl ?_; first | refine ⟨_, op_call1 rfl rfl rfl rfl (k168), nrmA rfl ?_⟩ | refine ⟨_, op_call1 rfl rfl rfl rfl (k57), nrmA rfl ?_⟩) | (with_reducible refine AL_id ?_); (fail_if_success (refine AL_glit rfl rfl rfl (by first | exact .inl (by with_reducible rfl) | exact .inr (by with_reducible rfl)) ?_)); first | refine AL_gdec rfl rfl rfl (fun hg => ?_) (fun hg => ?_) | refine AL_gnot rfl rfl rfl (fun hg => ?_) (fun hg => ?_) | refine AL_gcases rfl rfl rfl (fun hg => ?_) (fun hg => ?_)))
  exact ⟨_, _, rfl, rfl, rfl⟩
end Go.Abs
namespace Go.Abs
open Go.Proofs
set_option linter.unusedVariables false
set_option linter.unusedSimpArgs false
set_option maxRecDepth 100000
def listsOK : Bool := (List.range 7).all fun b => (List.range 7).all fun m => (List.range 8).all fun f => decide ((listsI b m f).length ≤ 100)
theorem lists_ok : listsOK = true := by decide +kernel
theorem lists_bd {b m f : Nat} (hb : b ≤ 6) (hm : m ≤ 6) (hf : f ≤ 7) : (listsI b m f).length ≤ 100 := by
  have := List.all_eq_true.1 (List.all_eq_true.1 (List.all_eq_true.1 lists_ok b (List.mem_range.2 (by omega))) m (List.mem_range.2 (by omega))) f (List.mem_range.2 (by omega))
  simpa using this
def partL (b m f k : Nat) : List (List Int) := (List.range' f k).flatMap fun n => (listsI b m (n + 1)).map fun l => (n : Int) :: l
theorem part_succ (b m f k : Nat) : partL b m f (k + 1) = partL b m f k ++ (listsI b m (f + k + 1)).map fun l => ((f + k : Nat) : Int) :: l := by
  unfold partL
  rw [List.range'_concat, List.flatMap_append]
  simp
theorem part_all (b m f : Nat) : partL b m f (b - f) = listsI b (m + 1) f := rfl
theorem part_mono (b m f k j : Nat) : (partL b m f k).length ≤ (partL b m f (k + j)).length := by
  induction j with
  | zero => exact Nat.le_refl _
  | succ j ih => rw [show k + (j + 1) = k + j + 1 by omega, part_succ, List.length_append]; omega
set_option maxHeartbeats 8000000 in
theorem f129 (b : Nat) (hb : b ≤ 5) : ∀ (m f : Nat), m ≤ 5 → f ≤ 6 → ACalls Tryz.prog 129 [vi f, vi b, vi m] (fun r => r = .pv (eRows (listsI b m f)))
  | 0, f, hm, hf => by
    refine ACalls.of_body hT Tryz.func129 rfl (by kernel_rfl) rfl ?_
    repeat (first | refine AW_pure (t := 6) rfl rfl ?_ | refine stq ?_)
    exact ⟨_, _, rfl, rfl, rfl⟩
  | m + 1, f, hm, hf => by
    have ih : ∀ g : Nat, g ≤ 6 → ACalls Tryz.prog 129 [vi g, vi b, vi m] (fun r => r = .pv (eRows (listsI b m g))) := fun g hg => f129 b hb m g (by omega) hg
    have em : ((m + 1 : Nat) : Int) - 1 = (m : Int) := by omega
    have hpl : ∀ k, k ≤ b - f → (partL b m f k).length ≤ 100 := fun k hk => by
      have h1 := part_mono b m f k (b - f - k)
      rw [show k + (b - f - k) = b - f by omega, part_all] at h1
      have := lists_bd (b := b) (m := m + 1) (f := f) (by omega) (by omega) (by omega)
      omega
    refine ACalls.of_body hT Tryz.func129 rfl (by kernel_rfl) rfl ?_
    (repeat' (first | refine stq ?_ | ((first | (with_reducible refine AL_id ?_); (fail_if_success (refine AL_glit rfl rfl rfl (by first | exact .inl (by with_reducible rfl) | exact .inr (by with_reducible rfl)) ?_)); first | refine AL_gdec rfl rfl rfl (fun hg => ?_) (fun hg => ?_) | refine AL_gnot rfl rfl rfl (fun hg => ?_) (fun hg => ?_) | refine AL_gcases rfl rfl rfl (fun hg => ?_) (fun hg => ?_)) <;> (try (exfalso; omega))) | refine AW_if rfl (fun hc => absurd hc (by omega)) (fun _ => ?_) | refine AW_if rfl (fun _ => ?_) (fun hc => absurd (by omega) hc)))
    refine AW_own_nil (e := 23) (sz := 1) (t := 7) rfl rfl ?_
    (repeat (refine stq ?_))
    refine AW_loopC (fun k : Nat => k ≤ b - f) (fun k => mkSt [(1, .pv (vi b)), (2, .pv (vi ((m + 1 : Nat) : Int))), (7, .arr 0), (8, .pv (vi ((f + k : Nat) : Int)))] [(0, .arr 23 1 ((partL b m f k).map eRow))] 1) (fun k => b - f - k) 0 (Nat.zero_le _) ?_ ?_
    · (refine Le.mk ?_ ?_; all_goals (repeat' (first | exact trivial | refine sle ?_ | refine ⟨?_, rfl, ?_⟩ | refine ⟨?_, by decide, rfl, ?_⟩ | fail)))
    · intro k hk
      (repeat (refine stq ?_))
      refine AW_if rfl (fun hc => ?_) (fun hc => ?_)
      · have hk' : k < b - f := by omega
        have kk := ih (f + k + 1) (by omega)
        have eg : ((f + k + 1 : Nat) : Int) = ((f + k : Nat) : Int) + 1 := by omega
        rw [eg] at kk
        have hsn := part_succ b m f k
        have hp1 := hpl k hk
        have hp2 := hpl (k + 1) hk'
        rw [hsn, List.length_append, List.length_map] at hp2
        have hLl : ∀ l ∈ listsI b m (f + k + 1), l.length ≤ 6 := fun l hl => by
          have := ((lists_mem b m (f + k + 1) l).1 hl).1; omega
        rw [show (m : Int) = ((m + 1 : Nat) : Int) - 1 by omega] at kk
        generalize listsI b m (f + k + 1) = L at *
        generalize partL b m f k = ts at *
        have hn2 : ((f + (k + 1) : Nat) : Int) = ((f + k : Nat) : Int) + 1 := by omega
        have hnb : 0 ≤ ((f + k : Nat) : Int) ∧ ((f + k : Nat) : Int) ≤ 100 := by omega
        generalize ((f + k : Nat) : Int) = n at *
        (repeat' (first | refine stq ?_ | (refine AL_do2 rfl ?_; first | refine ⟨_, op_call1 rfl rfl rfl rfl (kk), nrmA rfl ?_⟩) | (with_reducible refine AL_id ?_); (fail_if_success (refine AL_glit rfl rfl rfl (by first | exact .inl (by with_reducible rfl) | exact .inr (by with_reducible rfl)) ?_)); first | refine AL_gdec rfl rfl rfl (fun hg => ?_) (fun hg => ?_) | refine AL_gnot rfl rfl rfl (fun hg => ?_) (fun hg => ?_) | refine AL_gcases rfl rfl rfl (fun hg => ?_) (fun hg => ?_)))
        refine AW_loopC (fun i : Nat => i ≤ L.length) (fun i => mkSt [(1, .pv (vi b)), (2, .pv (vi ((m + 1 : Nat) : Int))), (7, .arr 0), (8, .pv (vi n)), (9, .pv (eRows L)), (10, .pv (vi i))] [(0, .arr 23 1 ((ts ++ (L.take i).map fun l => n :: l).map eRow))] 1) (fun i => L.length - i) 0 (Nat.zero_le _) ?_ ?_
        · (refine Le.mk ?_ ?_; all_goals (repeat' (first | exact trivial | refine sle ?_ | refine ⟨?_, rfl, ?_⟩ | refine ⟨?_, by decide, rfl, ?_⟩ | fail)))
          rw [List.take_zero, List.map_nil, List.append_nil]; rfl
        · intro i hi
          (repeat (refine stq ?_))
          refine AW_if rfl (fun hc2 => ?_) (fun hc2 => ?_)
          · have hi' : i < L.length := by omega
            obtain ⟨l, hl⟩ : ∃ l, L[i]? = some l := ⟨L[i], by simp [hi']⟩
            have e1 := get_map eRow hl
            have hll := hLl l (List.mem_of_getElem? hl)
            have hsi : ts ++ (L.take (i + 1)).map (fun l => n :: l) = (ts ++ (L.take i).map fun l => n :: l) ++ [n :: l] := by
              rw [List.take_add_one, hl, List.map_append, ← List.append_assoc]; rfl
            have hul : (ts ++ (L.take i).map fun l => n :: l).length ≤ 200 := by simp; omega
            generalize (ts ++ (L.take i).map fun l => n :: l) = us at *
            (repeat (refine stq ?_))
            refine AL_pure (t := 39) rfl rfl ?_
            (repeat (refine stq ?_))
            refine ⟨i + 1, hi', by omega, ?_⟩
            rw [hsi]
            (refine Le.mkR [(0, 4)] ?_ ?_ rfl; all_goals (repeat' (first | exact trivial | refine sle ?_ | refine ⟨?_, rfl, ?_⟩ | refine ⟨?_, by decide, rfl, ?_⟩ | fail)))
            rw [List.map_append]; rfl
          · have hi' : i = L.length := by omega
            subst hi'
            rw [List.take_length]
            (repeat (refine stq ?_))
            refine ⟨k + 1, hk', by omega, ?_⟩
            rw [hsn, hn2]
            (refine Le.mk ?_ ?_; all_goals (repeat' (first | exact trivial | refine sle ?_ | refine ⟨?_, rfl, ?_⟩ | refine ⟨?_, by decide, rfl, ?_⟩ | fail)))
      · have hk' : k = b - f := by omega
        subst hk'
        rw [part_all]
        refine AW_pure (t := 7) rfl rfl ?_
        (repeat (refine stq ?_))
        exact ⟨_, _, rfl, rfl, rfl⟩
theorem find_order {n K : Nat} {p : List Int → Bool} {A B : List (List Int)} {l : List Int} (hK : K ≤ n) (h1 : ∀ k, k < K → ∀ x ∈ listsI n k 0, p x = false) (h2 : listsI n K 0 = A ++ l :: B) (h3 : ∀ x ∈ A, p x = false) (h4 : p l = true) : (orderN n).find? p = some l := by
  unfold orderN
  have e : List.range (n + 1) = List.range K ++ K :: (List.range' (K + 1) (n - K)) := by
    rw [List.range_eq_range', List.range_eq_range', show n + 1 = K + (n - K + 1) by omega, ← List.range'_append_1, List.range'_succ]; simp
  rw [e, List.flatMap_append, List.flatMap_cons, h2, List.find?_eq_some_iff_append]
  refine ⟨h4, (List.range K).flatMap (fun k => listsI n k 0) ++ A, B ++ (List.range' (K + 1) (n - K)).flatMap fun k => listsI n k 0, by simp, fun x hx => ?_⟩
  rcases List.mem_append.1 hx with hx | hx
  · obtain ⟨k, hk, hx⟩ := List.mem_flatMap.1 hx
    simp [h1 k (List.mem_range.1 hk) x hx]
  · simp [h3 x hx]
def lastOK : Bool := (List.range 6).all fun n => listsI n n 0 == [(List.range n).map fun i : Nat => (i : Int)]
theorem last_ok : lastOK = true := by decide +kernel
theorem lists_last {n : Nat} (hn : n ≤ 5) : listsI n n 0 = [(List.range n).map fun i : Nat => (i : Int)] := by
  have := List.all_eq_true.1 last_ok n (List.mem_range.2 (by omega))
  simpa using this
theorem rest_all (W : List Span) : restB W ((List.range W.length).map fun i : Nat => (i : Int)) = true := by
  refine open_iff.2 ⟨0, pick_iff.2 ⟨by decide, fun i s hi hp => ?_⟩⟩
  exfalso
  have hi := (List.getElem?_eq_some_iff.1 hi).1
  simp only [Bool.not_eq_true', ← Bool.not_eq_true, List.contains_iff_mem] at hp
  exact hp (List.mem_map.2 ⟨i, List.mem_range.2 hi, rfl⟩)
theorem rest_same (d : Drum) (gone : List Int) : restB (winR d) gone = restB (winP d) gone := (win_open d fun i => !gone.contains (i : Int)).1
theorem winR_len (d : Drum) : (winR d).length = d.batches.length := by simp [winR]
theorem named_same (d : Drum) : namedI (winR d) = namedI (winP d) := by
  unfold namedI
  rw [winR_len, winP_len]
  congr 2
  funext l
  exact rest_same d l
set_option maxHeartbeats 8000000 in
theorem f58 (d : Drum) (hP : DrumP d) : ACalls Tryz.prog 58 [eDrum d] (fun r => r = .pv (eInts (namedI (winR d)))) := by
  have k49 := f49 d hP
  have hW : (winR d).length ≤ 5 := by rw [winR_len]; exact hP.b1
  generalize winR d = W at *
  have kl : ∀ k, k ≤ W.length → ACalls Tryz.prog 129 [vi 0, vi W.length, vi k] (fun r => r = .pv (eRows (listsI W.length k 0))) := fun k hk => f129 W.length hW k 0 (by omega) (by omega)
  have kn : ∀ l, l.length ≤ 1000 → ACalls Tryz.prog 133 [eSpans W, eInts l] (fun r => r = .pv (.bool (restB W l))) := fun l hl => f133 W l (by omega) hl
  refine ACalls.of_body hT Tryz.func58 rfl (by kernel_rfl) rfl ?_
  (repeat' (first | refine stq ?_ | (refine AL_do2 rfl ?_; first | refine ⟨_, op_call1 rfl rfl rfl rfl (k49), nrmA rfl ?_⟩) | (with_reducible refine AL_id ?_); (fail_if_success (refine AL_glit rfl rfl rfl (by first | exact .inl (by with_reducible rfl) | exact .inr (by with_reducible rfl)) ?_)); first | refine AL_gdec rfl rfl rfl (fun hg => ?_) (fun hg => ?_) | refine AL_gnot rfl rfl rfl (fun hg => ?_) (fun hg => ?_) | refine AL_gcases rfl rfl rfl (fun hg => ?_) (fun hg => ?_)))
  refine AW_loopC (fun k : Nat => k ≤ W.length ∧ ∀ j, j < k → ∀ x ∈ listsI W.length j 0, restB W x = false) (fun k => mkSt [(1, .box 0 0), (3, .pv (eSpans W)), (4, .pv (vi k))] [(0, .box ((eDrumC d).map FV.pv))] 1) (fun k => W.length - k) 0 ⟨Nat.zero_le _, fun j hj => by omega⟩ ?_ ?_
  · (refine Le.mk ?_ ?_; all_goals (repeat' (first | exact trivial | refine sle ?_ | refine ⟨?_, rfl, ?_⟩ | refine ⟨?_, by decide, rfl, ?_⟩ | fail)))
  · rintro k ⟨hk, hall⟩
    (repeat (refine stq ?_))
    refine AW_if rfl (fun hc => ?_) (fun hc => ?_)
    · have hk' : k < W.length := by omega
      have k129 := kl k (by omega)
      have hLl : ∀ l ∈ listsI W.length k 0, l.length ≤ 6 := fun l hl => by
        have := ((lists_mem W.length k 0 l).1 hl).1; omega
      have hLb := lists_bd (b := W.length) (m := k) (f := 0) (by omega) (by omega) (by omega)
      have found : ∀ A B l, listsI W.length k 0 = A ++ l :: B → (∀ x ∈ A, restB W x = false) → restB W l = true → namedI W = l := fun A B l e hA hl => by
        unfold namedI
        rw [find_order (K := k) (by omega) hall e hA hl]; rfl
      have next : (∀ x ∈ listsI W.length k 0, restB W x = false) → ∀ j, j < k + 1 → ∀ x ∈ listsI W.length j 0, restB W x = false := fun h j hj => by
        by_cases hjk : j = k
        · rw [hjk]; exact h
        · exact hall j (by omega)
      generalize listsI W.length k 0 = L at *
      (repeat' (first | refine stq ?_ | (refine AL_do2 rfl ?_; first | refine ⟨_, op_call1 rfl rfl rfl rfl (k129), nrmA rfl ?_⟩) | (with_reducible refine AL_id ?_); (fail_if_success (refine AL_glit rfl rfl rfl (by first | exact .inl (by with_reducible rfl) | exact .inr (by with_reducible rfl)) ?_)); first | refine AL_gdec rfl rfl rfl (fun hg => ?_) (fun hg => ?_) | refine AL_gnot rfl rfl rfl (fun hg => ?_) (fun hg => ?_) | refine AL_gcases rfl rfl rfl (fun hg => ?_) (fun hg => ?_)))
      refine AW_loopC (fun i : Nat => i ≤ L.length ∧ ∀ x ∈ L.take i, restB W x = false) (fun i => mkSt [(1, .box 0 0), (3, .pv (eSpans W)), (4, .pv (vi k)), (5, .pv (eRows L)), (6, .pv (vi i))] [(0, .box ((eDrumC d).map FV.pv))] 1) (fun i => L.length - i) 0 ⟨Nat.zero_le _, by simp⟩ ?_ ?_
      · (refine Le.mk ?_ ?_; all_goals (repeat' (first | exact trivial | refine sle ?_ | refine ⟨?_, rfl, ?_⟩ | refine ⟨?_, by decide, rfl, ?_⟩ | fail)))
      · rintro i ⟨hi, hno⟩
        (repeat (refine stq ?_))
        refine AW_if rfl (fun hc2 => ?_) (fun hc2 => ?_)
        · have hi' : i < L.length := by omega
          obtain ⟨l, hl⟩ : ∃ l, L[i]? = some l := ⟨L[i], by simp [hi']⟩
          have e1 := get_map eRow hl
          have hll := hLl l (List.mem_of_getElem? hl)
          have k133 := kn l (by omega)
          cases hb : restB W l with
          | true =>
            rw [hb] at k133
            have he := found (L.take i) (L.drop (i + 1)) l (by rw [← (List.getElem?_eq_some_iff.1 hl).2]; simp) hno hb
            (repeat' (first | refine stq ?_ | (refine AL_do2 rfl ?_; first | refine ⟨_, op_call1 rfl rfl rfl rfl (k133), nrmA rfl ?_⟩) | (with_reducible refine AL_id ?_); (fail_if_success (refine AL_glit rfl rfl rfl (by first | exact .inl (by with_reducible rfl) | exact .inr (by with_reducible rfl)) ?_)); first | refine AL_gdec rfl rfl rfl (fun hg => ?_) (fun hg => ?_) | refine AL_gnot rfl rfl rfl (fun hg => ?_) (fun hg => ?_) | refine AL_gcases rfl rfl rfl (fun hg => ?_) (fun hg => ?_)))
            exact ⟨_, _, rfl, rfl, by rw [he]⟩
          | false =>
            rw [hb] at k133
            (repeat' (first | refine stq ?_ | (refine AL_do2 rfl ?_; first | refine ⟨_, op_call1 rfl rfl rfl rfl (k133), nrmA rfl ?_⟩) | (with_reducible refine AL_id ?_); (fail_if_success (refine AL_glit rfl rfl rfl (by first | exact .inl (by with_reducible rfl) | exact .inr (by with_reducible rfl)) ?_)); first | refine AL_gdec rfl rfl rfl (fun hg => ?_) (fun hg => ?_) | refine AL_gnot rfl rfl rfl (fun hg => ?_) (fun hg => ?_) | refine AL_gcases rfl rfl rfl (fun hg => ?_) (fun hg => ?_)))
            refine ⟨i + 1, ⟨hi', fun x hx => ?_⟩, by omega, ?_⟩
            · rw [List.take_add_one, List.mem_append] at hx
              rcases hx with hx | hx
              · exact hno x hx
              · rw [hl] at hx; simp at hx; rw [hx]; exact hb
            · (refine Le.mk ?_ ?_; all_goals (repeat' (first | exact trivial | refine sle ?_ | refine ⟨?_, rfl, ?_⟩ | refine ⟨?_, by decide, rfl, ?_⟩ | fail)))
        · have hi' : i = L.length := by omega
          subst hi'
          rw [List.take_length] at hno
          (repeat (refine stq ?_))
          refine ⟨k + 1, ⟨hk', next hno⟩, by omega, ?_⟩
          (refine Le.mk ?_ ?_; all_goals (repeat' (first | exact trivial | refine sle ?_ | refine ⟨?_, rfl, ?_⟩ | refine ⟨?_, by decide, rfl, ?_⟩ | fail)))
    · have hk' : k = W.length := by omega
      subst hk'
      have k129 := kl W.length (Nat.le_refl _)
      have he : namedI W = (List.range W.length).map fun i : Nat => (i : Int) := by
        unfold namedI
        rw [find_order (K := W.length) (A := []) (B := []) (Nat.le_refl _) hall (lists_last hW) (by simp) (rest_all W)]; rfl
      rw [lists_last hW] at k129
      rw [he]
      generalize ((List.range W.length).map fun i : Nat => (i : Int)) = l at *
      have e1 : ([l].map eRow)[(0 : Int).toNat]? = some (eRow l) := rfl
      have hl1 : ([l] : List (List Int)).length = 1 := rfl
      (repeat' (first | refine stq ?_ | (refine AL_do2 rfl ?_; first | refine ⟨_, op_call1 rfl rfl rfl rfl (k129), nrmA rfl ?_⟩) | (with_reducible refine AL_id ?_); (fail_if_success (refine AL_glit rfl rfl rfl (by first | exact .inl (by with_reducible rfl) | exact .inr (by with_reducible rfl)) ?_)); first | refine AL_gdec rfl rfl rfl (fun hg => ?_) (fun hg => ?_) | refine AL_gnot rfl rfl rfl (fun hg => ?_) (fun hg => ?_) | refine AL_gcases rfl rfl rfl (fun hg => ?_) (fun hg => ?_)))
      exact ⟨_, _, rfl, rfl, rfl⟩
end Go.Abs
namespace Go.Abs
open Go.Proofs
set_option linter.unusedVariables false
set_option linter.unusedSimpArgs false
set_option maxRecDepth 100000
section
variable {nt : Nat} {o : Oper} {s : ASt}
theorem op_eqlC {P : Program} {t : TypeId} {t' : TypeId} {x y : Operand} {n : Nat} {ms ns : List Int} (c : Bool) (hc : decide (ms = ns) = c) (hE : AggEq P t n) (ho : o.op = .binOp .eql t x y t') (hd : dstB nt o.dst = true) (hx : s.evD x = some (.agg (ms.map (PV.int .i64)))) (hy : s.evD y = some (.agg (ns.map (PV.int .i64)))) (hm : ms.length = n) (hn : ns.length = n) :
    OpTo P nt o s (s.putO o.dst (some (.pv (.bool c)))) := hc ▸ op_eqlS hE ho hd hx hy hm hn
theorem op_neqC {P : Program} {t : TypeId} {t' : TypeId} {x y : Operand} {n : Nat} {ms ns : List Int} (c : Bool) (hc : (!decide (ms = ns)) = c) (hE : AggEq P t n) (ho : o.op = .binOp .neq t x y t') (hd : dstB nt o.dst = true) (hx : s.evD x = some (.agg (ms.map (PV.int .i64)))) (hy : s.evD y = some (.agg (ns.map (PV.int .i64)))) (hm : ms.length = n) (hn : ns.length = n) :
    OpTo P nt o s (s.putO o.dst (some (.pv (.bool c)))) := hc ▸ op_neqS hE ho hd hx hy hm hn
end
theorem f56y {d : Drum} (hd : drumOK d) (he : errE d true = 0) : ACalls Tryz.prog 56 [eDrum d] (fun r => r = .tup [eInts (namedI (winP d)), vi 0]) := by
  have k := f56 d hd
  rw [namedE, if_pos he] at k
  exact k
theorem f56e {d : Drum} (hd : drumOK d) (he : errE d true ≠ 0) : ACalls Tryz.prog 56 [eDrum d] (fun r => r = .tup [eInts [], vi (errE d true)]) := by
  have k := f56 d hd
  rw [namedE, if_neg he] at k
  exact k
theorem winR_all (d : Drum) : openS (meetL (winR d)) = openS (allW d) ∧ (openS (allW d) = true → meetL (winR d) = allW d) := by
  have h := win_open d fun _ => true
  rw [pick_all (winR d) fun _ _ => rfl] at h
  exact h
theorem named_len (W : List Span) : (namedI W).length ≤ W.length := by
  unfold namedI
  cases h : (orderN W.length).find? (restB W) with
  | none => simp
  | some l => exact (orderN_mem.1 (List.mem_of_find?_eq_some h)).1
set_option maxHeartbeats 16000000 in
theorem f10 (d : Drum) : ACalls Tryz.prog 10 [eDrum d] (fun r => r = .pv (.bool true)) := by
  have k23 := f23' d
  cases hs : shortB d with
  | false =>
    rw [hs] at k23
    refine ACalls.of_body hT Tryz.func10 rfl (by kernel_rfl) rfl ?_
    (repeat' (first | refine stq ?_ | (refine AL_do2 rfl ?_; first | refine ⟨_, op_call1 rfl rfl rfl rfl (k23), nrmA rfl ?_⟩ | refine ⟨_, op_call1 rfl rfl rfl rfl (f24), nrmA rfl ?_⟩) | (with_reducible refine AL_id ?_); (fail_if_success (refine AL_glit rfl rfl rfl (by first | exact .inl (by with_reducible rfl) | exact .inr (by with_reducible rfl)) ?_)); first | refine AL_gdec rfl rfl rfl (fun hg => ?_) (fun hg => ?_) | refine AL_gnot rfl rfl rfl (fun hg => ?_) (fun hg => ?_) | refine AL_gcases rfl rfl rfl (fun hg => ?_) (fun hg => ?_)))
    all_goals (try (exfalso; simp at hg; done))
    exact ⟨_, _, rfl, rfl, rfl⟩
  | true =>
    rw [hs] at k23
    have hd := short_ok hs
    have k27 := f27 d true hd
    by_cases he : errE d true = 0
    · obtain ⟨hP, _, hne, _⟩ := asked_ok he
      rw [he] at k27
      have k49 := f49 d hP
      have k58 := f58 d hP
      have k56 := f56y hd he
      have k57 := f57 (winR d) [] 0 (by rw [winR_len]; have := hP.b1; omega) (by simp) (.inl rfl)
      rw [common_nil] at k57
      rw [named_same] at k58
      have hnl := named_len (winP d)
      have hbl := hP.b1
      rw [winP_len] at hnl
      have k52 := ints_same (namedI (winP d)) (by omega)
      obtain ⟨w1, w2⟩ := winR_all d
      generalize namedI (winP d) = N at *
      generalize winR d = W at *
      cases ho : openS (allW d) with
      | true =>
        have k55 := f55y hd he ho
        rw [w2 ho] at k57
        simp only [openS, decide_eq_true_eq] at ho
        generalize allW d = A at *
        refine ACalls.of_body hT Tryz.func10 rfl (by kernel_rfl) rfl ?_
        (repeat' (first | refine AL_skip rfl rfl ?_ | refine stq ?_ | (refine AL_do2 rfl ?_; first | refine ⟨_, op_call1 rfl rfl rfl rfl (k23), nrmA rfl ?_⟩ | refine ⟨_, op_call1 rfl rfl rfl rfl (f24), nrmA rfl ?_⟩ | refine ⟨_, op_call1 rfl rfl rfl rfl (k55), nrmA rfl ?_⟩ | refine ⟨_, op_call1 rfl rfl rfl rfl (k56), nrmA rfl ?_⟩ | refine ⟨_, op_call1 rfl rfl rfl rfl (k27), nrmA rfl ?_⟩ | refine ⟨_, op_call1 rfl rfl rfl rfl (k49), nrmA rfl ?_⟩ | refine ⟨_, op_call1 rfl rfl rfl rfl (k57), nrmA rfl ?_⟩ | refine ⟨_, op_call1 rfl rfl rfl rfl (k58), nrmA rfl ?_⟩ | refine ⟨_, op_call1 rfl rfl rfl rfl (k52), nrmA rfl ?_⟩ | refine ⟨_, op_neqC false (by simp) (ms := [A.low, A.high]) (ns := [A.low, A.high]) aggEq67 rfl rfl rfl rfl rfl rfl, ?_⟩) | ((first | (with_reducible refine AL_id ?_); (fail_if_success (refine AL_glit rfl rfl rfl (by first | exact .inl (by with_reducible rfl) | exact .inr (by with_reducible rfl)) ?_)); first | refine AL_gdec rfl rfl rfl (fun hg => ?_) (fun hg => ?_) | refine AL_gnot rfl rfl rfl (fun hg => ?_) (fun hg => ?_) | refine AL_gcases rfl rfl rfl (fun hg => ?_) (fun hg => ?_)) <;> (try (exfalso; omega))) | refine AW_if rfl (fun hc => absurd hc (by omega)) (fun _ => ?_) | refine AW_if rfl (fun _ => ?_) (fun hc => absurd (by omega) hc)))
        all_goals (try (exfalso; omega))
        all_goals (try (exfalso; simp at hg; done))
        all_goals exact ⟨_, _, rfl, rfl, rfl⟩
      | false =>
        have k55 := f55n hd he ho
        rw [ho] at w1
        simp only [openS, decide_eq_false_iff_not] at w1
        generalize meetL W = A at *
        refine ACalls.of_body hT Tryz.func10 rfl (by kernel_rfl) rfl ?_
        (repeat' (first | refine AL_skip rfl rfl ?_ | refine stq ?_ | (refine AL_do2 rfl ?_; first | refine ⟨_, op_call1 rfl rfl rfl rfl (k23), nrmA rfl ?_⟩ | refine ⟨_, op_call1 rfl rfl rfl rfl (f24), nrmA rfl ?_⟩ | refine ⟨_, op_call1 rfl rfl rfl rfl (k55), nrmA rfl ?_⟩ | refine ⟨_, op_call1 rfl rfl rfl rfl (k56), nrmA rfl ?_⟩ | refine ⟨_, op_call1 rfl rfl rfl rfl (k27), nrmA rfl ?_⟩ | refine ⟨_, op_call1 rfl rfl rfl rfl (k49), nrmA rfl ?_⟩ | refine ⟨_, op_call1 rfl rfl rfl rfl (k57), nrmA rfl ?_⟩ | refine ⟨_, op_call1 rfl rfl rfl rfl (k58), nrmA rfl ?_⟩ | refine ⟨_, op_call1 rfl rfl rfl rfl (k52), nrmA rfl ?_⟩ | refine ⟨_, op_neqC false (by simp) (ms := [0, 0]) (ns := [0, 0]) aggEq67 rfl rfl rfl rfl rfl rfl, ?_⟩) | ((first | (with_reducible refine AL_id ?_); (fail_if_success (refine AL_glit rfl rfl rfl (by first | exact .inl (by with_reducible rfl) | exact .inr (by with_reducible rfl)) ?_)); first | refine AL_gdec rfl rfl rfl (fun hg => ?_) (fun hg => ?_) | refine AL_gnot rfl rfl rfl (fun hg => ?_) (fun hg => ?_) | refine AL_gcases rfl rfl rfl (fun hg => ?_) (fun hg => ?_)) <;> (try (exfalso; omega))) | refine AW_if rfl (fun hc => absurd hc (by omega)) (fun _ => ?_) | refine AW_if rfl (fun _ => ?_) (fun hc => absurd (by omega) hc)))
        all_goals (try (exfalso; omega))
        all_goals (try (exfalso; simp at hg; done))
        all_goals exact ⟨_, _, rfl, rfl, rfl⟩
    · have k55 := f55e hd he
      have k56 := f56e hd he
      generalize errE d true = e at *
      refine ACalls.of_body hT Tryz.func10 rfl (by kernel_rfl) rfl ?_
      (repeat' (first | refine AL_skip rfl rfl ?_ | refine stq ?_ | (refine AL_do2 rfl ?_; first | refine ⟨_, op_call1 rfl rfl rfl rfl (k23), nrmA rfl ?_⟩ | refine ⟨_, op_call1 rfl rfl rfl rfl (f24), nrmA rfl ?_⟩ | refine ⟨_, op_call1 rfl rfl rfl rfl (k55), nrmA rfl ?_⟩ | refine ⟨_, op_call1 rfl rfl rfl rfl (k56), nrmA rfl ?_⟩ | refine ⟨_, op_call1 rfl rfl rfl rfl (k27), nrmA rfl ?_⟩ | refine ⟨_, op_eqlC true (by simp) (ms := [0, 0]) (ns := [0, 0]) aggEq67 rfl rfl rfl rfl rfl rfl, ?_⟩) | ((first | (with_reducible refine AL_id ?_); (fail_if_success (refine AL_glit rfl rfl rfl (by first | exact .inl (by with_reducible rfl) | exact .inr (by with_reducible rfl)) ?_)); first | refine AL_gdec rfl rfl rfl (fun hg => ?_) (fun hg => ?_) | refine AL_gnot rfl rfl rfl (fun hg => ?_) (fun hg => ?_) | refine AL_gcases rfl rfl rfl (fun hg => ?_) (fun hg => ?_)) <;> (try (exfalso; omega))) | refine AW_if rfl (fun hc => absurd hc (by omega)) (fun _ => ?_) | refine AW_if rfl (fun _ => ?_) (fun hc => absurd (by omega) hc)))
      all_goals (try (exfalso; omega))
      all_goals (try (exfalso; simp at hg; done))
      all_goals exact ⟨_, _, rfl, rfl, rfl⟩
end Go.Abs
