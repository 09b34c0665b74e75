/- Windows, what they have in common, and lists of batches, as the reference has them. -/
import Derived.Test.YtmplfjolcdlipaaGreatDoorLaQ9
import Derived.Test.YtmplfjolcdlipaaGreatDoorDrH
import Derived.Test.YtmplfjolcdlipaaGreatDoorXQ9
import Derived.Test.YtmplfjolcdlipaaGreatDoorDrI
import Derived.Test.YtmplfjolcdlipaaGreatDoorLcQ9
set_option linter.unusedVariables false
set_option linter.unusedSimpArgs false
namespace Go.Abs
open Go.Proofs
set_option linter.unusedVariables false
set_option linter.unusedSimpArgs false
set_option maxRecDepth 100000
set_option maxHeartbeats 4000000 in
theorem f49 (d : Drum) (hP : DrumP d) : ACalls Tryz.prog 49 [eDrum d] (fun r => r = .pv (eSpans (winR d))) := by
  have hbl := hP.b1
  refine ACalls.of_body hT Tryz.func49 rfl (by kernel_rfl) rfl ?_
  (repeat (refine stq ?_))
  refine AW_own_nil (e := 67) (sz := 2) (t := 3) rfl rfl ?_
  (repeat (refine stq ?_))
  refine AW_loopC (fun k : Nat => k ≤ d.batches.length) (fun k => mkSt [(1, .box 0 0), (3, .arr 1), (4, .pv (vi k))] [(0, .box ((eDrumC d).map FV.pv)), (1, .arr 67 2 (((d.batches.take k).map (winR1 d)).map eSpan))] 2) (fun k => d.batches.length - k) 0 (Nat.zero_le _) ?_ ?_
  · (refine Le.mk ?_ ?_; all_goals (repeat' (first | exact trivial | refine sle ?_ | refine ⟨?_, rfl, ?_⟩ | refine ⟨?_, by decide, rfl, ?_⟩ | fail)))
  · intro k hk
    (repeat (refine stq ?_))
    refine AW_if rfl (fun hc => ?_) (fun hc => ?_)
    · have hk' : k < d.batches.length := by omega
      obtain ⟨b, hb⟩ : ∃ b, d.batches[k]? = some b := ⟨d.batches[k], by simp [hk']⟩
      have k33 := f33 d hP k b hb
      have k34 := f34 d hP k b hb
      have hsn : (d.batches.take (k + 1)).map (winR1 d) = (d.batches.take k).map (winR1 d) ++ [winR1 d b] := map_take_succ _ hb
      have htl : ((d.batches.take k).map (winR1 d)).length ≤ 1000 := by simp; omega
      have hw : winR1 d b = if smoothI d b < 0 ∨ thinI d b < 0 ∨ smoothI d b > thinI d b then ⟨1, 0⟩ else ⟨smoothI d b, thinI d b⟩ := rfl
      generalize ((d.batches.take k).map (winR1 d)) = ts at *
      generalize winR1 d b = B at *
      generalize smoothI d b = x at *
      generalize thinI d b = y at *
      by_cases hq : x < 0 ∨ y < 0 ∨ x > y
      · rw [if_pos hq] at hw
        subst hw
        (repeat (refine stq ?_))
        (repeat (first | refine sdq ?_ | refine DG_next (D_call rfl rfl rfl rfl rfl (k33)) ?_ | refine DG_next (D_call rfl rfl rfl rfl rfl (k34)) ?_))
        refine DG_end hM (by kernel_rfl) ?_
        (repeat' (first | refine stq ?_ | ((first | (with_reducible refine AL_id ?_); (fail_if_success (refine AL_glit rfl rfl rfl (by first | exact .inl (by with_reducible rfl) | exact .inr (by with_reducible rfl)) ?_)); first | refine AL_gdec rfl rfl rfl (fun hg => ?_) (fun hg => ?_) | refine AL_gnot rfl rfl rfl (fun hg => ?_) (fun hg => ?_) | refine AL_gcases rfl rfl rfl (fun hg => ?_) (fun hg => ?_)) <;> (try (exfalso; omega))) | refine AW_if rfl (fun hc => absurd hc (by omega)) (fun _ => ?_) | refine AW_if rfl (fun _ => ?_) (fun hc => absurd (by omega) hc)))
        all_goals (try (exfalso; omega))
        all_goals
          refine ⟨k + 1, hk', by omega, ?_⟩
          rw [hsn]
          (refine Le.mkR [(0, 0), (1, 3)] ?_ ?_ rfl; all_goals (repeat' (first | exact trivial | refine sle ?_ | refine ⟨?_, rfl, ?_⟩ | refine ⟨?_, by decide, rfl, ?_⟩ | fail)))
          rw [List.map_append]; rfl
      · rw [if_neg hq] at hw
        subst hw
        (repeat (refine stq ?_))
        (repeat (first | refine sdq ?_ | refine DG_next (D_call rfl rfl rfl rfl rfl (k33)) ?_ | refine DG_next (D_call rfl rfl rfl rfl rfl (k34)) ?_))
        refine DG_end hM (by kernel_rfl) ?_
        (repeat' (first | refine stq ?_ | ((first | (with_reducible refine AL_id ?_); (fail_if_success (refine AL_glit rfl rfl rfl (by first | exact .inl (by with_reducible rfl) | exact .inr (by with_reducible rfl)) ?_)); first | refine AL_gdec rfl rfl rfl (fun hg => ?_) (fun hg => ?_) | refine AL_gnot rfl rfl rfl (fun hg => ?_) (fun hg => ?_) | refine AL_gcases rfl rfl rfl (fun hg => ?_) (fun hg => ?_)) <;> (try (exfalso; omega))) | refine AW_if rfl (fun hc => absurd hc (by omega)) (fun _ => ?_) | refine AW_if rfl (fun _ => ?_) (fun hc => absurd (by omega) hc)))
        all_goals (try (exfalso; omega))
        all_goals
          refine ⟨k + 1, hk', by omega, ?_⟩
          rw [hsn]
          (refine Le.mkR [(0, 0), (1, 3)] ?_ ?_ rfl; all_goals (repeat' (first | exact trivial | refine sle ?_ | refine ⟨?_, rfl, ?_⟩ | refine ⟨?_, by decide, rfl, ?_⟩ | fail)))
          rw [List.map_append]; rfl
    · have hk' : k = d.batches.length := by omega
      subst hk'
      rw [List.take_length]
      refine AW_pure (t := 3) rfl rfl ?_
      (repeat (refine stq ?_))
      exact ⟨_, _, rfl, rfl, rfl⟩
def comP (R : List Int) (run : Int) (i : Nat) : Bool := decide (R.length = 0) || decide (R[i]? = some run)
def commonR (l : List Span) (R : List Int) (run : Int) : Span := meetL (pick l (comP R run))
set_option maxHeartbeats 4000000 in
theorem f57 (l : List Span) (R : List Int) (run : Int) (hl : l.length ≤ 1000) (hR : R.length ≤ 1000) (h : R.length = 0 ∨ l.length ≤ R.length) : ACalls Tryz.prog 57 [eSpans l, eInts R, vi run] (fun r => r = .pv (eS (commonR l R run))) := by
  refine ACalls.of_body hT Tryz.func57 rfl (by kernel_rfl) rfl ?_
  (repeat (refine stq ?_))
  refine AW_loopC (fun k : Nat => k ≤ l.length) (fun k => mkSt [(0, .pv (eSpans l)), (1, .pv (eInts R)), (2, .pv (vi run)), (6, .box 0 0), (7, .box 1 0), (8, .pv (vi k))]
    [(0, .box [.pv (vi 0), .pv (vi 0)]), (1, .box [.pv (vi (meetL (pick (l.take k) (comP R run))).low), .pv (vi (meetL (pick (l.take k) (comP R run))).high)])] 2) (fun k => l.length - k) 0 (Nat.zero_le _) ?_ ?_
  · (refine Le.mk ?_ ?_; all_goals (repeat' (first | exact trivial | refine sle ?_ | refine ⟨?_, rfl, ?_⟩ | refine ⟨?_, by decide, rfl, ?_⟩ | fail)))
  · intro k hk
    (repeat (refine stq ?_))
    refine AW_if rfl (fun hc => ?_) (fun hc => ?_)
    · have hk' : k < l.length := by omega
      obtain ⟨x, hx⟩ : ∃ x, l[k]? = some x := ⟨l[k], by simp [hk']⟩
      have e1 := get_map eSpan hx
      have hs := meet_succ (comP R run) hx
      have hu : ∀ u : Span, vi u.low = vi u.low := fun _ => rfl
      generalize hum : meetL (pick (l.take k) (comP R run)) = u at *
      have k132 := f132 u x
      by_cases h0 : R.length = 0
      · have hp : comP R run k = true := by simp [comP, h0]
        rw [hp, if_pos rfl] at hs
        (repeat (refine stq ?_))
        refine AL_gdec rfl rfl rfl (fun _ => ?_) (fun hg => absurd hg (by omega))
        (repeat (refine stq ?_))
        (repeat (first | refine sdq ?_ | refine DG_next (D_call rfl rfl rfl rfl rfl (k132)) ?_))
        refine DG_end hM (by kernel_rfl) ?_
        (repeat (refine stq ?_))
        refine ⟨k + 1, hk', by omega, ?_⟩
        rw [hs]
        (refine Le.mk ?_ ?_; all_goals (repeat' (first | exact trivial | refine sle ?_ | refine ⟨?_, rfl, ?_⟩ | refine ⟨?_, by decide, rfl, ?_⟩ | fail)))
      · obtain ⟨y, hy⟩ : ∃ y, R[k]? = some y := ⟨R[k]'(by omega), by simp⟩
        have e2 := get_map eInt hy
        have hp : comP R run k = decide (y = run) := by simp [comP, h0, hy]
        by_cases hyr : y = run
        · rw [hp, decide_eq_true hyr, if_pos rfl] at hs
          (repeat (refine stq ?_))
          refine AL_gdec rfl rfl rfl (fun hg => absurd hg (by omega)) (fun _ => ?_)
          (repeat (refine stq ?_))
          refine AW_if rfl (fun _ => ?_) (fun hc => absurd hyr hc)
          (repeat (refine stq ?_))
          (repeat (first | refine sdq ?_ | refine DG_next (D_call rfl rfl rfl rfl rfl (k132)) ?_))
          refine DG_end hM (by kernel_rfl) ?_
          (repeat (refine stq ?_))
          refine ⟨k + 1, hk', by omega, ?_⟩
          rw [hs]
          (refine Le.mk ?_ ?_; all_goals (repeat' (first | exact trivial | refine sle ?_ | refine ⟨?_, rfl, ?_⟩ | refine ⟨?_, by decide, rfl, ?_⟩ | fail)))
        · rw [hp, decide_eq_false hyr, if_neg (by simp)] at hs
          (repeat (refine stq ?_))
          refine AL_gdec rfl rfl rfl (fun hg => absurd hg (by omega)) (fun _ => ?_)
          (repeat (refine stq ?_))
          refine AW_if rfl (fun hc => absurd hc hyr) (fun _ => ?_)
          (repeat (refine stq ?_))
          refine ⟨k + 1, hk', by omega, ?_⟩
          rw [hs]
          (refine Le.mk ?_ ?_; all_goals (repeat' (first | exact trivial | refine sle ?_ | refine ⟨?_, rfl, ?_⟩ | refine ⟨?_, by decide, rfl, ?_⟩ | fail)))
    · have hk' : k = l.length := by omega
      subst hk'
      rw [List.take_length]
      (repeat (refine stq ?_))
      exact ⟨_, _, rfl, rfl, rfl⟩
end Go.Abs
namespace Go.Abs
open Go.Proofs
set_option linter.unusedVariables false
set_option linter.unusedSimpArgs false
set_option maxRecDepth 100000
def listsOK : Bool := (List.range 7).all fun b => (List.range 7).all fun m => (List.range 8).all fun f => decide ((listsI b m f).length ≤ 100)
theorem lists_ok : listsOK = true := by decide +kernel
theorem lists_bd {b m f : Nat} (hb : b ≤ 6) (hm : m ≤ 6) (hf : f ≤ 7) : (listsI b m f).length ≤ 100 := by
  have := List.all_eq_true.1 (List.all_eq_true.1 (List.all_eq_true.1 lists_ok b (List.mem_range.2 (by omega))) m (List.mem_range.2 (by omega))) f (List.mem_range.2 (by omega))
  simpa using this
def partL (b m f k : Nat) : List (List Int) := (List.range' f k).flatMap fun n => (listsI b m (n + 1)).map fun l => (n : Int) :: l
theorem part_succ (b m f k : Nat) : partL b m f (k + 1) = partL b m f k ++ (listsI b m (f + k + 1)).map fun l => ((f + k : Nat) : Int) :: l := by
  unfold partL
  rw [List.range'_concat, List.flatMap_append]
  simp
theorem part_all (b m f : Nat) : partL b m f (b - f) = listsI b (m + 1) f := rfl
theorem part_mono (b m f k j : Nat) : (partL b m f k).length ≤ (partL b m f (k + j)).length := by
  induction j with
  | zero => exact Nat.le_refl _
  | succ j ih => rw [show k + (j + 1) = k + j + 1 by omega, part_succ, List.length_append]; omega
set_option maxHeartbeats 8000000 in
theorem f129 (b : Nat) (hb : b ≤ 5) : ∀ (m f : Nat), m ≤ 5 → f ≤ 6 → ACalls Tryz.prog 129 [vi f, vi b, vi m] (fun r => r = .pv (eRows (listsI b m f)))
  | 0, f, hm, hf => by
    refine ACalls.of_body hT Tryz.func129 rfl (by kernel_rfl) rfl ?_
    repeat (first | refine AW_pure (t := 6) rfl rfl ?_ | refine stq ?_)
    exact ⟨_, _, rfl, rfl, rfl⟩
  | m + 1, f, hm, hf => by
    have ih : ∀ g : Nat, g ≤ 6 → ACalls Tryz.prog 129 [vi g, vi b, vi m] (fun r => r = .pv (eRows (listsI b m g))) := fun g hg => f129 b hb m g (by omega) hg
    have em : ((m + 1 : Nat) : Int) - 1 = (m : Int) := by omega
    have hpl : ∀ k, k ≤ b - f → (partL b m f k).length ≤ 100 := fun k hk => by
      have h1 := part_mono b m f k (b - f - k)
      rw [show k + (b - f - k) = b - f by omega, part_all] at h1
      have := lists_bd (b := b) (m := m + 1) (f := f) (by omega) (by omega) (by omega)
      omega
    refine ACalls.of_body hT Tryz.func129 rfl (by kernel_rfl) rfl ?_
    (repeat' (first | refine stq ?_ | ((first | (with_reducible refine AL_id ?_); (fail_if_success (refine AL_glit rfl rfl rfl (by first | exact .inl (by with_reducible rfl) | exact .inr (by with_reducible rfl)) ?_)); first | refine AL_gdec rfl rfl rfl (fun hg => ?_) (fun hg => ?_) | refine AL_gnot rfl rfl rfl (fun hg => ?_) (fun hg => ?_) | refine AL_gcases rfl rfl rfl (fun hg => ?_) (fun hg => ?_)) <;> (try (exfalso; omega))) | refine AW_if rfl (fun hc => absurd hc (by omega)) (fun _ => ?_) | refine AW_if rfl (fun _ => ?_) (fun hc => absurd (by omega) hc)))
    refine AW_own_nil (e := 23) (sz := 1) (t := 7) rfl rfl ?_
    (repeat (refine stq ?_))
    refine AW_loopC (fun k : Nat => k ≤ b - f) (fun k => mkSt [(1, .pv (vi b)), (2, .pv (vi ((m + 1 : Nat) : Int))), (7, .arr 0), (8, .pv (vi ((f + k : Nat) : Int)))] [(0, .arr 23 1 ((partL b m f k).map eRow))] 1) (fun k => b - f - k) 0 (Nat.zero_le _) ?_ ?_
    · (refine Le.mk ?_ ?_; all_goals (repeat' (first | exact trivial | refine sle ?_ | refine ⟨?_, rfl, ?_⟩ | refine ⟨?_, by decide, rfl, ?_⟩ | fail)))
    · intro k hk
      (repeat (refine stq ?_))
      refine AW_if rfl (fun hc => ?_) (fun hc => ?_)
      · have hk' : k < b - f := by omega
        have kk := ih (f + k + 1) (by omega)
        have eg : ((f + k + 1 : Nat) : Int) = ((f + k : Nat) : Int) + 1 := by omega
        rw [eg] at kk
        have hsn := part_succ b m f k
        have hp1 := hpl k hk
        have hp2 := hpl (k + 1) hk'
        rw [hsn, List.length_append, List.length_map] at hp2
        have hLl : ∀ l ∈ listsI b m (f + k + 1), l.length ≤ 6 := fun l hl => by
          have := ((lists_mem b m (f + k + 1) l).1 hl).1; omega
        rw [show (m : Int) = ((m + 1 : Nat) : Int) - 1 by omega] at kk
        generalize listsI b m (f + k + 1) = L at *
        generalize partL b m f k = ts at *
        have hn2 : ((f + (k + 1) : Nat) : Int) = ((f + k : Nat) : Int) + 1 := by omega
        have hnb : 0 ≤ ((f + k : Nat) : Int) ∧ ((f + k : Nat) : Int) ≤ 100 := by omega
        generalize ((f + k : Nat) : Int) = n at *
        (repeat (refine stq ?_))
        refine AL_do2 rfl ⟨_, op_call1 rfl rfl rfl rfl (kk), ?_⟩
        (repeat (refine stq ?_))
        refine AW_loopC (fun i : Nat => i ≤ L.length) (fun i => mkSt [(1, .pv (vi b)), (2, .pv (vi ((m + 1 : Nat) : Int))), (7, .arr 0), (8, .pv (vi n)), (9, .pv (eRows L)), (10, .pv (vi i))] [(0, .arr 23 1 ((ts ++ (L.take i).map fun l => n :: l).map eRow))] 1) (fun i => L.length - i) 0 (Nat.zero_le _) ?_ ?_
        · (refine Le.mk ?_ ?_; all_goals (repeat' (first | exact trivial | refine sle ?_ | refine ⟨?_, rfl, ?_⟩ | refine ⟨?_, by decide, rfl, ?_⟩ | fail)))
          rw [List.take_zero, List.map_nil, List.append_nil]; rfl
        · intro i hi
          (repeat (refine stq ?_))
          refine AW_if rfl (fun hc2 => ?_) (fun hc2 => ?_)
          · have hi' : i < L.length := by omega
            obtain ⟨l, hl⟩ : ∃ l, L[i]? = some l := ⟨L[i], by simp [hi']⟩
            have e1 := get_map eRow hl
            have hll := hLl l (List.mem_of_getElem? hl)
            have hsi : ts ++ (L.take (i + 1)).map (fun l => n :: l) = (ts ++ (L.take i).map fun l => n :: l) ++ [n :: l] := by
              rw [List.take_add_one, hl, List.map_append, ← List.append_assoc]; rfl
            have hul : (ts ++ (L.take i).map fun l => n :: l).length ≤ 200 := by simp; omega
            generalize (ts ++ (L.take i).map fun l => n :: l) = us at *
            (repeat (refine stq ?_))
            refine AL_pure (t := 39) rfl rfl ?_
            (repeat (refine stq ?_))
            refine ⟨i + 1, hi', by omega, ?_⟩
            rw [hsi]
            (refine Le.mkR [(0, 4)] ?_ ?_ rfl; all_goals (repeat' (first | exact trivial | refine sle ?_ | refine ⟨?_, rfl, ?_⟩ | refine ⟨?_, by decide, rfl, ?_⟩ | fail)))
            rw [List.map_append]; rfl
          · have hi' : i = L.length := by omega
            subst hi'
            rw [List.take_length]
            (repeat (refine stq ?_))
            refine ⟨k + 1, hk', by omega, ?_⟩
            rw [hsn, hn2]
            (refine Le.mk ?_ ?_; all_goals (repeat' (first | exact trivial | refine sle ?_ | refine ⟨?_, rfl, ?_⟩ | refine ⟨?_, by decide, rfl, ?_⟩ | fail)))
      · have hk' : k = b - f := by omega
        subst hk'
        rw [part_all]
        refine AW_pure (t := 7) rfl rfl ?_
        (repeat (refine stq ?_))
        exact ⟨_, _, rfl, rfl, rfl⟩
theorem winR_len (d : Drum) : (winR d).length = d.batches.length := by simp [winR]
end Go.Abs
namespace Go.Abs
open Go.Proofs
set_option linter.unusedVariables false
set_option linter.unusedSimpArgs false
set_option maxRecDepth 100000
section
variable {nt : Nat} {o : Oper} {s : ASt}
end
end Go.Abs
