/- DyeLaid, DyeProven. -/
import Derived.Test.YtkmclnjmabljdaaGreatDoorNhR
import Derived.Test.YtkmclnjmabljdaaGreatDoorNhT
import Derived.Test.YtkmclnjmabljdaaGreatDoorNcAbsAG
set_option linter.unusedVariables false
set_option linter.unusedSimpArgs false

namespace Go.Abs
open Go.Proofs
set_option linter.unusedVariables false
set_option linter.unusedSimpArgs false
set_option maxRecDepth 100000

theorem layGo_prefix (tire eye : Int) : ∀ (l : List Int) (n : Int) (out firsts : List Int), ∃ r, layGo tire eye l n out firsts = out ++ r
  | [], n, out, firsts => ⟨[], by simp [layGo]⟩
  | x :: l, n, out, firsts => by
    unfold layGo
    split
    · obtain ⟨r, hr⟩ := layGo_prefix tire eye l (n + 1) (out ++ [(firsts.length : Int)]) (firsts ++ [x])
      exact ⟨(firsts.length : Int) :: r, by rw [hr]; simp⟩
    · obtain ⟨r, hr⟩ := layGo_prefix tire eye l (n + 1) (out ++ [idxFrom (near tire eye n x) firsts 0]) firsts
      exact ⟨idxFrom (near tire eye n x) firsts 0 :: r, by rw [hr]; simp⟩
theorem idx_lt (p : Int → Bool) (l : List Int) (h : ¬ idxFrom p l 0 < 0) : 0 ≤ idxFrom p l 0 ∧ idxFrom p l 0 < l.length := by
  obtain ⟨j, h1, h2, _⟩ := idxFrom_some p l 0 (Int.le_refl _) (by omega)
  omega
theorem layGo_bd (tire eye : Int) : ∀ (l : List Int) (n : Int) (out firsts : List Int) (N : Nat), (∀ v ∈ out, 0 ≤ v ∧ v ≤ N) → firsts.length + l.length ≤ N → ∀ v ∈ layGo tire eye l n out firsts, 0 ≤ v ∧ v ≤ N
  | [], n, out, firsts, N, ho, _ => by simpa [layGo] using ho
  | x :: l, n, out, firsts, N, ho, hN => by
    unfold layGo
    simp only [List.length_cons] at hN
    split
    · exact layGo_bd tire eye l (n + 1) _ _ N (fun v hv => by
        rcases List.mem_append.1 hv with h | h
        · exact ho v h
        · simp only [List.mem_singleton] at h; omega) (by simp; omega)
    · rename_i hx
      have := idx_lt _ _ hx
      exact layGo_bd tire eye l (n + 1) _ _ N (fun v hv => by
        rcases List.mem_append.1 hv with h | h
        · exact ho v h
        · simp only [List.mem_singleton] at h; omega) (by omega)
theorem layI_bd (tire : Int) (l : List Int) (eye : Int) : ∀ v ∈ layI tire l eye, 0 ≤ v ∧ v ≤ (l.length : Int) := layGo_bd tire eye l 0 [] [] l.length (by simp) (by simp)
/-- The tray of a button: the first one whose first button looks like it, or a new one. -/
def trayI (tire eye n x : Int) (firsts : List Int) : Int := if idxFrom (near tire eye n x) firsts 0 < 0 then (firsts.length : Int) else idxFrom (near tire eye n x) firsts 0
def nextI (tire eye n x : Int) (firsts : List Int) : List Int := if idxFrom (near tire eye n x) firsts 0 < 0 then firsts ++ [x] else firsts
theorem layGo_step (tire eye : Int) {l : List Int} {k : Nat} {x : Int} (h : l[k]? = some x) (n : Int) (out firsts : List Int) : layGo tire eye (l.drop k) n out firsts = layGo tire eye (l.drop (k + 1)) (n + 1) (out ++ [trayI tire eye n x firsts]) (nextI tire eye n x firsts) := by
  rw [layGo_drop tire eye h]
  unfold trayI nextI
  split <;> rfl
theorem tray_bd (tire eye n x : Int) (firsts : List Int) : 0 ≤ trayI tire eye n x firsts ∧ trayI tire eye n x firsts ≤ firsts.length := by
  unfold trayI
  split
  · omega
  · rename_i h
    have := idx_lt _ _ h; omega
theorem tray_near {tire eye n x : Int} {firsts : List Int} {j : Nat} {f : Int} (hf : firsts[j]? = some f) (hj : (j : Int) ≤ trayI tire eye n x firsts) : near tire eye n x f = decide ((j : Int) = trayI tire eye n x firsts) := by
  have hjl := (List.getElem?_eq_some_iff.1 hf).1
  unfold trayI at hj ⊢
  by_cases h : idxFrom (near tire eye n x) firsts 0 < 0
  · rw [if_pos h, decide_eq_false (by omega)]
    have h1 : idxFrom (near tire eye n x) firsts 0 = -1 := by
      rcases Decidable.em (idxFrom (near tire eye n x) firsts 0 = -1) with h1 | h1
      · exact h1
      · obtain ⟨i, h2, _⟩ := idxFrom_some (near tire eye n x) firsts 0 (Int.le_refl _) h1; omega
    exact idxFrom_none _ firsts 0 (Int.le_refl _) h1 f (List.mem_of_getElem? hf)
  · rw [if_neg h] at hj ⊢
    obtain ⟨i, h2, h3, h4, y, h5, h6⟩ := idxFrom_some (near tire eye n x) firsts 0 (Int.le_refl _) (by omega)
    by_cases hij : j = i
    · subst hij
      rw [hf] at h5; cases h5
      rw [h6, decide_eq_true (by omega)]
    · rw [decide_eq_false (by omega)]
      exact h4 f (List.mem_of_getElem? (i := j) (by rw [List.getElem?_take, if_pos (by omega)]; exact hf))
theorem tray_new {tire eye n x : Int} {firsts : List Int} : nextI tire eye n x firsts = if trayI tire eye n x firsts = firsts.length then firsts ++ [x] else firsts := by
  unfold nextI trayI
  by_cases h : idxFrom (near tire eye n x) firsts 0 < 0
  · rw [if_pos h, if_pos h, if_pos rfl]
  · have := idx_lt _ _ h
    rw [if_neg h, if_neg h, if_neg (by omega)]
abbrev ldO (s : Sorter) (firsts : List Int) : List (Nat × AObj) := [(0, .box [.pv (vi s.eye.low), .pv (vi s.eye.high), .pv (vi s.tire), .pv (eSpans s.looks)]), (1, .arr 3 1 (firsts.map eInt))]
theorem looks_of {s : Sorter} {l : List Int} {eye : Int} (hP : SorterP s) (q2 : looksB s l eye = true) : l.length = s.looks.length ∧ bdL 3000 l ∧ s.eye.low ≤ eye ∧ eye ≤ s.eye.high ∧ inS l s.looks := by
  simp only [looksB, inB, Bool.and_eq_true, decide_eq_true_eq] at q2
  have h1 := within_iff.1 q2.1
  have h2 := q2.1
  simp only [withinB, Bool.and_eq_true, decide_eq_true_eq] at h2
  exact ⟨h2.1, allIn_bd (c := 3000) h2.1 h2.2 fun x hx => by have := hP.looks x hx; omega, q2.2.1, q2.2.2, h1⟩
set_option maxHeartbeats 4000000 in
theorem f7 (s : Sorter) (l : List Int) (eye : Int) : ACalls Tryz.prog 7 [eSorter s, eInts l, vi eye] (fun r => r = .pv (.bool true)) := by
  refine ACalls.of_body hT Tryz.func7 rfl (by kernel_rfl) rfl ?_
  by_cases hs : s.looks.length ≤ 6 ∧ l.length ≤ 6
  · obtain ⟨h1, h2⟩ := hs
    have k51 := f51 s (by omega)
    have k52 := f52 s l eye (by omega) (by omega)
    have k53 := f53 s l eye (by omega) (by omega)
    cases q1 : isSorterB s with
    | false =>
      rw [q1] at k51
      (repeat' (first | (exfalso; omega) | refine AW_if rfl (fun hc => absurd hc (by omega)) (fun _ => ?_) | refine AW_if rfl (fun _ => ?_) (fun hc => absurd (by omega) hc) | refine stq ?_ | (refine AL_do2 rfl ?_; first | refine ⟨_, op_call1 rfl rfl rfl rfl (k51), nrmA rfl ?_⟩ | refine ⟨_, op_call1 rfl rfl rfl rfl (f28), nrmA rfl ?_⟩) | (with_reducible refine AL_id ?_); (fail_if_success (refine AL_glit rfl rfl rfl (by first | exact .inl (by with_reducible rfl) | exact .inr (by with_reducible rfl)) ?_)); first | refine AL_gdec rfl rfl rfl (fun hg => ?_) (fun hg => ?_) | refine AL_gnot rfl rfl rfl (fun hg => ?_) (fun hg => ?_) | refine AL_gcases rfl rfl rfl (fun hg => ?_) (fun hg => ?_)))
      all_goals exact ⟨_, _, rfl, rfl, rfl⟩
    | true =>
      rw [q1] at k51
      cases q2 : looksB s l eye with
      | false =>
        rw [q2] at k52
        (repeat' (first | (exfalso; omega) | refine AW_if rfl (fun hc => absurd hc (by omega)) (fun _ => ?_) | refine AW_if rfl (fun _ => ?_) (fun hc => absurd (by omega) hc) | refine stq ?_ | (refine AL_do2 rfl ?_; first | refine ⟨_, op_call1 rfl rfl rfl rfl (k51), nrmA rfl ?_⟩ | refine ⟨_, op_call1 rfl rfl rfl rfl (k52), nrmA rfl ?_⟩ | refine ⟨_, op_call1 rfl rfl rfl rfl (f28), nrmA rfl ?_⟩) | (with_reducible refine AL_id ?_); (fail_if_success (refine AL_glit rfl rfl rfl (by first | exact .inl (by with_reducible rfl) | exact .inr (by with_reducible rfl)) ?_)); first | refine AL_gdec rfl rfl rfl (fun hg => ?_) (fun hg => ?_) | refine AL_gnot rfl rfl rfl (fun hg => ?_) (fun hg => ?_) | refine AL_gcases rfl rfl rfl (fun hg => ?_) (fun hg => ?_)))
        all_goals exact ⟨_, _, rfl, rfl, rfl⟩
      | true =>
        rw [q2] at k52
        rw [show layE s l eye = (layI s.tire l eye, 0) by unfold layE; rw [if_pos (by rw [q1, Bool.true_and]; exact q2)]] at k53
        have hP := sorterP_of q1
        have hey := hP.eye
        have hti := hP.tire
        obtain ⟨g1, g2, g3, g4, g5⟩ := looks_of hP q2
        have hyl := layI_len s.tire l eye
        have hlay : layI s.tire l eye = layGo s.tire eye (l.drop 0) 0 [] [] := rfl
        generalize layI s.tire l eye = y at k53 hyl hlay
        have k53 : ACalls Tryz.prog 53 [eSorter s, eInts l, vi eye] (fun r => r = .tup [eInts y, vi 0]) := k53
        (repeat' (first | (exfalso; omega) | refine AW_if rfl (fun hc => absurd hc (by omega)) (fun _ => ?_) | refine AW_if rfl (fun _ => ?_) (fun hc => absurd (by omega) hc) | refine stq ?_ | (refine AL_do2 rfl ?_; first | refine ⟨_, op_call1 rfl rfl rfl rfl (k51), nrmA rfl ?_⟩ | refine ⟨_, op_call1 rfl rfl rfl rfl (k52), nrmA rfl ?_⟩ | refine ⟨_, op_call1 rfl rfl rfl rfl (k53), nrmA rfl ?_⟩) | (with_reducible refine AL_id ?_); (fail_if_success (refine AL_glit rfl rfl rfl (by first | exact .inl (by with_reducible rfl) | exact .inr (by with_reducible rfl)) ?_)); first | refine AL_gdec rfl rfl rfl (fun hg => ?_) (fun hg => ?_) | refine AL_gnot rfl rfl rfl (fun hg => ?_) (fun hg => ?_) | refine AL_gcases rfl rfl rfl (fun hg => ?_) (fun hg => ?_)))
        refine AW_own_nil (e := 3) (sz := 1) (t := 9) rfl rfl ?_
        (repeat (refine stq ?_))
        refine AW_loopC (fun i : Nat × List Int × List Int => i.1 ≤ l.length ∧ i.2.1.length = i.1 ∧ i.2.2.length ≤ i.1 ∧ bdL 3000 i.2.2 ∧ y = layGo s.tire eye (l.drop i.1) i.1 i.2.1 i.2.2)
          (fun i => mkSt [(1, .pv (eInts l)), (2, .pv (vi eye)), (3, .box 0 0), (7, .pv (eInts y)), (9, .arr 1), (10, .pv (vi i.1))] (ldO s i.2.2) 2) (fun i => l.length - i.1) (0, [], []) ⟨Nat.zero_le _, rfl, Nat.le_refl _, by simp [bdL], hlay⟩ ?_ ?_
        · (refine Le.mk ?_ ?_; all_goals (repeat' (first | exact trivial | refine sle ?_ | refine ⟨?_, rfl, ?_⟩ | refine ⟨?_, by decide, rfl, ?_⟩ | fail)))
        · rintro ⟨k, out, firsts⟩ ⟨hk, ho, hf, hfb, hi⟩
          simp only at hk ho hf hfb hi
          dsimp only
          (repeat (refine stq ?_))
          refine AW_if rfl (fun hc => ?_) (fun hc => ?_)
          · have hk' : k < l.length := by omega
            obtain ⟨x, hx⟩ : ∃ x, l[k]? = some x := ⟨l[k], by simp [hk']⟩
            have e1 := get_map eInt hx
            have hxb := g2 x (List.mem_of_getElem? hx)
            rw [layGo_step s.tire eye hx] at hi
            obtain ⟨r, hr⟩ := layGo_prefix s.tire eye (l.drop (k + 1)) (k + 1) (out ++ [trayI s.tire eye k x firsts]) (nextI s.tire eye k x firsts)
            have hv : y[k]? = some (trayI s.tire eye k x firsts) := by rw [hi, hr, ← ho]; simp
            have htb := tray_bd s.tire eye k x firsts
            have htn : ∀ (j : Nat) f, firsts[j]? = some f → (j : Int) ≤ trayI s.tire eye k x firsts → near s.tire eye k x f = decide ((j : Int) = trayI s.tire eye k x firsts) := fun j f hf hj => tray_near hf hj
            have hnx := @tray_new s.tire eye k x firsts
            generalize trayI s.tire eye k x firsts = v at *
            have e2 := get_map eInt hv
            have p := mul_bd (a := 1000) (b := 1000) (x := (k : Int)) (n := s.tire) (by omega) (by omega)
            have m1 : -9223372036854775808 ≤ (k : Int) * s.tire ∧ (k : Int) * s.tire ≤ 9223372036854775807 := by omega
            have hfl : (firsts.map eInt).length = firsts.length := by simp
            (repeat' (first | (exfalso; omega) | refine AW_if rfl (fun hc => absurd hc (by omega)) (fun _ => ?_) | refine AW_if rfl (fun _ => ?_) (fun hc => absurd (by omega) hc) | refine stq ?_ | (with_reducible refine AL_id ?_); (fail_if_success (refine AL_glit rfl rfl rfl (by first | exact .inl (by with_reducible rfl) | exact .inr (by with_reducible rfl)) ?_)); first | refine AL_gdec rfl rfl rfl (fun hg => ?_) (fun hg => ?_) | refine AL_gnot rfl rfl rfl (fun hg => ?_) (fun hg => ?_) | refine AL_gcases rfl rfl rfl (fun hg => ?_) (fun hg => ?_)))
            refine AW_loopC (fun j : Nat => j ≤ firsts.length) (fun j => mkSt [(1, .pv (eInts l)), (2, .pv (vi eye)), (3, .box 0 0), (7, .pv (eInts y)), (9, .arr 1), (10, .pv (vi k)), (11, .pv (vi j))] (ldO s firsts) 2) (fun j => firsts.length - j) 0 (Nat.zero_le _) ?_ ?_
            · (refine Le.mk ?_ ?_; all_goals (repeat' (first | exact trivial | refine sle ?_ | refine ⟨?_, rfl, ?_⟩ | refine ⟨?_, by decide, rfl, ?_⟩ | fail)))
            · intro j hj
              by_cases hjl : j < firsts.length
              · by_cases hjv : (j : Int) ≤ v
                · obtain ⟨f, hfx⟩ : ∃ f, firsts[j]? = some f := ⟨firsts[j], by simp [hjl]⟩
                  have e3 : (firsts.map eInt)[j]? = some (eInt f) := by rw [List.getElem?_map, hfx]; rfl
                  have hfbd := hfb f (List.mem_of_getElem? hfx)
                  have hnear := htn j f hfx hjv
                  unfold near at hnear
                  (repeat' (first | (exfalso; omega) | refine AW_if rfl (fun hc => absurd hc (by omega)) (fun _ => ?_) | refine AW_if rfl (fun _ => ?_) (fun hc => absurd (by omega) hc) | refine stq ?_ | (with_reducible refine AL_id ?_); (fail_if_success (refine AL_glit rfl rfl rfl (by first | exact .inl (by with_reducible rfl) | exact .inr (by with_reducible rfl)) ?_)); first | refine AL_gdec rfl rfl rfl (fun hg => ?_) (fun hg => ?_) | refine AL_gnot rfl rfl rfl (fun hg => ?_) (fun hg => ?_) | refine AL_gcases rfl rfl rfl (fun hg => ?_) (fun hg => ?_)))
                  (repeat (refine sdq ?_))
                  refine DG_next (D_indexAddr_arr (n := (j : Int)) hT rfl rfl rfl rfl rfl rfl rfl rfl rfl (by omega) (by rw [hfl]; omega) rfl) ?_
                  refine DG_next (D_load_aptr (el := eInt f) hT rfl rfl rfl rfl rfl rfl e3 rfl) ?_
                  (repeat (refine sdq ?_))
                  refine DG_next (D_indexAddr_arr (n := (j : Int)) hT rfl rfl rfl rfl rfl rfl rfl rfl rfl (by omega) (by rw [hfl]; omega) rfl) ?_
                  refine DG_next (D_load_aptr (el := eInt f) hT rfl rfl rfl rfl rfl rfl e3 rfl) ?_
                  (repeat (refine sdq ?_))
                  refine DG_end hM (by kernel_rfl) ?_
                  (repeat (refine stq ?_))
                  by_cases hje : (j : Int) = v
                  · iterate 7 (refine sdq ?_)
                    refine DG_boolT hT rfl (hnear.trans (decide_eq_true hje)) ?_
                    iterate 5 (refine sdq ?_)
                    refine DG_boolT hT rfl (decide_eq_true hje) ?_
                    refine DG_next (D_neqB hT rfl rfl rfl rfl rfl rfl rfl) ?_
                    refine DG_end hM (by kernel_rfl) ?_
                    (repeat (refine stq ?_))
                    refine ⟨j + 1, hjl, by omega, ?_⟩
                    (refine Le.mk ?_ ?_; all_goals (repeat' (first | exact trivial | refine sle ?_ | refine ⟨?_, rfl, ?_⟩ | refine ⟨?_, by decide, rfl, ?_⟩ | fail)))
                  · iterate 7 (refine sdq ?_)
                    refine DG_boolF hT rfl (hnear.trans (decide_eq_false hje)) ?_
                    iterate 5 (refine sdq ?_)
                    refine DG_boolF hT rfl (decide_eq_false hje) ?_
                    refine DG_next (D_neqB hT rfl rfl rfl rfl rfl rfl rfl) ?_
                    refine DG_end hM (by kernel_rfl) ?_
                    (repeat (refine stq ?_))
                    refine ⟨j + 1, hjl, by omega, ?_⟩
                    (refine Le.mk ?_ ?_; all_goals (repeat' (first | exact trivial | refine sle ?_ | refine ⟨?_, rfl, ?_⟩ | refine ⟨?_, by decide, rfl, ?_⟩ | fail)))
                · (repeat' (first | (exfalso; omega) | refine AW_if rfl (fun hc => absurd hc (by omega)) (fun _ => ?_) | refine AW_if rfl (fun _ => ?_) (fun hc => absurd (by omega) hc) | refine stq ?_ | (with_reducible refine AL_id ?_); (fail_if_success (refine AL_glit rfl rfl rfl (by first | exact .inl (by with_reducible rfl) | exact .inr (by with_reducible rfl)) ?_)); first | refine AL_gdec rfl rfl rfl (fun hg => ?_) (fun hg => ?_) | refine AL_gnot rfl rfl rfl (fun hg => ?_) (fun hg => ?_) | refine AL_gcases rfl rfl rfl (fun hg => ?_) (fun hg => ?_)))
                  have hc4 : ¬ v = (firsts.length : Int) := by omega
                  rw [if_neg hc4] at hnx
                  refine ⟨(k + 1, out ++ [v], firsts), ⟨hk', by simp [ho], by simp only; omega, hfb, by rw [hi, hnx]; simp⟩, by simp only; omega, ?_⟩
                  (refine Le.mk ?_ ?_; all_goals (repeat' (first | exact trivial | refine sle ?_ | refine ⟨?_, rfl, ?_⟩ | refine ⟨?_, by decide, rfl, ?_⟩ | fail)))
              · by_cases hjv : (j : Int) ≤ v
                · (repeat' (first | (exfalso; omega) | refine AW_if rfl (fun hc => absurd hc (by omega)) (fun _ => ?_) | refine AW_if rfl (fun _ => ?_) (fun hc => absurd (by omega) hc) | refine stq ?_ | (with_reducible refine AL_id ?_); (fail_if_success (refine AL_glit rfl rfl rfl (by first | exact .inl (by with_reducible rfl) | exact .inr (by with_reducible rfl)) ?_)); first | refine AL_gdec rfl rfl rfl (fun hg => ?_) (fun hg => ?_) | refine AL_gnot rfl rfl rfl (fun hg => ?_) (fun hg => ?_) | refine AL_gcases rfl rfl rfl (fun hg => ?_) (fun hg => ?_)))
                  have hc4 : v = (firsts.length : Int) := by omega
                  rw [if_pos hc4] at hnx
                  refine ⟨(k + 1, out ++ [v], firsts ++ [x]), ⟨hk', by simp [ho], by simp; omega, ?_, by rw [hi, hnx]; simp⟩, by simp only; omega, ?_⟩
                  · intro z hz; rcases List.mem_append.1 hz with hz | hz
                    · exact hfb z hz
                    · simp at hz; subst hz; exact hxb
                  · (refine Le.mkR [(1, 3)] ?_ ?_ rfl; all_goals (repeat' (first | exact trivial | refine sle ?_ | refine ⟨?_, rfl, ?_⟩ | refine ⟨?_, by decide, rfl, ?_⟩ | fail)))
                    simp [List.map_append]; rfl
                · (repeat' (first | (exfalso; omega) | refine AW_if rfl (fun hc => absurd hc (by omega)) (fun _ => ?_) | refine AW_if rfl (fun _ => ?_) (fun hc => absurd (by omega) hc) | refine stq ?_ | (with_reducible refine AL_id ?_); (fail_if_success (refine AL_glit rfl rfl rfl (by first | exact .inl (by with_reducible rfl) | exact .inr (by with_reducible rfl)) ?_)); first | refine AL_gdec rfl rfl rfl (fun hg => ?_) (fun hg => ?_) | refine AL_gnot rfl rfl rfl (fun hg => ?_) (fun hg => ?_) | refine AL_gcases rfl rfl rfl (fun hg => ?_) (fun hg => ?_)))
                  have hc4 : ¬ v = (firsts.length : Int) := by omega
                  rw [if_neg hc4] at hnx
                  refine ⟨(k + 1, out ++ [v], firsts), ⟨hk', by simp [ho], by simp only; omega, hfb, by rw [hi, hnx]; simp⟩, by simp only; omega, ?_⟩
                  (refine Le.mk ?_ ?_; all_goals (repeat' (first | exact trivial | refine sle ?_ | refine ⟨?_, rfl, ?_⟩ | refine ⟨?_, by decide, rfl, ?_⟩ | fail)))
          · (repeat' (first | refine stq ?_ | (refine AL_do2 rfl ?_; first | refine ⟨_, op_call1 rfl rfl rfl rfl (f28), nrmA rfl ?_⟩) | (with_reducible refine AL_id ?_); (fail_if_success (refine AL_glit rfl rfl rfl (by first | exact .inl (by with_reducible rfl) | exact .inr (by with_reducible rfl)) ?_)); first | refine AL_gdec rfl rfl rfl (fun hg => ?_) (fun hg => ?_) | refine AL_gnot rfl rfl rfl (fun hg => ?_) (fun hg => ?_) | refine AL_gcases rfl rfl rfl (fun hg => ?_) (fun hg => ?_)))
            exact ⟨_, _, rfl, rfl, rfl⟩
  · (repeat' (first | (exfalso; omega) | refine AW_if rfl (fun hc => absurd hc (by omega)) (fun _ => ?_) | refine AW_if rfl (fun _ => ?_) (fun hc => absurd (by omega) hc) | refine stq ?_ | (refine AL_do2 rfl ?_; first | refine ⟨_, op_call1 rfl rfl rfl rfl (f28), nrmA rfl ?_⟩) | (with_reducible refine AL_id ?_); (fail_if_success (refine AL_glit rfl rfl rfl (by first | exact .inl (by with_reducible rfl) | exact .inr (by with_reducible rfl)) ?_)); first | refine AL_gdec rfl rfl rfl (fun hg => ?_) (fun hg => ?_) | refine AL_gnot rfl rfl rfl (fun hg => ?_) (fun hg => ?_) | refine AL_gcases rfl rfl rfl (fun hg => ?_) (fun hg => ?_)))
    all_goals exact ⟨_, _, rfl, rfl, rfl⟩
theorem colI_ne {F : List (List Int × Int)} {y : List Int × Int} (h : y ∈ F) (i : Nat) : colI F i ≠ [] := by
  simp only [colI, ne_eq, List.map_eq_nil_iff]; exact List.ne_nil_of_mem h
theorem inS_getD : ∀ {l : List Span} {x : List Int}, inS x l → ∀ (k : Nat) (s : Span), l[k]? = some s → s.low ≤ x.getD k 0 ∧ x.getD k 0 ≤ s.high
  | [], x, _, k, s, h => by simp at h
  | t :: l, [], h, _, _, _ => h.elim
  | t :: l, y :: x, ⟨h1, h2, h3⟩, 0, s, hs => by simp only [List.getElem?_cons_zero, Option.some.injEq] at hs; subst hs; simpa using ⟨h1, h2⟩
  | t :: l, y :: x, ⟨h1, h2, h3⟩, k + 1, s, hs => by simpa using inS_getD h3 k s (by simpa using hs)
theorem truth_mem {s : Sorter} {l : List Int} {e : Int} (h1 : inS l s.looks) (h2 : s.eye.low ≤ e ∧ e ≤ s.eye.high) : (l, e) ∈ truthsR s := by
  rw [truthsR_mem]
  exact List.mem_flatMap.2 ⟨l, numsL_mem.2 h1, List.mem_map.2 ⟨e, rangeI_mem.2 h2, rfl⟩⟩
/-- What trays prove holds the looks and the eye that they came of. -/
theorem proves_in {s : Sorter} {l : List Int} {eye : Int} (h1 : inS l s.looks) (h2 : s.eye.low ≤ eye ∧ eye ≤ s.eye.high) :
    (provesL s (layI s.tire l eye)).2.2 = true ∧ (provesL s (layI s.tire l eye)).1.length = s.looks.length ∧
    (provesL s (layI s.tire l eye)).2.1.low ≤ eye ∧ eye ≤ (provesL s (layI s.tire l eye)).2.1.high ∧
    ∀ (n : Nat) (x : Int) (u v : Span), l[n]? = some x → (provesL s (layI s.tire l eye)).1[n]? = some u → s.looks[n]? = some v → u.low ≤ x ∧ x ≤ u.high ∧ v.low ≤ u.low ∧ u.high ≤ v.high := by
  have hm : (l, eye) ∈ sameI s (layI s.tire l eye) (truthsR s) := by
    simp only [sameI, List.mem_filter, decide_eq_true_eq]; exact ⟨truth_mem h1 h2, trivial⟩
  have hall : ∀ y ∈ sameI s (layI s.tire l eye) (truthsR s), inS y.1 s.looks := fun y hy => by
    have := truthsR_mem.1 (List.mem_filter.1 hy).1
    simp only [truthsI, List.mem_flatMap, List.mem_map] at this
    obtain ⟨z, hz, e, _, rfl⟩ := this
    exact numsL_mem.1 hz
  unfold provesL
  generalize sameI s (layI s.tire l eye) (truthsR s) = F at hm hall
  have he := span_mem (l := eyesI F) (by simp only [eyesI, ne_eq, List.map_eq_nil_iff]; exact List.ne_nil_of_mem hm)
  have hei := he.2.2 eye (List.mem_map.2 ⟨_, hm, rfl⟩)
  refine ⟨decide_eq_true (List.ne_nil_of_mem hm), hulls_len _ _, hei.1, hei.2, fun n x u v hx hu hv => ?_⟩
  have hn : n < s.looks.length := (List.getElem?_eq_some_iff.1 hv).1
  rw [hulls_get hn] at hu
  cases hu
  obtain ⟨c1, c2, c3⟩ := span_mem (colI_ne hm n)
  have hxi := c3 x (List.mem_map.2 ⟨_, hm, by simp [List.getD, hx]⟩)
  obtain ⟨y, hy, e1⟩ := List.mem_map.1 c1
  obtain ⟨z, hz, e2⟩ := List.mem_map.1 c2
  have b1 := inS_getD (hall y hy) n v hv
  have b2 := inS_getD (hall z hz) n v hv
  rw [e1] at b1; rw [e2] at b2
  exact ⟨hxi.1, hxi.2, b1.1, b2.2⟩
theorem together_facts {s : Sorter} {l : List Int} {eye a b : Int} (h1 : inS l s.looks) (h2 : s.eye.low ≤ eye ∧ eye ≤ s.eye.high) {u v : Int} (hu : (layI s.tire l eye)[a.toNat]? = some u) (hv : (layI s.tire l eye)[b.toNat]? = some v) :
    togetherL s a b = togetherL s b a ∧ (togetherL s a b = 1 ∧ ¬ u = v ∧ ¬ a = b ∨ togetherL s a b = 2 ∧ ¬ a = b ∨ togetherL s a b = 3 ∧ u = v) := by
  have hm := truth_mem h1 h2
  have hne : truthsR s ≠ [] := List.ne_nil_of_mem hm
  have hsy : sameTray s a b = sameTray s b a := funext fun y => by
    unfold sameTray; exact decide_eq_decide.2 eq_comm
  have hs : sameTray s a b (l, eye) = decide (u = v) := by
    unfold sameTray; simp [List.getD, hu, hv]
  refine ⟨by unfold togetherL; rw [hsy], ?_⟩
  unfold togetherL
  rw [word_any _ _ hne]
  have ha1 : (truthsR s).any (sameTray s a b) = false → ¬ u = v ∧ ¬ a = b := fun h => by
    have h3 := List.any_eq_false.1 h _ hm
    rw [hs] at h3
    refine ⟨by simpa using h3, fun hab => ?_⟩
    subst hab
    rw [hu] at hv; cases hv
    simp at h3
  have ha2 : ((truthsR s).any fun x => !sameTray s a b x) = false → u = v := fun h => by
    have h3 := List.any_eq_false.1 h _ hm
    rw [hs] at h3
    simpa using h3
  have ha3 : a = b → ((truthsR s).any fun x => !sameTray s a b x) = false := fun h => by
    subst h
    rw [List.any_eq_false]; intro y _; simp [sameTray]
  unfold wordI
  cases q1 : ((truthsR s).any fun x => !sameTray s a b x) with
  | false => exact .inr (.inr ⟨rfl, ha2 q1⟩)
  | true =>
    have hab : ¬ a = b := fun h => by rw [ha3 h] at q1; cases q1
    cases q2 : (truthsR s).any (sameTray s a b) with
    | false => exact .inl ⟨rfl, (ha1 q2).1, hab⟩
    | true => exact .inr (.inl ⟨rfl, hab⟩)
end Go.Abs
