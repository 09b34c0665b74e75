/- Sorters: what trays prove, and the laws of it. -/
import Derived.Test.YtkmclnjmabljdaaGreatDoorNhQ
set_option linter.unusedVariables false
set_option linter.unusedSimpArgs false

namespace Go.Abs
open Go.Proofs
set_option linter.unusedVariables false
set_option linter.unusedSimpArgs false
set_option maxRecDepth 100000

theorem hulls_nil (n : Nat) : (hullsI n []).map eSpan = List.replicate n [vi 0, vi 0] := by
  refine List.ext_getElem? fun i => ?_
  rw [List.getElem?_map, List.getElem?_replicate]
  rcases Nat.lt_or_ge i n with h | h
  · rw [hulls_get h, if_pos h]; rfl
  · rw [List.getElem?_eq_none (by simp [hulls_len]; omega), if_neg (by omega)]; rfl
theorem wid_col {F : List (List Int × Int)} {x : List Int} {e n : Int} {j : Nat} (h : x[j]? = some n) : widR (!decide (F ≠ [])) (spanOf (colI F j)) n = spanOf (colI (F ++ [(x, e)]) j) := by
  have e1 : colI (F ++ [(x, e)]) j = colI F j ++ [n] := by simp [colI, List.getD, h]
  rw [e1, spanOf_snoc]
  by_cases hF : F = []
  · subst hF; simp [widR, colI]
  · have hc : colI F j ≠ [] := by simp [colI, hF]
    rw [if_neg hc]; simp [widR, hF]
theorem wid_eye {F : List (List Int × Int)} {x : List Int} {e : Int} : widR (!decide (F ≠ [])) (spanOf (eyesI F)) e = spanOf (eyesI (F ++ [(x, e)])) := by
  have e1 : eyesI (F ++ [(x, e)]) = eyesI F ++ [e] := by simp [eyesI]
  rw [e1, spanOf_snoc]
  by_cases hF : F = []
  · subst hF; simp [widR, eyesI]
  · have hc : eyesI F ≠ [] := by simp [eyesI, hF]
    rw [if_neg hc]; simp [widR, hF]
/-- The spans while the first j of them have been widened. -/
def mixI (n : Nat) (F G : List (List Int × Int)) (j : Nat) : List Span := (hullsI n G).take j ++ (hullsI n F).drop j
theorem mix_len {n j : Nat} {F G : List (List Int × Int)} (h : j ≤ n) : (mixI n F G j).length = n := by simp [mixI, hulls_len]; omega
theorem mix_get {n j : Nat} {F G : List (List Int × Int)} (h : j < n) : (mixI n F G j)[j]? = some (spanOf (colI F j)) := by
  unfold mixI
  rw [List.getElem?_append_right (by simp [hulls_len]; omega), List.getElem?_drop]
  have e : j + (j - (List.take j (hullsI n G)).length) = j := by simp [hulls_len]; omega
  rw [e, hulls_get h]
theorem mix_set {n j : Nat} {F G : List (List Int × Int)} (h : j < n) : (mixI n F G j).set j (spanOf (colI G j)) = mixI n F G (j + 1) := by
  unfold mixI
  have hl : (List.take j (hullsI n G)).length = j := by simp [hulls_len]; omega
  rw [List.set_append_right _ _ (by omega), hl, Nat.sub_self, List.take_add_one, hulls_get h, List.append_assoc]
  congr 1
  have hj : j < (hullsI n F).length := by rw [hulls_len]; exact h
  rw [List.drop_eq_getElem_cons hj]; rfl
theorem mix_zero {n : Nat} {F G : List (List Int × Int)} : mixI n F G 0 = hullsI n F := by simp [mixI]
theorem mix_end {n : Nat} {F G : List (List Int × Int)} : mixI n F G n = hullsI n G := by
  unfold mixI; rw [List.take_of_length_le (by simp [hulls_len]), List.drop_eq_nil_of_le (by simp [hulls_len]), List.append_nil]
theorem same_snoc {s : Sorter} {trays : List Int} {G : List (List Int × Int)} {y : List Int × Int} : sameI s trays (G ++ [y]) = if layI s.tire y.1 y.2 = trays then sameI s trays G ++ [y] else sameI s trays G := by
  unfold sameI
  rw [List.filter_append]
  by_cases h : layI s.tire y.1 y.2 = trays
  · rw [if_pos h]; simp [h]
  · rw [if_neg h]; simp [h]
abbrev prO (s : Sorter) (L : List Span) (E : Span) : List (Nat × AObj) := [(0, .box [.pv (vi s.eye.low), .pv (vi s.eye.high), .pv (vi s.tire), .pv (eSpans s.looks)]), (1, .box [.pv (vi 0), .pv (vi 0)]), (2, .arr 37 2 (L.map eSpan)), (3, .box [.pv (vi E.low), .pv (vi E.high)])]
abbrev prE (s : Sorter) (trays : List Int) (is : Bool) (e : Int) : List (Nat × FV) := [(1, .pv (eInts trays)), (2, .box 0 0), (5, .box 1 0), (7, .pv (eRows (listsI s.looks))), (8, .arr 2), (9, .box 3 0), (10, .pv (.bool is)), (11, .pv (vi e))]
set_option maxHeartbeats 4000000 in
theorem f56 (s : Sorter) (trays : List Int) (hs : SorterP s) (ht : trays.length ≤ 1000) : ACalls Tryz.prog 56 [eSorter s, eInts trays] (fun r => r = .tup [eSpans (provesL s trays).1, eS (provesL s trays).2.1, .bool (provesL s trays).2.2]) := by
  have hlk := hs.looks
  have hln := hs.len
  have hey := hs.eye
  have hti := hs.tire
  have k146 := f146 s.looks (by omega) (fun x hx => by have := hlk x hx; omega) (sorter_lists hs)
  have hll := sorter_lists hs s.looks.length
  rw [List.take_length] at hll
  refine ACalls.of_body hT Tryz.func56 rfl (by kernel_rfl) rfl ?_
  (repeat' (first | refine stq ?_ | (refine AL_do2 rfl ?_; first | refine ⟨_, op_call1 rfl rfl rfl rfl (k146), nrmA rfl ?_⟩) | (with_reducible refine AL_id ?_); (fail_if_success (refine AL_glit rfl rfl rfl (by first | exact .inl (by with_reducible rfl) | exact .inr (by with_reducible rfl)) ?_)); first | refine AL_gdec rfl rfl rfl (fun hg => ?_) (fun hg => ?_) | refine AL_gnot rfl rfl rfl (fun hg => ?_) (fun hg => ?_) | refine AL_gcases rfl rfl rfl (fun hg => ?_) (fun hg => ?_)))
  refine AL_do2 rfl ⟨_, op_makeSlice (n := s.looks.length) (zp := [vi 0, vi 0]) hT rfl rfl rfl rfl rfl rfl rfl rfl rfl rfl (by omega) rfl, ?_⟩
  rw [← hulls_nil]
  (repeat (refine stq ?_))
  refine AW_loopC (fun i : Nat => i ≤ (s.eye.high - s.eye.low + 1).toNat) (fun i => mkSt (prE s trays (decide (sameI s trays (partR s i 0) ≠ [])) (s.eye.low + i)) (prO s (hullsI s.looks.length (sameI s trays (partR s i 0))) (spanOf (eyesI (sameI s trays (partR s i 0))))) 4) (fun i => (s.eye.high - s.eye.low + 1).toNat - i) 0 (Nat.zero_le _) ?_ ?_
  · (refine Le.mk ?_ ?_; all_goals (repeat' (first | exact trivial | refine sle ?_ | refine ⟨?_, rfl, ?_⟩ | refine ⟨?_, by decide, rfl, ?_⟩ | fail)))
    show some (FV.pv (vi s.eye.low)) = some (FV.pv (vi (s.eye.low + ((0 : Nat) : Int)))); simp
  · intro i hi
    (repeat (refine stq ?_))
    refine AW_if rfl (fun hc => ?_) (fun hc => ?_)
    · have hi' : i < (s.eye.high - s.eye.low + 1).toNat := by omega
      (repeat (refine stq ?_))
      refine AW_loopC (fun k : Nat => k ≤ (listsI s.looks).length) (fun k => mkSt (prE s trays (decide (sameI s trays (partR s i k) ≠ [])) (s.eye.low + i) ++ [(12, .pv (vi k))]) (prO s (hullsI s.looks.length (sameI s trays (partR s i k))) (spanOf (eyesI (sameI s trays (partR s i k))))) 4) (fun k => (listsI s.looks).length - k) 0 (Nat.zero_le _) ?_ ?_
      · (refine Le.mk ?_ ?_; all_goals (repeat' (first | exact trivial | refine sle ?_ | refine ⟨?_, rfl, ?_⟩ | refine ⟨?_, by decide, rfl, ?_⟩ | fail)))
      · intro k hk
        (repeat (refine stq ?_))
        refine AW_if rfl (fun hc2 => ?_) (fun hc2 => ?_)
        · have hk' : k < (listsI s.looks).length := by omega
          obtain ⟨x, hx⟩ : ∃ x, (listsI s.looks)[k]? = some x := ⟨(listsI s.looks)[k], by simp [hk']⟩
          have e1 := get_map eIntsC hx
          obtain ⟨x1, x2⟩ := truths_bd hs (List.mem_of_getElem? hx)
          have k77 := (f77 x (s.eye.low + i) s.tire (by omega) (fun z hz => by have := x2 z hz; omega) (by omega) (by omega)).pure
          have k77 : ACalls Tryz.prog 77 [eInts x, vi (s.eye.low + i), vi s.tire] (fun r => r = .pv (eInts (layI s.tire x (s.eye.low + i)))) := k77
          have hyl := layI_len s.tire x (s.eye.low + i)
          have hps : sameI s trays (partR s i (k + 1)) = if layI s.tire x (s.eye.low + i) = trays then sameI s trays (partR s i k) ++ [(x, s.eye.low + (i : Int))] else sameI s trays (partR s i k) := by rw [partR_snoc (i := i) hx]; exact same_snoc
          have k59 := f59 (layI s.tire x (s.eye.low + i)) trays (by omega)
          generalize layI s.tire x (s.eye.low + i) = y at k77 hyl hps k59
          generalize hP : sameI s trays (partR s i k) = F at *
          (repeat (refine stq ?_))
          (repeat (first | refine sdq ?_ | refine DG_next (D_call rfl rfl rfl rfl rfl (k77)) ?_ | refine DG_next (D_call rfl rfl rfl rfl rfl (k59)) ?_))
          refine DG_end hM (by kernel_rfl) ?_
          (repeat (refine stq ?_))
          refine AW_cond rfl (fun hc3 => ?_) (fun hc3 => ?_)
          · have hne : ¬ y = trays := by simpa using hc3
            rw [if_neg hne] at hps
            (repeat (refine stq ?_))
            refine ⟨k + 1, hk', by omega, ?_⟩
            rw [hps]
            (refine Le.mk ?_ ?_; all_goals (repeat' (first | exact trivial | refine sle ?_ | refine ⟨?_, rfl, ?_⟩ | refine ⟨?_, by decide, rfl, ?_⟩ | fail)))
          · have heq : y = trays := by simpa using hc3
            rw [if_pos heq] at hps
            (repeat (refine stq ?_))
            refine AW_loopC (fun j : Nat => j ≤ s.looks.length) (fun j => mkSt (prE s trays (decide (F ≠ [])) (s.eye.low + i) ++ [(12, .pv (vi k)), (13, .pv (vi j))]) (prO s (mixI s.looks.length F (F ++ [(x, s.eye.low + i)]) j) (spanOf (eyesI F))) 4) (fun j => s.looks.length - j) 0 (Nat.zero_le _) ?_ ?_
            · rw [mix_zero]; (refine Le.mk ?_ ?_; all_goals (repeat' (first | exact trivial | refine sle ?_ | refine ⟨?_, rfl, ?_⟩ | refine ⟨?_, by decide, rfl, ?_⟩ | fail)))
            · intro j hj
              have hml := mix_len (F := F) (G := F ++ [(x, s.eye.low + i)]) hj
              have hml2 : ((mixI s.looks.length F (F ++ [(x, s.eye.low + i)]) j).map eSpan).length = s.looks.length := by rw [List.length_map, hml]
              (repeat (refine stq ?_))
              refine AW_if rfl (fun hc4 => ?_) (fun hc4 => ?_)
              · have hj' : j < s.looks.length := by omega
                obtain ⟨n, hn⟩ : ∃ n, x[j]? = some n := ⟨x[j]'(by omega), by simp⟩
                have e2 := get_map eInt hn
                have hg := mix_get (F := F) (G := F ++ [(x, s.eye.low + i)]) hj'
                have hst := mix_set (F := F) (G := F ++ [(x, s.eye.low + i)]) hj'
                rw [← wid_col hn] at hst
                generalize spanOf (colI F j) = u at hg hst
                have e3 : ((mixI s.looks.length F (F ++ [(x, s.eye.low + i)]) j).map eSpan)[j]? = some (eSpan u) := by rw [List.getElem?_map, hg]; rfl
                have hst' : ((mixI s.looks.length F (F ++ [(x, s.eye.low + i)]) j).map eSpan).set j (eSpan (widR (!decide (F ≠ [])) u n)) = (mixI s.looks.length F (F ++ [(x, s.eye.low + i)]) (j + 1)).map eSpan := by rw [← List.map_set, hst]
                (repeat (refine stq ?_))
                (repeat (refine sdq ?_))
                refine DG_next (D_indexAddr_arr (n := (j : Int)) hT rfl rfl rfl rfl rfl rfl rfl rfl rfl (by omega) (by rw [hml2]; omega) rfl) ?_
                refine DG_next (D_load_aptr (el := eSpan u) hT rfl rfl rfl rfl rfl rfl e3 rfl) ?_
                (repeat (first | refine sdq ?_ | refine DG_next (D_call rfl rfl rfl rfl rfl (f147 u n (!decide (F ≠ [])))) ?_))
                refine DG_next (D_indexAddr_arr (n := (j : Int)) hT rfl rfl rfl rfl rfl rfl rfl rfl rfl (by omega) (by rw [hml2]; omega) rfl) ?_
                refine DG_end hM (by kernel_rfl) ?_
                (repeat (refine stq ?_))
                refine AL_do2 rfl ⟨_, op_store_aptr (el := eSpan u) hT rfl rfl rfl rfl rfl e3 rfl rfl rfl rfl, ?_⟩
                (repeat (refine stq ?_))
                refine ⟨j + 1, hj', by omega, ?_⟩
                (refine Le.mk ?_ ?_; all_goals (repeat' (first | exact trivial | refine sle ?_ | refine ⟨?_, rfl, ?_⟩ | refine ⟨?_, by decide, rfl, ?_⟩ | fail)))
                show some (AObj.arr 37 2 (((mixI s.looks.length F (F ++ [(x, s.eye.low + i)]) j).map eSpan).set j (eSpan (widR (!decide (F ≠ [])) u n)))) = some (AObj.arr 37 2 ((mixI s.looks.length F (F ++ [(x, s.eye.low + i)]) (j + 1)).map eSpan))
                rw [hst']
              · have hj' : j = s.looks.length := by omega
                subst hj'
                rw [mix_end]
                (repeat' (first | refine stq ?_ | (refine AL_do2 rfl ?_; first | refine ⟨_, op_call1 rfl rfl rfl rfl (f147 (spanOf (eyesI F)) (s.eye.low + i) (!decide (F ≠ []))), nrmA rfl ?_⟩) | (with_reducible refine AL_id ?_); (fail_if_success (refine AL_glit rfl rfl rfl (by first | exact .inl (by with_reducible rfl) | exact .inr (by with_reducible rfl)) ?_)); first | refine AL_gdec rfl rfl rfl (fun hg => ?_) (fun hg => ?_) | refine AL_gnot rfl rfl rfl (fun hg => ?_) (fun hg => ?_) | refine AL_gcases rfl rfl rfl (fun hg => ?_) (fun hg => ?_)))
                refine ⟨k + 1, hk', by omega, ?_⟩
                rw [hps, ← wid_eye]
                (refine Le.mk ?_ ?_; all_goals (repeat' (first | exact trivial | refine sle ?_ | refine ⟨?_, rfl, ?_⟩ | refine ⟨?_, by decide, rfl, ?_⟩ | fail)))
                show some (FV.pv (.bool true)) = some (FV.pv (.bool (decide (F ++ [(x, s.eye.low + (i : Int))] ≠ []))))
                simp
        · have hk' : k = (listsI s.looks).length := by omega
          subst hk'
          rw [← partR_round hi']
          (repeat (refine stq ?_))
          refine ⟨i + 1, hi', by omega, ?_⟩
          (refine Le.mk ?_ ?_; all_goals (repeat' (first | exact trivial | refine sle ?_ | refine ⟨?_, rfl, ?_⟩ | refine ⟨?_, by decide, rfl, ?_⟩ | fail)))
          show some (FV.pv (vi (s.eye.low + i + 1))) = some (FV.pv (vi (s.eye.low + ((i + 1 : Nat) : Int)))); rw [show s.eye.low + (i : Int) + 1 = s.eye.low + ((i + 1 : Nat) : Int) by omega]
    · have hi' : i = (s.eye.high - s.eye.low + 1).toNat := by omega
      subst hi'
      rw [partR_end]
      refine AW_pure (t := 8) rfl rfl ?_
      (repeat (refine stq ?_))
      iterate 4 (refine sdq ?_)
      refine DG_next (D_store hT rfl rfl rfl rfl rfl rfl rfl rfl rfl rfl) ?_
      refine DG_end hM (by kernel_rfl) ?_
      (repeat (refine stq ?_))
      exact ⟨_, _, rfl, rfl, rfl⟩
theorem proves_bad {s : Sorter} {trays : List Int} (h : ¬ (isSorterB s && traysB s trays) = true) : provesE s trays = ([], ⟨0, 0⟩, 2) := by
  unfold provesE
  rw [if_neg]
  intro h2
  apply h
  simp only [provesOK, traysB, Bool.and_eq_true] at h2 ⊢
  exact ⟨h2.1.1, h2.1.2, h2.2⟩
theorem proves_good {s : Sorter} {trays : List Int} (h1 : isSorterB s = true) (h2 : traysB s trays = true) : provesE s trays = if (provesL s trays).2.2 then ((provesL s trays).1, (provesL s trays).2.1, 0) else ([], ⟨0, 0⟩, 7) := by
  refine proves_eq (sorterP_of h1) ?_
  simp only [provesOK, traysB, Bool.and_eq_true] at h2 ⊢
  exact ⟨⟨h1, h2.1⟩, h2.2⟩
theorem f54' (s : Sorter) (trays : List Int) (hs : s.looks.length ≤ 1000) (ht : trays.length ≤ 1000) : ACalls Tryz.prog 54 [eSorter s, eInts trays] (fun r => r = .tup [eSpans (provesE s trays).1, eS (provesE s trays).2.1, vi (provesE s trays).2.2]) := f54 s trays hs ht
set_option maxHeartbeats 2000000 in
theorem f8 (s : Sorter) (trays : List Int) : ACalls Tryz.prog 8 [eSorter s, eInts trays] (fun r => r = .pv (.bool true)) := by
  refine ACalls.of_body hT Tryz.func8 rfl (by kernel_rfl) rfl ?_
  by_cases hs : s.looks.length ≤ 6 ∧ trays.length ≤ 6
  · obtain ⟨h1, h2⟩ := hs
    have k54 := f54' s trays (by omega) (by omega)
    have k51 := f51 s (by omega)
    have k55 := f55 s trays (by omega) (by omega)
    cases q1 : isSorterB s with
    | false =>
      rw [q1] at k51
      rw [proves_bad (by rw [q1]; simp)] at k54
      have k54 : ACalls Tryz.prog 54 [eSorter s, eInts trays] (fun r => r = .tup [eSpans [], eS ⟨0, 0⟩, vi 2]) := k54
      (repeat' (first | (exfalso; omega) | refine AW_if rfl (fun hc => absurd hc (by omega)) (fun _ => ?_) | refine AW_if rfl (fun _ => ?_) (fun hc => absurd (by omega) hc) | refine stq ?_ | (refine AL_do2 rfl ?_; first | refine ⟨_, op_call1 rfl rfl rfl rfl (k54), nrmA rfl ?_⟩ | refine ⟨_, op_call1 rfl rfl rfl rfl (k51), nrmA rfl ?_⟩ | refine ⟨_, op_call1 rfl rfl rfl rfl (k55), nrmA rfl ?_⟩ | refine ⟨_, op_eqlS1 [0, 0] aggEq37 rfl rfl rfl rfl rfl, ?_⟩ | refine ⟨_, op_call1 rfl rfl rfl rfl (f28), nrmA rfl ?_⟩) | (with_reducible refine AL_id ?_); (fail_if_success (refine AL_glit rfl rfl rfl (by first | exact .inl (by with_reducible rfl) | exact .inr (by with_reducible rfl)) ?_)); first | refine AL_gdec rfl rfl rfl (fun hg => ?_) (fun hg => ?_) | refine AL_gnot rfl rfl rfl (fun hg => ?_) (fun hg => ?_) | refine AL_gcases rfl rfl rfl (fun hg => ?_) (fun hg => ?_)))
      all_goals exact ⟨_, _, rfl, rfl, rfl⟩
    | true =>
      rw [q1] at k51
      cases q2 : traysB s trays with
      | false =>
        rw [q2] at k55
        rw [proves_bad (by rw [q2]; simp)] at k54
        have k54 : ACalls Tryz.prog 54 [eSorter s, eInts trays] (fun r => r = .tup [eSpans [], eS ⟨0, 0⟩, vi 2]) := k54
        (repeat' (first | (exfalso; omega) | refine AW_if rfl (fun hc => absurd hc (by omega)) (fun _ => ?_) | refine AW_if rfl (fun _ => ?_) (fun hc => absurd (by omega) hc) | refine stq ?_ | (refine AL_do2 rfl ?_; first | refine ⟨_, op_call1 rfl rfl rfl rfl (k54), nrmA rfl ?_⟩ | refine ⟨_, op_call1 rfl rfl rfl rfl (k51), nrmA rfl ?_⟩ | refine ⟨_, op_call1 rfl rfl rfl rfl (k55), nrmA rfl ?_⟩ | refine ⟨_, op_eqlS1 [0, 0] aggEq37 rfl rfl rfl rfl rfl, ?_⟩ | refine ⟨_, op_call1 rfl rfl rfl rfl (f28), nrmA rfl ?_⟩) | (with_reducible refine AL_id ?_); (fail_if_success (refine AL_glit rfl rfl rfl (by first | exact .inl (by with_reducible rfl) | exact .inr (by with_reducible rfl)) ?_)); first | refine AL_gdec rfl rfl rfl (fun hg => ?_) (fun hg => ?_) | refine AL_gnot rfl rfl rfl (fun hg => ?_) (fun hg => ?_) | refine AL_gcases rfl rfl rfl (fun hg => ?_) (fun hg => ?_)))
        all_goals exact ⟨_, _, rfl, rfl, rfl⟩
      | true =>
        rw [q2] at k55
        have k56 := f56 s trays (sorterP_of q1) (by omega)
        rw [proves_good q1 q2] at k54
        have hlen : (provesL s trays).1.length ≤ 1000 := by
          simp only [provesL, hulls_len]; omega
        rcases hp : provesL s trays with ⟨x, y, b⟩
        rw [hp] at k54 k56 hlen
        dsimp only at k54 k56 hlen
        cases b with
        | true =>
          have k54 : ACalls Tryz.prog 54 [eSorter s, eInts trays] (fun r => r = .tup [eSpans x, eS y, vi 0]) := k54
          have k32 := same_of (f32 x x hlen) rfl
          (repeat' (first | (exfalso; omega) | refine AW_if rfl (fun hc => absurd hc (by omega)) (fun _ => ?_) | refine AW_if rfl (fun _ => ?_) (fun hc => absurd (by omega) hc) | refine stq ?_ | (refine AL_do2 rfl ?_; first | refine ⟨_, op_call1 rfl rfl rfl rfl (k54), nrmA rfl ?_⟩ | refine ⟨_, op_call1 rfl rfl rfl rfl (k51), nrmA rfl ?_⟩ | refine ⟨_, op_call1 rfl rfl rfl rfl (k55), nrmA rfl ?_⟩ | refine ⟨_, op_call1 rfl rfl rfl rfl (k56), nrmA rfl ?_⟩ | refine ⟨_, op_call1 rfl rfl rfl rfl (k32), nrmA rfl ?_⟩ | refine ⟨_, op_eqlS1 [y.low, y.high] aggEq37 rfl rfl rfl rfl rfl, ?_⟩ | refine ⟨_, op_call1 rfl rfl rfl rfl (f28), nrmA rfl ?_⟩) | (with_reducible refine AL_id ?_); (fail_if_success (refine AL_glit rfl rfl rfl (by first | exact .inl (by with_reducible rfl) | exact .inr (by with_reducible rfl)) ?_)); first | refine AL_gdec rfl rfl rfl (fun hg => ?_) (fun hg => ?_) | refine AL_gnot rfl rfl rfl (fun hg => ?_) (fun hg => ?_) | refine AL_gcases rfl rfl rfl (fun hg => ?_) (fun hg => ?_)))
          all_goals exact ⟨_, _, rfl, rfl, rfl⟩
        | false =>
          have k54 : ACalls Tryz.prog 54 [eSorter s, eInts trays] (fun r => r = .tup [eSpans [], eS ⟨0, 0⟩, vi 7]) := k54
          (repeat' (first | (exfalso; omega) | refine AW_if rfl (fun hc => absurd hc (by omega)) (fun _ => ?_) | refine AW_if rfl (fun _ => ?_) (fun hc => absurd (by omega) hc) | refine stq ?_ | (refine AL_do2 rfl ?_; first | refine ⟨_, op_call1 rfl rfl rfl rfl (k54), nrmA rfl ?_⟩ | refine ⟨_, op_call1 rfl rfl rfl rfl (k51), nrmA rfl ?_⟩ | refine ⟨_, op_call1 rfl rfl rfl rfl (k55), nrmA rfl ?_⟩ | refine ⟨_, op_call1 rfl rfl rfl rfl (k56), nrmA rfl ?_⟩ | refine ⟨_, op_eqlS1 [0, 0] aggEq37 rfl rfl rfl rfl rfl, ?_⟩ | refine ⟨_, op_call1 rfl rfl rfl rfl (f28), nrmA rfl ?_⟩) | (with_reducible refine AL_id ?_); (fail_if_success (refine AL_glit rfl rfl rfl (by first | exact .inl (by with_reducible rfl) | exact .inr (by with_reducible rfl)) ?_)); first | refine AL_gdec rfl rfl rfl (fun hg => ?_) (fun hg => ?_) | refine AL_gnot rfl rfl rfl (fun hg => ?_) (fun hg => ?_) | refine AL_gcases rfl rfl rfl (fun hg => ?_) (fun hg => ?_)))
          all_goals exact ⟨_, _, rfl, rfl, rfl⟩
  · (repeat' (first | (exfalso; omega) | refine AW_if rfl (fun hc => absurd hc (by omega)) (fun _ => ?_) | refine AW_if rfl (fun _ => ?_) (fun hc => absurd (by omega) hc) | refine stq ?_ | (refine AL_do2 rfl ?_; first | refine ⟨_, op_call1 rfl rfl rfl rfl (f28), nrmA rfl ?_⟩) | (with_reducible refine AL_id ?_); (fail_if_success (refine AL_glit rfl rfl rfl (by first | exact .inl (by with_reducible rfl) | exact .inr (by with_reducible rfl)) ?_)); first | refine AL_gdec rfl rfl rfl (fun hg => ?_) (fun hg => ?_) | refine AL_gnot rfl rfl rfl (fun hg => ?_) (fun hg => ?_) | refine AL_gcases rfl rfl rfl (fun hg => ?_) (fun hg => ?_)))
    all_goals exact ⟨_, _, rfl, rfl, rfl⟩
set_option maxHeartbeats 2000000 in
theorem f11 (s : Sorter) (a b : Int) : ACalls Tryz.prog 11 [eSorter s, vi a, vi b] (fun r => r = .pv (.bool true)) := by
  refine ACalls.of_body hT Tryz.func11 rfl (by kernel_rfl) rfl ?_
  by_cases hs : s.looks.length ≤ 6
  · have k58 := f58 s a b (by omega)
    have k51 := f51 s (by omega)
    have k57a := f57 s a (by omega)
    have k57b := f57 s b (by omega)
    cases q : (isSorterB s && inB a 0 (s.looks.length - 1) && inB b 0 (s.looks.length - 1)) with
    | false =>
      rw [show togetherE s a b = (0, 2) by unfold togetherE; rw [if_neg (by rw [q]; simp)]] at k58
      have k58 : ACalls Tryz.prog 58 [eSorter s, vi a, vi b] (fun r => r = .tup [vi 0, vi 2]) := k58
      cases q1 : isSorterB s with
      | false =>
        rw [q1] at k51
        (repeat' (first | (exfalso; omega) | refine AW_if rfl (fun hc => absurd hc (by omega)) (fun _ => ?_) | refine AW_if rfl (fun _ => ?_) (fun hc => absurd (by omega) hc) | refine stq ?_ | (refine AL_do2 rfl ?_; first | refine ⟨_, op_call1 rfl rfl rfl rfl (k58), nrmA rfl ?_⟩ | refine ⟨_, op_call1 rfl rfl rfl rfl (k51), nrmA rfl ?_⟩ | refine ⟨_, op_call1 rfl rfl rfl rfl (f28), nrmA rfl ?_⟩) | (with_reducible refine AL_id ?_); (fail_if_success (refine AL_glit rfl rfl rfl (by first | exact .inl (by with_reducible rfl) | exact .inr (by with_reducible rfl)) ?_)); first | refine AL_gdec rfl rfl rfl (fun hg => ?_) (fun hg => ?_) | refine AL_gnot rfl rfl rfl (fun hg => ?_) (fun hg => ?_) | refine AL_gcases rfl rfl rfl (fun hg => ?_) (fun hg => ?_)))
        all_goals exact ⟨_, _, rfl, rfl, rfl⟩
      | true =>
        rw [q1] at k51 q
        cases q2 : inB a 0 (s.looks.length - 1) with
        | false =>
          rw [q2] at k57a
          (repeat' (first | (exfalso; omega) | refine AW_if rfl (fun hc => absurd hc (by omega)) (fun _ => ?_) | refine AW_if rfl (fun _ => ?_) (fun hc => absurd (by omega) hc) | refine stq ?_ | (refine AL_do2 rfl ?_; first | refine ⟨_, op_call1 rfl rfl rfl rfl (k58), nrmA rfl ?_⟩ | refine ⟨_, op_call1 rfl rfl rfl rfl (k51), nrmA rfl ?_⟩ | refine ⟨_, op_call1 rfl rfl rfl rfl (k57a), nrmA rfl ?_⟩ | refine ⟨_, op_call1 rfl rfl rfl rfl (f28), nrmA rfl ?_⟩) | (with_reducible refine AL_id ?_); (fail_if_success (refine AL_glit rfl rfl rfl (by first | exact .inl (by with_reducible rfl) | exact .inr (by with_reducible rfl)) ?_)); first | refine AL_gdec rfl rfl rfl (fun hg => ?_) (fun hg => ?_) | refine AL_gnot rfl rfl rfl (fun hg => ?_) (fun hg => ?_) | refine AL_gcases rfl rfl rfl (fun hg => ?_) (fun hg => ?_)))
          all_goals exact ⟨_, _, rfl, rfl, rfl⟩
        | true =>
          rw [q2] at k57a q
          have q3 : inB b 0 (s.looks.length - 1) = false := by simpa using q
          rw [q3] at k57b
          (repeat' (first | (exfalso; omega) | refine AW_if rfl (fun hc => absurd hc (by omega)) (fun _ => ?_) | refine AW_if rfl (fun _ => ?_) (fun hc => absurd (by omega) hc) | refine stq ?_ | (refine AL_do2 rfl ?_; first | refine ⟨_, op_call1 rfl rfl rfl rfl (k58), nrmA rfl ?_⟩ | refine ⟨_, op_call1 rfl rfl rfl rfl (k51), nrmA rfl ?_⟩ | refine ⟨_, op_call1 rfl rfl rfl rfl (k57a), nrmA rfl ?_⟩ | refine ⟨_, op_call1 rfl rfl rfl rfl (k57b), nrmA rfl ?_⟩ | refine ⟨_, op_call1 rfl rfl rfl rfl (f28), nrmA rfl ?_⟩) | (with_reducible refine AL_id ?_); (fail_if_success (refine AL_glit rfl rfl rfl (by first | exact .inl (by with_reducible rfl) | exact .inr (by with_reducible rfl)) ?_)); first | refine AL_gdec rfl rfl rfl (fun hg => ?_) (fun hg => ?_) | refine AL_gnot rfl rfl rfl (fun hg => ?_) (fun hg => ?_) | refine AL_gcases rfl rfl rfl (fun hg => ?_) (fun hg => ?_)))
          all_goals exact ⟨_, _, rfl, rfl, rfl⟩
    | true =>
      have q' := q
      simp only [Bool.and_eq_true] at q'
      obtain ⟨⟨q1, q2⟩, q3⟩ := q'
      have hP := sorterP_of q1
      rw [show togetherE s a b = (togetherL s a b, 0) by unfold togetherE; rw [if_pos q, together_eq hP]] at k58
      rw [q1] at k51
      rw [q2] at k57a
      rw [q3] at k57b
      simp only [inB, Bool.and_eq_true, decide_eq_true_eq] at q2 q3
      have k63 := f63 s a b hP (by omega) (by omega)
      generalize togetherL s a b = w at k58 k63
      have k58 : ACalls Tryz.prog 58 [eSorter s, vi a, vi b] (fun r => r = .tup [vi w, vi 0]) := k58
      (repeat' (first | (exfalso; omega) | refine AW_if rfl (fun hc => absurd hc (by omega)) (fun _ => ?_) | refine AW_if rfl (fun _ => ?_) (fun hc => absurd (by omega) hc) | refine stq ?_ | (refine AL_do2 rfl ?_; first | refine ⟨_, op_call1 rfl rfl rfl rfl (k58), nrmA rfl ?_⟩ | refine ⟨_, op_call1 rfl rfl rfl rfl (k51), nrmA rfl ?_⟩ | refine ⟨_, op_call1 rfl rfl rfl rfl (k57a), nrmA rfl ?_⟩ | refine ⟨_, op_call1 rfl rfl rfl rfl (k57b), nrmA rfl ?_⟩ | refine ⟨_, op_call1 rfl rfl rfl rfl (k63), nrmA rfl ?_⟩ | refine ⟨_, op_call1 rfl rfl rfl rfl (f28), nrmA rfl ?_⟩) | (with_reducible refine AL_id ?_); (fail_if_success (refine AL_glit rfl rfl rfl (by first | exact .inl (by with_reducible rfl) | exact .inr (by with_reducible rfl)) ?_)); first | refine AL_gdec rfl rfl rfl (fun hg => ?_) (fun hg => ?_) | refine AL_gnot rfl rfl rfl (fun hg => ?_) (fun hg => ?_) | refine AL_gcases rfl rfl rfl (fun hg => ?_) (fun hg => ?_)))
      all_goals (first | exact ⟨_, _, rfl, rfl, rfl⟩ | (exfalso; simp_all; done) | skip)
  · (repeat' (first | (exfalso; omega) | refine AW_if rfl (fun hc => absurd hc (by omega)) (fun _ => ?_) | refine AW_if rfl (fun _ => ?_) (fun hc => absurd (by omega) hc) | refine stq ?_ | (refine AL_do2 rfl ?_; first | refine ⟨_, op_call1 rfl rfl rfl rfl (f28), nrmA rfl ?_⟩) | (with_reducible refine AL_id ?_); (fail_if_success (refine AL_glit rfl rfl rfl (by first | exact .inl (by with_reducible rfl) | exact .inr (by with_reducible rfl)) ?_)); first | refine AL_gdec rfl rfl rfl (fun hg => ?_) (fun hg => ?_) | refine AL_gnot rfl rfl rfl (fun hg => ?_) (fun hg => ?_) | refine AL_gcases rfl rfl rfl (fun hg => ?_) (fun hg => ?_)))
    all_goals exact ⟨_, _, rfl, rfl, rfl⟩
set_option maxHeartbeats 2000000 in
theorem f17 (s : Sorter) (l : List Int) (eye : Int) : ACalls Tryz.prog 17 [eSorter s, eInts l, vi eye] (fun r => r = .pv (.bool true)) := by
  refine ACalls.of_body hT Tryz.func17 rfl (by kernel_rfl) rfl ?_
  by_cases hs : s.looks.length ≤ 6 ∧ l.length ≤ 6
  · obtain ⟨h1, h2⟩ := hs
    have k76 := f76 s (by omega)
    have k53 := f53 s l eye (by omega) (by omega)
    have k51 := f51 s (by omega)
    have k52 := f52 s l eye (by omega) (by omega)
    cases q1 : isSorterB s with
    | false =>
      rw [q1] at k51 k76
      rw [show layE s l eye = ([], 2) by unfold layE; rw [if_neg (by rw [q1]; simp)]] at k53
      have k53 : ACalls Tryz.prog 53 [eSorter s, eInts l, vi eye] (fun r => r = .tup [eInts [], vi 2]) := k53
      have k76 : ACalls Tryz.prog 76 [eSorter s] (fun r => r = .pv (vi 2)) := k76
      (repeat' (first | (exfalso; omega) | refine AW_if rfl (fun hc => absurd hc (by omega)) (fun _ => ?_) | refine AW_if rfl (fun _ => ?_) (fun hc => absurd (by omega) hc) | refine stq ?_ | (refine AL_do2 rfl ?_; first | refine ⟨_, op_call1 rfl rfl rfl rfl (k76), nrmA rfl ?_⟩ | refine ⟨_, op_call1 rfl rfl rfl rfl (k53), nrmA rfl ?_⟩ | refine ⟨_, op_call1 rfl rfl rfl rfl (k51), nrmA rfl ?_⟩ | refine ⟨_, op_call1 rfl rfl rfl rfl (f28), nrmA rfl ?_⟩) | (with_reducible refine AL_id ?_); (fail_if_success (refine AL_glit rfl rfl rfl (by first | exact .inl (by with_reducible rfl) | exact .inr (by with_reducible rfl)) ?_)); first | refine AL_gdec rfl rfl rfl (fun hg => ?_) (fun hg => ?_) | refine AL_gnot rfl rfl rfl (fun hg => ?_) (fun hg => ?_) | refine AL_gcases rfl rfl rfl (fun hg => ?_) (fun hg => ?_)))
      all_goals exact ⟨_, _, rfl, rfl, rfl⟩
    | true =>
      rw [q1] at k51 k76
      have k76 : ACalls Tryz.prog 76 [eSorter s] (fun r => r = .pv (vi 0)) := k76
      cases q2 : looksB s l eye with
      | false =>
        rw [q2] at k52
        rw [show layE s l eye = ([], 2) by unfold layE; rw [if_neg (by rw [q1, Bool.true_and]; unfold looksB at q2; rw [q2]; simp)]] at k53
        have k53 : ACalls Tryz.prog 53 [eSorter s, eInts l, vi eye] (fun r => r = .tup [eInts [], vi 2]) := k53
        (repeat' (first | (exfalso; omega) | refine AW_if rfl (fun hc => absurd hc (by omega)) (fun _ => ?_) | refine AW_if rfl (fun _ => ?_) (fun hc => absurd (by omega) hc) | refine stq ?_ | (refine AL_do2 rfl ?_; first | refine ⟨_, op_call1 rfl rfl rfl rfl (k76), nrmA rfl ?_⟩ | refine ⟨_, op_call1 rfl rfl rfl rfl (k53), nrmA rfl ?_⟩ | refine ⟨_, op_call1 rfl rfl rfl rfl (k51), nrmA rfl ?_⟩ | refine ⟨_, op_call1 rfl rfl rfl rfl (k52), nrmA rfl ?_⟩ | refine ⟨_, op_call1 rfl rfl rfl rfl (f28), nrmA rfl ?_⟩) | (with_reducible refine AL_id ?_); (fail_if_success (refine AL_glit rfl rfl rfl (by first | exact .inl (by with_reducible rfl) | exact .inr (by with_reducible rfl)) ?_)); first | refine AL_gdec rfl rfl rfl (fun hg => ?_) (fun hg => ?_) | refine AL_gnot rfl rfl rfl (fun hg => ?_) (fun hg => ?_) | refine AL_gcases rfl rfl rfl (fun hg => ?_) (fun hg => ?_)))
        all_goals exact ⟨_, _, rfl, rfl, rfl⟩
      | true =>
        rw [q2] at k52
        rw [show layE s l eye = (layI s.tire l eye, 0) by unfold layE; rw [if_pos (by rw [q1, Bool.true_and]; exact q2)]] at k53
        have hP := sorterP_of q1
        have hey := hP.eye
        have hti := hP.tire
        simp only [looksB, withinB, inB, Bool.and_eq_true, decide_eq_true_eq] at q2
        have hbd := allIn_bd (c := 3000) q2.1.1 q2.1.2 fun x hx => by have := hP.looks x hx; omega
        have k77 := (f77 l eye s.tire (by omega) (fun z hz => by have := hbd z hz; omega) (by omega) (by omega)).pure
        have hyl := layI_len s.tire l eye
        have k77 : ACalls Tryz.prog 77 [eInts l, vi eye, vi s.tire] (fun r => r = .pv (eInts (layI s.tire l eye))) := k77
        generalize layI s.tire l eye = y at k53 k77 hyl
        have k59 := same_of (f59 y y (by omega)) rfl
        have k53 : ACalls Tryz.prog 53 [eSorter s, eInts l, vi eye] (fun r => r = .tup [eInts y, vi 0]) := k53
        (repeat' (first | (exfalso; omega) | refine AW_if rfl (fun hc => absurd hc (by omega)) (fun _ => ?_) | refine AW_if rfl (fun _ => ?_) (fun hc => absurd (by omega) hc) | refine stq ?_ | (refine AL_do2 rfl ?_; first | refine ⟨_, op_call1 rfl rfl rfl rfl (k76), nrmA rfl ?_⟩ | refine ⟨_, op_call1 rfl rfl rfl rfl (k53), nrmA rfl ?_⟩ | refine ⟨_, op_call1 rfl rfl rfl rfl (k51), nrmA rfl ?_⟩ | refine ⟨_, op_call1 rfl rfl rfl rfl (k52), nrmA rfl ?_⟩ | refine ⟨_, op_call1 rfl rfl rfl rfl (k77), nrmA rfl ?_⟩ | refine ⟨_, op_call1 rfl rfl rfl rfl (k59), nrmA rfl ?_⟩ | refine ⟨_, op_call1 rfl rfl rfl rfl (f28), nrmA rfl ?_⟩) | (with_reducible refine AL_id ?_); (fail_if_success (refine AL_glit rfl rfl rfl (by first | exact .inl (by with_reducible rfl) | exact .inr (by with_reducible rfl)) ?_)); first | refine AL_gdec rfl rfl rfl (fun hg => ?_) (fun hg => ?_) | refine AL_gnot rfl rfl rfl (fun hg => ?_) (fun hg => ?_) | refine AL_gcases rfl rfl rfl (fun hg => ?_) (fun hg => ?_)))
        all_goals exact ⟨_, _, rfl, rfl, rfl⟩
  · (repeat' (first | (exfalso; omega) | refine AW_if rfl (fun hc => absurd hc (by omega)) (fun _ => ?_) | refine AW_if rfl (fun _ => ?_) (fun hc => absurd (by omega) hc) | refine stq ?_ | (refine AL_do2 rfl ?_; first | refine ⟨_, op_call1 rfl rfl rfl rfl (f28), nrmA rfl ?_⟩) | (with_reducible refine AL_id ?_); (fail_if_success (refine AL_glit rfl rfl rfl (by first | exact .inl (by with_reducible rfl) | exact .inr (by with_reducible rfl)) ?_)); first | refine AL_gdec rfl rfl rfl (fun hg => ?_) (fun hg => ?_) | refine AL_gnot rfl rfl rfl (fun hg => ?_) (fun hg => ?_) | refine AL_gcases rfl rfl rfl (fun hg => ?_) (fun hg => ?_)))
    all_goals exact ⟨_, _, rfl, rfl, rfl⟩
end Go.Abs
