/- DrumTells: the contract of the statement's function. -/
import Derived.Test.YtmplfjolcdlipaaGreatDoorDrDG
import Derived.Test.YtmplfjolcdlipaaGreatDoorDrB
import Derived.Test.YtmplfjolcdlipaaGreatDoorNcG
import Derived.Test.YtmplfjolcdlipaaGreatDoorX
set_option linter.unusedVariables false
set_option linter.unusedSimpArgs false
namespace Go.Abs
open Go.Proofs
set_option linter.unusedVariables false
set_option linter.unusedSimpArgs false
set_option maxRecDepth 100000
theorem more_eDrum (d : Drum) (s : Strip) : eDrum (moreD d [s] d.known) = .agg [.sl (d.acids.map eAcid), vi d.known, vi d.hours, eInts d.adds, .sl (d.strips.map eStrip ++ [[vi s.hour, vi s.seen, vi s.off]]), .sl (d.batches.map eBatch)] := by
  unfold eDrum eDrumC moreD
  rw [List.map_append]; rfl
theorem more_P {d : Drum} {s : Strip} (hP : DrumP d) (hs : StripP d.hours s) (hl : d.strips.length < 6) : DrumP (moreD d [s] d.known) := by
  have h := hP
  refine { h with sl := ?_, strip := ?_ }
  · show (d.strips ++ [s]).length ≤ 6
    rw [List.length_append]; simp; omega
  · intro x hx
    rcases List.mem_append.1 hx with hx | hx
    · exact hP.strip x hx
    · simp at hx; rw [hx]; exact hs
theorem tells_bd {d : Drum} {off : Int} (h : ¬ tellsI d off < 0) : ∃ n : Nat, tellsI d off = n ∧ n < d.hours.toNat ∧ tellsB d off n = true := by
  have h' := h
  unfold tellsI at h ⊢
  rcases firstI_spec (tellsB d off) d.hours.toNat 0 with ⟨h1, h2⟩ | ⟨n, h1, h2, h3, h4, h5⟩
  · rw [h1] at h; omega
  · exact ⟨n, h1, by omega, h4⟩
set_option maxHeartbeats 16000000 in
theorem f16 (d : Drum) (off seen : Int) (acid : Int) (t : List Int) : ACalls Tryz.prog 16 [eDrum d, vi off, vi seen, eTruth acid t] (fun r => r = .pv (.bool true)) := by
  have k23 := f23' d
  cases hs : shortB d with
  | false =>
    rw [hs] at k23
    refine ACalls.of_body hT Tryz.func16 rfl (by kernel_rfl) rfl ?_
    (repeat' (first | refine stq ?_ | (refine AL_do2 rfl ?_; first | refine ⟨_, op_call1 rfl rfl rfl rfl (k23), nrmA rfl ?_⟩ | refine ⟨_, op_call1 rfl rfl rfl rfl (f24), nrmA rfl ?_⟩) | (with_reducible refine AL_id ?_); (fail_if_success (refine AL_glit rfl rfl rfl (by first | exact .inl (by with_reducible rfl) | exact .inr (by with_reducible rfl)) ?_)); first | refine AL_gdec rfl rfl rfl (fun hg => ?_) (fun hg => ?_) | refine AL_gnot rfl rfl rfl (fun hg => ?_) (fun hg => ?_) | refine AL_gcases rfl rfl rfl (fun hg => ?_) (fun hg => ?_)))
    all_goals (try (exfalso; simp at hg; done))
    exact ⟨_, _, rfl, rfl, rfl⟩
  | true =>
    rw [hs] at k23
    have hd := short_ok hs
    by_cases ht : t.length ≤ 15
    · have ht' : t.length ≤ 1000 := by omega
      have k39 := f39 d hd
      cases q : drumB d with
      | false =>
        rw [q] at k39
        refine ACalls.of_body hT Tryz.func16 rfl (by kernel_rfl) rfl ?_
        (repeat' (first | refine stq ?_ | (refine AL_do2 rfl ?_; first | refine ⟨_, op_call1 rfl rfl rfl rfl (k23), nrmA rfl ?_⟩ | refine ⟨_, op_call1 rfl rfl rfl rfl (f24), nrmA rfl ?_⟩ | refine ⟨_, op_call1 rfl rfl rfl rfl (k39), nrmA rfl ?_⟩) | ((first | (with_reducible refine AL_id ?_); (fail_if_success (refine AL_glit rfl rfl rfl (by first | exact .inl (by with_reducible rfl) | exact .inr (by with_reducible rfl)) ?_)); first | refine AL_gdec rfl rfl rfl (fun hg => ?_) (fun hg => ?_) | refine AL_gnot rfl rfl rfl (fun hg => ?_) (fun hg => ?_) | refine AL_gcases rfl rfl rfl (fun hg => ?_) (fun hg => ?_)) <;> (try (exfalso; omega))) | refine AW_if rfl (fun hc => absurd hc (by omega)) (fun _ => ?_) | refine AW_if rfl (fun _ => ?_) (fun hc => absurd (by omega) hc)))
        all_goals exact ⟨_, _, rfl, rfl, rfl⟩
      | true =>
        rw [q] at k39
        have hP := drumP_of.1 q
        have k63 := f63 d acid t hd.1 ht'
        have hbl := hP.b1
        have hh1 := hP.h1
        have hsl := hP.sl
        cases hz : sizedB d acid t with
        | false =>
          rw [hz] at k63
          refine ACalls.of_body hT Tryz.func16 rfl (by kernel_rfl) rfl ?_
          (repeat' (first | refine stq ?_ | (refine AL_do2 rfl ?_; first | refine ⟨_, op_call1 rfl rfl rfl rfl (k23), nrmA rfl ?_⟩ | refine ⟨_, op_call1 rfl rfl rfl rfl (f24), nrmA rfl ?_⟩ | refine ⟨_, op_call1 rfl rfl rfl rfl (k39), nrmA rfl ?_⟩ | refine ⟨_, op_call1 rfl rfl rfl rfl (k63), nrmA rfl ?_⟩) | ((first | (with_reducible refine AL_id ?_); (fail_if_success (refine AL_glit rfl rfl rfl (by first | exact .inl (by with_reducible rfl) | exact .inr (by with_reducible rfl)) ?_)); first | refine AL_gdec rfl rfl rfl (fun hg => ?_) (fun hg => ?_) | refine AL_gnot rfl rfl rfl (fun hg => ?_) (fun hg => ?_) | refine AL_gcases rfl rfl rfl (fun hg => ?_) (fun hg => ?_)) <;> (try (exfalso; omega))) | refine AW_if rfl (fun hc => absurd hc (by omega)) (fun _ => ?_) | refine AW_if rfl (fun _ => ?_) (fun hc => absurd (by omega) hc)))
          all_goals exact ⟨_, _, rfl, rfl, rfl⟩
        | true =>
          rw [hz] at k63
          by_cases hf : 0 ≤ off ∧ off ≤ 50 ∧ 0 ≤ seen ∧ seen ≤ 2000 ∧ d.strips.length < 6
          · obtain ⟨hf1, hf2, hf3, hf4, hf5⟩ := hf
            have hin : inB off 0 50 = true := by simp [inB, hf1, hf2]
            have k26 := f26 d off hd
            rw [tellsE, hin] at k26
            rcases err_cases q with ⟨_, he⟩ | ⟨hne, he⟩
            · rw [he, if_neg (by decide)] at k26
              have k26 : ACalls Tryz.prog 26 [eDrum d, vi off] (fun r => r = .tup [vi 0, vi 7]) := k26
              refine ACalls.of_body hT Tryz.func16 rfl (by kernel_rfl) rfl ?_
              (repeat' (first | refine stq ?_ | (refine AL_do2 rfl ?_; first | refine ⟨_, op_call1 rfl rfl rfl rfl (k23), nrmA rfl ?_⟩ | refine ⟨_, op_call1 rfl rfl rfl rfl (f24), nrmA rfl ?_⟩ | refine ⟨_, op_call1 rfl rfl rfl rfl (k39), nrmA rfl ?_⟩ | refine ⟨_, op_call1 rfl rfl rfl rfl (k63), nrmA rfl ?_⟩ | refine ⟨_, op_call1 rfl rfl rfl rfl (k26), nrmA rfl ?_⟩) | ((first | (with_reducible refine AL_id ?_); (fail_if_success (refine AL_glit rfl rfl rfl (by first | exact .inl (by with_reducible rfl) | exact .inr (by with_reducible rfl)) ?_)); first | refine AL_gdec rfl rfl rfl (fun hg => ?_) (fun hg => ?_) | refine AL_gnot rfl rfl rfl (fun hg => ?_) (fun hg => ?_) | refine AL_gcases rfl rfl rfl (fun hg => ?_) (fun hg => ?_)) <;> (try (exfalso; omega))) | refine AW_if rfl (fun hc => absurd hc (by omega)) (fun _ => ?_) | refine AW_if rfl (fun _ => ?_) (fun hc => absurd (by omega) hc)))
              all_goals first | exact ⟨_, _, rfl, rfl, rfl⟩ | (exfalso; omega)
            · rw [he, if_pos rfl] at k26
              by_cases hx : tellsI d off < 0
              · rw [if_pos hx] at k26
                have k26 : ACalls Tryz.prog 26 [eDrum d, vi off] (fun r => r = .tup [vi 0, vi 5]) := k26
                refine ACalls.of_body hT Tryz.func16 rfl (by kernel_rfl) rfl ?_
                (repeat' (first | refine stq ?_ | (refine AL_do2 rfl ?_; first | refine ⟨_, op_call1 rfl rfl rfl rfl (k23), nrmA rfl ?_⟩ | refine ⟨_, op_call1 rfl rfl rfl rfl (f24), nrmA rfl ?_⟩ | refine ⟨_, op_call1 rfl rfl rfl rfl (k39), nrmA rfl ?_⟩ | refine ⟨_, op_call1 rfl rfl rfl rfl (k63), nrmA rfl ?_⟩ | refine ⟨_, op_call1 rfl rfl rfl rfl (k26), nrmA rfl ?_⟩) | ((first | (with_reducible refine AL_id ?_); (fail_if_success (refine AL_glit rfl rfl rfl (by first | exact .inl (by with_reducible rfl) | exact .inr (by with_reducible rfl)) ?_)); first | refine AL_gdec rfl rfl rfl (fun hg => ?_) (fun hg => ?_) | refine AL_gnot rfl rfl rfl (fun hg => ?_) (fun hg => ?_) | refine AL_gcases rfl rfl rfl (fun hg => ?_) (fun hg => ?_)) <;> (try (exfalso; omega))) | refine AW_if rfl (fun hc => absurd hc (by omega)) (fun _ => ?_) | refine AW_if rfl (fun _ => ?_) (fun hc => absurd (by omega) hc)))
                all_goals first | exact ⟨_, _, rfl, rfl, rfl⟩ | (exfalso; omega)
              · rw [if_neg hx] at k26
                obtain ⟨n, e1, e2, e3⟩ := tells_bd hx
                rw [e1] at k26
                have k26 : ACalls Tryz.prog 26 [eDrum d, vi off] (fun r => r = .tup [vi n, vi 0]) := k26
                have hst : StripP d.hours ⟨n, seen, off⟩ := ⟨by simp only; omega, by simp only; omega, hf3, hf4, hf1, hf2⟩
                have hPx := more_P hP hst hf5
                have hBx : drumB (moreD d [⟨n, seen, off⟩] d.known) = true := drumP_of.2 hPx
                have hdx : drumOK (moreD d [⟨n, seen, off⟩] d.known) := by
                  obtain ⟨g1, g2, g3, g4⟩ := hd
                  exact ⟨g1, g2, by show (d.strips ++ _).length ≤ 1000; rw [List.length_append]; simp; omega, g4⟩
                have hzx : sizedB (moreD d [⟨n, seen, off⟩] d.known) acid t = true := hz
                have hone := tells_one hP hst (by show tellsB d off ((n : Int).toNat) = true; rw [Int.toNat_natCast]; exact e3) hPx
                have k64 := f64y (acid := acid) (t := t) hdx ht' (by rw [hBx, hzx]; rfl)
                have hcl := could_len (moreD d [⟨n, seen, off⟩] d.known)
                have hmem := fits_mem (acid := acid) (t := t) hPx hzx
                have hc0 : filledL (moreD d [⟨n, seen, off⟩] d.known) ≠ [] → couldL (moreD d [⟨n, seen, off⟩] d.known) ≠ [] := fun h e => h (List.length_eq_zero_iff.1 (by rw [← hcl, e]; rfl))
                have hmc : fitsB (moreD d [⟨n, seen, off⟩] d.known) acid t = true → ((acid.toNat : Nat) : Int) ∈ couldL (moreD d [⟨n, seen, off⟩] d.known) := fun h => by
                  unfold couldL
                  exact List.mem_map.2 ⟨_, (hmem h).1, rfl⟩
                have ha0 : 0 ≤ acid := (sized_of hz).1
                by_cases h0 : (filledL (moreD d [⟨n, seen, off⟩] d.known)).length = 0
                · have k65 := f65z hdx hBx h0
                  have hfb : fitsB (moreD d [⟨n, seen, off⟩] d.known) acid t = false := by
                    cases hq : fitsB (moreD d [⟨n, seen, off⟩] d.known) acid t with
                    | false => rfl
                    | true => have := (hmem hq).1; rw [List.length_eq_zero_iff.1 h0] at this; simp at this
                  rw [hfb, more_eDrum] at k64
                  rw [more_eDrum] at k65
                  refine ACalls.of_body hT Tryz.func16 rfl (by kernel_rfl) rfl ?_
                  (repeat' (first | refine stq ?_ | (refine AL_do2 rfl ?_; first | refine ⟨_, op_call1 rfl rfl rfl rfl (k23), nrmA rfl ?_⟩ | refine ⟨_, op_call1 rfl rfl rfl rfl (f24), nrmA rfl ?_⟩ | refine ⟨_, op_call1 rfl rfl rfl rfl (k39), nrmA rfl ?_⟩ | refine ⟨_, op_call1 rfl rfl rfl rfl (k63), nrmA rfl ?_⟩ | refine ⟨_, op_call1 rfl rfl rfl rfl (k26), nrmA rfl ?_⟩) | ((first | (with_reducible refine AL_id ?_); (fail_if_success (refine AL_glit rfl rfl rfl (by first | exact .inl (by with_reducible rfl) | exact .inr (by with_reducible rfl)) ?_)); first | refine AL_gdec rfl rfl rfl (fun hg => ?_) (fun hg => ?_) | refine AL_gnot rfl rfl rfl (fun hg => ?_) (fun hg => ?_) | refine AL_gcases rfl rfl rfl (fun hg => ?_) (fun hg => ?_)) <;> (try (exfalso; omega))) | refine AW_if rfl (fun hc => absurd hc (by omega)) (fun _ => ?_) | refine AW_if rfl (fun _ => ?_) (fun hc => absurd (by omega) hc)))
                  all_goals (try (exfalso; omega))
                  refine AL_do2 rfl ⟨_, op_append_nil1 (e := 74) (sz := 3) hT rfl rfl rfl rfl rfl rfl rfl rfl rfl rfl (by intro y hy; (first | (simp only [List.mem_cons, List.not_mem_nil, or_false] at hy; subst hy; rfl) | (simp only [List.mem_cons, List.not_mem_nil, or_false] at hy; rcases hy with hy | hy <;> subst hy <;> rfl) | (obtain ⟨_, _, rfl⟩ := List.mem_map.1 hy; rfl) | (cases hy))) (by simp only [List.length_map, List.length_take, List.length_cons, List.length_nil, List.length_append]; omega) rfl, ?_⟩
                  iterate 6 (refine stq ?_)
                  refine AL_pure (t := 93) rfl rfl ?_
                  (repeat' (first | refine AL_skip rfl rfl ?_ | refine stq ?_ | (refine AL_do2 rfl ?_; first | refine ⟨_, op_call1 rfl rfl rfl rfl (k64), nrmA rfl ?_⟩ | refine ⟨_, op_call1 rfl rfl rfl rfl (k65), nrmA rfl ?_⟩) | (with_reducible refine AL_id ?_); (fail_if_success (refine AL_glit rfl rfl rfl (by first | exact .inl (by with_reducible rfl) | exact .inr (by with_reducible rfl)) ?_)); first | refine AL_gdec rfl rfl rfl (fun hg => ?_) (fun hg => ?_) | refine AL_gnot rfl rfl rfl (fun hg => ?_) (fun hg => ?_) | refine AL_gcases rfl rfl rfl (fun hg => ?_) (fun hg => ?_)))
                  all_goals (try (exfalso; simp at hg; done))
                  (repeat' (first | refine DG_next (StepOK.skipU rfl rfl) ?_ | ((refine DG_cmp hT rfl (fun hg => ?_) (fun hg => ?_)) <;> (try (exfalso; omega))) | refine DG_next (D_shl rfl rfl rfl rfl rfl (by omega)) ?_ | refine DG_next (D_shr rfl rfl rfl rfl rfl (by omega)) ?_ | refine sdq ?_ | ((refine DG_callC (D_call rfl rfl rfl rfl rfl (f24)) (fun hg => ?_) (fun hg => ?_)) <;> (try (exfalso; first | contradiction | omega))) | refine DG_next (D_call rfl rfl rfl rfl rfl (f24)) ?_))
                  refine DG_end hM (by kernel_rfl) ?_
                  (repeat (refine stq ?_))
                  exact ⟨_, _, rfl, rfl, rfl⟩
                · have k65 := f65y hdx hBx h0
                  have hlen : (couldL (moreD d [⟨n, seen, off⟩] d.known)).length = 1 := by omega
                  rw [more_eDrum] at k64 k65
                  generalize couldL (moreD d [⟨n, seen, off⟩] d.known) = l at *
                  obtain ⟨m, hm⟩ : ∃ m, l[0]? = some m := ⟨l[0]'(by omega), by simp⟩
                  have em : (l.map eInt)[(0 : Int).toNat]? = some (eInt m) := get_map eInt hm
                  cases hq : fitsB (moreD d [⟨n, seen, off⟩] d.known) acid t with
                  | false =>
                    rw [hq] at k64
                    refine ACalls.of_body hT Tryz.func16 rfl (by kernel_rfl) rfl ?_
                    (repeat' (first | refine stq ?_ | (refine AL_do2 rfl ?_; first | refine ⟨_, op_call1 rfl rfl rfl rfl (k23), nrmA rfl ?_⟩ | refine ⟨_, op_call1 rfl rfl rfl rfl (f24), nrmA rfl ?_⟩ | refine ⟨_, op_call1 rfl rfl rfl rfl (k39), nrmA rfl ?_⟩ | refine ⟨_, op_call1 rfl rfl rfl rfl (k63), nrmA rfl ?_⟩ | refine ⟨_, op_call1 rfl rfl rfl rfl (k26), nrmA rfl ?_⟩) | ((first | (with_reducible refine AL_id ?_); (fail_if_success (refine AL_glit rfl rfl rfl (by first | exact .inl (by with_reducible rfl) | exact .inr (by with_reducible rfl)) ?_)); first | refine AL_gdec rfl rfl rfl (fun hg => ?_) (fun hg => ?_) | refine AL_gnot rfl rfl rfl (fun hg => ?_) (fun hg => ?_) | refine AL_gcases rfl rfl rfl (fun hg => ?_) (fun hg => ?_)) <;> (try (exfalso; omega))) | refine AW_if rfl (fun hc => absurd hc (by omega)) (fun _ => ?_) | refine AW_if rfl (fun _ => ?_) (fun hc => absurd (by omega) hc)))
                    all_goals (try (exfalso; omega))
                    refine AL_do2 rfl ⟨_, op_append_nil1 (e := 74) (sz := 3) hT rfl rfl rfl rfl rfl rfl rfl rfl rfl rfl (by intro y hy; (first | (simp only [List.mem_cons, List.not_mem_nil, or_false] at hy; subst hy; rfl) | (simp only [List.mem_cons, List.not_mem_nil, or_false] at hy; rcases hy with hy | hy <;> subst hy <;> rfl) | (obtain ⟨_, _, rfl⟩ := List.mem_map.1 hy; rfl) | (cases hy))) (by simp only [List.length_map, List.length_take, List.length_cons, List.length_nil, List.length_append]; omega) rfl, ?_⟩
                    iterate 6 (refine stq ?_)
                    refine AL_pure (t := 93) rfl rfl ?_
                    (repeat' (first | refine AL_skip rfl rfl ?_ | refine stq ?_ | (refine AL_do2 rfl ?_; first | refine ⟨_, op_call1 rfl rfl rfl rfl (k64), nrmA rfl ?_⟩ | refine ⟨_, op_call1 rfl rfl rfl rfl (k65), nrmA rfl ?_⟩) | (with_reducible refine AL_id ?_); (fail_if_success (refine AL_glit rfl rfl rfl (by first | exact .inl (by with_reducible rfl) | exact .inr (by with_reducible rfl)) ?_)); first | refine AL_gdec rfl rfl rfl (fun hg => ?_) (fun hg => ?_) | refine AL_gnot rfl rfl rfl (fun hg => ?_) (fun hg => ?_) | refine AL_gcases rfl rfl rfl (fun hg => ?_) (fun hg => ?_)))
                    all_goals (try (exfalso; simp at hg; done))
                    (repeat' (first | refine DG_next (StepOK.skipU rfl rfl) ?_ | ((refine DG_cmp hT rfl (fun hg => ?_) (fun hg => ?_)) <;> (try (exfalso; omega))) | refine DG_next (D_shl rfl rfl rfl rfl rfl (by omega)) ?_ | refine DG_next (D_shr rfl rfl rfl rfl rfl (by omega)) ?_ | refine sdq ?_ | ((refine DG_callC (D_call rfl rfl rfl rfl rfl (f24)) (fun hg => ?_) (fun hg => ?_)) <;> (try (exfalso; first | contradiction | omega))) | refine DG_next (D_call rfl rfl rfl rfl rfl (f24)) ?_))
                    refine DG_end hM (by kernel_rfl) ?_
                    (repeat (refine stq ?_))
                    exact ⟨_, _, rfl, rfl, rfl⟩
                  | true =>
                    rw [hq] at k64
                    have hma : m = acid := by
                      have h1 := hmc hq
                      match l, hlen, hm with
                      | [y], _, hm =>
                        simp at h1 hm
                        omega
                    refine ACalls.of_body hT Tryz.func16 rfl (by kernel_rfl) rfl ?_
                    (repeat' (first | refine stq ?_ | (refine AL_do2 rfl ?_; first | refine ⟨_, op_call1 rfl rfl rfl rfl (k23), nrmA rfl ?_⟩ | refine ⟨_, op_call1 rfl rfl rfl rfl (f24), nrmA rfl ?_⟩ | refine ⟨_, op_call1 rfl rfl rfl rfl (k39), nrmA rfl ?_⟩ | refine ⟨_, op_call1 rfl rfl rfl rfl (k63), nrmA rfl ?_⟩ | refine ⟨_, op_call1 rfl rfl rfl rfl (k26), nrmA rfl ?_⟩) | ((first | (with_reducible refine AL_id ?_); (fail_if_success (refine AL_glit rfl rfl rfl (by first | exact .inl (by with_reducible rfl) | exact .inr (by with_reducible rfl)) ?_)); first | refine AL_gdec rfl rfl rfl (fun hg => ?_) (fun hg => ?_) | refine AL_gnot rfl rfl rfl (fun hg => ?_) (fun hg => ?_) | refine AL_gcases rfl rfl rfl (fun hg => ?_) (fun hg => ?_)) <;> (try (exfalso; omega))) | refine AW_if rfl (fun hc => absurd hc (by omega)) (fun _ => ?_) | refine AW_if rfl (fun _ => ?_) (fun hc => absurd (by omega) hc)))
                    all_goals (try (exfalso; omega))
                    refine AL_do2 rfl ⟨_, op_append_nil1 (e := 74) (sz := 3) hT rfl rfl rfl rfl rfl rfl rfl rfl rfl rfl (by intro y hy; (first | (simp only [List.mem_cons, List.not_mem_nil, or_false] at hy; subst hy; rfl) | (simp only [List.mem_cons, List.not_mem_nil, or_false] at hy; rcases hy with hy | hy <;> subst hy <;> rfl) | (obtain ⟨_, _, rfl⟩ := List.mem_map.1 hy; rfl) | (cases hy))) (by simp only [List.length_map, List.length_take, List.length_cons, List.length_nil, List.length_append]; omega) rfl, ?_⟩
                    iterate 6 (refine stq ?_)
                    refine AL_pure (t := 93) rfl rfl ?_
                    (repeat' (first | refine AL_skip rfl rfl ?_ | refine stq ?_ | (refine AL_do2 rfl ?_; first | refine ⟨_, op_call1 rfl rfl rfl rfl (k64), nrmA rfl ?_⟩ | refine ⟨_, op_call1 rfl rfl rfl rfl (k65), nrmA rfl ?_⟩) | (with_reducible refine AL_id ?_); (fail_if_success (refine AL_glit rfl rfl rfl (by first | exact .inl (by with_reducible rfl) | exact .inr (by with_reducible rfl)) ?_)); first | refine AL_gdec rfl rfl rfl (fun hg => ?_) (fun hg => ?_) | refine AL_gnot rfl rfl rfl (fun hg => ?_) (fun hg => ?_) | refine AL_gcases rfl rfl rfl (fun hg => ?_) (fun hg => ?_)))
                    all_goals (try (exfalso; simp at hg; done))
                    (repeat' (first | refine DG_next (StepOK.skipU rfl rfl) ?_ | ((refine DG_cmp hT rfl (fun hg => ?_) (fun hg => ?_)) <;> (try (exfalso; omega))) | refine DG_next (D_shl rfl rfl rfl rfl rfl (by omega)) ?_ | refine DG_next (D_shr rfl rfl rfl rfl rfl (by omega)) ?_ | refine sdq ?_ | ((refine DG_callC (D_call rfl rfl rfl rfl rfl (f24)) (fun hg => ?_) (fun hg => ?_)) <;> (try (exfalso; first | contradiction | omega))) | refine DG_next (D_call rfl rfl rfl rfl rfl (f24)) ?_))
                    refine DG_end hM (by kernel_rfl) ?_
                    (repeat (refine stq ?_))
                    exact ⟨_, _, rfl, rfl, rfl⟩
          · refine ACalls.of_body hT Tryz.func16 rfl (by kernel_rfl) rfl ?_
            (repeat' (first | refine stq ?_ | (refine AL_do2 rfl ?_; first | refine ⟨_, op_call1 rfl rfl rfl rfl (k23), nrmA rfl ?_⟩ | refine ⟨_, op_call1 rfl rfl rfl rfl (f24), nrmA rfl ?_⟩ | refine ⟨_, op_call1 rfl rfl rfl rfl (k39), nrmA rfl ?_⟩ | refine ⟨_, op_call1 rfl rfl rfl rfl (k63), nrmA rfl ?_⟩) | ((first | (with_reducible refine AL_id ?_); (fail_if_success (refine AL_glit rfl rfl rfl (by first | exact .inl (by with_reducible rfl) | exact .inr (by with_reducible rfl)) ?_)); first | refine AL_gdec rfl rfl rfl (fun hg => ?_) (fun hg => ?_) | refine AL_gnot rfl rfl rfl (fun hg => ?_) (fun hg => ?_) | refine AL_gcases rfl rfl rfl (fun hg => ?_) (fun hg => ?_)) <;> (try (exfalso; omega))) | refine AW_if rfl (fun hc => absurd hc (by omega)) (fun _ => ?_) | refine AW_if rfl (fun _ => ?_) (fun hc => absurd (by omega) hc)))
            all_goals first | exact ⟨_, _, rfl, rfl, rfl⟩ | (exfalso; omega)
    · refine ACalls.of_body hT Tryz.func16 rfl (by kernel_rfl) rfl ?_
      (repeat' (first | refine stq ?_ | (refine AL_do2 rfl ?_; first | refine ⟨_, op_call1 rfl rfl rfl rfl (k23), nrmA rfl ?_⟩ | refine ⟨_, op_call1 rfl rfl rfl rfl (f24), nrmA rfl ?_⟩) | ((first | (with_reducible refine AL_id ?_); (fail_if_success (refine AL_glit rfl rfl rfl (by first | exact .inl (by with_reducible rfl) | exact .inr (by with_reducible rfl)) ?_)); first | refine AL_gdec rfl rfl rfl (fun hg => ?_) (fun hg => ?_) | refine AL_gnot rfl rfl rfl (fun hg => ?_) (fun hg => ?_) | refine AL_gcases rfl rfl rfl (fun hg => ?_) (fun hg => ?_)) <;> (try (exfalso; omega))) | refine AW_if rfl (fun hc => absurd hc (by omega)) (fun _ => ?_) | refine AW_if rfl (fun _ => ?_) (fun hc => absurd (by omega) hc)))
      all_goals first | exact ⟨_, _, rfl, rfl, rfl⟩ | (exfalso; omega)
end Go.Abs
