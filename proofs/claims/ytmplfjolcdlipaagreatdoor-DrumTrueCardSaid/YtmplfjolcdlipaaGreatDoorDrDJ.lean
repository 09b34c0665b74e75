/- DrumTrue: the contract of the statement's function. -/
import Derived.Test.YtmplfjolcdlipaaGreatDoorDrDI
import Derived.Test.YtmplfjolcdlipaaGreatDoorX
set_option linter.unusedVariables false
set_option linter.unusedSimpArgs false
namespace Go.Abs
open Go.Proofs
set_option linter.unusedVariables false
set_option linter.unusedSimpArgs false
set_option maxRecDepth 100000
theorem f25y {d : Drum} (hd : drumOK d) (h : errE d true = 0) : ACalls Tryz.prog 25 [eDrum d] (fun r => r = .tup [eSpans (strengthL d), vi 0]) := by
  have k := f25 d hd
  rw [strengthE, if_pos h] at k
  exact k
theorem f25n {d : Drum} (hd : drumOK d) (h : errE d true ≠ 0) : ACalls Tryz.prog 25 [eDrum d] (fun r => r = .tup [eSpans [], vi (errE d true)]) := by
  have k := f25 d hd
  rw [strengthE, if_neg h] at k
  exact k
theorem AW_blk_mid {P : Program} {nt id : Nat} {c rest : Code} {Q : Exit → ASt → Prop} {s : ASt} (canon : ASt) (h1 : AW P nt c (InBlk id (Then (fun s' => Le s' canon) Q)) s) (h2 : AW P nt rest Q canon) : AW P nt c (InBlk id (Then (AW P nt rest Q) Q)) s :=
  AW_mono h1 fun e s' h => by
    cases e with
    | normal => exact AW_le (show Le s' canon from h) h2
    | exit id' =>
      simp only [InBlk] at h ⊢
      by_cases hi : id' = id
      · rw [if_pos hi] at h ⊢; exact AW_le (show Le s' canon from h) h2
      · rw [if_neg hi] at h ⊢; exact h
    | _ => exact h
set_option maxHeartbeats 16000000 in
theorem f15 (d : Drum) (acid : Int) (t : List Int) (one : Int) : ACalls Tryz.prog 15 [eDrum d, eTruth acid t, vi one] (fun r => r = .pv (.bool true)) := by
  have k23 := f23' d
  cases hs : shortB d with
  | false =>
    rw [hs] at k23
    refine ACalls.of_body hT Tryz.func15 rfl (by kernel_rfl) rfl ?_
    (repeat' (first | refine stq ?_ | (refine AL_do2 rfl ?_; first | refine ⟨_, op_call1 rfl rfl rfl rfl (k23), nrmA rfl ?_⟩ | refine ⟨_, op_call1 rfl rfl rfl rfl (f24), nrmA rfl ?_⟩) | (with_reducible refine AL_id ?_); (fail_if_success (refine AL_glit rfl rfl rfl (by first | exact .inl (by with_reducible rfl) | exact .inr (by with_reducible rfl)) ?_)); first | refine AL_gdec rfl rfl rfl (fun hg => ?_) (fun hg => ?_) | refine AL_gnot rfl rfl rfl (fun hg => ?_) (fun hg => ?_) | refine AL_gcases rfl rfl rfl (fun hg => ?_) (fun hg => ?_)))
    all_goals (try (exfalso; simp at hg; done))
    exact ⟨_, _, rfl, rfl, rfl⟩
  | true =>
    rw [hs] at k23
    have hd := short_ok hs
    by_cases ht : t.length ≤ 15
    · have ht' : t.length ≤ 1000 := by omega
      have k39 := f39 d hd
      cases q : drumB d with
      | false =>
        rw [q] at k39
        refine ACalls.of_body hT Tryz.func15 rfl (by kernel_rfl) rfl ?_
        (repeat' (first | refine stq ?_ | (refine AL_do2 rfl ?_; first | refine ⟨_, op_call1 rfl rfl rfl rfl (k23), nrmA rfl ?_⟩ | refine ⟨_, op_call1 rfl rfl rfl rfl (f24), nrmA rfl ?_⟩ | refine ⟨_, op_call1 rfl rfl rfl rfl (k39), nrmA rfl ?_⟩) | ((first | (with_reducible refine AL_id ?_); (fail_if_success (refine AL_glit rfl rfl rfl (by first | exact .inl (by with_reducible rfl) | exact .inr (by with_reducible rfl)) ?_)); first | refine AL_gdec rfl rfl rfl (fun hg => ?_) (fun hg => ?_) | refine AL_gnot rfl rfl rfl (fun hg => ?_) (fun hg => ?_) | refine AL_gcases rfl rfl rfl (fun hg => ?_) (fun hg => ?_)) <;> (try (exfalso; omega))) | refine AW_if rfl (fun hc => absurd hc (by omega)) (fun _ => ?_) | refine AW_if rfl (fun _ => ?_) (fun hc => absurd (by omega) hc)))
        all_goals exact ⟨_, _, rfl, rfl, rfl⟩
      | true =>
        rw [q] at k39
        have hP := drumP_of.1 q
        have k63 := f63 d acid t hd.1 ht'
        have h0 := hP.h0
        have hh1 := hP.h1
        have ha1 := hP.a1
        cases hz : sizedB d acid t with
        | false =>
          rw [hz] at k63
          refine ACalls.of_body hT Tryz.func15 rfl (by kernel_rfl) rfl ?_
          (repeat' (first | refine stq ?_ | (refine AL_do2 rfl ?_; first | refine ⟨_, op_call1 rfl rfl rfl rfl (k23), nrmA rfl ?_⟩ | refine ⟨_, op_call1 rfl rfl rfl rfl (f24), nrmA rfl ?_⟩ | refine ⟨_, op_call1 rfl rfl rfl rfl (k39), nrmA rfl ?_⟩ | refine ⟨_, op_call1 rfl rfl rfl rfl (k63), nrmA rfl ?_⟩) | ((first | (with_reducible refine AL_id ?_); (fail_if_success (refine AL_glit rfl rfl rfl (by first | exact .inl (by with_reducible rfl) | exact .inr (by with_reducible rfl)) ?_)); first | refine AL_gdec rfl rfl rfl (fun hg => ?_) (fun hg => ?_) | refine AL_gnot rfl rfl rfl (fun hg => ?_) (fun hg => ?_) | refine AL_gcases rfl rfl rfl (fun hg => ?_) (fun hg => ?_)) <;> (try (exfalso; omega))) | refine AW_if rfl (fun hc => absurd hc (by omega)) (fun _ => ?_) | refine AW_if rfl (fun _ => ?_) (fun hc => absurd (by omega) hc)))
          all_goals exact ⟨_, _, rfl, rfl, rfl⟩
        | true =>
          rw [hz] at k63
          by_cases hf : 0 ≤ one ∧ one < d.acids.length
          · obtain ⟨n, rfl⟩ : ∃ n : Nat, one = n := ⟨one.toNat, by omega⟩
            have hn : n < d.acids.length := by omega
            obtain ⟨a, ha⟩ : ∃ a, d.acids[n]? = some a := ⟨d.acids[n], by simp [hn]⟩
            have hPa := hP.acid a (List.mem_of_getElem? ha)
            have k64 := f64y (acid := acid) (t := t) hd ht' (by rw [q, hz]; rfl)
            have hmem := fits_mem (acid := acid) (t := t) hP hz
            rcases err_cases q with ⟨hn0, he⟩ | ⟨hne, he⟩
            · have hfb : fitsB d acid t = false := by
                cases hq : fitsB d acid t with
                | false => rfl
                | true => have := (hmem hq).1; rw [hn0] at this; cases this
              rw [hfb] at k64
              have k65 := f65z hd q (by rw [hn0]; rfl)
              have k25 := f25n hd (by rw [he]; decide)
              rw [he] at k25
              refine ACalls.of_body hT Tryz.func15 rfl (by kernel_rfl) rfl ?_
              (repeat' (first | refine stq ?_ | (refine AL_do2 rfl ?_; first | refine ⟨_, op_call1 rfl rfl rfl rfl (k23), nrmA rfl ?_⟩ | refine ⟨_, op_call1 rfl rfl rfl rfl (f24), nrmA rfl ?_⟩ | refine ⟨_, op_call1 rfl rfl rfl rfl (k39), nrmA rfl ?_⟩ | refine ⟨_, op_call1 rfl rfl rfl rfl (k63), nrmA rfl ?_⟩) | ((first | (with_reducible refine AL_id ?_); (fail_if_success (refine AL_glit rfl rfl rfl (by first | exact .inl (by with_reducible rfl) | exact .inr (by with_reducible rfl)) ?_)); first | refine AL_gdec rfl rfl rfl (fun hg => ?_) (fun hg => ?_) | refine AL_gnot rfl rfl rfl (fun hg => ?_) (fun hg => ?_) | refine AL_gcases rfl rfl rfl (fun hg => ?_) (fun hg => ?_)) <;> (try (exfalso; omega))) | refine AW_if rfl (fun hc => absurd hc (by omega)) (fun _ => ?_) | refine AW_if rfl (fun _ => ?_) (fun hc => absurd (by omega) hc)))
              all_goals (try (exfalso; omega))
              (repeat' (first | refine AL_skip rfl rfl ?_ | refine stq ?_ | (refine AL_do2 rfl ?_; first | refine ⟨_, op_call1 rfl rfl rfl rfl (k64), nrmA rfl ?_⟩ | refine ⟨_, op_call1 rfl rfl rfl rfl (k65), nrmA rfl ?_⟩ | refine ⟨_, op_call1 rfl rfl rfl rfl (k25), nrmA rfl ?_⟩ | refine ⟨_, op_call1 rfl rfl rfl rfl (f24), nrmA rfl ?_⟩) | ((first | (with_reducible refine AL_id ?_); (fail_if_success (refine AL_glit rfl rfl rfl (by first | exact .inl (by with_reducible rfl) | exact .inr (by with_reducible rfl)) ?_)); first | refine AL_gdec rfl rfl rfl (fun hg => ?_) (fun hg => ?_) | refine AL_gnot rfl rfl rfl (fun hg => ?_) (fun hg => ?_) | refine AL_gcases rfl rfl rfl (fun hg => ?_) (fun hg => ?_)) <;> (try (exfalso; omega))) | refine AW_if rfl (fun hc => absurd hc (by omega)) (fun _ => ?_) | refine AW_if rfl (fun _ => ?_) (fun hc => absurd (by omega) hc)))
              all_goals first | exact ⟨_, _, rfl, rfl, rfl⟩ | (exfalso; omega)
            · have hlf : (filledL d).length ≠ 0 := fun e => hne (List.length_eq_zero_iff.1 e)
              have k65 := f65y hd q hlf
              have k25 := f25y hd he
              have hsl := strength_len d
              have k66 := f66 d (strengthL d) (by omega) (strength_plain hP hne)
              rw [decide_eq_true (by omega)] at k66
              have hcl := could_len d
              have hfl := filled_le d
              have k67a := f67 (couldL d) acid (by omega)
              have k67 := f67 (couldL d) n (by omega)
              have hkb := known_bd hP
              have k68 := f68 d.known n hkb.1 hkb.2 (by omega)
              have hcm := could_mem ha
              have hP1 := one_P hP hn
              have hB1 : drumB (oneD d n) = true := drumP_of.2 hP1
              have hd1 : drumOK (oneD d n) := hd
              have hmc : fitsB d acid t = true → acid ∈ couldL d := fun h => by
                have h1 := (hmem h).1
                unfold couldL
                refine List.mem_map.2 ⟨_, h1, ?_⟩
                have := (sized_of hz).1
                show ((acid.toNat : Nat) : Int) = acid
                omega
              have hin : ∀ i : Nat, fitsB d acid t = true → i < d.hours.toNat → (hullL ((filledL d).map fun p => strongS d p.1 i)).low ≤ t.getD i 0 ∧ t.getD i 0 ≤ (hullL ((filledL d).map fun p => strongS d p.1 i)).high := fun i h hi => strength_true hP (hmem h).1 (hmem h).2.1 hi
              have htl : (t.length : Int) = d.hours := (sized_of hz).2.2
              have hsg : ∀ i : Nat, i < d.hours.toNat → (strengthL d)[i]? = some (hullL ((filledL d).map fun p => strongS d p.1 i)) := fun i hi => strength_get hi
              have k66b : mayB d a = true → ACalls Tryz.prog 66 [eDrum d, eSpans (strongL d a)] (fun r => r = .pv (.bool true)) := fun hm => by
                have hs1 := one_strength hP ha hm
                have hne1 : filledL (oneD d n) ≠ [] := fun e => by
                  have : (a, n) ∈ filledL (oneD d n) := (one_mem hP ha).2 ⟨rfl, hm⟩
                  rw [e] at this; cases this
                have hl := strongL_len d a
                have k := f66 d (strongL d a) (by omega) (by rw [← hs1]; exact strength_plain hP1 hne1)
                rw [decide_eq_true (by omega)] at k
                exact k
              have k25b : mayB d a = true → ACalls Tryz.prog 25 [eDrum (oneD d n)] (fun r => r = .tup [eSpans (strongL d a), vi 0]) := fun hm => by
                have hs1 := one_strength hP ha hm
                rcases err_cases hB1 with ⟨e, _⟩ | ⟨_, he1⟩
                · exfalso
                  have : (a, n) ∈ filledL (oneD d n) := (one_mem hP ha).2 ⟨rfl, hm⟩
                  rw [e] at this; cases this
                · have k := f25y hd1 he1
                  rw [hs1] at k
                  exact k
              have k25z : mayB d a = false → ACalls Tryz.prog 25 [eDrum (oneD d n)] (fun r => r = .tup [eSpans [], vi 7]) := fun hm => by
                rcases err_cases hB1 with ⟨_, he1⟩ | ⟨hne1, _⟩
                · have k := f25n hd1 (by rw [he1]; decide)
                  rw [he1] at k
                  exact k
                · exfalso
                  apply hne1
                  match hfe : filledL (oneD d n) with
                  | [] => rfl
                  | p :: _ => have := ((one_mem hP ha).1 (show p ∈ filledL (oneD d n) by rw [hfe]; simp)).2; rw [hm] at this; cases this
              have hke : ∀ b : Bool, ACalls Tryz.prog 69 [eSpans (strongL d a), .bool b] (fun r => r = .pv (eInts (endsL (strongL d a) b))) := fun b => f69 (strongL d a) b (by have := strongL_len d a; omega)
              have k64b : ∀ b : Bool, hasI d.known n = true → mayB d a = true → ACalls Tryz.prog 64 [eDrum d, eTruth n (endsL (strongL d a) b)] (fun r => r = .tup [.bool true, vi 0]) := fun b hh hm => by
                have hel := ends_len (d := d) a b
                have hz1 : sizedB d n (endsL (strongL d a) b) = true := by
                  simp only [sizedB, inB, Bool.and_eq_true, decide_eq_true_eq]; omega
                have hf1 : fitsB d n (endsL (strongL d a) b) = true := by
                  have e : d.acids.getD (n : Int).toNat ⟨⟨0, 0⟩, ⟨0, 0⟩⟩ = a := by rw [Int.toNat_natCast, List.getD_eq_getElem?_getD, ha]; rfl
                  unfold fitsB
                  rw [e, Int.toNat_natCast, bit_has hkb.1 hkb.2 (by omega), hh, ends_true hP hPa hm b]; rfl
                have k := f64y (acid := (n : Int)) (t := endsL (strongL d a) b) hd (by omega) (by rw [q, hz1]; rfl)
                rw [hf1] at k
                exact k
              have k64c := k64b false
              have k64d := k64b true
              have kec := hke false
              have ked := hke true
              generalize endsL (strongL d a) false = LO at *
              generalize endsL (strongL d a) true = HI at *
              generalize strongL d a = SL at *
              generalize couldL d = C at *
              generalize hS : strengthL d = S at *
              have hw : IntKind.u64.wrap (n : Int) = n := by unfold IntKind.wrap; simp [IntKind.signed, IntKind.bits]; omega
              cases hq : fitsB d acid t
              all_goals
                rw [hq] at k64
                refine ACalls.of_body hT Tryz.func15 rfl (by kernel_rfl) rfl ?_
                (repeat' (first | refine stq ?_ | (refine AL_do2 rfl ?_; first | refine ⟨_, op_call1 rfl rfl rfl rfl (k23), nrmA rfl ?_⟩ | refine ⟨_, op_call1 rfl rfl rfl rfl (f24), nrmA rfl ?_⟩ | refine ⟨_, op_call1 rfl rfl rfl rfl (k39), nrmA rfl ?_⟩ | refine ⟨_, op_call1 rfl rfl rfl rfl (k63), nrmA rfl ?_⟩) | ((first | (with_reducible refine AL_id ?_); (fail_if_success (refine AL_glit rfl rfl rfl (by first | exact .inl (by with_reducible rfl) | exact .inr (by with_reducible rfl)) ?_)); first | refine AL_gdec rfl rfl rfl (fun hg => ?_) (fun hg => ?_) | refine AL_gnot rfl rfl rfl (fun hg => ?_) (fun hg => ?_) | refine AL_gcases rfl rfl rfl (fun hg => ?_) (fun hg => ?_)) <;> (try (exfalso; omega))) | refine AW_if rfl (fun hc => absurd hc (by omega)) (fun _ => ?_) | refine AW_if rfl (fun _ => ?_) (fun hc => absurd (by omega) hc)))
                all_goals (try (exfalso; omega))
              · (repeat' (first | refine AL_skip rfl rfl ?_ | refine stq ?_ | (refine AL_do2 rfl ?_; first | refine ⟨_, op_call1 rfl rfl rfl rfl (k64), nrmA rfl ?_⟩ | refine ⟨_, op_call1 rfl rfl rfl rfl (k65), nrmA rfl ?_⟩ | refine ⟨_, op_call1 rfl rfl rfl rfl (k25), nrmA rfl ?_⟩ | refine ⟨_, op_call1 rfl rfl rfl rfl (k66), nrmA rfl ?_⟩) | ((first | (with_reducible refine AL_id ?_); (fail_if_success (refine AL_glit rfl rfl rfl (by first | exact .inl (by with_reducible rfl) | exact .inr (by with_reducible rfl)) ?_)); first | refine AL_gdec rfl rfl rfl (fun hg => ?_) (fun hg => ?_) | refine AL_gnot rfl rfl rfl (fun hg => ?_) (fun hg => ?_) | refine AL_gcases rfl rfl rfl (fun hg => ?_) (fun hg => ?_)) <;> (try (exfalso; omega))) | refine AW_if rfl (fun hc => absurd hc (by omega)) (fun _ => ?_) | refine AW_if rfl (fun _ => ?_) (fun hc => absurd (by omega) hc)))
                all_goals (try (exfalso; omega))
                refine AW_blk_mid (mkSt [(2, .pv (vi n)), (3, .box 0 0), (9, .pv (eInts C))] [(0, .box ((eDrumC d).map FV.pv))] 2) ?_ ?_
                · refine AW_loopC (fun k : Nat => k = 0) (fun k => mkSt [(2, .pv (vi n)), (3, .box 0 0), (7, .pv (.bool false)), (9, .pv (eInts C)), (11, .pv (eSpans S)), (13, .pv (vi k))] [(0, .box ((eDrumC d).map FV.pv))] 2) (fun k => 0) 0 rfl ?_ ?_
                  · (refine Le.mk ?_ ?_; all_goals (repeat' (first | exact trivial | refine sle ?_ | refine ⟨?_, rfl, ?_⟩ | refine ⟨?_, by decide, rfl, ?_⟩ | fail)))
                  · rintro k rfl
                    (repeat' (first | refine stq ?_ | ((first | (with_reducible refine AL_id ?_); (fail_if_success (refine AL_glit rfl rfl rfl (by first | exact .inl (by with_reducible rfl) | exact .inr (by with_reducible rfl)) ?_)); first | refine AL_gdec rfl rfl rfl (fun hg => ?_) (fun hg => ?_) | refine AL_gnot rfl rfl rfl (fun hg => ?_) (fun hg => ?_) | refine AL_gcases rfl rfl rfl (fun hg => ?_) (fun hg => ?_)) <;> (try (exfalso; omega))) | refine AW_if rfl (fun hc => absurd hc (by omega)) (fun _ => ?_) | refine AW_if rfl (fun _ => ?_) (fun hc => absurd (by omega) hc)))
                    all_goals (try (exfalso; omega))
                    all_goals (refine Le.mk ?_ ?_; all_goals (repeat' (first | exact trivial | refine sle ?_ | refine ⟨?_, rfl, ?_⟩ | refine ⟨?_, by decide, rfl, ?_⟩ | fail)))
                · by_cases hl : (n : Int) ∈ C
                  · obtain ⟨h1, h2⟩ := hcm.1 hl
                    rw [decide_eq_true hl] at k67
                    rw [h1] at k68
                    have k25c := k25b h2
                    have k66c := k66b h2
                    have k64e := k64c h1 h2
                    have k64f := k64d h1 h2
                    (repeat (refine stq ?_))
                    rw [hw]
                    (repeat' (first | refine stq ?_ | (refine AL_do2 rfl ?_; first | refine ⟨_, op_call1 rfl rfl rfl rfl (k25c), nrmA rfl ?_⟩ | refine ⟨_, op_call1 rfl rfl rfl rfl (k67), nrmA rfl ?_⟩ | refine ⟨_, op_call1 rfl rfl rfl rfl (k68), nrmA rfl ?_⟩ | refine ⟨_, op_call1 rfl rfl rfl rfl (k66c), nrmA rfl ?_⟩) | (with_reducible refine AL_id ?_); (fail_if_success (refine AL_glit rfl rfl rfl (by first | exact .inl (by with_reducible rfl) | exact .inr (by with_reducible rfl)) ?_)); first | refine AL_gdec rfl rfl rfl (fun hg => ?_) (fun hg => ?_) | refine AL_gnot rfl rfl rfl (fun hg => ?_) (fun hg => ?_) | refine AL_gcases rfl rfl rfl (fun hg => ?_) (fun hg => ?_)))
                    all_goals (try (exfalso; simp at hg; done))
                    (repeat (first | refine sdq ?_ | refine DG_next (D_call rfl rfl rfl rfl rfl (kec)) ?_ | refine DG_next (D_call_tup rfl rfl rfl rfl rfl (k64e)) ?_))
                    refine DG_end hM (by kernel_rfl) ?_
                    (repeat (refine stq ?_))
                    (repeat (first | refine sdq ?_ | refine DG_next (D_call rfl rfl rfl rfl rfl (ked)) ?_ | refine DG_next (D_call_tup rfl rfl rfl rfl rfl (k64f)) ?_))
                    refine DG_end hM (by kernel_rfl) ?_
                    (repeat' (first | refine stq ?_ | (refine AL_do2 rfl ?_; first | refine ⟨_, op_call1 rfl rfl rfl rfl (f24), nrmA rfl ?_⟩) | (with_reducible refine AL_id ?_); (fail_if_success (refine AL_glit rfl rfl rfl (by first | exact .inl (by with_reducible rfl) | exact .inr (by with_reducible rfl)) ?_)); first | refine AL_gdec rfl rfl rfl (fun hg => ?_) (fun hg => ?_) | refine AL_gnot rfl rfl rfl (fun hg => ?_) (fun hg => ?_) | refine AL_gcases rfl rfl rfl (fun hg => ?_) (fun hg => ?_)))
                    all_goals (try (exfalso; simp at hg; done))
                    exact ⟨_, _, rfl, rfl, rfl⟩
                  · rw [decide_eq_false hl] at k67
                    cases hm : mayB d a with
                    | false =>
                      have k25c := k25z hm
                      (repeat (refine stq ?_))
                      rw [hw]
                      (repeat' (first | refine AL_skip rfl rfl ?_ | refine stq ?_ | (refine AL_do2 rfl ?_; first | refine ⟨_, op_call1 rfl rfl rfl rfl (k25c), nrmA rfl ?_⟩ | refine ⟨_, op_call1 rfl rfl rfl rfl (k67), nrmA rfl ?_⟩ | refine ⟨_, op_call1 rfl rfl rfl rfl (k68), nrmA rfl ?_⟩ | refine ⟨_, op_call1 rfl rfl rfl rfl (f24), nrmA rfl ?_⟩) | ((first | (with_reducible refine AL_id ?_); (fail_if_success (refine AL_glit rfl rfl rfl (by first | exact .inl (by with_reducible rfl) | exact .inr (by with_reducible rfl)) ?_)); first | refine AL_gdec rfl rfl rfl (fun hg => ?_) (fun hg => ?_) | refine AL_gnot rfl rfl rfl (fun hg => ?_) (fun hg => ?_) | refine AL_gcases rfl rfl rfl (fun hg => ?_) (fun hg => ?_)) <;> (try (exfalso; omega))) | refine AW_if rfl (fun hc => absurd hc (by omega)) (fun _ => ?_) | refine AW_if rfl (fun _ => ?_) (fun hc => absurd (by omega) hc)))
                      all_goals (try (exfalso; simp at hg; done))
                      all_goals exact ⟨_, _, rfl, rfl, rfl⟩
                    | true =>
                      have k25c := k25b hm
                      have hh : hasI d.known n = false := by
                        cases hh : hasI d.known n with
                        | false => rfl
                        | true => exact absurd (hcm.2 ⟨hh, hm⟩) hl
                      rw [hh] at k68
                      (repeat (refine stq ?_))
                      rw [hw]
                      (repeat' (first | refine AL_skip rfl rfl ?_ | refine stq ?_ | (refine AL_do2 rfl ?_; first | refine ⟨_, op_call1 rfl rfl rfl rfl (k25c), nrmA rfl ?_⟩ | refine ⟨_, op_call1 rfl rfl rfl rfl (k67), nrmA rfl ?_⟩ | refine ⟨_, op_call1 rfl rfl rfl rfl (k68), nrmA rfl ?_⟩ | refine ⟨_, op_call1 rfl rfl rfl rfl (f24), nrmA rfl ?_⟩) | ((first | (with_reducible refine AL_id ?_); (fail_if_success (refine AL_glit rfl rfl rfl (by first | exact .inl (by with_reducible rfl) | exact .inr (by with_reducible rfl)) ?_)); first | refine AL_gdec rfl rfl rfl (fun hg => ?_) (fun hg => ?_) | refine AL_gnot rfl rfl rfl (fun hg => ?_) (fun hg => ?_) | refine AL_gcases rfl rfl rfl (fun hg => ?_) (fun hg => ?_)) <;> (try (exfalso; omega))) | refine AW_if rfl (fun hc => absurd hc (by omega)) (fun _ => ?_) | refine AW_if rfl (fun _ => ?_) (fun hc => absurd (by omega) hc)))
                      all_goals (try (exfalso; simp at hg; done))
                      all_goals exact ⟨_, _, rfl, rfl, rfl⟩
              · have k67a' := k67a
                rw [decide_eq_true (hmc hq)] at k67a'
                (repeat' (first | refine AL_skip rfl rfl ?_ | refine stq ?_ | (refine AL_do2 rfl ?_; first | refine ⟨_, op_call1 rfl rfl rfl rfl (k64), nrmA rfl ?_⟩ | refine ⟨_, op_call1 rfl rfl rfl rfl (k65), nrmA rfl ?_⟩ | refine ⟨_, op_call1 rfl rfl rfl rfl (k25), nrmA rfl ?_⟩ | refine ⟨_, op_call1 rfl rfl rfl rfl (k66), nrmA rfl ?_⟩ | refine ⟨_, op_call1 rfl rfl rfl rfl (k67a'), nrmA rfl ?_⟩) | ((first | (with_reducible refine AL_id ?_); (fail_if_success (refine AL_glit rfl rfl rfl (by first | exact .inl (by with_reducible rfl) | exact .inr (by with_reducible rfl)) ?_)); first | refine AL_gdec rfl rfl rfl (fun hg => ?_) (fun hg => ?_) | refine AL_gnot rfl rfl rfl (fun hg => ?_) (fun hg => ?_) | refine AL_gcases rfl rfl rfl (fun hg => ?_) (fun hg => ?_)) <;> (try (exfalso; omega))) | refine AW_if rfl (fun hc => absurd hc (by omega)) (fun _ => ?_) | refine AW_if rfl (fun _ => ?_) (fun hc => absurd (by omega) hc)))
                all_goals (try (exfalso; omega))
                refine AW_blk_mid (mkSt [(2, .pv (vi n)), (3, .box 0 0), (9, .pv (eInts C))] [(0, .box ((eDrumC d).map FV.pv))] 2) ?_ ?_
                · refine AW_loopC (fun k : Nat => k ≤ S.length) (fun k => mkSt [(2, .pv (vi n)), (3, .box 0 0), (4, .box 1 0), (7, .pv (.bool true)), (9, .pv (eInts C)), (11, .pv (eSpans S)), (13, .pv (vi k))] [(0, .box ((eDrumC d).map FV.pv)), (1, .box [.pv (vi acid), .pv (eInts t)])] 2) (fun k => S.length - k) 0 (Nat.zero_le _) ?_ ?_
                  · (refine Le.mk ?_ ?_; all_goals (repeat' (first | exact trivial | refine sle ?_ | refine ⟨?_, rfl, ?_⟩ | refine ⟨?_, by decide, rfl, ?_⟩ | fail)))
                  · intro k hk
                    by_cases hk' : k < S.length
                    · obtain ⟨x, hx⟩ : ∃ x, t[k]? = some x := ⟨t[k]'(by omega), by simp⟩
                      have gx : t.getD k 0 = x := by rw [List.getD_eq_getElem?_getD, hx]; rfl
                      have hi1 := hin k hq (by omega)
                      have hi2 := hsg k (by omega)
                      rw [gx] at hi1
                      have e1 := get_map eInt hx
                      have e2 := get_map eSpan hi2
                      generalize hullL ((filledL d).map fun p => strongS d p.1 k) = y at *
                      (repeat' (first | refine stq ?_ | ((first | (with_reducible refine AL_id ?_); (fail_if_success (refine AL_glit rfl rfl rfl (by first | exact .inl (by with_reducible rfl) | exact .inr (by with_reducible rfl)) ?_)); first | refine AL_gdec rfl rfl rfl (fun hg => ?_) (fun hg => ?_) | refine AL_gnot rfl rfl rfl (fun hg => ?_) (fun hg => ?_) | refine AL_gcases rfl rfl rfl (fun hg => ?_) (fun hg => ?_)) <;> (try (exfalso; omega))) | refine AW_if rfl (fun hc => absurd hc (by omega)) (fun _ => ?_) | refine AW_if rfl (fun _ => ?_) (fun hc => absurd (by omega) hc)))
                      all_goals (try (exfalso; omega))
                      iterate 10 (refine sdq ?_)
                      refine DG_cmp hT rfl (fun hg => absurd hg (by omega)) (fun _ => ?_)
                      iterate 11 (refine sdq ?_)
                      refine DG_cmp hT rfl (fun hg => absurd hg (by omega)) (fun _ => ?_)
                      refine sdq ?_
                      refine DG_end hM (by kernel_rfl) ?_
                      (repeat (refine stq ?_))
                      refine ⟨k + 1, hk', by omega, ?_⟩
                      (refine Le.mk ?_ ?_; all_goals (repeat' (first | exact trivial | refine sle ?_ | refine ⟨?_, rfl, ?_⟩ | refine ⟨?_, by decide, rfl, ?_⟩ | fail)))
                    · (repeat' (first | refine stq ?_ | ((first | (with_reducible refine AL_id ?_); (fail_if_success (refine AL_glit rfl rfl rfl (by first | exact .inl (by with_reducible rfl) | exact .inr (by with_reducible rfl)) ?_)); first | refine AL_gdec rfl rfl rfl (fun hg => ?_) (fun hg => ?_) | refine AL_gnot rfl rfl rfl (fun hg => ?_) (fun hg => ?_) | refine AL_gcases rfl rfl rfl (fun hg => ?_) (fun hg => ?_)) <;> (try (exfalso; omega))) | refine AW_if rfl (fun hc => absurd hc (by omega)) (fun _ => ?_) | refine AW_if rfl (fun _ => ?_) (fun hc => absurd (by omega) hc)))
                      all_goals (try (exfalso; omega))
                      all_goals (refine Le.mk ?_ ?_; all_goals (repeat' (first | exact trivial | refine sle ?_ | refine ⟨?_, rfl, ?_⟩ | refine ⟨?_, by decide, rfl, ?_⟩ | fail)))
                · by_cases hl : (n : Int) ∈ C
                  · obtain ⟨h1, h2⟩ := hcm.1 hl
                    rw [decide_eq_true hl] at k67
                    rw [h1] at k68
                    have k25c := k25b h2
                    have k66c := k66b h2
                    have k64e := k64c h1 h2
                    have k64f := k64d h1 h2
                    (repeat (refine stq ?_))
                    rw [hw]
                    (repeat' (first | refine stq ?_ | (refine AL_do2 rfl ?_; first | refine ⟨_, op_call1 rfl rfl rfl rfl (k25c), nrmA rfl ?_⟩ | refine ⟨_, op_call1 rfl rfl rfl rfl (k67), nrmA rfl ?_⟩ | refine ⟨_, op_call1 rfl rfl rfl rfl (k68), nrmA rfl ?_⟩ | refine ⟨_, op_call1 rfl rfl rfl rfl (k66c), nrmA rfl ?_⟩) | (with_reducible refine AL_id ?_); (fail_if_success (refine AL_glit rfl rfl rfl (by first | exact .inl (by with_reducible rfl) | exact .inr (by with_reducible rfl)) ?_)); first | refine AL_gdec rfl rfl rfl (fun hg => ?_) (fun hg => ?_) | refine AL_gnot rfl rfl rfl (fun hg => ?_) (fun hg => ?_) | refine AL_gcases rfl rfl rfl (fun hg => ?_) (fun hg => ?_)))
                    all_goals (try (exfalso; simp at hg; done))
                    (repeat (first | refine sdq ?_ | refine DG_next (D_call rfl rfl rfl rfl rfl (kec)) ?_ | refine DG_next (D_call_tup rfl rfl rfl rfl rfl (k64e)) ?_))
                    refine DG_end hM (by kernel_rfl) ?_
                    (repeat (refine stq ?_))
                    (repeat (first | refine sdq ?_ | refine DG_next (D_call rfl rfl rfl rfl rfl (ked)) ?_ | refine DG_next (D_call_tup rfl rfl rfl rfl rfl (k64f)) ?_))
                    refine DG_end hM (by kernel_rfl) ?_
                    (repeat' (first | refine stq ?_ | (refine AL_do2 rfl ?_; first | refine ⟨_, op_call1 rfl rfl rfl rfl (f24), nrmA rfl ?_⟩) | (with_reducible refine AL_id ?_); (fail_if_success (refine AL_glit rfl rfl rfl (by first | exact .inl (by with_reducible rfl) | exact .inr (by with_reducible rfl)) ?_)); first | refine AL_gdec rfl rfl rfl (fun hg => ?_) (fun hg => ?_) | refine AL_gnot rfl rfl rfl (fun hg => ?_) (fun hg => ?_) | refine AL_gcases rfl rfl rfl (fun hg => ?_) (fun hg => ?_)))
                    all_goals (try (exfalso; simp at hg; done))
                    exact ⟨_, _, rfl, rfl, rfl⟩
                  · rw [decide_eq_false hl] at k67
                    cases hm : mayB d a with
                    | false =>
                      have k25c := k25z hm
                      (repeat (refine stq ?_))
                      rw [hw]
                      (repeat' (first | refine AL_skip rfl rfl ?_ | refine stq ?_ | (refine AL_do2 rfl ?_; first | refine ⟨_, op_call1 rfl rfl rfl rfl (k25c), nrmA rfl ?_⟩ | refine ⟨_, op_call1 rfl rfl rfl rfl (k67), nrmA rfl ?_⟩ | refine ⟨_, op_call1 rfl rfl rfl rfl (k68), nrmA rfl ?_⟩ | refine ⟨_, op_call1 rfl rfl rfl rfl (f24), nrmA rfl ?_⟩) | ((first | (with_reducible refine AL_id ?_); (fail_if_success (refine AL_glit rfl rfl rfl (by first | exact .inl (by with_reducible rfl) | exact .inr (by with_reducible rfl)) ?_)); first | refine AL_gdec rfl rfl rfl (fun hg => ?_) (fun hg => ?_) | refine AL_gnot rfl rfl rfl (fun hg => ?_) (fun hg => ?_) | refine AL_gcases rfl rfl rfl (fun hg => ?_) (fun hg => ?_)) <;> (try (exfalso; omega))) | refine AW_if rfl (fun hc => absurd hc (by omega)) (fun _ => ?_) | refine AW_if rfl (fun _ => ?_) (fun hc => absurd (by omega) hc)))
                      all_goals (try (exfalso; simp at hg; done))
                      all_goals exact ⟨_, _, rfl, rfl, rfl⟩
                    | true =>
                      have k25c := k25b hm
                      have hh : hasI d.known n = false := by
                        cases hh : hasI d.known n with
                        | false => rfl
                        | true => exact absurd (hcm.2 ⟨hh, hm⟩) hl
                      rw [hh] at k68
                      (repeat (refine stq ?_))
                      rw [hw]
                      (repeat' (first | refine AL_skip rfl rfl ?_ | refine stq ?_ | (refine AL_do2 rfl ?_; first | refine ⟨_, op_call1 rfl rfl rfl rfl (k25c), nrmA rfl ?_⟩ | refine ⟨_, op_call1 rfl rfl rfl rfl (k67), nrmA rfl ?_⟩ | refine ⟨_, op_call1 rfl rfl rfl rfl (k68), nrmA rfl ?_⟩ | refine ⟨_, op_call1 rfl rfl rfl rfl (f24), nrmA rfl ?_⟩) | ((first | (with_reducible refine AL_id ?_); (fail_if_success (refine AL_glit rfl rfl rfl (by first | exact .inl (by with_reducible rfl) | exact .inr (by with_reducible rfl)) ?_)); first | refine AL_gdec rfl rfl rfl (fun hg => ?_) (fun hg => ?_) | refine AL_gnot rfl rfl rfl (fun hg => ?_) (fun hg => ?_) | refine AL_gcases rfl rfl rfl (fun hg => ?_) (fun hg => ?_)) <;> (try (exfalso; omega))) | refine AW_if rfl (fun hc => absurd hc (by omega)) (fun _ => ?_) | refine AW_if rfl (fun _ => ?_) (fun hc => absurd (by omega) hc)))
                      all_goals (try (exfalso; simp at hg; done))
                      all_goals exact ⟨_, _, rfl, rfl, rfl⟩
          · refine ACalls.of_body hT Tryz.func15 rfl (by kernel_rfl) rfl ?_
            (repeat' (first | refine stq ?_ | (refine AL_do2 rfl ?_; first | refine ⟨_, op_call1 rfl rfl rfl rfl (k23), nrmA rfl ?_⟩ | refine ⟨_, op_call1 rfl rfl rfl rfl (f24), nrmA rfl ?_⟩ | refine ⟨_, op_call1 rfl rfl rfl rfl (k39), nrmA rfl ?_⟩ | refine ⟨_, op_call1 rfl rfl rfl rfl (k63), nrmA rfl ?_⟩) | ((first | (with_reducible refine AL_id ?_); (fail_if_success (refine AL_glit rfl rfl rfl (by first | exact .inl (by with_reducible rfl) | exact .inr (by with_reducible rfl)) ?_)); first | refine AL_gdec rfl rfl rfl (fun hg => ?_) (fun hg => ?_) | refine AL_gnot rfl rfl rfl (fun hg => ?_) (fun hg => ?_) | refine AL_gcases rfl rfl rfl (fun hg => ?_) (fun hg => ?_)) <;> (try (exfalso; omega))) | refine AW_if rfl (fun hc => absurd hc (by omega)) (fun _ => ?_) | refine AW_if rfl (fun _ => ?_) (fun hc => absurd (by omega) hc)))
            all_goals first | exact ⟨_, _, rfl, rfl, rfl⟩ | (exfalso; omega)
    · refine ACalls.of_body hT Tryz.func15 rfl (by kernel_rfl) rfl ?_
      (repeat' (first | refine stq ?_ | (refine AL_do2 rfl ?_; first | refine ⟨_, op_call1 rfl rfl rfl rfl (k23), nrmA rfl ?_⟩ | refine ⟨_, op_call1 rfl rfl rfl rfl (f24), nrmA rfl ?_⟩) | ((first | (with_reducible refine AL_id ?_); (fail_if_success (refine AL_glit rfl rfl rfl (by first | exact .inl (by with_reducible rfl) | exact .inr (by with_reducible rfl)) ?_)); first | refine AL_gdec rfl rfl rfl (fun hg => ?_) (fun hg => ?_) | refine AL_gnot rfl rfl rfl (fun hg => ?_) (fun hg => ?_) | refine AL_gcases rfl rfl rfl (fun hg => ?_) (fun hg => ?_)) <;> (try (exfalso; omega))) | refine AW_if rfl (fun hc => absurd hc (by omega)) (fun _ => ?_) | refine AW_if rfl (fun _ => ?_) (fun hc => absurd (by omega) hc)))
      all_goals first | exact ⟨_, _, rfl, rfl, rfl⟩ | (exfalso; omega)
end Go.Abs
