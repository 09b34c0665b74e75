/- DrumMore: the contract of the statement's function. -/
import Derived.Test.YtmplfjolcdlipaaGreatDoorLcQ12
import Derived.Test.YtmplfjolcdlipaaGreatDoorLbQ12
import Derived.Test.YtmplfjolcdlipaaGreatDoorXQ12
set_option linter.unusedVariables false
set_option linter.unusedSimpArgs false
namespace Go.Abs
open Go.Proofs
set_option linter.unusedVariables false
set_option linter.unusedSimpArgs false
set_option maxRecDepth 100000
def andOK : Bool := (List.range 32).all fun m => (List.range 16).all fun n => decide (andR .i64 (m : Int) (n : Int) = ((m &&& n : Nat) : Int))
theorem and_ok : andOK = true := by decide +kernel
theorem and_has {m n : Int} (hm : 0 ≤ m ∧ m < 32) (hn : 0 ≤ n ∧ n ≤ 15) {i : Nat} (h : hasI (andR .i64 m n) i = true) : hasI m i = true := by
  have := List.all_eq_true.1 (List.all_eq_true.1 and_ok m.toNat (List.mem_range.2 (by omega))) n.toNat (List.mem_range.2 (by omega))
  have := of_decide_eq_true this
  rw [show ((m.toNat : Nat) : Int) = m by omega, show ((n.toNat : Nat) : Int) = n by omega] at this
  unfold hasI at h ⊢
  rw [this, Int.toNat_natCast, Nat.testBit_and, Bool.and_eq_true] at h
  exact h.1
theorem more_eDrumK (d : Drum) (s : Strip) (K : Int) : eDrum (moreD d [s] K) = .agg [.sl (d.acids.map eAcid), vi K, vi d.hours, eInts d.adds, .sl (d.strips.map eStrip ++ [eStrip s]), .sl (d.batches.map eBatch)] := by
  unfold eDrum eDrumC moreD
  rw [List.map_append]; rfl
theorem win_of {d : Drum} (hd : drumOK d) (q : drumB d = true) : (filledL d = [] ∧ ACalls Tryz.prog 55 [eDrum d] (fun r => r = .tup [eS ⟨0, 0⟩, vi 7])) ∨ (filledL d ≠ [] ∧ openS (allW d) = false ∧ ACalls Tryz.prog 55 [eDrum d] (fun r => r = .tup [eS ⟨0, 0⟩, vi 5])) ∨ (filledL d ≠ [] ∧ openS (allW d) = true ∧ ACalls Tryz.prog 55 [eDrum d] (fun r => r = .tup [eS (allW d), vi 0])) := by
  rcases err_cases q with ⟨h, he⟩ | ⟨h, he⟩
  · have k := f55e hd (by rw [he]; decide)
    rw [he] at k
    exact .inl ⟨h, k⟩
  · cases ho : openS (allW d) with
    | false => exact .inr (.inl ⟨h, rfl, f55n hd he ho⟩)
    | true => exact .inr (.inr ⟨h, rfl, f55y hd he ho⟩)
set_option maxHeartbeats 16000000 in
theorem f12 (d : Drum) (s : Strip) (set : Int) : ACalls Tryz.prog 12 [eDrum d, .agg (eStrip s), vi set] (fun r => r = .pv (.bool true)) := by
  have k23 := f23' d
  cases hs : shortB d with
  | false =>
    rw [hs] at k23
    refine ACalls.of_body hT Tryz.func12 rfl (by kernel_rfl) rfl ?_
    (repeat' (first | refine stq ?_ | (refine AL_do2 rfl ?_; first | refine ⟨_, op_call1 rfl rfl rfl rfl (k23), nrmA rfl ?_⟩ | refine ⟨_, op_call1 rfl rfl rfl rfl (f24), nrmA rfl ?_⟩) | (with_reducible refine AL_id ?_); (fail_if_success (refine AL_glit rfl rfl rfl (by first | exact .inl (by with_reducible rfl) | exact .inr (by with_reducible rfl)) ?_)); first | refine AL_gdec rfl rfl rfl (fun hg => ?_) (fun hg => ?_) | refine AL_gnot rfl rfl rfl (fun hg => ?_) (fun hg => ?_) | refine AL_gcases rfl rfl rfl (fun hg => ?_) (fun hg => ?_)))
    all_goals (try (exfalso; simp at hg; done))
    exact ⟨_, _, rfl, rfl, rfl⟩
  | true =>
    rw [hs] at k23
    have hd := short_ok hs
    have k39 := f39 d hd
    cases q : drumB d with
    | false =>
      rw [q] at k39
      refine ACalls.of_body hT Tryz.func12 rfl (by kernel_rfl) rfl ?_
      (repeat' (first | refine stq ?_ | (refine AL_do2 rfl ?_; first | refine ⟨_, op_call1 rfl rfl rfl rfl (k23), nrmA rfl ?_⟩ | refine ⟨_, op_call1 rfl rfl rfl rfl (f24), nrmA rfl ?_⟩ | refine ⟨_, op_call1 rfl rfl rfl rfl (k39), nrmA rfl ?_⟩) | ((first | (with_reducible refine AL_id ?_); (fail_if_success (refine AL_glit rfl rfl rfl (by first | exact .inl (by with_reducible rfl) | exact .inr (by with_reducible rfl)) ?_)); first | refine AL_gdec rfl rfl rfl (fun hg => ?_) (fun hg => ?_) | refine AL_gnot rfl rfl rfl (fun hg => ?_) (fun hg => ?_) | refine AL_gcases rfl rfl rfl (fun hg => ?_) (fun hg => ?_)) <;> (try (exfalso; omega))) | refine AW_if rfl (fun hc => absurd hc (by omega)) (fun _ => ?_) | refine AW_if rfl (fun _ => ?_) (fun hc => absurd (by omega) hc)))
      all_goals exact ⟨_, _, rfl, rfl, rfl⟩
    | true =>
      rw [q] at k39
      have hP := drumP_of.1 q
      have hsl := hP.sl
      by_cases hf : 0 ≤ set ∧ set ≤ 15
      · have hkb := known_bd hP
        have hk : ∀ i, hasI (andR .i64 d.known set) i = true → hasI d.known i = true := fun i h => and_has ⟨by omega, by omega⟩ hf h
        have hdx : drumOK (moreD d [s] (andR .i64 d.known set)) := by
          obtain ⟨g1, g2, g3, g4⟩ := hd
          exact ⟨g1, g2, by show (d.strips ++ _).length ≤ 1000; rw [List.length_append]; simp; omega, g4⟩
        have k39x := f39 _ hdx
        have W := win_of hd q
        have hWx := win_of hdx
        have hfs : filledL d = [] → filledL (moreD d [s] (andR .i64 d.known set)) = [] := fun h => by
          match he : filledL (moreD d [s] (andR .i64 d.known set)) with
          | [] => rfl
          | p :: l =>
            have := more_filled (p := p) hk (by rw [he]; simp)
            rw [h] at this; cases this
        have hmono : drumB (moreD d [s] (andR .i64 d.known set)) = true → filledL (moreD d [s] (andR .i64 d.known set)) ≠ [] → openS (allW d) = true → openS (allW (moreD d [s] (andR .i64 d.known set))) = true ∧ (allW (moreD d [s] (andR .i64 d.known set))).low ≤ (allW d).low ∧ (allW d).high ≤ (allW (moreD d [s] (andR .i64 d.known set))).high := fun qx hne ho =>
          open_mono (fun n hn => more_window hP (drumP_of.1 qx) hk hne hn) ho
        have hed := more_eDrumK d s (andR .i64 d.known set)
        have CASES : ∃ (w : Span) (e : Int), ACalls Tryz.prog 55 [eDrum d] (fun r => r = .tup [eS w, vi e]) ∧ ((drumB (moreD d [s] (andR .i64 d.known set)) = false ∧ (e = 0 ∨ e = 5 ∨ e = 7)) ∨ (drumB (moreD d [s] (andR .i64 d.known set)) = true ∧ ∃ (v : Span) (f : Int), ACalls Tryz.prog 55 [eDrum (moreD d [s] (andR .i64 d.known set))] (fun r => r = .tup [eS v, vi f]) ∧
            ((f = 7 ∧ (e = 0 ∨ e = 5 ∨ e = 7)) ∨ (f = 0 ∧ e = 5) ∨ (f = 5 ∧ e = 5) ∨ (f = 0 ∧ e = 0 ∧ v.low ≤ w.low ∧ w.high ≤ v.high)))) := by
          cases qx : drumB (moreD d [s] (andR .i64 d.known set)) with
          | false =>
            rcases W with ⟨_, k⟩ | ⟨_, _, k⟩ | ⟨_, _, k⟩
            · exact ⟨_, _, k, .inl ⟨rfl, by omega⟩⟩
            · exact ⟨_, _, k, .inl ⟨rfl, by omega⟩⟩
            · exact ⟨_, _, k, .inl ⟨rfl, by omega⟩⟩
          | true =>
            rcases W with ⟨h1, k⟩ | ⟨h1, h2, k⟩ | ⟨h1, h2, k⟩
            · rcases hWx qx with ⟨g1, kx⟩ | ⟨g1, g2, kx⟩ | ⟨g1, g2, kx⟩
              · exact ⟨_, _, k, .inr ⟨rfl, _, _, kx, by omega⟩⟩
              · exact absurd (hfs h1) g1
              · exact absurd (hfs h1) g1
            · rcases hWx qx with ⟨g1, kx⟩ | ⟨g1, g2, kx⟩ | ⟨g1, g2, kx⟩
              · exact ⟨_, _, k, .inr ⟨rfl, _, _, kx, by omega⟩⟩
              · exact ⟨_, _, k, .inr ⟨rfl, _, _, kx, by omega⟩⟩
              · exact ⟨_, _, k, .inr ⟨rfl, _, _, kx, by omega⟩⟩
            · rcases hWx qx with ⟨g1, kx⟩ | ⟨g1, g2, kx⟩ | ⟨g1, g2, kx⟩
              · exact ⟨_, _, k, .inr ⟨rfl, _, _, kx, by omega⟩⟩
              · have := (hmono qx g1 h2).1; rw [g2] at this; cases this
              · have := hmono qx g1 h2
                exact ⟨_, _, k, .inr ⟨rfl, _, _, kx, .inr (.inr (.inr ⟨rfl, rfl, this.2.1, this.2.2⟩))⟩⟩
        obtain ⟨w, e, k55, C⟩ := CASES
        rw [hed] at k39x C
        clear hmono hfs W hWx hk hdx
        generalize drumB (moreD d [s] (andR .i64 d.known set)) = qx at *
        refine ACalls.of_body hT Tryz.func12 rfl (by kernel_rfl) rfl ?_
        (repeat' (first | refine stq ?_ | (refine AL_do2 rfl ?_; first | refine ⟨_, op_call1 rfl rfl rfl rfl (k23), nrmA rfl ?_⟩ | refine ⟨_, op_call1 rfl rfl rfl rfl (f24), nrmA rfl ?_⟩ | refine ⟨_, op_call1 rfl rfl rfl rfl (k39), nrmA rfl ?_⟩) | ((first | (with_reducible refine AL_id ?_); (fail_if_success (refine AL_glit rfl rfl rfl (by first | exact .inl (by with_reducible rfl) | exact .inr (by with_reducible rfl)) ?_)); first | refine AL_gdec rfl rfl rfl (fun hg => ?_) (fun hg => ?_) | refine AL_gnot rfl rfl rfl (fun hg => ?_) (fun hg => ?_) | refine AL_gcases rfl rfl rfl (fun hg => ?_) (fun hg => ?_)) <;> (try (exfalso; omega))) | refine AW_if rfl (fun hc => absurd hc (by omega)) (fun _ => ?_) | refine AW_if rfl (fun _ => ?_) (fun hc => absurd (by omega) hc)))
        all_goals (try (exfalso; omega))
        (repeat (first | refine DG_next (D_append_nil (e := 74) (sz := 3) hT rfl rfl rfl rfl rfl rfl rfl rfl rfl rfl rfl (by intro y hy; (first | (simp only [List.mem_cons, List.not_mem_nil, or_false] at hy; subst hy; rfl) | (simp only [List.mem_cons, List.not_mem_nil, or_false] at hy; rcases hy with hy | hy <;> subst hy <;> rfl) | (obtain ⟨_, _, rfl⟩ := List.mem_map.1 hy; rfl) | (cases hy))) (by simp only [List.length_map, List.length_take, List.length_cons, List.length_nil, List.length_append]; omega) rfl) ?_ | refine sdq ?_))
        refine DG_end hM (by kernel_rfl) ?_
        refine AL_pure (t := 35) rfl rfl ?_
        rcases C with ⟨rfl, C⟩ | ⟨rfl, v, f, k55x, C⟩
        · (repeat' (first | refine AL_skip rfl rfl ?_ | refine stq ?_ | (refine AL_do2 rfl ?_; first | refine ⟨_, op_call1 rfl rfl rfl rfl (k55), nrmA rfl ?_⟩ | refine ⟨_, op_call1 rfl rfl rfl rfl (k39x), nrmA rfl ?_⟩ | refine ⟨_, op_call1 rfl rfl rfl rfl (f24), nrmA rfl ?_⟩) | ((first | (with_reducible refine AL_id ?_); (fail_if_success (refine AL_glit rfl rfl rfl (by first | exact .inl (by with_reducible rfl) | exact .inr (by with_reducible rfl)) ?_)); first | refine AL_gdec rfl rfl rfl (fun hg => ?_) (fun hg => ?_) | refine AL_gnot rfl rfl rfl (fun hg => ?_) (fun hg => ?_) | refine AL_gcases rfl rfl rfl (fun hg => ?_) (fun hg => ?_)) <;> (try (exfalso; omega))) | refine AW_if rfl (fun hc => absurd hc (by omega)) (fun _ => ?_) | refine AW_if rfl (fun _ => ?_) (fun hc => absurd (by omega) hc)))
          all_goals first | exact ⟨_, _, rfl, rfl, rfl⟩ | (exfalso; omega)
        · rcases C with ⟨rfl, C⟩ | ⟨rfl, rfl⟩ | ⟨rfl, rfl⟩ | ⟨rfl, rfl, g1, g2⟩
          all_goals
            (repeat' (first | refine AL_skip rfl rfl ?_ | refine stq ?_ | (refine AL_do2 rfl ?_; first | refine ⟨_, op_call1 rfl rfl rfl rfl (k55), nrmA rfl ?_⟩ | refine ⟨_, op_call1 rfl rfl rfl rfl (k39x), nrmA rfl ?_⟩ | refine ⟨_, op_call1 rfl rfl rfl rfl (k55x), nrmA rfl ?_⟩ | refine ⟨_, op_call1 rfl rfl rfl rfl (f24), nrmA rfl ?_⟩) | ((first | (with_reducible refine AL_id ?_); (fail_if_success (refine AL_glit rfl rfl rfl (by first | exact .inl (by with_reducible rfl) | exact .inr (by with_reducible rfl)) ?_)); first | refine AL_gdec rfl rfl rfl (fun hg => ?_) (fun hg => ?_) | refine AL_gnot rfl rfl rfl (fun hg => ?_) (fun hg => ?_) | refine AL_gcases rfl rfl rfl (fun hg => ?_) (fun hg => ?_)) <;> (try (exfalso; omega))) | refine AW_if rfl (fun hc => absurd hc (by omega)) (fun _ => ?_) | refine AW_if rfl (fun _ => ?_) (fun hc => absurd (by omega) hc)))
            all_goals first | exact ⟨_, _, rfl, rfl, rfl⟩ | (exfalso; omega)
      · refine ACalls.of_body hT Tryz.func12 rfl (by kernel_rfl) rfl ?_
        (repeat' (first | refine stq ?_ | (refine AL_do2 rfl ?_; first | refine ⟨_, op_call1 rfl rfl rfl rfl (k23), nrmA rfl ?_⟩ | refine ⟨_, op_call1 rfl rfl rfl rfl (f24), nrmA rfl ?_⟩ | refine ⟨_, op_call1 rfl rfl rfl rfl (k39), nrmA rfl ?_⟩) | ((first | (with_reducible refine AL_id ?_); (fail_if_success (refine AL_glit rfl rfl rfl (by first | exact .inl (by with_reducible rfl) | exact .inr (by with_reducible rfl)) ?_)); first | refine AL_gdec rfl rfl rfl (fun hg => ?_) (fun hg => ?_) | refine AL_gnot rfl rfl rfl (fun hg => ?_) (fun hg => ?_) | refine AL_gcases rfl rfl rfl (fun hg => ?_) (fun hg => ?_)) <;> (try (exfalso; omega))) | refine AW_if rfl (fun hc => absurd hc (by omega)) (fun _ => ?_) | refine AW_if rfl (fun _ => ?_) (fun hc => absurd (by omega) hc)))
        all_goals first | exact ⟨_, _, rfl, rfl, rfl⟩ | (exfalso; omega)
end Go.Abs
