/- A drum with other batches; lists of batches, as the statements ask for them. -/
import Derived.Test.YtmplfjolcdlipaaGreatDoorLeQ11
import Derived.Test.YtmplfjolcdlipaaGreatDoorXQ11
import Derived.Test.YtmplfjolcdlipaaGreatDoorLbQ11
import Derived.Test.YtmplfjolcdlipaaGreatDoorLfQ11
import Derived.Test.YtmplfjolcdlipaaGreatDoorLdQ11
set_option linter.unusedVariables false
set_option linter.unusedSimpArgs false
namespace Go.Abs
open Go.Proofs
set_option linter.unusedVariables false
set_option linter.unusedSimpArgs false
set_option maxRecDepth 100000
def withB (d : Drum) (B : List Batch) : Drum := { d with batches := B }
section
variable (d : Drum) (B : List Batch)
theorem wb_fwd (a : Acid) : ∀ i, fwdS (withB d B) a i = fwdS d a i
  | 0 => rfl
  | i + 1 => by simp only [fwdS, wb_fwd a i]; rfl
theorem wb_bwd (a : Acid) : ∀ i, bwdS (withB d B) a i = bwdS d a i
  | 0 => wb_fwd d B a _
  | i + 1 => by simp only [bwdS, wb_bwd a i, wb_fwd]; rfl
theorem wb_strong : strongL (withB d B) = strongL d := by
  funext a
  unfold strongL
  refine List.map_congr_left fun i _ => ?_
  exact wb_bwd d B a _
theorem wb_may (a : Acid) : mayB (withB d B) a = mayB d a := by
  unfold mayB; simp only [wb_fwd]; rfl
theorem wb_filled : filledL (withB d B) = filledL d := by
  unfold filledL
  simp only [wb_may]; rfl
theorem wb_bounds (b : Batch) (h : Nat) : boundsI (withB d B) b h = boundsI d b h := by
  unfold boundsI hardS weakS
  rw [wb_filled, wb_strong]
theorem wb_win1 (b : Batch) : winP1 (withB d B) b = winP1 d b := by
  unfold winP1 smoothI thinI
  simp only [wb_bounds]; rfl
theorem wb_all_iff {n : Int} : inS (allW (withB d B)) n ↔ (0 ≤ n ∧ n ≤ 12) ∧ ∀ b ∈ B, inS (winP1 d b) n := by
  rw [all_iff]
  simp only [wb_win1]; rfl
theorem wb_ok (hd : drumOK d) (hl : B.length ≤ 1000) : drumOK (withB d B) := ⟨hd.1, hd.2.1, hd.2.2.1, hl⟩
theorem wb_P (hP : DrumP d) (h1 : 1 ≤ B.length) (h5 : B.length ≤ 5) (hb : ∀ b ∈ B, b ∈ d.batches) : DrumP (withB d B) :=
  { hP with b0 := h1, b1 := h5, batch := fun b h => hP.batch b (hb b h) }
end
theorem wb_drum (d : Drum) (B : List Batch) : eDrum (withB d B) = .agg [.sl (d.acids.map eAcid), vi d.known, vi d.hours, eInts d.adds, .sl (d.strips.map eStrip), .sl (B.map eBatch)] := rfl
def stepR (n : Nat) (l : List Int) (i : Nat) : Bool := inB (l.getD i 0) 0 (n - 1) && (decide (i = 0) || decide (l.getD (i - 1) 0 < l.getD i 0))
def risingB (n : Nat) (l : List Int) : Bool := (List.range l.length).all (stepR n l)
theorem rising_iff {n : Nat} {l : List Int} : risingB n l = true ↔ l.Pairwise (· < ·) ∧ ∀ x ∈ l, 0 ≤ x ∧ x < (n : Int) := by
  unfold risingB
  simp only [List.all_eq_true, List.mem_range, stepR, Bool.and_eq_true, Bool.or_eq_true, decide_eq_true_eq, inB]
  have gd : ∀ i, i < l.length → ∃ x, l[i]? = some x ∧ l.getD i 0 = x := fun i hi => ⟨l[i], by simp [hi], by rw [List.getD_eq_getElem?_getD]; simp [hi]⟩
  constructor
  · intro h
    refine ⟨?_, fun x hx => ?_⟩
    · rw [List.pairwise_iff_getElem]
      intro i j hi hj hij
      induction j with
      | zero => omega
      | succ j ih =>
        obtain ⟨_, h2⟩ := h (j + 1) hj
        have h2 : l.getD j 0 < l.getD (j + 1) 0 := by
          rcases h2 with h2 | h2
          · omega
          · exact h2
        have e1 : l.getD (j + 1) 0 = l[j + 1] := by rw [List.getD_eq_getElem?_getD]; simp [hj]
        have e2 : l.getD j 0 = l[j] := by rw [List.getD_eq_getElem?_getD]; simp [show j < l.length by omega]
        by_cases hq : i = j
        · subst hq; omega
        · have := ih (by omega) (by omega); omega
    · obtain ⟨i, hi⟩ := List.mem_iff_getElem?.1 hx
      have := (h i (List.getElem?_eq_some_iff.1 hi).1).1
      rw [List.getD_eq_getElem?_getD, hi] at this
      simp only [Option.getD_some] at this
      omega
  · rintro ⟨h1, h2⟩ i hi
    obtain ⟨x, hx, gx⟩ := gd i hi
    have hxb := h2 x (List.mem_of_getElem? hx)
    rw [gx]
    refine ⟨by omega, ?_⟩
    by_cases h0 : i = 0
    · exact .inl h0
    · right
      obtain ⟨y, hy, gy⟩ := gd (i - 1) (by omega)
      rw [gy]
      rw [List.pairwise_iff_getElem] at h1
      have := h1 (i - 1) i (by omega) hi (by omega)
      have e1 := (List.getElem?_eq_some_iff.1 hx).2
      have e2 := (List.getElem?_eq_some_iff.1 hy).2
      omega
theorem rising_order {n : Nat} {l : List Int} (h : risingB n l = true) : l ∈ orderN n := by
  obtain ⟨h1, h2⟩ := rising_iff.1 h
  refine orderN_mem.2 ⟨?_, h1, h2⟩
  have hn : (l.map Int.toNat).Nodup := by
    rw [List.Nodup, List.pairwise_map]
    refine h1.imp_of_mem fun {a b} ha hb hab => ?_
    have := h2 a ha; have := h2 b hb
    omega
  have := len_le_of_nodup (n := n) (l.map Int.toNat) hn fun x hx => by
    obtain ⟨y, hy, rfl⟩ := List.mem_map.1 hx
    have := h2 y hy; omega
  simpa using this
theorem order_rising {n : Nat} {l : List Int} (h : l ∈ orderN n) : risingB n l = true := by
  obtain ⟨_, h2, h3⟩ := orderN_mem.1 h
  exact rising_iff.2 ⟨h2, h3⟩
set_option maxHeartbeats 4000000 in
theorem f59 (d : Drum) (l : List Int) (hl : l.length ≤ 1000) (hb : d.batches.length ≤ 1000) : ACalls Tryz.prog 59 [eDrum d, eInts l] (fun r => r = .pv (.bool (risingB d.batches.length l))) := by
  refine ACalls.of_body hT Tryz.func59 rfl (by kernel_rfl) rfl ?_
  (repeat (refine stq ?_))
  refine AW_loopC (fun k : Nat => k ≤ l.length ∧ (List.range k).all (stepR d.batches.length l) = true) (fun k => mkSt [(1, .pv (eInts l)), (2, .box 0 0), (5, .pv (vi k))] [(0, .box ((eDrumC d).map FV.pv))] 1) (fun k => l.length - k) 0 ⟨Nat.zero_le _, by simp⟩ ?_ ?_
  · (refine Le.mk ?_ ?_; all_goals (repeat' (first | exact trivial | refine sle ?_ | refine ⟨?_, rfl, ?_⟩ | refine ⟨?_, by decide, rfl, ?_⟩ | fail)))
  · rintro k ⟨hk, hall⟩
    (repeat (refine stq ?_))
    refine AW_if rfl (fun hc => ?_) (fun hc => ?_)
    · have hk' : k < l.length := by omega
      obtain ⟨x, hx⟩ : ∃ x, l[k]? = some x := ⟨l[k], by simp [hk']⟩
      have e1 := get_map eInt hx
      have gx : l.getD k 0 = x := by rw [List.getD_eq_getElem?_getD, hx]; rfl
      have hn := all_range_succ (k := k) (p := stepR d.batches.length l)
      have bad : stepR d.batches.length l k = false → risingB d.batches.length l = false := fun h => List.all_eq_false.2 ⟨k, List.mem_range.2 hk', by rw [h]; decide⟩
      have hv : stepR d.batches.length l k = (inB x 0 (d.batches.length - 1) && (decide (k = 0) || decide (l.getD (k - 1) 0 < x))) := by unfold stepR; rw [gx]
      by_cases h1 : x < 0
      · have hv' : stepR d.batches.length l k = false := by rw [hv]; unfold inB; rw [decide_eq_false (by omega : ¬ 0 ≤ x)]; rfl
        (repeat (refine stq ?_))
        iterate 4 (refine sdq ?_)
        refine DG_cmp hT rfl (fun _ => ?_) (fun hg => absurd hg (by omega))
        (repeat (first | refine DG_next (StepOK.skipU rfl rfl) ?_ | refine sdq ?_))
        refine DG_end hM (by kernel_rfl) ?_
        (repeat (refine stq ?_))
        exact ⟨_, _, rfl, rfl, by rw [bad hv']⟩
      · by_cases h2 : x ≥ d.batches.length
        · have hv' : stepR d.batches.length l k = false := by rw [hv]; unfold inB; rw [decide_eq_false (by omega : ¬ x ≤ (d.batches.length : Int) - 1), Bool.and_false]; rfl
          (repeat (refine stq ?_))
          iterate 4 (refine sdq ?_)
          refine DG_cmp hT rfl (fun hg => absurd hg (by omega)) (fun _ => ?_)
          iterate 8 (refine sdq ?_)
          refine DG_cmp hT rfl (fun _ => ?_) (fun hg => absurd hg (by omega))
          (repeat (first | refine DG_next (StepOK.skipU rfl rfl) ?_ | refine sdq ?_))
          refine DG_end hM (by kernel_rfl) ?_
          (repeat (refine stq ?_))
          exact ⟨_, _, rfl, rfl, by rw [bad hv']⟩
        · have hin : inB x 0 (d.batches.length - 1) = true := by unfold inB; rw [decide_eq_true (by omega : 0 ≤ x), decide_eq_true (by omega : x ≤ (d.batches.length : Int) - 1)]; rfl
          by_cases h3 : k = 0
          · have hv' : stepR d.batches.length l k = true := by rw [hv, hin, decide_eq_true h3]; rfl
            (repeat (refine stq ?_))
            iterate 4 (refine sdq ?_)
            refine DG_cmp hT rfl (fun hg => absurd hg (by omega)) (fun _ => ?_)
            iterate 8 (refine sdq ?_)
            refine DG_cmp hT rfl (fun hg => absurd hg (by omega)) (fun _ => ?_)
            iterate 3 (refine sdq ?_)
            refine DG_cmp hT rfl (fun hg => absurd hg (by omega)) (fun _ => ?_)
            (repeat (first | refine DG_next (StepOK.skipU rfl rfl) ?_ | refine sdq ?_))
            refine DG_end hM (by kernel_rfl) ?_
            (repeat (refine stq ?_))
            refine ⟨k + 1, ⟨hk', by rw [hn, hall, hv']; rfl⟩, by omega, ?_⟩
            (refine Le.mk ?_ ?_; all_goals (repeat' (first | exact trivial | refine sle ?_ | refine ⟨?_, rfl, ?_⟩ | refine ⟨?_, by decide, rfl, ?_⟩ | fail)))
          · obtain ⟨y, hy⟩ : ∃ x, l[k - 1]? = some x := ⟨l[k - 1]'(by omega), by simp⟩
            have gy : l.getD (k - 1) 0 = y := by rw [List.getD_eq_getElem?_getD, hy]; rfl
            have e2 : (l.map eInt)[((k : Int) - 1).toNat]? = some (eInt y) := by
              rw [show ((k : Int) - 1).toNat = k - 1 by omega]; exact get_map eInt hy
            rw [gy] at hv
            by_cases h4 : x ≤ y
            · have hv' : stepR d.batches.length l k = false := by rw [hv, hin, decide_eq_false h3, decide_eq_false (by omega : ¬ y < x)]; rfl
              (repeat (refine stq ?_))
              iterate 4 (refine sdq ?_)
              refine DG_cmp hT rfl (fun hg => absurd hg (by omega)) (fun _ => ?_)
              iterate 8 (refine sdq ?_)
              refine DG_cmp hT rfl (fun hg => absurd hg (by omega)) (fun _ => ?_)
              iterate 3 (refine sdq ?_)
              refine DG_cmp hT rfl (fun _ => ?_) (fun hg => absurd hg (by omega))
              iterate 10 (refine sdq ?_)
              refine DG_cmp hT rfl (fun _ => ?_) (fun hg => absurd hg (by omega))
              (repeat (refine sdq ?_))
              refine DG_end hM (by kernel_rfl) ?_
              (repeat (refine stq ?_))
              exact ⟨_, _, rfl, rfl, by rw [bad hv']⟩
            · have hv' : stepR d.batches.length l k = true := by rw [hv, hin, decide_eq_true (by omega : y < x), Bool.or_true]; rfl
              (repeat (refine stq ?_))
              iterate 4 (refine sdq ?_)
              refine DG_cmp hT rfl (fun hg => absurd hg (by omega)) (fun _ => ?_)
              iterate 8 (refine sdq ?_)
              refine DG_cmp hT rfl (fun hg => absurd hg (by omega)) (fun _ => ?_)
              iterate 3 (refine sdq ?_)
              refine DG_cmp hT rfl (fun _ => ?_) (fun hg => absurd hg (by omega))
              iterate 10 (refine sdq ?_)
              refine DG_cmp hT rfl (fun hg => absurd hg (by omega)) (fun _ => ?_)
              (repeat (refine sdq ?_))
              refine DG_end hM (by kernel_rfl) ?_
              (repeat (refine stq ?_))
              refine ⟨k + 1, ⟨hk', by rw [hn, hall, hv']; rfl⟩, by omega, ?_⟩
              (refine Le.mk ?_ ?_; all_goals (repeat' (first | exact trivial | refine sle ?_ | refine ⟨?_, rfl, ?_⟩ | refine ⟨?_, by decide, rfl, ?_⟩ | fail)))
    · have hk' : k = l.length := by omega
      subst hk'
      (repeat (refine stq ?_))
      exact ⟨_, _, rfl, rfl, by rw [show risingB d.batches.length l = true from hall]⟩
end Go.Abs
namespace Go.Abs
open Go.Proofs
set_option linter.unusedVariables false
set_option linter.unusedSimpArgs false
set_option maxRecDepth 100000
def pickA {α : Type} (L : List α) (p : Nat → Bool) : List α := (L.zipIdx.filter fun x => p x.2).map (·.1)
theorem pickA_succ {α : Type} {L : List α} {k : Nat} {x : α} (p : Nat → Bool) (h : L[k]? = some x) : pickA (L.take (k + 1)) p = if p k then pickA (L.take k) p ++ [x] else pickA (L.take k) p := by
  have hk : k < L.length := (List.getElem?_eq_some_iff.1 h).1
  unfold pickA
  rw [List.take_add_one, h]
  rw [List.zipIdx_append, List.filter_append, List.map_append]
  have : (L.take k).length = k := by simp; omega
  cases hb : p k <;> simp [this, hb]
theorem pickA_mem {α : Type} {L : List α} {p : Nat → Bool} {s : α} : s ∈ pickA L p ↔ ∃ i, L[i]? = some s ∧ p i = true := by
  simp only [pickA, List.mem_map, List.mem_filter]
  constructor
  · rintro ⟨⟨x, i⟩, ⟨h1, h2⟩, rfl⟩
    exact ⟨i, List.mem_zipIdx_iff_getElem?.1 h1, h2⟩
  · rintro ⟨i, h1, h2⟩
    exact ⟨(s, i), ⟨List.mem_zipIdx_iff_getElem?.2 h1, h2⟩, rfl⟩
theorem pickA_len {α : Type} (L : List α) (p : Nat → Bool) : (pickA L p).length ≤ L.length := by
  unfold pickA
  rw [List.length_map]
  refine Nat.le_trans (List.length_filter_le _ _) ?_
  rw [List.length_zipIdx]; exact Nat.le_refl _
def leftB (d : Drum) (gone : List Int) : List Batch := pickA d.batches fun i => !decide ((i : Int) ∈ gone)
theorem left_all (d : Drum) (gone : List Int) {n : Int} : inS (allW (withB d (leftB d gone))) n ↔ inS (meetL (pick (winP d) fun i => !gone.contains (i : Int))) n := by
  rw [wb_all_iff, pick_iff]
  refine and_congr_right fun _ => ?_
  unfold leftB
  simp only [pickA_mem, winP, List.getElem?_map, Option.map_eq_some_iff]
  have hc : ∀ i : Nat, (!gone.contains (i : Int)) = !decide ((i : Int) ∈ gone) := fun i => by rw [List.contains_eq_mem]
  constructor
  · rintro h i s ⟨b, hb, rfl⟩ hp
    exact h b ⟨i, hb, by rw [← hc]; exact hp⟩
  · rintro h b ⟨i, hb, hp⟩
    exact h i _ ⟨b, hb, rfl⟩ (by rw [hc]; exact hp)
theorem left_open (d : Drum) (gone : List Int) : openS (allW (withB d (leftB d gone))) = restB (winP d) gone := (span_ext fun n => left_all d gone).1
set_option maxHeartbeats 4000000 in
theorem f60 (d : Drum) (gone : List Int) (hb : d.batches.length ≤ 1000) (hg : gone.length ≤ 1000) : ACalls Tryz.prog 60 [eDrum d, eInts gone] (fun r => r = .pv (eDrum (withB d (leftB d gone)))) := by
  refine ACalls.of_body hT Tryz.func60 rfl (by kernel_rfl) rfl ?_
  (repeat (refine stq ?_))
  refine AW_nilBox 2 5 77 6 rfl rfl ?_
  refine AW_loopC (fun k : Nat => k ≤ d.batches.length) (fun k => mkSt [(1, .pv (eInts gone)), (2, .box 0 0), (4, .box 1 0), (5, .box 2 0), (6, .pv (vi k))]
    [(0, .box ((eDrumC d).map FV.pv)), (1, .box [.nils, .pv (vi 0), .pv (vi 0), .nils, .nils, .nils]), (2, .box [.pv (.sl (d.acids.map eAcid)), .pv (vi d.known), .pv (vi d.hours), .pv (eInts d.adds), .pv (.sl (d.strips.map eStrip)), .arr 3]), (3, .arr 77 6 ((pickA (d.batches.take k) fun i => !decide ((i : Int) ∈ gone)).map eBatch))] 4) (fun k => d.batches.length - k) 0 (Nat.zero_le _) ?_ ?_
  · (refine Le.mk ?_ ?_; all_goals (repeat' (first | exact trivial | refine sle ?_ | refine ⟨?_, rfl, ?_⟩ | refine ⟨?_, by decide, rfl, ?_⟩ | fail)))
  · intro k hk
    (repeat (refine stq ?_))
    refine AW_if rfl (fun hc => ?_) (fun hc => ?_)
    · have hk' : k < d.batches.length := by omega
      obtain ⟨b, hb1⟩ : ∃ x, d.batches[k]? = some x := ⟨d.batches[k], by simp [hk']⟩
      have e1 := get_map eBatch hb1
      have k67 := f67 gone k hg
      have hs := pickA_succ (fun i => !decide ((i : Int) ∈ gone)) hb1
      have hL := pickA_len (d.batches.take k) (fun i => !decide ((i : Int) ∈ gone))
      rw [List.length_take] at hL
      generalize pickA (d.batches.take k) (fun i => !decide ((i : Int) ∈ gone)) = ts at *
      by_cases hm : (k : Int) ∈ gone
      · rw [decide_eq_true hm] at k67 hs
        rw [if_neg (by simp)] at hs
        (repeat' (first | refine stq ?_ | (refine AL_do2 rfl ?_; first | refine ⟨_, op_call1 rfl rfl rfl rfl (k67), nrmA rfl ?_⟩) | (with_reducible refine AL_id ?_); (fail_if_success (refine AL_glit rfl rfl rfl (by first | exact .inl (by with_reducible rfl) | exact .inr (by with_reducible rfl)) ?_)); first | refine AL_gdec rfl rfl rfl (fun hg => ?_) (fun hg => ?_) | refine AL_gnot rfl rfl rfl (fun hg => ?_) (fun hg => ?_) | refine AL_gcases rfl rfl rfl (fun hg => ?_) (fun hg => ?_)))
        refine ⟨k + 1, hk', by omega, ?_⟩
        rw [hs]
        (refine Le.mk ?_ ?_; all_goals (repeat' (first | exact trivial | refine sle ?_ | refine ⟨?_, rfl, ?_⟩ | refine ⟨?_, by decide, rfl, ?_⟩ | fail)))
      · rw [decide_eq_false hm] at k67 hs
        rw [if_pos (by rfl)] at hs
        (repeat' (first | refine stq ?_ | (refine AL_do2 rfl ?_; first | refine ⟨_, op_call1 rfl rfl rfl rfl (k67), nrmA rfl ?_⟩) | (with_reducible refine AL_id ?_); (fail_if_success (refine AL_glit rfl rfl rfl (by first | exact .inl (by with_reducible rfl) | exact .inr (by with_reducible rfl)) ?_)); first | refine AL_gdec rfl rfl rfl (fun hg => ?_) (fun hg => ?_) | refine AL_gnot rfl rfl rfl (fun hg => ?_) (fun hg => ?_) | refine AL_gcases rfl rfl rfl (fun hg => ?_) (fun hg => ?_)))
        (repeat (refine sdq ?_))
        refine DG_end hM (by kernel_rfl) ?_
        (repeat (refine stq ?_))
        refine ⟨k + 1, hk', by omega, ?_⟩
        rw [hs]
        (refine Le.mkR [(0, 0), (1, 1), (2, 2), (3, 4)] ?_ ?_ rfl; all_goals (repeat' (first | exact trivial | refine sle ?_ | refine ⟨?_, rfl, ?_⟩ | refine ⟨?_, by decide, rfl, ?_⟩ | fail)))
        rw [List.map_append]; rfl
    · have hk' : k = d.batches.length := by omega
      subst hk'
      rw [List.take_length]
      refine AW_arrBox (b := 2) 5 rfl rfl rfl rfl ?_
      (repeat (refine stq ?_))
      exact ⟨_, _, rfl, rfl, rfl⟩
theorem lex_drop {a b : List Int} {i : Nat} {x y : Int} (hx : a[i]? = some x) (hy : b[i]? = some y) : lexB (a.drop i) (b.drop i) = if x < y then true else if y < x then false else lexB (a.drop (i + 1)) (b.drop (i + 1)) := by
  have h1 := (List.getElem?_eq_some_iff.1 hx)
  have h2 := (List.getElem?_eq_some_iff.1 hy)
  rw [List.drop_eq_getElem_cons h1.1, List.drop_eq_getElem_cons h2.1, h1.2, h2.2]
  rfl
set_option maxHeartbeats 4000000 in
theorem f61 (a b : List Int) (ha : a.length ≤ 1000) (hb : b.length ≤ 1000) : ACalls Tryz.prog 61 [eInts a, eInts b] (fun r => r = .pv (.bool (lexB a b))) := by
  refine ACalls.of_body hT Tryz.func61 rfl (by kernel_rfl) rfl ?_
  (repeat (refine stq ?_))
  refine AW_loopC (fun i : Nat => i ≤ a.length ∧ i ≤ b.length ∧ lexB a b = lexB (a.drop i) (b.drop i)) (fun i => mkSt [(0, .pv (eInts a)), (1, .pv (eInts b)), (5, .pv (vi i))] [] 0) (fun i => a.length - i) 0 ⟨Nat.zero_le _, Nat.zero_le _, rfl⟩ ?_ ?_
  · (refine Le.mk ?_ ?_; all_goals (repeat' (first | exact trivial | refine sle ?_ | refine ⟨?_, rfl, ?_⟩ | refine ⟨?_, by decide, rfl, ?_⟩ | fail)))
  · rintro i ⟨h1, h2, h3⟩
    by_cases c1 : i < a.length
    · by_cases c2 : i < b.length
      · obtain ⟨x, hx⟩ : ∃ x, a[i]? = some x := ⟨a[i], by simp [c1]⟩
        obtain ⟨y, hy⟩ : ∃ x, b[i]? = some x := ⟨b[i], by simp [c2]⟩
        have e1 := get_map eInt hx
        have e2 := get_map eInt hy
        rw [lex_drop hx hy] at h3
        by_cases hxy : x = y
        · subst hxy
          rw [if_neg (by omega), if_neg (by omega)] at h3
          (repeat' (first | refine stq ?_ | ((first | (with_reducible refine AL_id ?_); (fail_if_success (refine AL_glit rfl rfl rfl (by first | exact .inl (by with_reducible rfl) | exact .inr (by with_reducible rfl)) ?_)); first | refine AL_gdec rfl rfl rfl (fun hg => ?_) (fun hg => ?_) | refine AL_gnot rfl rfl rfl (fun hg => ?_) (fun hg => ?_) | refine AL_gcases rfl rfl rfl (fun hg => ?_) (fun hg => ?_)) <;> (try (exfalso; omega))) | refine AW_if rfl (fun hc => absurd hc (by omega)) (fun _ => ?_) | refine AW_if rfl (fun _ => ?_) (fun hc => absurd (by omega) hc)))
          all_goals (try (exfalso; omega))
          iterate 8 (refine sdq ?_)
          refine DG_cmp hT rfl (fun hg => absurd hg (by omega)) (fun _ => ?_)
          refine DG_end hM (by kernel_rfl) ?_
          (repeat (refine stq ?_))
          refine ⟨i + 1, ⟨c1, c2, h3⟩, by omega, ?_⟩
          (refine Le.mk ?_ ?_; all_goals (repeat' (first | exact trivial | refine sle ?_ | refine ⟨?_, rfl, ?_⟩ | refine ⟨?_, by decide, rfl, ?_⟩ | fail)))
        · have hr : lexB a b = decide (x < y) := by
            rw [h3]
            by_cases hlt : x < y
            · rw [if_pos hlt, decide_eq_true hlt]
            · rw [if_neg hlt, if_pos (by omega), decide_eq_false hlt]
          (repeat' (first | refine stq ?_ | ((first | (with_reducible refine AL_id ?_); (fail_if_success (refine AL_glit rfl rfl rfl (by first | exact .inl (by with_reducible rfl) | exact .inr (by with_reducible rfl)) ?_)); first | refine AL_gdec rfl rfl rfl (fun hg => ?_) (fun hg => ?_) | refine AL_gnot rfl rfl rfl (fun hg => ?_) (fun hg => ?_) | refine AL_gcases rfl rfl rfl (fun hg => ?_) (fun hg => ?_)) <;> (try (exfalso; omega))) | refine AW_if rfl (fun hc => absurd hc (by omega)) (fun _ => ?_) | refine AW_if rfl (fun _ => ?_) (fun hc => absurd (by omega) hc)))
          all_goals (try (exfalso; omega))
          iterate 8 (refine sdq ?_)
          refine DG_cmp hT rfl (fun _ => ?_) (fun hg => absurd hg (by omega))
          refine DG_end hM (by kernel_rfl) ?_
          (repeat (refine stq ?_))
          (repeat (refine sdq ?_))
          refine DG_end hM (by kernel_rfl) ?_
          (repeat (refine stq ?_))
          exact ⟨_, _, rfl, rfl, by rw [hr]⟩
      · have hr : lexB a b = decide ((a.length : Int) < b.length) := by
          rw [h3, List.drop_eq_nil_of_le (by omega : b.length ≤ i)]
          rw [decide_eq_false (by omega)]
          cases a.drop i <;> rfl
        (repeat' (first | refine stq ?_ | ((first | (with_reducible refine AL_id ?_); (fail_if_success (refine AL_glit rfl rfl rfl (by first | exact .inl (by with_reducible rfl) | exact .inr (by with_reducible rfl)) ?_)); first | refine AL_gdec rfl rfl rfl (fun hg => ?_) (fun hg => ?_) | refine AL_gnot rfl rfl rfl (fun hg => ?_) (fun hg => ?_) | refine AL_gcases rfl rfl rfl (fun hg => ?_) (fun hg => ?_)) <;> (try (exfalso; omega))) | refine AW_if rfl (fun hc => absurd hc (by omega)) (fun _ => ?_) | refine AW_if rfl (fun _ => ?_) (fun hc => absurd (by omega) hc)))
        all_goals (try (exfalso; omega))
        exact ⟨_, _, rfl, rfl, by rw [hr]⟩
    · have hr : lexB a b = decide ((a.length : Int) < b.length) := by
        rw [h3, List.drop_eq_nil_of_le (by omega : a.length ≤ i)]
        have hbl : (b.drop i).length = b.length - a.length := by rw [List.length_drop]; omega
        cases hbd : b.drop i with
        | nil => rw [hbd] at hbl; rw [decide_eq_false (by simp at hbl; omega)]; rfl
        | cons y l => rw [hbd] at hbl; rw [decide_eq_true (by simp at hbl; omega)]; rfl
      (repeat' (first | refine stq ?_ | ((first | (with_reducible refine AL_id ?_); (fail_if_success (refine AL_glit rfl rfl rfl (by first | exact .inl (by with_reducible rfl) | exact .inr (by with_reducible rfl)) ?_)); first | refine AL_gdec rfl rfl rfl (fun hg => ?_) (fun hg => ?_) | refine AL_gnot rfl rfl rfl (fun hg => ?_) (fun hg => ?_) | refine AL_gcases rfl rfl rfl (fun hg => ?_) (fun hg => ?_)) <;> (try (exfalso; omega))) | refine AW_if rfl (fun hc => absurd hc (by omega)) (fun _ => ?_) | refine AW_if rfl (fun _ => ?_) (fun hc => absurd (by omega) hc)))
      all_goals (try (exfalso; omega))
      exact ⟨_, _, rfl, rfl, by rw [hr]⟩
end Go.Abs
namespace Go.Abs
open Go.Proofs
set_option linter.unusedVariables false
set_option linter.unusedSimpArgs false
set_option maxRecDepth 100000
theorem err_same {d : Drum} {B : List Batch} (hP : DrumP d) (hx : DrumP (withB d B)) : errE (withB d B) true = errE d true := by
  rcases err_cases (drumP_of.2 hP) with ⟨h, e⟩ | ⟨h, e⟩
  · rcases err_cases (drumP_of.2 hx) with ⟨g, f⟩ | ⟨g, f⟩
    · rw [e, f]
    · rw [wb_filled] at g; exact absurd h g
  · rcases err_cases (drumP_of.2 hx) with ⟨g, f⟩ | ⟨g, f⟩
    · rw [wb_filled] at g; exact absurd g h
    · rw [e, f]
theorem leftB_in {d : Drum} {gone : List Int} : ∀ b ∈ leftB d gone, b ∈ d.batches := fun b hb => by
  obtain ⟨i, hi, _⟩ := pickA_mem.1 hb
  exact List.mem_of_getElem? hi
theorem leftB_P {d : Drum} {gone : List Int} (hP : DrumP d) (h : leftB d gone ≠ []) : DrumP (withB d (leftB d gone)) :=
  wb_P d _ hP (List.length_pos_iff.2 h) (Nat.le_trans (pickA_len _ _) hP.b1) leftB_in
theorem named_spec {W : List Span} {n : Nat} (hn : W.length = n) (h1 : 1 ≤ n) (h5 : n ≤ 5) : namedI W ∈ orderN n ∧ restB W (namedI W) = true ∧ ∀ g ∈ orderN n, lessN g (namedI W) = true → restB W g = false := by
  subst hn
  have hex : (orderN W.length).find? (restB W) = some (namedI W) := by
    unfold namedI
    cases h : (orderN W.length).find? (restB W) with
    | some l => rfl
    | none =>
      exfalso
      rw [List.find?_eq_none] at h
      refine h _ ?_ (rest_all W)
      refine orderN_mem.2 ⟨by simp, ?_, fun x hx => ?_⟩
      · rw [List.pairwise_map]
        exact (List.pairwise_lt_range).imp fun h => by omega
      · obtain ⟨i, hi, rfl⟩ := List.mem_map.1 hx
        have := List.mem_range.1 hi; omega
  refine ⟨List.mem_of_find?_eq_some hex, ?_, fun g hg hlt => ?_⟩
  · have := List.find?_some hex; exact this
  · obtain ⟨hp, ps, bs, e, has⟩ := List.find?_eq_some_iff_append.1 hex
    have hm := List.mem_of_find?_eq_some hex
    have hr := (orders_ok h1 h5).1
    have := List.all_eq_true.1 (List.all_eq_true.1 hr g hg) _ hm
    have hlt' : (orderN W.length).idxOf g < (orderN W.length).idxOf (namedI W) := by
      rw [hlt] at this
      simpa using this
    have hnas : namedI W ∉ ps := fun h => by
      have := has _ h
      rw [hp] at this; cases this
    rw [e, List.idxOf_append, List.idxOf_append, if_neg hnas] at hlt'
    by_cases hga : g ∈ ps
    · have := has g hga
      simpa using this
    · rw [if_neg hga] at hlt'
      have e0 : (namedI W :: bs).idxOf (namedI W) = 0 := by simp
      rw [e0] at hlt'
      omega
theorem lex_irrefl : ∀ l : List Int, lexB l l = false
  | [] => rfl
  | x :: l => by simp only [lexB, if_neg (Int.lt_irrefl x)]; exact lex_irrefl l
theorem full_list {n : Nat} (hn : n ≤ 5) {l : List Int} (h : l ∈ orderN n) (hl : l.length = n) : l = (List.range n).map fun i : Nat => (i : Int) := by
  obtain ⟨_, h2, h3⟩ := orderN_mem.1 h
  have : l ∈ listsI n n 0 := (lists_mem n n 0 l).2 ⟨hl, h2, fun x hx => by have := h3 x hx; omega⟩
  rw [lists_last hn] at this
  simpa using this
set_option maxHeartbeats 16000000 in
theorem f11 (d : Drum) (gone : List Int) : ACalls Tryz.prog 11 [eDrum d, eInts gone] (fun r => r = .pv (.bool true)) := by
  have k23 := f23' d
  cases hs : shortB d with
  | false =>
    rw [hs] at k23
    refine ACalls.of_body hT Tryz.func11 rfl (by kernel_rfl) rfl ?_
    (repeat' (first | refine stq ?_ | (refine AL_do2 rfl ?_; first | refine ⟨_, op_call1 rfl rfl rfl rfl (k23), nrmA rfl ?_⟩ | refine ⟨_, op_call1 rfl rfl rfl rfl (f24), nrmA rfl ?_⟩) | (with_reducible refine AL_id ?_); (fail_if_success (refine AL_glit rfl rfl rfl (by first | exact .inl (by with_reducible rfl) | exact .inr (by with_reducible rfl)) ?_)); first | refine AL_gdec rfl rfl rfl (fun hg => ?_) (fun hg => ?_) | refine AL_gnot rfl rfl rfl (fun hg => ?_) (fun hg => ?_) | refine AL_gcases rfl rfl rfl (fun hg => ?_) (fun hg => ?_)))
    all_goals (try (exfalso; simp at hg; done))
    exact ⟨_, _, rfl, rfl, rfl⟩
  | true =>
    rw [hs] at k23
    have hd := short_ok hs
    by_cases hgl : gone.length ≤ 6
    · have k39 := f39 d hd
      cases q : drumB d with
      | false =>
        rw [q] at k39
        refine ACalls.of_body hT Tryz.func11 rfl (by kernel_rfl) rfl ?_
        (repeat' (first | refine stq ?_ | (refine AL_do2 rfl ?_; first | refine ⟨_, op_call1 rfl rfl rfl rfl (k23), nrmA rfl ?_⟩ | refine ⟨_, op_call1 rfl rfl rfl rfl (f24), nrmA rfl ?_⟩ | refine ⟨_, op_call1 rfl rfl rfl rfl (k39), nrmA rfl ?_⟩) | ((first | (with_reducible refine AL_id ?_); (fail_if_success (refine AL_glit rfl rfl rfl (by first | exact .inl (by with_reducible rfl) | exact .inr (by with_reducible rfl)) ?_)); first | refine AL_gdec rfl rfl rfl (fun hg => ?_) (fun hg => ?_) | refine AL_gnot rfl rfl rfl (fun hg => ?_) (fun hg => ?_) | refine AL_gcases rfl rfl rfl (fun hg => ?_) (fun hg => ?_)) <;> (try (exfalso; omega))) | refine AW_if rfl (fun hc => absurd hc (by omega)) (fun _ => ?_) | refine AW_if rfl (fun _ => ?_) (fun hc => absurd (by omega) hc)))
        all_goals exact ⟨_, _, rfl, rfl, rfl⟩
      | true =>
        rw [q] at k39
        have hP := drumP_of.1 q
        have hb0 := hP.b0
        have hb1 := hP.b1
        have k59 := f59 d gone (by omega) (by omega)
        cases hr : risingB d.batches.length gone with
        | false =>
          rw [hr] at k59
          refine ACalls.of_body hT Tryz.func11 rfl (by kernel_rfl) rfl ?_
          (repeat' (first | refine stq ?_ | (refine AL_do2 rfl ?_; first | refine ⟨_, op_call1 rfl rfl rfl rfl (k23), nrmA rfl ?_⟩ | refine ⟨_, op_call1 rfl rfl rfl rfl (f24), nrmA rfl ?_⟩ | refine ⟨_, op_call1 rfl rfl rfl rfl (k39), nrmA rfl ?_⟩ | refine ⟨_, op_call1 rfl rfl rfl rfl (k59), nrmA rfl ?_⟩) | ((first | (with_reducible refine AL_id ?_); (fail_if_success (refine AL_glit rfl rfl rfl (by first | exact .inl (by with_reducible rfl) | exact .inr (by with_reducible rfl)) ?_)); first | refine AL_gdec rfl rfl rfl (fun hg => ?_) (fun hg => ?_) | refine AL_gnot rfl rfl rfl (fun hg => ?_) (fun hg => ?_) | refine AL_gcases rfl rfl rfl (fun hg => ?_) (fun hg => ?_)) <;> (try (exfalso; omega))) | refine AW_if rfl (fun hc => absurd hc (by omega)) (fun _ => ?_) | refine AW_if rfl (fun _ => ?_) (fun hc => absurd (by omega) hc)))
          all_goals exact ⟨_, _, rfl, rfl, rfl⟩
        | true =>
          rw [hr] at k59
          rcases err_cases q with ⟨hz, he⟩ | ⟨hne, he⟩
          · have k56 := f56e hd (by rw [he]; decide)
            rw [he] at k56
            refine ACalls.of_body hT Tryz.func11 rfl (by kernel_rfl) rfl ?_
            (repeat' (first | refine stq ?_ | (refine AL_do2 rfl ?_; first | refine ⟨_, op_call1 rfl rfl rfl rfl (k23), nrmA rfl ?_⟩ | refine ⟨_, op_call1 rfl rfl rfl rfl (f24), nrmA rfl ?_⟩ | refine ⟨_, op_call1 rfl rfl rfl rfl (k39), nrmA rfl ?_⟩ | refine ⟨_, op_call1 rfl rfl rfl rfl (k59), nrmA rfl ?_⟩ | refine ⟨_, op_call1 rfl rfl rfl rfl (k56), nrmA rfl ?_⟩) | ((first | (with_reducible refine AL_id ?_); (fail_if_success (refine AL_glit rfl rfl rfl (by first | exact .inl (by with_reducible rfl) | exact .inr (by with_reducible rfl)) ?_)); first | refine AL_gdec rfl rfl rfl (fun hg => ?_) (fun hg => ?_) | refine AL_gnot rfl rfl rfl (fun hg => ?_) (fun hg => ?_) | refine AL_gcases rfl rfl rfl (fun hg => ?_) (fun hg => ?_)) <;> (try (exfalso; omega))) | refine AW_if rfl (fun hc => absurd hc (by omega)) (fun _ => ?_) | refine AW_if rfl (fun _ => ?_) (fun hc => absurd (by omega) hc)))
            all_goals first | exact ⟨_, _, rfl, rfl, rfl⟩ | (exfalso; omega)
          · have k56 := f56y hd he
            obtain ⟨n1, n2, n3⟩ := named_spec (winP_len d) hb0 hb1
            have hgo := rising_order hr
            have hnl := (orderN_mem.1 n1).1
            have k59n := f59 d (namedI (winP d)) (by omega) (by omega)
            rw [order_rising n1] at k59n
            have k60n := f60 d (namedI (winP d)) (by omega) (by omega)
            have k60g := f60 d gone (by omega) (by omega)
            have k61 := f61 gone (namedI (winP d)) (by omega) (by omega)
            have WN : leftB d (namedI (winP d)) = [] ∨ (leftB d (namedI (winP d)) ≠ [] ∧ ACalls Tryz.prog 55 [eDrum (withB d (leftB d (namedI (winP d))))] (fun r => r = .tup [eS (allW (withB d (leftB d (namedI (winP d))))), vi 0])) := by
              by_cases h0 : leftB d (namedI (winP d)) = []
              · exact .inl h0
              · have hx := leftB_P hP h0
                exact .inr ⟨h0, f55y (wb_ok d _ hd (by have := pickA_len d.batches (fun i => !decide ((i : Int) ∈ namedI (winP d))); show (leftB d _).length ≤ 1000; unfold leftB; omega)) (by rw [err_same hP hx]; exact he) (by rw [left_open]; exact n2)⟩
            have hbN := pickA_len d.batches (fun i => !decide ((i : Int) ∈ namedI (winP d)))
            have hbN : (leftB d (namedI (winP d))).length ≤ d.batches.length := hbN
            have CASE : (gone.length > (namedI (winP d)).length ∨ (gone.length = (namedI (winP d)).length ∧ lexB gone (namedI (winP d)) = false)) ∨ ((gone.length < (namedI (winP d)).length ∨ (gone.length = (namedI (winP d)).length ∧ lexB gone (namedI (winP d)) = true)) ∧ gone.length < d.batches.length ∧ ACalls Tryz.prog 55 [eDrum (withB d (leftB d gone))] (fun r => r = .tup [eS ⟨0, 0⟩, vi 5])) := by
              have main : lessN gone (namedI (winP d)) = true → gone.length < d.batches.length ∧ ACalls Tryz.prog 55 [eDrum (withB d (leftB d gone))] (fun r => r = .tup [eS ⟨0, 0⟩, vi 5]) := fun hlt => by
                have hrest := n3 gone hgo hlt
                have hlen : gone.length < d.batches.length := by
                  have h6 := (orderN_mem.1 hgo).1
                  by_cases h7 : gone.length = d.batches.length
                  · exfalso
                    have e1 := full_list hb1 hgo h7
                    unfold lessN at hlt
                    have : ¬ gone.length < (namedI (winP d)).length := by omega
                    rw [decide_eq_false this, Bool.false_or, Bool.and_eq_true, decide_eq_true_eq] at hlt
                    have e2 := full_list hb1 n1 (by omega)
                    rw [e1, ← e2, lex_irrefl] at hlt
                    cases hlt.2
                  · omega
                have h0 : leftB d gone ≠ [] := fun e => by
                  have : restB (winP d) gone = true := by
                    rw [← left_open, e]
                    refine open_iff.2 ⟨0, (wb_all_iff d []).2 ⟨by decide, by simp⟩⟩
                  rw [hrest] at this; cases this
                have hx := leftB_P hP h0
                refine ⟨hlen, f55n (wb_ok d _ hd (by have := pickA_len d.batches (fun i => !decide ((i : Int) ∈ gone)); show (leftB d _).length ≤ 1000; unfold leftB; omega)) (by rw [err_same hP hx]; exact he) (by rw [left_open]; exact hrest)⟩
              by_cases c1 : gone.length > (namedI (winP d)).length
              · exact .inl (.inl c1)
              · by_cases c2 : gone.length = (namedI (winP d)).length
                · cases hx : lexB gone (namedI (winP d)) with
                  | false => exact .inl (.inr ⟨c2, rfl⟩)
                  | true => exact .inr ⟨.inr ⟨c2, rfl⟩, main (by unfold lessN; rw [hx, decide_eq_true c2]; simp)⟩
                · exact .inr ⟨.inl (by omega), main (by unfold lessN; rw [decide_eq_true (by omega)]; rfl)⟩
            rw [wb_drum] at k60n k60g WN CASE
            generalize leftB d (namedI (winP d)) = BN at *
            generalize leftB d gone = BG at *
            generalize allW (withB d BN) = AN at *
            generalize namedI (winP d) = N at *
            have hBN : BN = [] → BN.length = 0 := fun e => by rw [e]; rfl
            have hBN' : BN ≠ [] → 0 < BN.length := fun h => List.length_pos_iff.2 h
            refine ACalls.of_body hT Tryz.func11 rfl (by kernel_rfl) rfl ?_
            (repeat' (first | refine stq ?_ | (refine AL_do2 rfl ?_; first | refine ⟨_, op_call1 rfl rfl rfl rfl (k23), nrmA rfl ?_⟩ | refine ⟨_, op_call1 rfl rfl rfl rfl (f24), nrmA rfl ?_⟩ | refine ⟨_, op_call1 rfl rfl rfl rfl (k39), nrmA rfl ?_⟩ | refine ⟨_, op_call1 rfl rfl rfl rfl (k59), nrmA rfl ?_⟩) | ((first | (with_reducible refine AL_id ?_); (fail_if_success (refine AL_glit rfl rfl rfl (by first | exact .inl (by with_reducible rfl) | exact .inr (by with_reducible rfl)) ?_)); first | refine AL_gdec rfl rfl rfl (fun hg => ?_) (fun hg => ?_) | refine AL_gnot rfl rfl rfl (fun hg => ?_) (fun hg => ?_) | refine AL_gcases rfl rfl rfl (fun hg => ?_) (fun hg => ?_)) <;> (try (exfalso; omega))) | refine AW_if rfl (fun hc => absurd hc (by omega)) (fun _ => ?_) | refine AW_if rfl (fun _ => ?_) (fun hc => absurd (by omega) hc)))
            all_goals (try (exfalso; omega))
            rcases WN with h0 | ⟨h0, k55N⟩
            · have hl0 := hBN h0
              rcases CASE with C | ⟨C, hlt, k55G⟩
              · rcases C with C | ⟨C, hlex⟩
                · (repeat' (first | refine AL_skip rfl rfl ?_ | refine stq ?_ | (refine AL_do2 rfl ?_; first | refine ⟨_, op_call1 rfl rfl rfl rfl (k56), nrmA rfl ?_⟩ | refine ⟨_, op_call1 rfl rfl rfl rfl (k59n), nrmA rfl ?_⟩ | refine ⟨_, op_call1 rfl rfl rfl rfl (k60n), nrmA rfl ?_⟩ | refine ⟨_, op_call1 rfl rfl rfl rfl (f24), nrmA rfl ?_⟩) | ((first | (with_reducible refine AL_id ?_); (fail_if_success (refine AL_glit rfl rfl rfl (by first | exact .inl (by with_reducible rfl) | exact .inr (by with_reducible rfl)) ?_)); first | refine AL_gdec rfl rfl rfl (fun hg => ?_) (fun hg => ?_) | refine AL_gnot rfl rfl rfl (fun hg => ?_) (fun hg => ?_) | refine AL_gcases rfl rfl rfl (fun hg => ?_) (fun hg => ?_)) <;> (try (exfalso; omega))) | refine AW_if rfl (fun hc => absurd hc (by omega)) (fun _ => ?_) | refine AW_if rfl (fun _ => ?_) (fun hc => absurd (by omega) hc)))
                  all_goals first | exact ⟨_, _, rfl, rfl, rfl⟩ | (exfalso; omega)
                · rw [hlex] at k61
                  (repeat' (first | refine AL_skip rfl rfl ?_ | refine stq ?_ | (refine AL_do2 rfl ?_; first | refine ⟨_, op_call1 rfl rfl rfl rfl (k56), nrmA rfl ?_⟩ | refine ⟨_, op_call1 rfl rfl rfl rfl (k59n), nrmA rfl ?_⟩ | refine ⟨_, op_call1 rfl rfl rfl rfl (k60n), nrmA rfl ?_⟩ | refine ⟨_, op_call1 rfl rfl rfl rfl (f24), nrmA rfl ?_⟩ | refine ⟨_, op_call1 rfl rfl rfl rfl (k61), nrmA rfl ?_⟩) | ((first | (with_reducible refine AL_id ?_); (fail_if_success (refine AL_glit rfl rfl rfl (by first | exact .inl (by with_reducible rfl) | exact .inr (by with_reducible rfl)) ?_)); first | refine AL_gdec rfl rfl rfl (fun hg => ?_) (fun hg => ?_) | refine AL_gnot rfl rfl rfl (fun hg => ?_) (fun hg => ?_) | refine AL_gcases rfl rfl rfl (fun hg => ?_) (fun hg => ?_)) <;> (try (exfalso; omega))) | refine AW_if rfl (fun hc => absurd hc (by omega)) (fun _ => ?_) | refine AW_if rfl (fun _ => ?_) (fun hc => absurd (by omega) hc)))
                  all_goals first | exact ⟨_, _, rfl, rfl, rfl⟩ | (exfalso; omega)
              · rcases C with C | ⟨C, hlex⟩
                · (repeat' (first | refine AL_skip rfl rfl ?_ | refine stq ?_ | (refine AL_do2 rfl ?_; first | refine ⟨_, op_call1 rfl rfl rfl rfl (k56), nrmA rfl ?_⟩ | refine ⟨_, op_call1 rfl rfl rfl rfl (k59n), nrmA rfl ?_⟩ | refine ⟨_, op_call1 rfl rfl rfl rfl (k60n), nrmA rfl ?_⟩ | refine ⟨_, op_call1 rfl rfl rfl rfl (f24), nrmA rfl ?_⟩ | refine ⟨_, op_call1 rfl rfl rfl rfl (k60g), nrmA rfl ?_⟩ | refine ⟨_, op_call1 rfl rfl rfl rfl (k55G), nrmA rfl ?_⟩) | ((first | (with_reducible refine AL_id ?_); (fail_if_success (refine AL_glit rfl rfl rfl (by first | exact .inl (by with_reducible rfl) | exact .inr (by with_reducible rfl)) ?_)); first | refine AL_gdec rfl rfl rfl (fun hg => ?_) (fun hg => ?_) | refine AL_gnot rfl rfl rfl (fun hg => ?_) (fun hg => ?_) | refine AL_gcases rfl rfl rfl (fun hg => ?_) (fun hg => ?_)) <;> (try (exfalso; omega))) | refine AW_if rfl (fun hc => absurd hc (by omega)) (fun _ => ?_) | refine AW_if rfl (fun _ => ?_) (fun hc => absurd (by omega) hc)))
                  all_goals first | exact ⟨_, _, rfl, rfl, rfl⟩ | (exfalso; omega)
                · rw [hlex] at k61
                  (repeat' (first | refine AL_skip rfl rfl ?_ | refine stq ?_ | (refine AL_do2 rfl ?_; first | refine ⟨_, op_call1 rfl rfl rfl rfl (k56), nrmA rfl ?_⟩ | refine ⟨_, op_call1 rfl rfl rfl rfl (k59n), nrmA rfl ?_⟩ | refine ⟨_, op_call1 rfl rfl rfl rfl (k60n), nrmA rfl ?_⟩ | refine ⟨_, op_call1 rfl rfl rfl rfl (f24), nrmA rfl ?_⟩ | refine ⟨_, op_call1 rfl rfl rfl rfl (k61), nrmA rfl ?_⟩ | refine ⟨_, op_call1 rfl rfl rfl rfl (k60g), nrmA rfl ?_⟩ | refine ⟨_, op_call1 rfl rfl rfl rfl (k55G), nrmA rfl ?_⟩) | ((first | (with_reducible refine AL_id ?_); (fail_if_success (refine AL_glit rfl rfl rfl (by first | exact .inl (by with_reducible rfl) | exact .inr (by with_reducible rfl)) ?_)); first | refine AL_gdec rfl rfl rfl (fun hg => ?_) (fun hg => ?_) | refine AL_gnot rfl rfl rfl (fun hg => ?_) (fun hg => ?_) | refine AL_gcases rfl rfl rfl (fun hg => ?_) (fun hg => ?_)) <;> (try (exfalso; omega))) | refine AW_if rfl (fun hc => absurd hc (by omega)) (fun _ => ?_) | refine AW_if rfl (fun _ => ?_) (fun hc => absurd (by omega) hc)))
                  all_goals first | exact ⟨_, _, rfl, rfl, rfl⟩ | (exfalso; omega)
            · have hl0 := hBN' h0
              rcases CASE with C | ⟨C, hlt, k55G⟩
              · rcases C with C | ⟨C, hlex⟩
                · (repeat' (first | refine AL_skip rfl rfl ?_ | refine stq ?_ | (refine AL_do2 rfl ?_; first | refine ⟨_, op_call1 rfl rfl rfl rfl (k56), nrmA rfl ?_⟩ | refine ⟨_, op_call1 rfl rfl rfl rfl (k59n), nrmA rfl ?_⟩ | refine ⟨_, op_call1 rfl rfl rfl rfl (k60n), nrmA rfl ?_⟩ | refine ⟨_, op_call1 rfl rfl rfl rfl (f24), nrmA rfl ?_⟩ | refine ⟨_, op_call1 rfl rfl rfl rfl (k55N), nrmA rfl ?_⟩) | ((first | (with_reducible refine AL_id ?_); (fail_if_success (refine AL_glit rfl rfl rfl (by first | exact .inl (by with_reducible rfl) | exact .inr (by with_reducible rfl)) ?_)); first | refine AL_gdec rfl rfl rfl (fun hg => ?_) (fun hg => ?_) | refine AL_gnot rfl rfl rfl (fun hg => ?_) (fun hg => ?_) | refine AL_gcases rfl rfl rfl (fun hg => ?_) (fun hg => ?_)) <;> (try (exfalso; omega))) | refine AW_if rfl (fun hc => absurd hc (by omega)) (fun _ => ?_) | refine AW_if rfl (fun _ => ?_) (fun hc => absurd (by omega) hc)))
                  all_goals first | exact ⟨_, _, rfl, rfl, rfl⟩ | (exfalso; omega)
                · rw [hlex] at k61
                  (repeat' (first | refine AL_skip rfl rfl ?_ | refine stq ?_ | (refine AL_do2 rfl ?_; first | refine ⟨_, op_call1 rfl rfl rfl rfl (k56), nrmA rfl ?_⟩ | refine ⟨_, op_call1 rfl rfl rfl rfl (k59n), nrmA rfl ?_⟩ | refine ⟨_, op_call1 rfl rfl rfl rfl (k60n), nrmA rfl ?_⟩ | refine ⟨_, op_call1 rfl rfl rfl rfl (f24), nrmA rfl ?_⟩ | refine ⟨_, op_call1 rfl rfl rfl rfl (k61), nrmA rfl ?_⟩ | refine ⟨_, op_call1 rfl rfl rfl rfl (k55N), nrmA rfl ?_⟩) | ((first | (with_reducible refine AL_id ?_); (fail_if_success (refine AL_glit rfl rfl rfl (by first | exact .inl (by with_reducible rfl) | exact .inr (by with_reducible rfl)) ?_)); first | refine AL_gdec rfl rfl rfl (fun hg => ?_) (fun hg => ?_) | refine AL_gnot rfl rfl rfl (fun hg => ?_) (fun hg => ?_) | refine AL_gcases rfl rfl rfl (fun hg => ?_) (fun hg => ?_)) <;> (try (exfalso; omega))) | refine AW_if rfl (fun hc => absurd hc (by omega)) (fun _ => ?_) | refine AW_if rfl (fun _ => ?_) (fun hc => absurd (by omega) hc)))
                  all_goals first | exact ⟨_, _, rfl, rfl, rfl⟩ | (exfalso; omega)
              · rcases C with C | ⟨C, hlex⟩
                · (repeat' (first | refine AL_skip rfl rfl ?_ | refine stq ?_ | (refine AL_do2 rfl ?_; first | refine ⟨_, op_call1 rfl rfl rfl rfl (k56), nrmA rfl ?_⟩ | refine ⟨_, op_call1 rfl rfl rfl rfl (k59n), nrmA rfl ?_⟩ | refine ⟨_, op_call1 rfl rfl rfl rfl (k60n), nrmA rfl ?_⟩ | refine ⟨_, op_call1 rfl rfl rfl rfl (f24), nrmA rfl ?_⟩ | refine ⟨_, op_call1 rfl rfl rfl rfl (k60g), nrmA rfl ?_⟩ | refine ⟨_, op_call1 rfl rfl rfl rfl (k55G), nrmA rfl ?_⟩ | refine ⟨_, op_call1 rfl rfl rfl rfl (k55N), nrmA rfl ?_⟩) | ((first | (with_reducible refine AL_id ?_); (fail_if_success (refine AL_glit rfl rfl rfl (by first | exact .inl (by with_reducible rfl) | exact .inr (by with_reducible rfl)) ?_)); first | refine AL_gdec rfl rfl rfl (fun hg => ?_) (fun hg => ?_) | refine AL_gnot rfl rfl rfl (fun hg => ?_) (fun hg => ?_) | refine AL_gcases rfl rfl rfl (fun hg => ?_) (fun hg => ?_)) <;> (try (exfalso; omega))) | refine AW_if rfl (fun hc => absurd hc (by omega)) (fun _ => ?_) | refine AW_if rfl (fun _ => ?_) (fun hc => absurd (by omega) hc)))
                  all_goals first | exact ⟨_, _, rfl, rfl, rfl⟩ | (exfalso; omega)
                · rw [hlex] at k61
                  (repeat' (first | refine AL_skip rfl rfl ?_ | refine stq ?_ | (refine AL_do2 rfl ?_; first | refine ⟨_, op_call1 rfl rfl rfl rfl (k56), nrmA rfl ?_⟩ | refine ⟨_, op_call1 rfl rfl rfl rfl (k59n), nrmA rfl ?_⟩ | refine ⟨_, op_call1 rfl rfl rfl rfl (k60n), nrmA rfl ?_⟩ | refine ⟨_, op_call1 rfl rfl rfl rfl (f24), nrmA rfl ?_⟩ | refine ⟨_, op_call1 rfl rfl rfl rfl (k61), nrmA rfl ?_⟩ | refine ⟨_, op_call1 rfl rfl rfl rfl (k60g), nrmA rfl ?_⟩ | refine ⟨_, op_call1 rfl rfl rfl rfl (k55G), nrmA rfl ?_⟩ | refine ⟨_, op_call1 rfl rfl rfl rfl (k55N), nrmA rfl ?_⟩) | ((first | (with_reducible refine AL_id ?_); (fail_if_success (refine AL_glit rfl rfl rfl (by first | exact .inl (by with_reducible rfl) | exact .inr (by with_reducible rfl)) ?_)); first | refine AL_gdec rfl rfl rfl (fun hg => ?_) (fun hg => ?_) | refine AL_gnot rfl rfl rfl (fun hg => ?_) (fun hg => ?_) | refine AL_gcases rfl rfl rfl (fun hg => ?_) (fun hg => ?_)) <;> (try (exfalso; omega))) | refine AW_if rfl (fun hc => absurd hc (by omega)) (fun _ => ?_) | refine AW_if rfl (fun _ => ?_) (fun hc => absurd (by omega) hc)))
                  all_goals first | exact ⟨_, _, rfl, rfl, rfl⟩ | (exfalso; omega)
    · refine ACalls.of_body hT Tryz.func11 rfl (by kernel_rfl) rfl ?_
      (repeat' (first | refine stq ?_ | (refine AL_do2 rfl ?_; first | refine ⟨_, op_call1 rfl rfl rfl rfl (k23), nrmA rfl ?_⟩ | refine ⟨_, op_call1 rfl rfl rfl rfl (f24), nrmA rfl ?_⟩) | ((first | (with_reducible refine AL_id ?_); (fail_if_success (refine AL_glit rfl rfl rfl (by first | exact .inl (by with_reducible rfl) | exact .inr (by with_reducible rfl)) ?_)); first | refine AL_gdec rfl rfl rfl (fun hg => ?_) (fun hg => ?_) | refine AL_gnot rfl rfl rfl (fun hg => ?_) (fun hg => ?_) | refine AL_gcases rfl rfl rfl (fun hg => ?_) (fun hg => ?_)) <;> (try (exfalso; omega))) | refine AW_if rfl (fun hc => absurd hc (by omega)) (fun _ => ?_) | refine AW_if rfl (fun _ => ?_) (fun hc => absurd (by omega) hc)))
      all_goals first | exact ⟨_, _, rfl, rfl, rfl⟩ | (exfalso; omega)
end Go.Abs
