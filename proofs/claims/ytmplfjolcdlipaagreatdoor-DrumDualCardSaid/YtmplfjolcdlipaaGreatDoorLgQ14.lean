/- A drum with other batches; lists of batches, as the statements ask for them. -/
import Derived.Test.YtmplfjolcdlipaaGreatDoorLeQ14
import Derived.Test.YtmplfjolcdlipaaGreatDoorXQ14
import Derived.Test.YtmplfjolcdlipaaGreatDoorLbQ14
import Derived.Test.YtmplfjolcdlipaaGreatDoorLfQ14
import Derived.Test.YtmplfjolcdlipaaGreatDoorLdQ14
set_option linter.unusedVariables false
set_option linter.unusedSimpArgs false
namespace Go.Abs
open Go.Proofs
set_option linter.unusedVariables false
set_option linter.unusedSimpArgs false
set_option maxRecDepth 100000
def withB (d : Drum) (B : List Batch) : Drum := { d with batches := B }
section
variable (d : Drum) (B : List Batch)
theorem wb_fwd (a : Acid) : ∀ i, fwdS (withB d B) a i = fwdS d a i
  | 0 => rfl
  | i + 1 => by simp only [fwdS, wb_fwd a i]; rfl
theorem wb_bwd (a : Acid) : ∀ i, bwdS (withB d B) a i = bwdS d a i
  | 0 => wb_fwd d B a _
  | i + 1 => by simp only [bwdS, wb_bwd a i, wb_fwd]; rfl
theorem wb_strong : strongL (withB d B) = strongL d := by
  funext a
  unfold strongL
  refine List.map_congr_left fun i _ => ?_
  exact wb_bwd d B a _
theorem wb_may (a : Acid) : mayB (withB d B) a = mayB d a := by
  unfold mayB; simp only [wb_fwd]; rfl
theorem wb_filled : filledL (withB d B) = filledL d := by
  unfold filledL
  simp only [wb_may]; rfl
theorem wb_bounds (b : Batch) (h : Nat) : boundsI (withB d B) b h = boundsI d b h := by
  unfold boundsI hardS weakS
  rw [wb_filled, wb_strong]
theorem wb_win1 (b : Batch) : winP1 (withB d B) b = winP1 d b := by
  unfold winP1 smoothI thinI
  simp only [wb_bounds]; rfl
theorem wb_all_iff {n : Int} : inS (allW (withB d B)) n ↔ (0 ≤ n ∧ n ≤ 12) ∧ ∀ b ∈ B, inS (winP1 d b) n := by
  rw [all_iff]
  simp only [wb_win1]; rfl
theorem wb_ok (hd : drumOK d) (hl : B.length ≤ 1000) : drumOK (withB d B) := ⟨hd.1, hd.2.1, hd.2.2.1, hl⟩
theorem wb_P (hP : DrumP d) (h1 : 1 ≤ B.length) (h5 : B.length ≤ 5) (hb : ∀ b ∈ B, b ∈ d.batches) : DrumP (withB d B) :=
  { hP with b0 := h1, b1 := h5, batch := fun b h => hP.batch b (hb b h) }
end
theorem wb_drum (d : Drum) (B : List Batch) : eDrum (withB d B) = .agg [.sl (d.acids.map eAcid), vi d.known, vi d.hours, eInts d.adds, .sl (d.strips.map eStrip), .sl (B.map eBatch)] := rfl
def stepR (n : Nat) (l : List Int) (i : Nat) : Bool := inB (l.getD i 0) 0 (n - 1) && (decide (i = 0) || decide (l.getD (i - 1) 0 < l.getD i 0))
def risingB (n : Nat) (l : List Int) : Bool := (List.range l.length).all (stepR n l)
theorem rising_iff {n : Nat} {l : List Int} : risingB n l = true ↔ l.Pairwise (· < ·) ∧ ∀ x ∈ l, 0 ≤ x ∧ x < (n : Int) := by
  unfold risingB
  simp only [List.all_eq_true, List.mem_range, stepR, Bool.and_eq_true, Bool.or_eq_true, decide_eq_true_eq, inB]
  have gd : ∀ i, i < l.length → ∃ x, l[i]? = some x ∧ l.getD i 0 = x := fun i hi => ⟨l[i], by simp [hi], by rw [List.getD_eq_getElem?_getD]; simp [hi]⟩
  constructor
  · intro h
    refine ⟨?_, fun x hx => ?_⟩
    · rw [List.pairwise_iff_getElem]
      intro i j hi hj hij
      induction j with
      | zero => omega
      | succ j ih =>
        obtain ⟨_, h2⟩ := h (j + 1) hj
        have h2 : l.getD j 0 < l.getD (j + 1) 0 := by
          rcases h2 with h2 | h2
          · omega
          · exact h2
        have e1 : l.getD (j + 1) 0 = l[j + 1] := by rw [List.getD_eq_getElem?_getD]; simp [hj]
        have e2 : l.getD j 0 = l[j] := by rw [List.getD_eq_getElem?_getD]; simp [show j < l.length by omega]
        by_cases hq : i = j
        · subst hq; omega
        · have := ih (by omega) (by omega); omega
    · obtain ⟨i, hi⟩ := List.mem_iff_getElem?.1 hx
      have := (h i (List.getElem?_eq_some_iff.1 hi).1).1
      rw [List.getD_eq_getElem?_getD, hi] at this
      simp only [Option.getD_some] at this
      omega
  · rintro ⟨h1, h2⟩ i hi
    obtain ⟨x, hx, gx⟩ := gd i hi
    have hxb := h2 x (List.mem_of_getElem? hx)
    rw [gx]
    refine ⟨by omega, ?_⟩
    by_cases h0 : i = 0
    · exact .inl h0
    · right
      obtain ⟨y, hy, gy⟩ := gd (i - 1) (by omega)
      rw [gy]
      rw [List.pairwise_iff_getElem] at h1
      have := h1 (i - 1) i (by omega) hi (by omega)
      have e1 := (List.getElem?_eq_some_iff.1 hx).2
      have e2 := (List.getElem?_eq_some_iff.1 hy).2
      omega
theorem rising_order {n : Nat} {l : List Int} (h : risingB n l = true) : l ∈ orderN n := by
  obtain ⟨h1, h2⟩ := rising_iff.1 h
  refine orderN_mem.2 ⟨?_, h1, h2⟩
  have hn : (l.map Int.toNat).Nodup := by
    rw [List.Nodup, List.pairwise_map]
    refine h1.imp_of_mem fun {a b} ha hb hab => ?_
    have := h2 a ha; have := h2 b hb
    omega
  have := len_le_of_nodup (n := n) (l.map Int.toNat) hn fun x hx => by
    obtain ⟨y, hy, rfl⟩ := List.mem_map.1 hx
    have := h2 y hy; omega
  simpa using this
theorem order_rising {n : Nat} {l : List Int} (h : l ∈ orderN n) : risingB n l = true := by
  obtain ⟨_, h2, h3⟩ := orderN_mem.1 h
  exact rising_iff.2 ⟨h2, h3⟩
set_option maxHeartbeats 4000000 in
theorem f59 (d : Drum) (l : List Int) (hl : l.length ≤ 1000) (hb : d.batches.length ≤ 1000) : ACalls Tryz.prog 59 [eDrum d, eInts l] (fun r => r = .pv (.bool (risingB d.batches.length l))) := by
  refine ACalls.of_body hT Tryz.func59 rfl (by kernel_rfl) rfl ?_
  (repeat (refine stq ?_))
  refine AW_loopC (fun k : Nat => k ≤ l.length ∧ (List.range k).all (stepR d.batches.length l) = true) (fun k => mkSt [(1, .pv (eInts l)), (2, .box 0 0), (5, .pv (vi k))] [(0, .box ((eDrumC d).map FV.pv))] 1) (fun k => l.length - k) 0 ⟨Nat.zero_le _, by simp⟩ ?_ ?_
  · (refine Le.mk ?_ ?_; all_goals (repeat' (first | exact trivial | refine sle ?_ | refine ⟨?_, rfl, ?_⟩ | refine ⟨?_, by decide, rfl, ?_⟩ | fail)))
  · rintro k ⟨hk, hall⟩
    (repeat (refine stq ?_))
    refine AW_if rfl (fun hc => ?_) (fun hc => ?_)
    · have hk' : k < l.length := by omega
      obtain ⟨x, hx⟩ : ∃ x, l[k]? = some x := ⟨l[k], by simp [hk']⟩
      have e1 := get_map eInt hx
      have gx : l.getD k 0 = x := by rw [List.getD_eq_getElem?_getD, hx]; rfl
      have hn := all_range_succ (k := k) (p := stepR d.batches.length l)
      have bad : stepR d.batches.length l k = false → risingB d.batches.length l = false := fun h => List.all_eq_false.2 ⟨k, List.mem_range.2 hk', by rw [h]; decide⟩
      have hv : stepR d.batches.length l k = (inB x 0 (d.batches.length - 1) && (decide (k = 0) || decide (l.getD (k - 1) 0 < x))) := by unfold stepR; rw [gx]
      by_cases h1 : x < 0
      · have hv' : stepR d.batches.length l k = false := by rw [hv]; unfold inB; rw [decide_eq_false (by omega : ¬ 0 ≤ x)]; rfl
        (repeat (refine stq ?_))
        iterate 4 (refine sdq ?_)
        refine DG_cmp hT rfl (fun _ => ?_) (fun hg => absurd hg (by omega))
        (repeat (first | refine DG_next (StepOK.skipU rfl rfl) ?_ | refine sdq ?_))
        refine DG_end hM (by kernel_rfl) ?_
        (repeat (refine stq ?_))
        exact ⟨_, _, rfl, rfl, by rw [bad hv']⟩
      · by_cases h2 : x ≥ d.batches.length
        · have hv' : stepR d.batches.length l k = false := by rw [hv]; unfold inB; rw [decide_eq_false (by omega : ¬ x ≤ (d.batches.length : Int) - 1), Bool.and_false]; rfl
          (repeat (refine stq ?_))
          iterate 4 (refine sdq ?_)
          refine DG_cmp hT rfl (fun hg => absurd hg (by omega)) (fun _ => ?_)
          iterate 8 (refine sdq ?_)
          refine DG_cmp hT rfl (fun _ => ?_) (fun hg => absurd hg (by omega))
          (repeat (first | refine DG_next (StepOK.skipU rfl rfl) ?_ | refine sdq ?_))
          refine DG_end hM (by kernel_rfl) ?_
          (repeat (refine stq ?_))
          exact ⟨_, _, rfl, rfl, by rw [bad hv']⟩
        · have hin : inB x 0 (d.batches.length - 1) = true := by unfold inB; rw [decide_eq_true (by omega : 0 ≤ x), decide_eq_true (by omega : x ≤ (d.batches.length : Int) - 1)]; rfl
          by_cases h3 : k = 0
          · have hv' : stepR d.batches.length l k = true := by rw [hv, hin, decide_eq_true h3]; rfl
            (repeat (refine stq ?_))
            iterate 4 (refine sdq ?_)
            refine DG_cmp hT rfl (fun hg => absurd hg (by omega)) (fun _ => ?_)
            iterate 8 (refine sdq ?_)
            refine DG_cmp hT rfl (fun hg => absurd hg (by omega)) (fun _ => ?_)
            iterate 3 (refine sdq ?_)
            refine DG_cmp hT rfl (fun hg => absurd hg (by omega)) (fun _ => ?_)
            (repeat (first | refine DG_next (StepOK.skipU rfl rfl) ?_ | refine sdq ?_))
            refine DG_end hM (by kernel_rfl) ?_
            (repeat (refine stq ?_))
            refine ⟨k + 1, ⟨hk', by rw [hn, hall, hv']; rfl⟩, by omega, ?_⟩
            (refine Le.mk ?_ ?_; all_goals (repeat' (first | exact trivial | refine sle ?_ | refine ⟨?_, rfl, ?_⟩ | refine ⟨?_, by decide, rfl, ?_⟩ | fail)))
          · obtain ⟨y, hy⟩ : ∃ x, l[k - 1]? = some x := ⟨l[k - 1]'(by omega), by simp⟩
            have gy : l.getD (k - 1) 0 = y := by rw [List.getD_eq_getElem?_getD, hy]; rfl
            have e2 : (l.map eInt)[((k : Int) - 1).toNat]? = some (eInt y) := by
              rw [show ((k : Int) - 1).toNat = k - 1 by omega]; exact get_map eInt hy
            rw [gy] at hv
            by_cases h4 : x ≤ y
            · have hv' : stepR d.batches.length l k = false := by rw [hv, hin, decide_eq_false h3, decide_eq_false (by omega : ¬ y < x)]; rfl
              (repeat (refine stq ?_))
              iterate 4 (refine sdq ?_)
              refine DG_cmp hT rfl (fun hg => absurd hg (by omega)) (fun _ => ?_)
              iterate 8 (refine sdq ?_)
              refine DG_cmp hT rfl (fun hg => absurd hg (by omega)) (fun _ => ?_)
              iterate 3 (refine sdq ?_)
              refine DG_cmp hT rfl (fun _ => ?_) (fun hg => absurd hg (by omega))
              iterate 10 (refine sdq ?_)
              refine DG_cmp hT rfl (fun _ => ?_) (fun hg => absurd hg (by omega))
              (repeat (refine sdq ?_))
              refine DG_end hM (by kernel_rfl) ?_
              (repeat (refine stq ?_))
              exact ⟨_, _, rfl, rfl, by rw [bad hv']⟩
            · have hv' : stepR d.batches.length l k = true := by rw [hv, hin, decide_eq_true (by omega : y < x), Bool.or_true]; rfl
              (repeat (refine stq ?_))
              iterate 4 (refine sdq ?_)
              refine DG_cmp hT rfl (fun hg => absurd hg (by omega)) (fun _ => ?_)
              iterate 8 (refine sdq ?_)
              refine DG_cmp hT rfl (fun hg => absurd hg (by omega)) (fun _ => ?_)
              iterate 3 (refine sdq ?_)
              refine DG_cmp hT rfl (fun _ => ?_) (fun hg => absurd hg (by omega))
              iterate 10 (refine sdq ?_)
              refine DG_cmp hT rfl (fun hg => absurd hg (by omega)) (fun _ => ?_)
              (repeat (refine sdq ?_))
              refine DG_end hM (by kernel_rfl) ?_
              (repeat (refine stq ?_))
              refine ⟨k + 1, ⟨hk', by rw [hn, hall, hv']; rfl⟩, by omega, ?_⟩
              (refine Le.mk ?_ ?_; all_goals (repeat' (first | exact trivial | refine sle ?_ | refine ⟨?_, rfl, ?_⟩ | refine ⟨?_, by decide, rfl, ?_⟩ | fail)))
    · have hk' : k = l.length := by omega
      subst hk'
      (repeat (refine stq ?_))
      exact ⟨_, _, rfl, rfl, by rw [show risingB d.batches.length l = true from hall]⟩
end Go.Abs
namespace Go.Abs
open Go.Proofs
set_option linter.unusedVariables false
set_option linter.unusedSimpArgs false
set_option maxRecDepth 100000
theorem lex_drop {a b : List Int} {i : Nat} {x y : Int} (hx : a[i]? = some x) (hy : b[i]? = some y) : lexB (a.drop i) (b.drop i) = if x < y then true else if y < x then false else lexB (a.drop (i + 1)) (b.drop (i + 1)) := by
  have h1 := (List.getElem?_eq_some_iff.1 hx)
  have h2 := (List.getElem?_eq_some_iff.1 hy)
  rw [List.drop_eq_getElem_cons h1.1, List.drop_eq_getElem_cons h2.1, h1.2, h2.2]
  rfl
set_option maxHeartbeats 4000000 in
theorem f61 (a b : List Int) (ha : a.length ≤ 1000) (hb : b.length ≤ 1000) : ACalls Tryz.prog 61 [eInts a, eInts b] (fun r => r = .pv (.bool (lexB a b))) := by
  refine ACalls.of_body hT Tryz.func61 rfl (by kernel_rfl) rfl ?_
  (repeat (refine stq ?_))
  refine AW_loopC (fun i : Nat => i ≤ a.length ∧ i ≤ b.length ∧ lexB a b = lexB (a.drop i) (b.drop i)) (fun i => mkSt [(0, .pv (eInts a)), (1, .pv (eInts b)), (5, .pv (vi i))] [] 0) (fun i => a.length - i) 0 ⟨Nat.zero_le _, Nat.zero_le _, rfl⟩ ?_ ?_
  · (refine Le.mk ?_ ?_; all_goals (repeat' (first | exact trivial | refine sle ?_ | refine ⟨?_, rfl, ?_⟩ | refine ⟨?_, by decide, rfl, ?_⟩ | fail)))
  · rintro i ⟨h1, h2, h3⟩
    by_cases c1 : i < a.length
    · by_cases c2 : i < b.length
      · obtain ⟨x, hx⟩ : ∃ x, a[i]? = some x := ⟨a[i], by simp [c1]⟩
        obtain ⟨y, hy⟩ : ∃ x, b[i]? = some x := ⟨b[i], by simp [c2]⟩
        have e1 := get_map eInt hx
        have e2 := get_map eInt hy
        rw [lex_drop hx hy] at h3
        by_cases hxy : x = y
        · subst hxy
          rw [if_neg (by omega), if_neg (by omega)] at h3
          (repeat' (first | refine stq ?_ | ((first | (with_reducible refine AL_id ?_); (fail_if_success (refine AL_glit rfl rfl rfl (by first | exact .inl (by with_reducible rfl) | exact .inr (by with_reducible rfl)) ?_)); first | refine AL_gdec rfl rfl rfl (fun hg => ?_) (fun hg => ?_) | refine AL_gnot rfl rfl rfl (fun hg => ?_) (fun hg => ?_) | refine AL_gcases rfl rfl rfl (fun hg => ?_) (fun hg => ?_)) <;> (try (exfalso; omega))) | refine AW_if rfl (fun hc => absurd hc (by omega)) (fun _ => ?_) | refine AW_if rfl (fun _ => ?_) (fun hc => absurd (by omega) hc)))
          all_goals (try (exfalso; omega))
          iterate 8 (refine sdq ?_)
          refine DG_cmp hT rfl (fun hg => absurd hg (by omega)) (fun _ => ?_)
          refine DG_end hM (by kernel_rfl) ?_
          (repeat (refine stq ?_))
          refine ⟨i + 1, ⟨c1, c2, h3⟩, by omega, ?_⟩
          (refine Le.mk ?_ ?_; all_goals (repeat' (first | exact trivial | refine sle ?_ | refine ⟨?_, rfl, ?_⟩ | refine ⟨?_, by decide, rfl, ?_⟩ | fail)))
        · have hr : lexB a b = decide (x < y) := by
            rw [h3]
            by_cases hlt : x < y
            · rw [if_pos hlt, decide_eq_true hlt]
            · rw [if_neg hlt, if_pos (by omega), decide_eq_false hlt]
          (repeat' (first | refine stq ?_ | ((first | (with_reducible refine AL_id ?_); (fail_if_success (refine AL_glit rfl rfl rfl (by first | exact .inl (by with_reducible rfl) | exact .inr (by with_reducible rfl)) ?_)); first | refine AL_gdec rfl rfl rfl (fun hg => ?_) (fun hg => ?_) | refine AL_gnot rfl rfl rfl (fun hg => ?_) (fun hg => ?_) | refine AL_gcases rfl rfl rfl (fun hg => ?_) (fun hg => ?_)) <;> (try (exfalso; omega))) | refine AW_if rfl (fun hc => absurd hc (by omega)) (fun _ => ?_) | refine AW_if rfl (fun _ => ?_) (fun hc => absurd (by omega) hc)))
          all_goals (try (exfalso; omega))
          iterate 8 (refine sdq ?_)
          refine DG_cmp hT rfl (fun _ => ?_) (fun hg => absurd hg (by omega))
          refine DG_end hM (by kernel_rfl) ?_
          (repeat (refine stq ?_))
          (repeat (refine sdq ?_))
          refine DG_end hM (by kernel_rfl) ?_
          (repeat (refine stq ?_))
          exact ⟨_, _, rfl, rfl, by rw [hr]⟩
      · have hr : lexB a b = decide ((a.length : Int) < b.length) := by
          rw [h3, List.drop_eq_nil_of_le (by omega : b.length ≤ i)]
          rw [decide_eq_false (by omega)]
          cases a.drop i <;> rfl
        (repeat' (first | refine stq ?_ | ((first | (with_reducible refine AL_id ?_); (fail_if_success (refine AL_glit rfl rfl rfl (by first | exact .inl (by with_reducible rfl) | exact .inr (by with_reducible rfl)) ?_)); first | refine AL_gdec rfl rfl rfl (fun hg => ?_) (fun hg => ?_) | refine AL_gnot rfl rfl rfl (fun hg => ?_) (fun hg => ?_) | refine AL_gcases rfl rfl rfl (fun hg => ?_) (fun hg => ?_)) <;> (try (exfalso; omega))) | refine AW_if rfl (fun hc => absurd hc (by omega)) (fun _ => ?_) | refine AW_if rfl (fun _ => ?_) (fun hc => absurd (by omega) hc)))
        all_goals (try (exfalso; omega))
        exact ⟨_, _, rfl, rfl, by rw [hr]⟩
    · have hr : lexB a b = decide ((a.length : Int) < b.length) := by
        rw [h3, List.drop_eq_nil_of_le (by omega : a.length ≤ i)]
        have hbl : (b.drop i).length = b.length - a.length := by rw [List.length_drop]; omega
        cases hbd : b.drop i with
        | nil => rw [hbd] at hbl; rw [decide_eq_false (by simp at hbl; omega)]; rfl
        | cons y l => rw [hbd] at hbl; rw [decide_eq_true (by simp at hbl; omega)]; rfl
      (repeat' (first | refine stq ?_ | ((first | (with_reducible refine AL_id ?_); (fail_if_success (refine AL_glit rfl rfl rfl (by first | exact .inl (by with_reducible rfl) | exact .inr (by with_reducible rfl)) ?_)); first | refine AL_gdec rfl rfl rfl (fun hg => ?_) (fun hg => ?_) | refine AL_gnot rfl rfl rfl (fun hg => ?_) (fun hg => ?_) | refine AL_gcases rfl rfl rfl (fun hg => ?_) (fun hg => ?_)) <;> (try (exfalso; omega))) | refine AW_if rfl (fun hc => absurd hc (by omega)) (fun _ => ?_) | refine AW_if rfl (fun _ => ?_) (fun hc => absurd (by omega) hc)))
      all_goals (try (exfalso; omega))
      exact ⟨_, _, rfl, rfl, by rw [hr]⟩
end Go.Abs
namespace Go.Abs
open Go.Proofs
set_option linter.unusedVariables false
set_option linter.unusedSimpArgs false
set_option maxRecDepth 100000
theorem err_same {d : Drum} {B : List Batch} (hP : DrumP d) (hx : DrumP (withB d B)) : errE (withB d B) true = errE d true := by
  rcases err_cases (drumP_of.2 hP) with ⟨h, e⟩ | ⟨h, e⟩
  · rcases err_cases (drumP_of.2 hx) with ⟨g, f⟩ | ⟨g, f⟩
    · rw [e, f]
    · rw [wb_filled] at g; exact absurd h g
  · rcases err_cases (drumP_of.2 hx) with ⟨g, f⟩ | ⟨g, f⟩
    · rw [wb_filled] at g; exact absurd g h
    · rw [e, f]
theorem lex_irrefl : ∀ l : List Int, lexB l l = false
  | [] => rfl
  | x :: l => by simp only [lexB, if_neg (Int.lt_irrefl x)]; exact lex_irrefl l
end Go.Abs
namespace Go.Abs
set_option linter.unusedVariables false
theorem nodup_le : ∀ (l m : List Int), l.Nodup → (∀ x ∈ l, x ∈ m) → l.length ≤ m.length
  | [], m, _, _ => Nat.zero_le _
  | x :: l, m, hn, hs => by
    rw [List.nodup_cons] at hn
    have hx := hs x (by simp)
    have ih := nodup_le l (m.erase x) hn.2 fun y hy => by
      have hne : y ≠ x := fun e => hn.1 (e ▸ hy)
      exact (List.mem_erase_of_ne hne).2 (hs y (by simp [hy]))
    rw [List.length_erase_of_mem hx] at ih
    have : 0 < m.length := List.length_pos_of_mem hx
    simp only [List.length_cons]
    omega
theorem best_first : ∀ (k : Nat) (M : List (List Int)), M.length = k → ∀ b, bestL fewB M = some b → ∃ ps bs, M = ps ++ b :: bs ∧ (∀ a ∈ ps, runsI b < runsI a) ∧ ∀ a ∈ bs, runsI b ≤ runsI a
  | 0, M, hk, b, hb => by rw [List.length_eq_zero_iff] at hk; subst hk; cases hb
  | k + 1, M, hk, b, hb => by
    obtain ⟨N, x, rfl⟩ : ∃ N x, M = N ++ [x] := ⟨M.dropLast, M.getLast (by intro e; rw [e] at hk; cases hk), (List.dropLast_concat_getLast _).symm⟩
    have hN : N.length = k := by simpa using hk
    rw [best_succ] at hb
    cases ho : bestL fewB N with
    | none =>
      rw [ho] at hb
      have hb : some x = some b := hb
      cases hb
      cases N with
      | nil => exact ⟨[], [], rfl, by simp, by simp⟩
      | cons y N => cases ho
    | some o =>
      rw [ho] at hb
      have hb : some (if fewB x o then x else o) = some b := hb
      obtain ⟨ps, bs, e, h1, h2⟩ := best_first k N hN o ho
      by_cases hf : runsI x < runsI o
      · have : fewB x o = true := decide_eq_true hf
        rw [if_pos this] at hb
        cases hb
        refine ⟨N, [], rfl, fun a ha => ?_, by simp⟩
        rw [e] at ha
        rcases List.mem_append.1 ha with ha | ha
        · have := h1 a ha; omega
        · rcases List.mem_cons.1 ha with rfl | ha
          · exact hf
          · have := h2 a ha; omega
      · have : fewB x o = false := decide_eq_false hf
        rw [if_neg (by rw [this]; decide)] at hb
        cases hb
        refine ⟨ps, bs ++ [x], by rw [e]; simp, h1, fun a ha => ?_⟩
        rcases List.mem_append.1 ha with ha | ha
        · exact h2 a ha
        · simp at ha; subst ha; omega
theorem sort_best {W : List Span} (hne : (levelI W.length []).filter (sortsB W) ≠ []) : ∃ ps bs, (levelI W.length []).filter (sortsB W) = ps ++ sortI W :: bs ∧ (∀ a ∈ ps, runsI (sortI W) < runsI a) ∧ ∀ a ∈ bs, runsI (sortI W) ≤ runsI a := by
  unfold sortI
  cases h : bestL fewB ((levelI W.length []).filter (sortsB W)) with
  | none =>
    exfalso
    match he : (levelI W.length []).filter (sortsB W) with
    | [] => exact hne he
    | x :: M => rw [he] at h; cases h
  | some b => exact best_first _ _ rfl b h
theorem sort_min {W : List Span} (h5 : W.length ≤ 5) (hne : (levelI W.length []).filter (sortsB W) ≠ []) : sortI W ∈ bfsI W.length ∧ sortsB W (sortI W) = true ∧ ∀ l ∈ levelI W.length [], sortsB W l = true → runsI (sortI W) ≤ runsI l := by
  obtain ⟨ps, bs, e, h1, h2⟩ := sort_best hne
  have hm : sortI W ∈ (levelI W.length []).filter (sortsB W) := by rw [e]; simp
  obtain ⟨m1, m2⟩ := List.mem_filter.1 hm
  refine ⟨by rw [bfs_level]; exact m1, m2, fun l hl hs => ?_⟩
  have hlf : l ∈ (levelI W.length []).filter (sortsB W) := List.mem_filter.2 ⟨hl, hs⟩
  rw [e] at hlf
  rcases List.mem_append.1 hlf with h | h
  · exact Int.le_of_lt (h1 l h)
  · rcases List.mem_cons.1 h with h | h
    · rw [h]; exact Int.le_refl _
    · exact h2 l h
theorem sort_some' {d : Drum} (hP : DrumP d) (he : eachB (winP d) = true) : (levelI (winP d).length []).filter (sortsB (winP d)) ≠ [] := by
  have h := sort_some hP he
  have h5 := hP.b1
  rw [winR_len] at h
  rw [winP_len, ← bfs_level]
  intro e
  apply h
  rw [← e]
  refine List.filter_congr fun l hl => ?_
  rw [sortsR_eq fun x hx => (((bfs_bd h5).2 l hl).2 x hx).1]
  exact sortsB_same d l
end Go.Abs
namespace Go.Abs
set_option linter.unusedVariables false
theorem lex_asymm : ∀ a b : List Int, lexB a b = true → lexB b a = false
  | [], [], h => by cases h
  | [], _ :: _, _ => rfl
  | _ :: _, [], h => by cases h
  | x :: a, y :: b, h => by
    simp only [lexB] at h ⊢
    by_cases h1 : x < y
    · rw [if_neg (by omega), if_pos h1]
    · rw [if_neg h1] at h
      by_cases h2 : y < x
      · rw [if_pos h2] at h; cases h
      · rw [if_neg h2] at h
        rw [if_neg h2, if_neg h1]
        exact lex_asymm a b h
def srtB : List (List Int) → Bool
  | [] => true
  | x :: l => l.all (lexB x) && srtB l
theorem srt_pair : ∀ {L : List (List Int)}, srtB L = true → L.Pairwise fun a b => lexB a b = true
  | [], _ => List.Pairwise.nil
  | x :: l, h => by
    simp only [srtB, Bool.and_eq_true, List.all_eq_true] at h
    exact List.pairwise_cons.2 ⟨h.1, srt_pair h.2⟩
theorem srt_ok : ((List.range 6).all fun n => srtB (bfsI n)) = true := by decide +kernel
theorem level_sorted {n : Nat} (hn : n ≤ 5) : (levelI n []).Pairwise fun a b => lexB a b = true := by
  rw [← bfs_level]
  exact srt_pair (List.all_eq_true.1 srt_ok n (List.mem_range.2 (by omega)))
theorem rgs_level : ∀ (n : Nat) (l : List Int), l.length = n → rgsGo 0 l = true → (∀ x ∈ l, 0 ≤ x) → l ∈ bfsI n
  | 0, l, h, _, _ => by rw [List.length_eq_zero_iff] at h; subst h; simp [bfsI]
  | n + 1, l, h, hg, h0 => by
    obtain ⟨q, x, rfl⟩ : ∃ r x, l = r ++ [x] := ⟨l.dropLast, l.getLast (by intro e; rw [e] at h; cases h), (List.dropLast_concat_getLast _).symm⟩
    have hq : q.length = n := by simpa using h
    rw [rgs_append, Bool.and_eq_true, decide_eq_true_eq] at hg
    have ih := rgs_level n q hq hg.1 fun y hy => h0 y (by simp [hy])
    have hx : x ≤ runsI q := hg.2
    have hx0 := h0 x (by simp)
    show q ++ [x] ∈ stepL (bfsI n)
    unfold stepL
    refine List.mem_flatMap.2 ⟨q, ih, List.mem_map.2 ⟨x.toNat, List.mem_range.2 (by omega), ?_⟩⟩
    rw [show ((x.toNat : Nat) : Int) = x by omega]
theorem sort_spec {W : List Span} (h5 : W.length ≤ 5) (hne : (levelI W.length []).filter (sortsB W) ≠ []) {l : List Int} (hl : l.length = W.length) (h0 : ∀ x ∈ l, 0 ≤ x) (hs : sortsB W l = true) : runsI (sortI W) ≤ runsI l ∧ (runsI l = runsI (sortI W) → lexB l (sortI W) = false) := by
  obtain ⟨m1, m2, m3⟩ := sort_min h5 hne
  have hg : rgsGo 0 l = true := by unfold sortsB at hs; rw [Bool.and_eq_true] at hs; exact hs.1
  have hlv : l ∈ levelI W.length [] := by rw [← bfs_level]; exact rgs_level _ l hl hg h0
  refine ⟨m3 l hlv hs, fun e => ?_⟩
  obtain ⟨ps, bs, e1, h1, h2⟩ := sort_best hne
  have hlf : l ∈ (levelI W.length []).filter (sortsB W) := List.mem_filter.2 ⟨hlv, hs⟩
  have hp := (level_sorted h5).filter (sortsB W)
  rw [e1] at hlf hp
  rcases List.mem_append.1 hlf with h | h
  · have := h1 l h; omega
  · rcases List.mem_cons.1 h with h | h
    · rw [h]; exact lex_irrefl _
    · have := (List.pairwise_cons.1 (List.pairwise_append.1 hp).2.1).1 l h
      exact lex_asymm _ _ this
theorem long_spec {W : List Span} {n : Nat} (hn : W.length = n) (h1 : 1 ≤ n) (h5 : n ≤ 5) : longestI W ∈ orderN n ∧ apartB W (longestI W) = true ∧ ∀ g ∈ orderN n, moreN g (longestI W) = true → apartB W g = false := by
  subst hn
  have hex : (orderA W.length).find? (apartB W) = some (longestI W) := by
    unfold longestI
    cases h : (orderA W.length).find? (apartB W) with
    | some l => rfl
    | none =>
      exfalso
      rw [List.find?_eq_none] at h
      exact h [] (orderA_mem.2 (orderN_mem.2 ⟨by simp, by simp, by simp⟩)) rfl
  refine ⟨orderA_mem.1 (List.mem_of_find?_eq_some hex), List.find?_some hex, fun g hg hlt => ?_⟩
  obtain ⟨hp, ps, bs, e, has⟩ := List.find?_eq_some_iff_append.1 hex
  have hm := List.mem_of_find?_eq_some hex
  have hr := (orders_ok h1 h5).2.1
  have := List.all_eq_true.1 (List.all_eq_true.1 hr g (orderA_mem.2 hg)) _ hm
  have hlt' : (orderA W.length).idxOf g < (orderA W.length).idxOf (longestI W) := by
    rw [hlt] at this
    simpa using this
  have hnas : longestI W ∉ ps := fun h => by
    have := has _ h
    rw [hp] at this; cases this
  rw [e, List.idxOf_append, List.idxOf_append, if_neg hnas] at hlt'
  by_cases hga : g ∈ ps
  · have := has g hga
    simpa using this
  · rw [if_neg hga] at hlt'
    have e0 : (longestI W :: bs).idxOf (longestI W) = 0 := by simp
    rw [e0] at hlt'
    omega
theorem apart_stab {W : List Span} {P l : List Int} (hst : stabs W P) (hl : l ∈ orderN W.length) (ha : apartB W l = true) : l.length ≤ P.length := by
  obtain ⟨_, l2, l3⟩ := orderN_mem.1 hl
  let f : Int → Int := fun x => (P.find? fun p => inB p (W.getD x.toNat ⟨0, 0⟩).low (W.getD x.toNat ⟨0, 0⟩).high).getD 0
  have hf : ∀ x ∈ l, ∃ s, W[x.toNat]? = some s ∧ f x ∈ P ∧ inS s (f x) := fun x hx => by
    have hxb := l3 x hx
    obtain ⟨s, hs⟩ : ∃ s, W[x.toNat]? = some s := ⟨W[x.toNat]'(by omega), by simp⟩
    obtain ⟨p, hp, hps⟩ := hst.2 s (List.mem_of_getElem? hs)
    have gs : W.getD x.toNat ⟨0, 0⟩ = s := by rw [List.getD_eq_getElem?_getD, hs]; rfl
    refine ⟨s, hs, ?_⟩
    cases hq : P.find? (fun p => inB p (W.getD x.toNat ⟨0, 0⟩).low (W.getD x.toNat ⟨0, 0⟩).high) with
    | none =>
      rw [List.find?_eq_none] at hq
      have := hq p hp
      rw [gs] at this
      simp only [inB, Bool.and_eq_true, decide_eq_true_eq] at this
      exact absurd hps this
    | some r =>
      have e : f x = r := by show (P.find? _).getD 0 = r; rw [hq]; rfl
      have h2 := List.find?_some hq
      rw [gs] at h2
      simp only [inB, Bool.and_eq_true, decide_eq_true_eq] at h2
      rw [e]
      exact ⟨List.mem_of_find?_eq_some hq, h2⟩
  have hnd : (l.map f).Nodup := by
    rw [List.Nodup, List.pairwise_iff_getElem]
    intro i j hi hj hij
    rw [List.length_map] at hi hj
    simp only [List.getElem_map]
    intro e
    have hxi : l[i]? = some l[i] := by simp [hi]
    have hxj : l[j]? = some l[j] := by simp [hj]
    have hr := pairs_mem (r := fun a b => !openS (meetL (pick W fun i => decide ((i : Int) = a) || decide ((i : Int) = b)))) ha hij hxi hxj
    obtain ⟨s, s1, s2, s3⟩ := hf l[i] (List.getElem_mem hi)
    obtain ⟨u, u1, u2, u3⟩ := hf l[j] (List.getElem_mem hj)
    have b1 := l3 l[i] (List.getElem_mem hi)
    have b2 := l3 l[j] (List.getElem_mem hj)
    have ho : openS (meetL (pick W fun k => decide ((k : Int) = l[j]) || decide ((k : Int) = l[i]))) = true := by
      refine open_iff.2 ⟨f l[i], pick_iff.2 ⟨hst.1 _ s2, fun k w hw hk => ?_⟩⟩
      simp only [Bool.or_eq_true, decide_eq_true_eq] at hk
      rcases hk with hk | hk
      · rw [show l[j].toNat = k by omega, hw] at u1; cases u1; rw [e]; exact u3
      · rw [show l[i].toNat = k by omega, hw] at s1; cases s1; exact s3
    simp only [ho] at hr
    cases hr
  have := nodup_le (l.map f) P hnd fun y hy => by
    obtain ⟨x, hx, rfl⟩ := List.mem_map.1 hy
    obtain ⟨_, _, h, _⟩ := hf x hx
    exact h
  simpa using this
theorem long_runs {W : List Span} (h1 : 1 ≤ W.length) (h5 : W.length ≤ 5) (hW : ∀ s ∈ W, 0 ≤ s.low ∧ s.low ≤ s.high ∧ s.high ≤ 12) (hne : (levelI W.length []).filter (sortsB W) ≠ []) : ((longestI W).length : Int) = runsI (sortI W) := by
  obtain ⟨m1, m2, m3⟩ := sort_min h5 hne
  obtain ⟨c1, c2⟩ := (bfs_bd h5).2 _ m1
  obtain ⟨P, p1, p2⟩ := sorts_stab c1 (fun x hx => (c2 x hx).1) m2
  obtain ⟨g1, g2, g3⟩ := long_spec rfl h1 h5
  have up := apart_stab p1 g1 g2
  obtain ⟨Q, q, d1, d2, d3, d4, d5⟩ := dual_go (W := W) hW W.length (List.range W.length) (by simp) (List.nodup_range) (fun i hi => List.mem_range.1 hi)
  have hst : stabs W Q := ⟨d1, fun s hs => by
    obtain ⟨i, hi⟩ := List.mem_iff_getElem?.1 hs
    exact d2 i s (List.mem_range.2 (List.getElem?_eq_some_iff.1 hi).1) hi⟩
  obtain ⟨l, l1, l2, l3⟩ := stab_sorts hst
  have hlo := m3 l l1 l2
  have hA : (((List.range W.length).filter q).map fun i : Nat => (i : Int)) ∈ orderN W.length := by
    refine orderN_mem.2 ⟨?_, ?_, fun x hx => ?_⟩
    · rw [List.length_map]
      refine Nat.le_trans (List.length_filter_le _ _) ?_
      simp
    · rw [List.pairwise_map]
      exact ((List.pairwise_lt_range).filter _).imp fun h => by omega
    · obtain ⟨i, hi, rfl⟩ := List.mem_map.1 hx
      have := List.mem_range.1 (List.mem_filter.1 hi).1
      omega
  have hAp : apartB W (((List.range W.length).filter q).map fun i : Nat => (i : Int)) = true := by
    unfold apartB
    rw [pairs_iff]
    intro i j x y hij hx hy
    rw [List.getElem?_map, Option.map_eq_some_iff] at hx hy
    obtain ⟨a, ha, rfl⟩ := hx
    obtain ⟨b, hb, rfl⟩ := hy
    have ha' := List.mem_filter.1 (List.mem_of_getElem? ha)
    have hb' := List.mem_filter.1 (List.mem_of_getElem? hb)
    have hal := List.mem_range.1 ha'.1
    have hbl := List.mem_range.1 hb'.1
    have hab : a ≠ b := by
      have hpw : ((List.range W.length).filter q).Pairwise (· < ·) := (List.pairwise_lt_range).filter _
      rw [List.pairwise_iff_getElem] at hpw
      have h1 := (List.getElem?_eq_some_iff.1 ha)
      have h2 := (List.getElem?_eq_some_iff.1 hb)
      have := hpw i j h1.1 h2.1 hij
      rw [h1.2, h2.2] at this
      omega
    obtain ⟨s, hs⟩ : ∃ s, W[a]? = some s := ⟨W[a], by simp [hal]⟩
    obtain ⟨u, hu⟩ : ∃ s, W[b]? = some s := ⟨W[b], by simp [hbl]⟩
    cases ho : openS (meetL (pick W fun i => decide ((i : Int) = (b : Int)) || decide ((i : Int) = (a : Int)))) with
    | false => rfl
    | true =>
      exfalso
      obtain ⟨n, hn⟩ := open_iff.1 ho
      have h2 := (pick_iff.1 hn).2
      exact d5 a b s u hs hu ha'.2 hb'.2 hab n ⟨h2 a s hs (by simp), h2 b u hu (by simp)⟩
  have hge : ((List.range W.length).filter q).length ≤ (longestI W).length := by
    by_cases h : (longestI W).length < ((List.range W.length).filter q).length
    · have := g3 _ hA (by unfold moreN; rw [List.length_map, decide_eq_true h]; rfl)
      rw [hAp] at this; cases this
    · omega
  omega
end Go.Abs
namespace Go.Abs
open Go.Proofs
set_option linter.unusedVariables false
set_option linter.unusedSimpArgs false
set_option maxRecDepth 100000
def pairL (d : Drum) (l : List Int) (i k : Nat) : Bool := !openS (allW (withB d [d.batches.getD (l.getD k 0).toNat ⟨0, 0, 0, 0, 0, 0⟩, d.batches.getD (l.getD i 0).toNat ⟨0, 0, 0, 0, 0, 0⟩]))
def rowL (d : Drum) (l : List Int) (i : Nat) : Bool := (List.range i).all (pairL d l i)
def lonelyB (d : Drum) (l : List Int) : Bool := (List.range l.length).all (rowL d l)
set_option maxHeartbeats 4000000 in
theorem f62 (d : Drum) (hd : drumOK d) (hP : DrumP d) (he : errE d true = 0) (l : List Int) (hl : l.length ≤ 1000) (hin : ∀ x ∈ l, 0 ≤ x ∧ x < (d.batches.length : Int)) : ACalls Tryz.prog 62 [eDrum d, eInts l] (fun r => r = .pv (.bool (lonelyB d l))) := by
  have hb1 := hP.b1
  refine ACalls.of_body hT Tryz.func62 rfl (by kernel_rfl) rfl ?_
  (repeat (refine stq ?_))
  refine AW_loopC (fun i : Nat => i ≤ l.length ∧ (List.range i).all (rowL d l) = true) (fun i => mkSt [(1, .pv (eInts l)), (2, .box 0 0), (5, .pv (vi i))] [(0, .box ((eDrumC d).map FV.pv))] 1) (fun i => l.length - i) 0 ⟨Nat.zero_le _, by simp⟩ ?_ ?_
  · (refine Le.mk ?_ ?_; all_goals (repeat' (first | exact trivial | refine sle ?_ | refine ⟨?_, rfl, ?_⟩ | refine ⟨?_, by decide, rfl, ?_⟩ | fail)))
  · rintro i ⟨hi, hall⟩
    (repeat (refine stq ?_))
    refine AW_if rfl (fun hc => ?_) (fun hc => ?_)
    · have hi' : i < l.length := by omega
      obtain ⟨x, hx⟩ : ∃ x, l[i]? = some x := ⟨l[i], by simp [hi']⟩
      have e1 := get_map eInt hx
      have hxb := hin x (List.mem_of_getElem? hx)
      have gx : l.getD i 0 = x := by rw [List.getD_eq_getElem?_getD, hx]; rfl
      obtain ⟨b, hb⟩ : ∃ b, d.batches[x.toNat]? = some b := ⟨d.batches[x.toNat]'(by omega), by simp⟩
      have e2 : (d.batches.map eBatch)[x.toNat]? = some (eBatch b) := get_map eBatch hb
      have gb : d.batches.getD x.toNat ⟨0, 0, 0, 0, 0, 0⟩ = b := by rw [List.getD_eq_getElem?_getD, hb]; rfl
      have hn := all_range_succ (k := i) (p := rowL d l)
      have bad : rowL d l i = false → lonelyB d l = false := fun h => List.all_eq_false.2 ⟨i, List.mem_range.2 hi', by rw [h]; decide⟩
      (repeat (refine stq ?_))
      refine AW_loopC (fun k : Nat => k ≤ i ∧ (List.range k).all (pairL d l i) = true) (fun k => mkSt [(1, .pv (eInts l)), (2, .box 0 0), (5, .pv (vi i)), (6, .pv (vi k))] [(0, .box ((eDrumC d).map FV.pv))] 1) (fun k => i - k) 0 ⟨Nat.zero_le _, by simp⟩ ?_ ?_
      · (refine Le.mk ?_ ?_; all_goals (repeat' (first | exact trivial | refine sle ?_ | refine ⟨?_, rfl, ?_⟩ | refine ⟨?_, by decide, rfl, ?_⟩ | fail)))
      · rintro k ⟨hk, hall2⟩
        (repeat (refine stq ?_))
        refine AW_if rfl (fun hc2 => ?_) (fun hc2 => ?_)
        · have hk' : k < i := by omega
          obtain ⟨y, hy⟩ : ∃ y, l[k]? = some y := ⟨l[k]'(by omega), by simp⟩
          have e3 := get_map eInt hy
          have hyb := hin y (List.mem_of_getElem? hy)
          have gy : l.getD k 0 = y := by rw [List.getD_eq_getElem?_getD, hy]; rfl
          obtain ⟨c, hc'⟩ : ∃ b, d.batches[y.toNat]? = some b := ⟨d.batches[y.toNat]'(by omega), by simp⟩
          have e4 : (d.batches.map eBatch)[y.toNat]? = some (eBatch c) := get_map eBatch hc'
          have gc : d.batches.getD y.toNat ⟨0, 0, 0, 0, 0, 0⟩ = c := by rw [List.getD_eq_getElem?_getD, hc']; rfl
          have hp : pairL d l i k = !openS (allW (withB d [c, b])) := by unfold pairL; rw [gx, gy, gb, gc]
          have hn2 := all_range_succ (k := k) (p := pairL d l i)
          have bad2 : pairL d l i k = false → rowL d l i = false := fun h => List.all_eq_false.2 ⟨k, List.mem_range.2 hk', by rw [h]; decide⟩
          have hxP : DrumP (withB d [c, b]) := wb_P d _ hP (by simp) (by simp) (fun z hz => by
            simp at hz
            rcases hz with rfl | rfl
            · exact List.mem_of_getElem? hc'
            · exact List.mem_of_getElem? hb)
          have hxd := wb_ok d [c, b] hd (by simp)
          have hxe : errE (withB d [c, b]) true = 0 := by rw [err_same hP hxP]; exact he
          have hwd := wb_drum d [c, b]
          cases ho : openS (allW (withB d [c, b])) with
          | true =>
            have k55 := f55y hxd hxe ho
            rw [hwd] at k55
            rw [ho] at hp
            generalize allW (withB d [c, b]) = A at *
            (repeat (refine stq ?_))
            (repeat (refine sdq ?_))
            refine DG_end hM (by kernel_rfl) ?_
            (repeat' (first | refine stq ?_ | (refine AL_do2 rfl ?_; first | refine ⟨_, op_call1 rfl rfl rfl rfl (k55), nrmA rfl ?_⟩) | (with_reducible refine AL_id ?_); (fail_if_success (refine AL_glit rfl rfl rfl (by first | exact .inl (by with_reducible rfl) | exact .inr (by with_reducible rfl)) ?_)); first | refine AL_gdec rfl rfl rfl (fun hg => ?_) (fun hg => ?_) | refine AL_gnot rfl rfl rfl (fun hg => ?_) (fun hg => ?_) | refine AL_gcases rfl rfl rfl (fun hg => ?_) (fun hg => ?_)))
            exact ⟨_, _, rfl, rfl, by rw [bad (bad2 hp)]⟩
          | false =>
            have k55 := f55n hxd hxe ho
            rw [hwd] at k55
            rw [ho] at hp
            (repeat (refine stq ?_))
            (repeat (refine sdq ?_))
            refine DG_end hM (by kernel_rfl) ?_
            (repeat' (first | refine stq ?_ | (refine AL_do2 rfl ?_; first | refine ⟨_, op_call1 rfl rfl rfl rfl (k55), nrmA rfl ?_⟩) | (with_reducible refine AL_id ?_); (fail_if_success (refine AL_glit rfl rfl rfl (by first | exact .inl (by with_reducible rfl) | exact .inr (by with_reducible rfl)) ?_)); first | refine AL_gdec rfl rfl rfl (fun hg => ?_) (fun hg => ?_) | refine AL_gnot rfl rfl rfl (fun hg => ?_) (fun hg => ?_) | refine AL_gcases rfl rfl rfl (fun hg => ?_) (fun hg => ?_)))
            refine ⟨k + 1, ⟨hk', by rw [hn2, hall2, hp]; rfl⟩, by omega, ?_⟩
            (refine Le.mk ?_ ?_; all_goals (repeat' (first | exact trivial | refine sle ?_ | refine ⟨?_, rfl, ?_⟩ | refine ⟨?_, by decide, rfl, ?_⟩ | fail)))
        · have hk' : k = i := by omega
          subst hk'
          (repeat (refine stq ?_))
          refine ⟨k + 1, ⟨hi', by rw [hn, hall, show rowL d l k = true from hall2]; rfl⟩, by omega, ?_⟩
          (refine Le.mk ?_ ?_; all_goals (repeat' (first | exact trivial | refine sle ?_ | refine ⟨?_, rfl, ?_⟩ | refine ⟨?_, by decide, rfl, ?_⟩ | fail)))
    · have hi' : i = l.length := by omega
      subst hi'
      (repeat (refine stq ?_))
      exact ⟨_, _, rfl, rfl, by rw [show lonelyB d l = true from hall]⟩
theorem two_all {d : Drum} {a b : Int} {s u : Batch} (ha0 : 0 ≤ a) (hb0 : 0 ≤ b) (ha : d.batches[a.toNat]? = some s) (hb : d.batches[b.toNat]? = some u) :
    openS (allW (withB d [u, s])) = openS (meetL (pick (winP d) fun i => decide ((i : Int) = a) || decide ((i : Int) = b))) := by
  refine (span_ext fun n => ?_).1
  rw [wb_all_iff, pick_iff]
  refine and_congr_right fun _ => ?_
  simp only [winP, List.getElem?_map, Option.map_eq_some_iff]
  constructor
  · rintro h i w ⟨c, hc, rfl⟩ hp
    simp only [Bool.or_eq_true, decide_eq_true_eq] at hp
    rcases hp with hp | hp
    · rw [show a.toNat = i by omega, hc] at ha; cases ha; exact h _ (by simp)
    · rw [show b.toNat = i by omega, hc] at hb; cases hb; exact h _ (by simp)
  · intro h c hc
    simp at hc
    rcases hc with hc | hc
    · rw [hc]; exact h b.toNat _ ⟨u, hb, rfl⟩ (by simp; right; omega)
    · rw [hc]; exact h a.toNat _ ⟨s, ha, rfl⟩ (by simp; left; omega)
theorem lonely_same {d : Drum} {l : List Int} (hl : ∀ x ∈ l, 0 ≤ x ∧ x < (d.batches.length : Int)) : lonelyB d l = apartB (winP d) l := by
  rw [Bool.eq_iff_iff]
  unfold apartB
  rw [pairs_iff]
  simp only [lonelyB, rowL, List.all_eq_true, List.mem_range]
  have key : ∀ (i k : Nat) (x y : Int), l[i]? = some x → l[k]? = some y → pairL d l i k = !openS (meetL (pick (winP d) fun j => decide ((j : Int) = x) || decide ((j : Int) = y))) := fun i k x y hx hy => by
    have hxb := hl x (List.mem_of_getElem? hx)
    have hyb := hl y (List.mem_of_getElem? hy)
    have gx : l.getD i 0 = x := by rw [List.getD_eq_getElem?_getD, hx]; rfl
    have gy : l.getD k 0 = y := by rw [List.getD_eq_getElem?_getD, hy]; rfl
    obtain ⟨s, hs⟩ : ∃ s, d.batches[x.toNat]? = some s := ⟨d.batches[x.toNat]'(by omega), by simp⟩
    obtain ⟨u, hu⟩ : ∃ s, d.batches[y.toNat]? = some s := ⟨d.batches[y.toNat]'(by omega), by simp⟩
    unfold pairL
    rw [gx, gy, List.getD_eq_getElem?_getD, hu, List.getD_eq_getElem?_getD, hs]
    show (!openS (allW (withB d [u, s]))) = _
    rw [two_all hxb.1 hyb.1 hs hu]
  constructor
  · intro h i j x y hij hx hy
    have := h j (List.getElem?_eq_some_iff.1 hy).1 i hij
    rw [key j i y x hy hx] at this
    exact this
  · intro h i hi k hk
    obtain ⟨x, hx⟩ : ∃ x, l[i]? = some x := ⟨l[i], by simp [hi]⟩
    obtain ⟨y, hy⟩ : ∃ x, l[k]? = some x := ⟨l[k]'(by omega), by simp⟩
    rw [key i k x y hx hy]
    exact h k i y x hk hy hx
end Go.Abs
namespace Go.Abs
open Go.Proofs
set_option linter.unusedVariables false
set_option linter.unusedSimpArgs false
set_option maxRecDepth 100000
theorem winP_bd {d : Drum} (hP : DrumP d) (he : eachB (winP d) = true) : ∀ s ∈ winP d, 0 ≤ s.low ∧ s.low ≤ s.high ∧ s.high ≤ 12 := fun s hs => by
  obtain ⟨b, hb, rfl⟩ := List.mem_map.1 hs
  rw [← whole_same hP, List.all_eq_true] at he
  have ho := he _ (List.mem_map.2 ⟨b, hb, rfl⟩)
  have h1 := smooth_bd d b
  have h2 := thin_bd d b
  have h12 := hP.h1
  obtain ⟨n, hn⟩ := open_iff.1 ho
  have h3 := win1_iff.1 (win1_same.1 hn)
  unfold winP1
  rw [if_neg (by omega)]
  simp only
  omega
theorem ACalls.of_len {P : Program} {f : FuncId} {ps : List PV} {Q : RV → Prop} {es : List (List PV)} (j : Nat) (hj : ps[j]? = some (.sl es)) (hE : Enters P f) (h : es.length ≤ 9223372036854775807 → ACalls P f ps Q) : ACalls P f ps Q :=
  ⟨hE, fun W D vs hD hr => by
    have hb : es.length ≤ 9223372036854775807 := by
      obtain ⟨h1, h2⟩ := hr
      have hjl := (List.getElem?_eq_some_iff.1 hj).1
      have hv : vs[j]? = some (vs[j]'(by omega)) := by simp [show j < vs.size by omega]
      have := h2 j _ _ hv hj
      generalize vs[j]'(by omega) = v at this
      cases this with
      | sl a n c sz es us hn hcap hmax hsz ha hlf hr =>
        have : maxLen = 9223372036854775807 := by decide
        omega
    exact (h hb).2 W D vs hD hr⟩
set_option maxHeartbeats 16000000 in
theorem f14g (d : Drum) (l apart : List Int) (hlm : l.length ≤ 9223372036854775807) : ACalls Tryz.prog 14 [eDrum d, eInts l, eInts apart] (fun r => r = .pv (.bool true)) := by
  have k23 := f23' d
  cases hs : shortB d with
  | false =>
    rw [hs] at k23
    refine ACalls.of_body hT Tryz.func14 rfl (by kernel_rfl) rfl ?_
    (repeat' (first | refine stq ?_ | (refine AL_do2 rfl ?_; first | refine ⟨_, op_call1 rfl rfl rfl rfl (k23), nrmA rfl ?_⟩ | refine ⟨_, op_call1 rfl rfl rfl rfl (f24), nrmA rfl ?_⟩) | (with_reducible refine AL_id ?_); (fail_if_success (refine AL_glit rfl rfl rfl (by first | exact .inl (by with_reducible rfl) | exact .inr (by with_reducible rfl)) ?_)); first | refine AL_gdec rfl rfl rfl (fun hg => ?_) (fun hg => ?_) | refine AL_gnot rfl rfl rfl (fun hg => ?_) (fun hg => ?_) | refine AL_gcases rfl rfl rfl (fun hg => ?_) (fun hg => ?_)))
    all_goals (try (exfalso; simp at hg; done))
    exact ⟨_, _, rfl, rfl, rfl⟩
  | true =>
    rw [hs] at k23
    have hd := short_ok hs
    by_cases hal : apart.length ≤ 6
    · have k39 := f39 d hd
      cases q : drumB d with
      | false =>
        rw [q] at k39
        refine ACalls.of_body hT Tryz.func14 rfl (by kernel_rfl) rfl ?_
        (repeat' (first | refine stq ?_ | (refine AL_do2 rfl ?_; first | refine ⟨_, op_call1 rfl rfl rfl rfl (k23), nrmA rfl ?_⟩ | refine ⟨_, op_call1 rfl rfl rfl rfl (f24), nrmA rfl ?_⟩ | refine ⟨_, op_call1 rfl rfl rfl rfl (k39), nrmA rfl ?_⟩) | ((first | (with_reducible refine AL_id ?_); (fail_if_success (refine AL_glit rfl rfl rfl (by first | exact .inl (by with_reducible rfl) | exact .inr (by with_reducible rfl)) ?_)); first | refine AL_gdec rfl rfl rfl (fun hg => ?_) (fun hg => ?_) | refine AL_gnot rfl rfl rfl (fun hg => ?_) (fun hg => ?_) | refine AL_gcases rfl rfl rfl (fun hg => ?_) (fun hg => ?_)) <;> (try (exfalso; omega))) | refine AW_if rfl (fun hc => absurd hc (by omega)) (fun _ => ?_) | refine AW_if rfl (fun _ => ?_) (fun hc => absurd (by omega) hc)))
        all_goals exact ⟨_, _, rfl, rfl, rfl⟩
      | true =>
        rw [q] at k39
        have hP := drumP_of.1 q
        have hb0 := hP.b0
        have hb1 := hP.b1
        by_cases hll : l.length ≤ 1000
        · have k47 := f47 d l (by omega) (by omega)
          cases hn : numB d l with
          | false =>
            rw [hn] at k47
            refine ACalls.of_body hT Tryz.func14 rfl (by kernel_rfl) rfl ?_
            (repeat' (first | refine stq ?_ | (refine AL_do2 rfl ?_; first | refine ⟨_, op_call1 rfl rfl rfl rfl (k23), nrmA rfl ?_⟩ | refine ⟨_, op_call1 rfl rfl rfl rfl (f24), nrmA rfl ?_⟩ | refine ⟨_, op_call1 rfl rfl rfl rfl (k39), nrmA rfl ?_⟩ | refine ⟨_, op_call1 rfl rfl rfl rfl (k47), nrmA rfl ?_⟩) | ((first | (with_reducible refine AL_id ?_); (fail_if_success (refine AL_glit rfl rfl rfl (by first | exact .inl (by with_reducible rfl) | exact .inr (by with_reducible rfl)) ?_)); first | refine AL_gdec rfl rfl rfl (fun hg => ?_) (fun hg => ?_) | refine AL_gnot rfl rfl rfl (fun hg => ?_) (fun hg => ?_) | refine AL_gcases rfl rfl rfl (fun hg => ?_) (fun hg => ?_)) <;> (try (exfalso; omega))) | refine AW_if rfl (fun hc => absurd hc (by omega)) (fun _ => ?_) | refine AW_if rfl (fun _ => ?_) (fun hc => absurd (by omega) hc)))
            all_goals exact ⟨_, _, rfl, rfl, rfl⟩
          | true =>
            rw [hn] at k47
            have k59 := f59 d apart (by omega) (by omega)
            cases hr : risingB d.batches.length apart with
            | false =>
              rw [hr] at k59
              refine ACalls.of_body hT Tryz.func14 rfl (by kernel_rfl) rfl ?_
              (repeat' (first | refine stq ?_ | (refine AL_do2 rfl ?_; first | refine ⟨_, op_call1 rfl rfl rfl rfl (k23), nrmA rfl ?_⟩ | refine ⟨_, op_call1 rfl rfl rfl rfl (f24), nrmA rfl ?_⟩ | refine ⟨_, op_call1 rfl rfl rfl rfl (k39), nrmA rfl ?_⟩ | refine ⟨_, op_call1 rfl rfl rfl rfl (k47), nrmA rfl ?_⟩ | refine ⟨_, op_call1 rfl rfl rfl rfl (k59), nrmA rfl ?_⟩) | ((first | (with_reducible refine AL_id ?_); (fail_if_success (refine AL_glit rfl rfl rfl (by first | exact .inl (by with_reducible rfl) | exact .inr (by with_reducible rfl)) ?_)); first | refine AL_gdec rfl rfl rfl (fun hg => ?_) (fun hg => ?_) | refine AL_gnot rfl rfl rfl (fun hg => ?_) (fun hg => ?_) | refine AL_gcases rfl rfl rfl (fun hg => ?_) (fun hg => ?_)) <;> (try (exfalso; omega))) | refine AW_if rfl (fun hc => absurd hc (by omega)) (fun _ => ?_) | refine AW_if rfl (fun _ => ?_) (fun hc => absurd (by omega) hc)))
              all_goals exact ⟨_, _, rfl, rfl, rfl⟩
            | true =>
              rw [hr] at k59
              refine ACalls.of_body hT Tryz.func14 rfl (by kernel_rfl) rfl ?_
              (repeat' (first | refine stq ?_ | (refine AL_do2 rfl ?_; first | refine ⟨_, op_call1 rfl rfl rfl rfl (k23), nrmA rfl ?_⟩ | refine ⟨_, op_call1 rfl rfl rfl rfl (f24), nrmA rfl ?_⟩ | refine ⟨_, op_call1 rfl rfl rfl rfl (k39), nrmA rfl ?_⟩ | refine ⟨_, op_call1 rfl rfl rfl rfl (k47), nrmA rfl ?_⟩ | refine ⟨_, op_call1 rfl rfl rfl rfl (k59), nrmA rfl ?_⟩) | ((first | (with_reducible refine AL_id ?_); (fail_if_success (refine AL_glit rfl rfl rfl (by first | exact .inl (by with_reducible rfl) | exact .inr (by with_reducible rfl)) ?_)); first | refine AL_gdec rfl rfl rfl (fun hg => ?_) (fun hg => ?_) | refine AL_gnot rfl rfl rfl (fun hg => ?_) (fun hg => ?_) | refine AL_gcases rfl rfl rfl (fun hg => ?_) (fun hg => ?_)) <;> (try (exfalso; omega))) | refine AW_if rfl (fun hc => absurd hc (by omega)) (fun _ => ?_) | refine AW_if rfl (fun _ => ?_) (fun hc => absurd (by omega) hc)))
              all_goals (try (exfalso; omega))
              by_cases he : errE d true = 0
              · cases hw : eachB (winP d) with
                | false =>
                  have k45 := f45n hd he hw
                  have k46 := f46n hd he hw
                  (repeat' (first | refine AL_skip rfl rfl ?_ | refine stq ?_ | (refine AL_do2 rfl ?_; first | refine ⟨_, op_call1 rfl rfl rfl rfl (k45), nrmA rfl ?_⟩ | refine ⟨_, op_call1 rfl rfl rfl rfl (k46), nrmA rfl ?_⟩ | refine ⟨_, op_call1 rfl rfl rfl rfl (f24), nrmA rfl ?_⟩) | ((first | (with_reducible refine AL_id ?_); (fail_if_success (refine AL_glit rfl rfl rfl (by first | exact .inl (by with_reducible rfl) | exact .inr (by with_reducible rfl)) ?_)); first | refine AL_gdec rfl rfl rfl (fun hg => ?_) (fun hg => ?_) | refine AL_gnot rfl rfl rfl (fun hg => ?_) (fun hg => ?_) | refine AL_gcases rfl rfl rfl (fun hg => ?_) (fun hg => ?_)) <;> (try (exfalso; omega))) | refine AW_if rfl (fun hc => absurd hc (by omega)) (fun _ => ?_) | refine AW_if rfl (fun _ => ?_) (fun hc => absurd (by omega) hc)))
                  all_goals first | exact ⟨_, _, rfl, rfl, rfl⟩ | (exfalso; first | omega | (simp at hg; done))
                | true =>
                  have k45 := f45y hd he hw
                  have k46 := f46y hd he hw
                  have hne := sort_some' hP hw
                  have hfl : ∀ m, numB d m = true → m.length = d.batches.length ∧ ∀ x ∈ m, 0 ≤ x ∧ x < 5 := fun m hm => by
                    rw [numB, Bool.and_eq_true, decide_eq_true_eq, List.all_eq_true] at hm
                    refine ⟨hm.2, fun x hx => ?_⟩
                    have := hm.1 x hx
                    simp only [inB, Bool.and_eq_true, decide_eq_true_eq] at this
                    omega
                  obtain ⟨l1, l2⟩ := hfl l hn
                  obtain ⟨m1, m2, m3⟩ := sort_min (by rw [winP_len]; exact hb1) hne
                  obtain ⟨c1, c2⟩ := (bfs_bd (i := (winP d).length) (by rw [winP_len]; exact hb1)).2 _ m1
                  rw [winP_len] at c1 c2
                  have hnS : numB d (sortI (winP d)) = true := by
                    rw [numB, Bool.and_eq_true, decide_eq_true_eq, List.all_eq_true]
                    refine ⟨fun x hx => ?_, c1⟩
                    have := c2 x hx
                    simp only [inB, Bool.and_eq_true, decide_eq_true_eq]
                    omega
                  have k47S := f47 d (sortI (winP d)) (by omega) (by omega)
                  rw [hnS] at k47S
                  have k53S := f53 (sortI (winP d)) (by omega) (fun x hx => by have := c2 x hx; omega)
                  have k53l := f53 l (by omega) (fun x hx => by have := l2 x hx; omega)
                  obtain ⟨g1, g2, g3⟩ := long_spec (winP_len d) hb0 hb1
                  have hAl := (orderN_mem.1 g1).1
                  have hAr := (orderN_mem.1 g1).2.2
                  have k59A := f59 d (longestI (winP d)) (by omega) (by omega)
                  rw [order_rising g1] at k59A
                  have k62A := f62 d hd hP he (longestI (winP d)) (by omega) hAr
                  rw [lonely_same hAr, g2] at k62A
                  have hro := rising_order hr
                  have hapr := (orderN_mem.1 hro).2.2
                  have k62a := f62 d hd hP he apart (by omega) hapr
                  rw [lonely_same hapr] at k62a
                  have hlr := long_runs (by rw [winP_len]; exact hb0) (by rw [winP_len]; exact hb1) (winP_bd hP hw) hne
                  have heS : errE d (fineS d (sortI (winP d))) = 0 := by rw [← num_fine, hnS]; exact he
                  have hel : errE d (fineS d l) = 0 := by rw [← num_fine, hn]; exact he
                  have k44S := f44y hd (by omega) (by omega) heS
                  rw [sortsP_eq (by rw [winP_len]; omega) (by omega) (fun x hx => (c2 x hx).1), m2] at k44S
                  have k44l := f44y hd hll (by omega) hel
                  rw [sortsP_eq (by rw [winP_len]; omega) (by omega) (fun x hx => (l2 x hx).1)] at k44l
                  have k61l := f61 l (sortI (winP d)) (by omega) (by omega)
                  have k61a := f61 apart (longestI (winP d)) (by omega) (by omega)
                  have SP : sortsB (winP d) l = false ∨ (sortsB (winP d) l = true ∧ runsI (sortI (winP d)) < runsI l) ∨ (sortsB (winP d) l = true ∧ runsI (sortI (winP d)) = runsI l ∧ lexB l (sortI (winP d)) = false) := by
                    cases hv : sortsB (winP d) l with
                    | false => exact .inl rfl
                    | true =>
                      obtain ⟨s1, s2⟩ := sort_spec (by rw [winP_len]; exact hb1) hne (by rw [winP_len]; exact l1) (fun x hx => (l2 x hx).1) hv
                      by_cases h : runsI (sortI (winP d)) < runsI l
                      · exact .inr (.inl ⟨rfl, h⟩)
                      · exact .inr (.inr ⟨rfl, by omega, s2 (by omega)⟩)
                  have AP : apartB (winP d) apart = false ∨ (apartB (winP d) apart = true ∧ apart.length < (longestI (winP d)).length) ∨ (apartB (winP d) apart = true ∧ apart.length = (longestI (winP d)).length ∧ lexB apart (longestI (winP d)) = false) := by
                    cases hv : apartB (winP d) apart with
                    | false => exact .inl rfl
                    | true =>
                      by_cases h : apart.length < (longestI (winP d)).length
                      · exact .inr (.inl ⟨rfl, h⟩)
                      · by_cases h2 : (longestI (winP d)).length < apart.length
                        · have := g3 apart hro (by unfold moreN; rw [decide_eq_true h2]; rfl)
                          rw [hv] at this; cases this
                        · refine .inr (.inr ⟨rfl, by omega, ?_⟩)
                          cases hx : lexB apart (longestI (winP d)) with
                          | false => rfl
                          | true =>
                            have := g3 apart hro (by unfold moreN; rw [hx, decide_eq_true (by omega : apart.length = (longestI (winP d)).length)]; simp)
                            rw [hv] at this; cases this
                  clear g3 m3 hne hfl
                  generalize sortsB (winP d) l = v at *
                  generalize apartB (winP d) apart = u at *
                  generalize sortI (winP d) = S at *
                  generalize longestI (winP d) = A at *
                  generalize runsI S = n at *
                  generalize runsI l = nl at *
                  have hn0 : 0 ≤ n := by omega
                  (repeat' (first | refine AL_skip rfl rfl ?_ | refine stq ?_ | (refine AL_do2 rfl ?_; first | refine ⟨_, op_call1 rfl rfl rfl rfl (k45), nrmA rfl ?_⟩ | refine ⟨_, op_call1 rfl rfl rfl rfl (k46), nrmA rfl ?_⟩ | refine ⟨_, op_call1 rfl rfl rfl rfl (k47S), nrmA rfl ?_⟩ | refine ⟨_, op_call1 rfl rfl rfl rfl (k53S), nrmA rfl ?_⟩ | refine ⟨_, op_call1 rfl rfl rfl rfl (k59A), nrmA rfl ?_⟩) | ((first | (with_reducible refine AL_id ?_); (fail_if_success (refine AL_glit rfl rfl rfl (by first | exact .inl (by with_reducible rfl) | exact .inr (by with_reducible rfl)) ?_)); first | refine AL_gdec rfl rfl rfl (fun hg => ?_) (fun hg => ?_) | refine AL_gnot rfl rfl rfl (fun hg => ?_) (fun hg => ?_) | refine AL_gcases rfl rfl rfl (fun hg => ?_) (fun hg => ?_)) <;> (try (exfalso; omega))) | refine AW_if rfl (fun hc => absurd hc (by omega)) (fun _ => ?_) | refine AW_if rfl (fun _ => ?_) (fun hc => absurd (by omega) hc)))
                  all_goals (try (exfalso; first | omega | (simp at hg; done)))
                  rcases SP with rfl | ⟨rfl, hlt⟩ | ⟨rfl, hnn, hlx⟩
                  · rcases AP with rfl | ⟨rfl, hlt2⟩ | ⟨rfl, hn2, hlx2⟩
                    · (repeat' (first | refine AL_skip rfl rfl ?_ | refine stq ?_ | (refine AL_do2 rfl ?_; first | refine ⟨_, op_call1 rfl rfl rfl rfl (k62A), nrmA rfl ?_⟩ | refine ⟨_, op_call1 rfl rfl rfl rfl (k44S), nrmA rfl ?_⟩ | refine ⟨_, op_call1 rfl rfl rfl rfl (k44l), nrmA rfl ?_⟩ | refine ⟨_, op_call1 rfl rfl rfl rfl (k62a), nrmA rfl ?_⟩ | refine ⟨_, op_call1 rfl rfl rfl rfl (f24), nrmA rfl ?_⟩) | ((first | (with_reducible refine AL_id ?_); (fail_if_success (refine AL_glit rfl rfl rfl (by first | exact .inl (by with_reducible rfl) | exact .inr (by with_reducible rfl)) ?_)); first | refine AL_gdec rfl rfl rfl (fun hg => ?_) (fun hg => ?_) | refine AL_gnot rfl rfl rfl (fun hg => ?_) (fun hg => ?_) | refine AL_gcases rfl rfl rfl (fun hg => ?_) (fun hg => ?_)) <;> (try (exfalso; omega))) | refine AW_if rfl (fun hc => absurd hc (by omega)) (fun _ => ?_) | refine AW_if rfl (fun _ => ?_) (fun hc => absurd (by omega) hc)))
                      all_goals first | exact ⟨_, _, rfl, rfl, rfl⟩ | (exfalso; first | omega | (simp at hg; done))
                    · (repeat' (first | refine AL_skip rfl rfl ?_ | refine stq ?_ | (refine AL_do2 rfl ?_; first | refine ⟨_, op_call1 rfl rfl rfl rfl (k62A), nrmA rfl ?_⟩ | refine ⟨_, op_call1 rfl rfl rfl rfl (k44S), nrmA rfl ?_⟩ | refine ⟨_, op_call1 rfl rfl rfl rfl (k44l), nrmA rfl ?_⟩ | refine ⟨_, op_call1 rfl rfl rfl rfl (k62a), nrmA rfl ?_⟩ | refine ⟨_, op_call1 rfl rfl rfl rfl (f24), nrmA rfl ?_⟩) | ((first | (with_reducible refine AL_id ?_); (fail_if_success (refine AL_glit rfl rfl rfl (by first | exact .inl (by with_reducible rfl) | exact .inr (by with_reducible rfl)) ?_)); first | refine AL_gdec rfl rfl rfl (fun hg => ?_) (fun hg => ?_) | refine AL_gnot rfl rfl rfl (fun hg => ?_) (fun hg => ?_) | refine AL_gcases rfl rfl rfl (fun hg => ?_) (fun hg => ?_)) <;> (try (exfalso; omega))) | refine AW_if rfl (fun hc => absurd hc (by omega)) (fun _ => ?_) | refine AW_if rfl (fun _ => ?_) (fun hc => absurd (by omega) hc)))
                      all_goals first | exact ⟨_, _, rfl, rfl, rfl⟩ | (exfalso; first | omega | (simp at hg; done))
                    · rw [hlx2] at k61a
                      (repeat' (first | refine AL_skip rfl rfl ?_ | refine stq ?_ | (refine AL_do2 rfl ?_; first | refine ⟨_, op_call1 rfl rfl rfl rfl (k62A), nrmA rfl ?_⟩ | refine ⟨_, op_call1 rfl rfl rfl rfl (k44S), nrmA rfl ?_⟩ | refine ⟨_, op_call1 rfl rfl rfl rfl (k44l), nrmA rfl ?_⟩ | refine ⟨_, op_call1 rfl rfl rfl rfl (k62a), nrmA rfl ?_⟩ | refine ⟨_, op_call1 rfl rfl rfl rfl (k61a), nrmA rfl ?_⟩ | refine ⟨_, op_call1 rfl rfl rfl rfl (f24), nrmA rfl ?_⟩) | ((first | (with_reducible refine AL_id ?_); (fail_if_success (refine AL_glit rfl rfl rfl (by first | exact .inl (by with_reducible rfl) | exact .inr (by with_reducible rfl)) ?_)); first | refine AL_gdec rfl rfl rfl (fun hg => ?_) (fun hg => ?_) | refine AL_gnot rfl rfl rfl (fun hg => ?_) (fun hg => ?_) | refine AL_gcases rfl rfl rfl (fun hg => ?_) (fun hg => ?_)) <;> (try (exfalso; omega))) | refine AW_if rfl (fun hc => absurd hc (by omega)) (fun _ => ?_) | refine AW_if rfl (fun _ => ?_) (fun hc => absurd (by omega) hc)))
                      all_goals first | exact ⟨_, _, rfl, rfl, rfl⟩ | (exfalso; first | omega | (simp at hg; done))
                  · rcases AP with rfl | ⟨rfl, hlt2⟩ | ⟨rfl, hn2, hlx2⟩
                    · (repeat' (first | refine AL_skip rfl rfl ?_ | refine stq ?_ | (refine AL_do2 rfl ?_; first | refine ⟨_, op_call1 rfl rfl rfl rfl (k62A), nrmA rfl ?_⟩ | refine ⟨_, op_call1 rfl rfl rfl rfl (k44S), nrmA rfl ?_⟩ | refine ⟨_, op_call1 rfl rfl rfl rfl (k44l), nrmA rfl ?_⟩ | refine ⟨_, op_call1 rfl rfl rfl rfl (k53l), nrmA rfl ?_⟩ | refine ⟨_, op_call1 rfl rfl rfl rfl (k62a), nrmA rfl ?_⟩ | refine ⟨_, op_call1 rfl rfl rfl rfl (f24), nrmA rfl ?_⟩) | ((first | (with_reducible refine AL_id ?_); (fail_if_success (refine AL_glit rfl rfl rfl (by first | exact .inl (by with_reducible rfl) | exact .inr (by with_reducible rfl)) ?_)); first | refine AL_gdec rfl rfl rfl (fun hg => ?_) (fun hg => ?_) | refine AL_gnot rfl rfl rfl (fun hg => ?_) (fun hg => ?_) | refine AL_gcases rfl rfl rfl (fun hg => ?_) (fun hg => ?_)) <;> (try (exfalso; omega))) | refine AW_if rfl (fun hc => absurd hc (by omega)) (fun _ => ?_) | refine AW_if rfl (fun _ => ?_) (fun hc => absurd (by omega) hc)))
                      all_goals first | exact ⟨_, _, rfl, rfl, rfl⟩ | (exfalso; first | omega | (simp at hg; done))
                    · (repeat' (first | refine AL_skip rfl rfl ?_ | refine stq ?_ | (refine AL_do2 rfl ?_; first | refine ⟨_, op_call1 rfl rfl rfl rfl (k62A), nrmA rfl ?_⟩ | refine ⟨_, op_call1 rfl rfl rfl rfl (k44S), nrmA rfl ?_⟩ | refine ⟨_, op_call1 rfl rfl rfl rfl (k44l), nrmA rfl ?_⟩ | refine ⟨_, op_call1 rfl rfl rfl rfl (k53l), nrmA rfl ?_⟩ | refine ⟨_, op_call1 rfl rfl rfl rfl (k62a), nrmA rfl ?_⟩ | refine ⟨_, op_call1 rfl rfl rfl rfl (f24), nrmA rfl ?_⟩) | ((first | (with_reducible refine AL_id ?_); (fail_if_success (refine AL_glit rfl rfl rfl (by first | exact .inl (by with_reducible rfl) | exact .inr (by with_reducible rfl)) ?_)); first | refine AL_gdec rfl rfl rfl (fun hg => ?_) (fun hg => ?_) | refine AL_gnot rfl rfl rfl (fun hg => ?_) (fun hg => ?_) | refine AL_gcases rfl rfl rfl (fun hg => ?_) (fun hg => ?_)) <;> (try (exfalso; omega))) | refine AW_if rfl (fun hc => absurd hc (by omega)) (fun _ => ?_) | refine AW_if rfl (fun _ => ?_) (fun hc => absurd (by omega) hc)))
                      all_goals first | exact ⟨_, _, rfl, rfl, rfl⟩ | (exfalso; first | omega | (simp at hg; done))
                    · rw [hlx2] at k61a
                      (repeat' (first | refine AL_skip rfl rfl ?_ | refine stq ?_ | (refine AL_do2 rfl ?_; first | refine ⟨_, op_call1 rfl rfl rfl rfl (k62A), nrmA rfl ?_⟩ | refine ⟨_, op_call1 rfl rfl rfl rfl (k44S), nrmA rfl ?_⟩ | refine ⟨_, op_call1 rfl rfl rfl rfl (k44l), nrmA rfl ?_⟩ | refine ⟨_, op_call1 rfl rfl rfl rfl (k53l), nrmA rfl ?_⟩ | refine ⟨_, op_call1 rfl rfl rfl rfl (k62a), nrmA rfl ?_⟩ | refine ⟨_, op_call1 rfl rfl rfl rfl (k61a), nrmA rfl ?_⟩ | refine ⟨_, op_call1 rfl rfl rfl rfl (f24), nrmA rfl ?_⟩) | ((first | (with_reducible refine AL_id ?_); (fail_if_success (refine AL_glit rfl rfl rfl (by first | exact .inl (by with_reducible rfl) | exact .inr (by with_reducible rfl)) ?_)); first | refine AL_gdec rfl rfl rfl (fun hg => ?_) (fun hg => ?_) | refine AL_gnot rfl rfl rfl (fun hg => ?_) (fun hg => ?_) | refine AL_gcases rfl rfl rfl (fun hg => ?_) (fun hg => ?_)) <;> (try (exfalso; omega))) | refine AW_if rfl (fun hc => absurd hc (by omega)) (fun _ => ?_) | refine AW_if rfl (fun _ => ?_) (fun hc => absurd (by omega) hc)))
                      all_goals first | exact ⟨_, _, rfl, rfl, rfl⟩ | (exfalso; first | omega | (simp at hg; done))
                  · rw [hlx] at k61l
                    rcases AP with rfl | ⟨rfl, hlt2⟩ | ⟨rfl, hn2, hlx2⟩
                    · (repeat' (first | refine AL_skip rfl rfl ?_ | refine stq ?_ | (refine AL_do2 rfl ?_; first | refine ⟨_, op_call1 rfl rfl rfl rfl (k62A), nrmA rfl ?_⟩ | refine ⟨_, op_call1 rfl rfl rfl rfl (k44S), nrmA rfl ?_⟩ | refine ⟨_, op_call1 rfl rfl rfl rfl (k44l), nrmA rfl ?_⟩ | refine ⟨_, op_call1 rfl rfl rfl rfl (k53l), nrmA rfl ?_⟩ | refine ⟨_, op_call1 rfl rfl rfl rfl (k61l), nrmA rfl ?_⟩ | refine ⟨_, op_call1 rfl rfl rfl rfl (k62a), nrmA rfl ?_⟩ | refine ⟨_, op_call1 rfl rfl rfl rfl (f24), nrmA rfl ?_⟩) | ((first | (with_reducible refine AL_id ?_); (fail_if_success (refine AL_glit rfl rfl rfl (by first | exact .inl (by with_reducible rfl) | exact .inr (by with_reducible rfl)) ?_)); first | refine AL_gdec rfl rfl rfl (fun hg => ?_) (fun hg => ?_) | refine AL_gnot rfl rfl rfl (fun hg => ?_) (fun hg => ?_) | refine AL_gcases rfl rfl rfl (fun hg => ?_) (fun hg => ?_)) <;> (try (exfalso; omega))) | refine AW_if rfl (fun hc => absurd hc (by omega)) (fun _ => ?_) | refine AW_if rfl (fun _ => ?_) (fun hc => absurd (by omega) hc)))
                      all_goals first | exact ⟨_, _, rfl, rfl, rfl⟩ | (exfalso; first | omega | (simp at hg; done))
                    · (repeat' (first | refine AL_skip rfl rfl ?_ | refine stq ?_ | (refine AL_do2 rfl ?_; first | refine ⟨_, op_call1 rfl rfl rfl rfl (k62A), nrmA rfl ?_⟩ | refine ⟨_, op_call1 rfl rfl rfl rfl (k44S), nrmA rfl ?_⟩ | refine ⟨_, op_call1 rfl rfl rfl rfl (k44l), nrmA rfl ?_⟩ | refine ⟨_, op_call1 rfl rfl rfl rfl (k53l), nrmA rfl ?_⟩ | refine ⟨_, op_call1 rfl rfl rfl rfl (k61l), nrmA rfl ?_⟩ | refine ⟨_, op_call1 rfl rfl rfl rfl (k62a), nrmA rfl ?_⟩ | refine ⟨_, op_call1 rfl rfl rfl rfl (f24), nrmA rfl ?_⟩) | ((first | (with_reducible refine AL_id ?_); (fail_if_success (refine AL_glit rfl rfl rfl (by first | exact .inl (by with_reducible rfl) | exact .inr (by with_reducible rfl)) ?_)); first | refine AL_gdec rfl rfl rfl (fun hg => ?_) (fun hg => ?_) | refine AL_gnot rfl rfl rfl (fun hg => ?_) (fun hg => ?_) | refine AL_gcases rfl rfl rfl (fun hg => ?_) (fun hg => ?_)) <;> (try (exfalso; omega))) | refine AW_if rfl (fun hc => absurd hc (by omega)) (fun _ => ?_) | refine AW_if rfl (fun _ => ?_) (fun hc => absurd (by omega) hc)))
                      all_goals first | exact ⟨_, _, rfl, rfl, rfl⟩ | (exfalso; first | omega | (simp at hg; done))
                    · rw [hlx2] at k61a
                      (repeat' (first | refine AL_skip rfl rfl ?_ | refine stq ?_ | (refine AL_do2 rfl ?_; first | refine ⟨_, op_call1 rfl rfl rfl rfl (k62A), nrmA rfl ?_⟩ | refine ⟨_, op_call1 rfl rfl rfl rfl (k44S), nrmA rfl ?_⟩ | refine ⟨_, op_call1 rfl rfl rfl rfl (k44l), nrmA rfl ?_⟩ | refine ⟨_, op_call1 rfl rfl rfl rfl (k53l), nrmA rfl ?_⟩ | refine ⟨_, op_call1 rfl rfl rfl rfl (k61l), nrmA rfl ?_⟩ | refine ⟨_, op_call1 rfl rfl rfl rfl (k62a), nrmA rfl ?_⟩ | refine ⟨_, op_call1 rfl rfl rfl rfl (k61a), nrmA rfl ?_⟩ | refine ⟨_, op_call1 rfl rfl rfl rfl (f24), nrmA rfl ?_⟩) | ((first | (with_reducible refine AL_id ?_); (fail_if_success (refine AL_glit rfl rfl rfl (by first | exact .inl (by with_reducible rfl) | exact .inr (by with_reducible rfl)) ?_)); first | refine AL_gdec rfl rfl rfl (fun hg => ?_) (fun hg => ?_) | refine AL_gnot rfl rfl rfl (fun hg => ?_) (fun hg => ?_) | refine AL_gcases rfl rfl rfl (fun hg => ?_) (fun hg => ?_)) <;> (try (exfalso; omega))) | refine AW_if rfl (fun hc => absurd hc (by omega)) (fun _ => ?_) | refine AW_if rfl (fun _ => ?_) (fun hc => absurd (by omega) hc)))
                      all_goals first | exact ⟨_, _, rfl, rfl, rfl⟩ | (exfalso; first | omega | (simp at hg; done))
              · have k45 := f45e hd he
                have k46 := f46e hd he
                have h7 : errE d true = 7 := by
                  rcases err_cases q with ⟨_, e⟩ | ⟨_, e⟩
                  · exact e
                  · exact absurd e he
                rw [h7] at k45 k46
                (repeat' (first | refine AL_skip rfl rfl ?_ | refine stq ?_ | (refine AL_do2 rfl ?_; first | refine ⟨_, op_call1 rfl rfl rfl rfl (k45), nrmA rfl ?_⟩ | refine ⟨_, op_call1 rfl rfl rfl rfl (k46), nrmA rfl ?_⟩ | refine ⟨_, op_call1 rfl rfl rfl rfl (f24), nrmA rfl ?_⟩) | ((first | (with_reducible refine AL_id ?_); (fail_if_success (refine AL_glit rfl rfl rfl (by first | exact .inl (by with_reducible rfl) | exact .inr (by with_reducible rfl)) ?_)); first | refine AL_gdec rfl rfl rfl (fun hg => ?_) (fun hg => ?_) | refine AL_gnot rfl rfl rfl (fun hg => ?_) (fun hg => ?_) | refine AL_gcases rfl rfl rfl (fun hg => ?_) (fun hg => ?_)) <;> (try (exfalso; omega))) | refine AW_if rfl (fun hc => absurd hc (by omega)) (fun _ => ?_) | refine AW_if rfl (fun _ => ?_) (fun hc => absurd (by omega) hc)))
                all_goals first | exact ⟨_, _, rfl, rfl, rfl⟩ | (exfalso; first | omega | (simp at hg; done))
        · have k47 := f47 d l hlm (by omega)
          rw [show numB d l = false by unfold numB; rw [decide_eq_false (by omega : ¬ l.length = d.batches.length), Bool.and_false]] at k47
          refine ACalls.of_body hT Tryz.func14 rfl (by kernel_rfl) rfl ?_
          (repeat' (first | refine stq ?_ | (refine AL_do2 rfl ?_; first | refine ⟨_, op_call1 rfl rfl rfl rfl (k23), nrmA rfl ?_⟩ | refine ⟨_, op_call1 rfl rfl rfl rfl (f24), nrmA rfl ?_⟩ | refine ⟨_, op_call1 rfl rfl rfl rfl (k39), nrmA rfl ?_⟩ | refine ⟨_, op_call1 rfl rfl rfl rfl (k47), nrmA rfl ?_⟩) | ((first | (with_reducible refine AL_id ?_); (fail_if_success (refine AL_glit rfl rfl rfl (by first | exact .inl (by with_reducible rfl) | exact .inr (by with_reducible rfl)) ?_)); first | refine AL_gdec rfl rfl rfl (fun hg => ?_) (fun hg => ?_) | refine AL_gnot rfl rfl rfl (fun hg => ?_) (fun hg => ?_) | refine AL_gcases rfl rfl rfl (fun hg => ?_) (fun hg => ?_)) <;> (try (exfalso; omega))) | refine AW_if rfl (fun hc => absurd hc (by omega)) (fun _ => ?_) | refine AW_if rfl (fun _ => ?_) (fun hc => absurd (by omega) hc)))
          all_goals exact ⟨_, _, rfl, rfl, rfl⟩
    · refine ACalls.of_body hT Tryz.func14 rfl (by kernel_rfl) rfl ?_
      (repeat' (first | refine stq ?_ | (refine AL_do2 rfl ?_; first | refine ⟨_, op_call1 rfl rfl rfl rfl (k23), nrmA rfl ?_⟩ | refine ⟨_, op_call1 rfl rfl rfl rfl (f24), nrmA rfl ?_⟩) | ((first | (with_reducible refine AL_id ?_); (fail_if_success (refine AL_glit rfl rfl rfl (by first | exact .inl (by with_reducible rfl) | exact .inr (by with_reducible rfl)) ?_)); first | refine AL_gdec rfl rfl rfl (fun hg => ?_) (fun hg => ?_) | refine AL_gnot rfl rfl rfl (fun hg => ?_) (fun hg => ?_) | refine AL_gcases rfl rfl rfl (fun hg => ?_) (fun hg => ?_)) <;> (try (exfalso; omega))) | refine AW_if rfl (fun hc => absurd hc (by omega)) (fun _ => ?_) | refine AW_if rfl (fun _ => ?_) (fun hc => absurd (by omega) hc)))
      all_goals first | exact ⟨_, _, rfl, rfl, rfl⟩ | (exfalso; first | omega | (simp at hg; done))
theorem f14 (d : Drum) (l apart : List Int) : ACalls Tryz.prog 14 [eDrum d, eInts l, eInts apart] (fun r => r = .pv (.bool true)) :=
  ACalls.of_len (es := l.map eInt) 1 rfl (enters_of (fn := Tryz.f14) rfl rfl (by kernel_rfl)) fun h => f14g d l apart (by rw [List.length_map] at h; exact h)
end Go.Abs
