/- Sorters: the reference's functions. -/
import Derived.Test.YtkmclnjmabljdaaGreatDoorNhP
import Derived.Test.YtkmclnjmabljdaaGreatDoorNhA
import Derived.Test.YtkmclnjmabljdaaGreatDoorNcAbsAG
set_option linter.unusedVariables false
set_option linter.unusedSimpArgs false

namespace Go.Abs
open Go.Proofs
set_option linter.unusedVariables false
set_option linter.unusedSimpArgs false
set_option maxRecDepth 100000

abbrev soO (s : Sorter) : List (Nat × AObj) := [(0, .box [.pv (vi s.eye.low), .pv (vi s.eye.high), .pv (vi s.tire), .pv (eSpans s.looks)])]
theorem f51 (s : Sorter) (hs : s.looks.length ≤ 1000) : ACalls Tryz.prog 51 [eSorter s] (fun r => r = .pv (.bool (isSorterB s))) := by
  refine ACalls.of_body hT Tryz.func51 rfl (by kernel_rfl) rfl ?_
  (repeat (refine stq ?_))
  refine AW_loopC (fun k : Nat => k ≤ s.looks.length ∧ ∀ x ∈ s.looks.take k, isSpanB x (-3000) 3000 6 = true) (fun k => mkSt [(1, .box 0 0), (3, .pv (vi k))] (soO s) 1) (fun k => s.looks.length - k) 0 ⟨Nat.zero_le _, by simp⟩ ?_ ?_
  · (refine Le.mk ?_ ?_; all_goals (repeat' (first | exact trivial | refine sle ?_ | refine ⟨?_, rfl, ?_⟩ | refine ⟨?_, by decide, rfl, ?_⟩ | fail)))
  · rintro k ⟨hk, hall⟩
    (repeat (refine stq ?_))
    refine AW_if rfl (fun hc => ?_) (fun hc => ?_)
    · have hk' : k < s.looks.length := by omega
      obtain ⟨x, hx⟩ : ∃ x, s.looks[k]? = some x := ⟨s.looks[k], by simp [hk']⟩
      have e1 := get_map eSpan hx
      (repeat' (first | refine stq ?_ | (refine AL_do2 rfl ?_; first | refine ⟨_, op_call1 rfl rfl rfl rfl (f108 x (-3000) 3000 6 (by omega) (by omega)), nrmA rfl ?_⟩) | (with_reducible refine AL_id ?_); (fail_if_success (refine AL_glit rfl rfl rfl (by first | exact .inl (by with_reducible rfl) | exact .inr (by with_reducible rfl)) ?_)); first | refine AL_gdec rfl rfl rfl (fun hg => ?_) (fun hg => ?_) | refine AL_gnot rfl rfl rfl (fun hg => ?_) (fun hg => ?_) | refine AL_gcases rfl rfl rfl (fun hg => ?_) (fun hg => ?_)))
      refine AW_cond rfl (fun hc2 => ?_) (fun hc2 => ?_)
      · (repeat (refine stq ?_))
        refine ⟨_, _, rfl, rfl, ?_⟩
        have : s.looks.any (fun s => !isSpanB s (-3000) 3000 6) = true := by
          rw [List.any_eq_true]; exact ⟨x, List.mem_of_getElem? hx, hc2⟩
        simp [isSorterB, this]
      · (repeat (refine stq ?_))
        refine ⟨k + 1, ⟨hk', all_take_succ hall hx (by simpa using hc2)⟩, by omega, ?_⟩
        (refine Le.mk ?_ ?_; all_goals (repeat' (first | exact trivial | refine sle ?_ | refine ⟨?_, rfl, ?_⟩ | refine ⟨?_, by decide, rfl, ?_⟩ | fail)))
    · have hk' : k = s.looks.length := by omega
      rw [hk', List.take_length] at hall
      have hany : s.looks.any (fun s => !isSpanB s (-3000) 3000 6) = false := by
        rw [List.any_eq_false]; intro s hs; simp [hall s hs]
      (repeat' (first | refine stq ?_ | (refine AL_do2 rfl ?_; first | refine ⟨_, op_call1 rfl rfl rfl rfl (f37 s.eye), nrmA rfl ?_⟩ | refine ⟨_, op_call1 rfl rfl rfl rfl (f109 s.tire 0 9), nrmA rfl ?_⟩ | refine ⟨_, op_call1 rfl rfl rfl rfl (f109 s.looks.length 1 4), nrmA rfl ?_⟩) | (with_reducible refine AL_id ?_); (fail_if_success (refine AL_glit rfl rfl rfl (by first | exact .inl (by with_reducible rfl) | exact .inr (by with_reducible rfl)) ?_)); first | refine AL_gdec rfl rfl rfl (fun hg => ?_) (fun hg => ?_) | refine AL_gnot rfl rfl rfl (fun hg => ?_) (fun hg => ?_) | refine AL_gcases rfl rfl rfl (fun hg => ?_) (fun hg => ?_)))
      all_goals exact ⟨_, _, rfl, rfl, by simp_all [isSorterB]⟩
def looksB (s : Sorter) (l : List Int) (eye : Int) : Bool := withinB l s.looks && inB eye s.eye.low s.eye.high
theorem allIn_nil {l : List Int} {m : List Span} (h : l.length = m.length) : allIn (l.drop l.length) (m.drop l.length) = true := by
  rw [List.drop_length, h, List.drop_length]; rfl
theorem f52 (s : Sorter) (l : List Int) (eye : Int) (hs : s.looks.length ≤ 1000) (hl : l.length ≤ 1000) : ACalls Tryz.prog 52 [eSorter s, eInts l, vi eye] (fun r => r = .pv (.bool (looksB s l eye))) := by
  refine ACalls.of_body hT Tryz.func52 rfl (by kernel_rfl) rfl ?_
  (repeat (refine stq ?_))
  refine AW_loopC (fun k : Nat => k ≤ l.length ∧ k ≤ s.looks.length ∧ allIn l s.looks = allIn (l.drop k) (s.looks.drop k)) (fun k => mkSt [(1, .pv (eInts l)), (2, .pv (vi eye)), (3, .box 0 0), (7, .pv (vi k))] (soO s) 1) (fun k => l.length - k) 0 ⟨Nat.zero_le _, Nat.zero_le _, rfl⟩ ?_ ?_
  · (refine Le.mk ?_ ?_; all_goals (repeat' (first | exact trivial | refine sle ?_ | refine ⟨?_, rfl, ?_⟩ | refine ⟨?_, by decide, rfl, ?_⟩ | fail)))
  · rintro k ⟨hk, hk2, hall⟩
    by_cases hb : k < l.length ∧ k < s.looks.length
    · obtain ⟨hk', hk2'⟩ := hb
      obtain ⟨n, hn⟩ : ∃ n, l[k]? = some n := ⟨l[k], by simp [hk']⟩
      obtain ⟨x, hx⟩ : ∃ x, s.looks[k]? = some x := ⟨s.looks[k], by simp [hk2']⟩
      have e1 := get_map eInt hn
      have e2 := get_map eSpan hx
      have hd := allIn_drop hn hx
      (repeat' (first | refine stq ?_ | (with_reducible refine AL_id ?_); (fail_if_success (refine AL_glit rfl rfl rfl (by first | exact .inl (by with_reducible rfl) | exact .inr (by with_reducible rfl)) ?_)); first | refine AL_gdec rfl rfl rfl (fun hg => ?_) (fun hg => ?_) | refine AL_gnot rfl rfl rfl (fun hg => ?_) (fun hg => ?_) | refine AL_gcases rfl rfl rfl (fun hg => ?_) (fun hg => ?_)))
      all_goals (try (exfalso; omega))
      refine AW_if rfl (fun hc => ?_) (fun hc => ?_)
      · (repeat (refine stq ?_))
        (repeat (first | refine sdq ?_ | refine DG_next (D_call rfl rfl rfl rfl rfl (f109 n x.low x.high)) ?_))
        refine DG_end hM (by kernel_rfl) ?_
        (repeat (refine stq ?_))
        refine AW_cond rfl (fun hc2 => ?_) (fun hc2 => ?_)
        · have hb : inB n x.low x.high = false := by simpa using hc2
          (repeat (refine stq ?_))
          refine ⟨_, _, rfl, rfl, ?_⟩
          have : allIn l s.looks = false := by rw [hall, hd, hb]; rfl
          simp [looksB, withinB, this]
        · have hb : inB n x.low x.high = true := by simpa using hc2
          (repeat (refine stq ?_))
          refine ⟨k + 1, ⟨hk', hk2', by rw [hall, hd, hb]; rfl⟩, by omega, ?_⟩
          (refine Le.mk ?_ ?_; all_goals (repeat' (first | exact trivial | refine sle ?_ | refine ⟨?_, rfl, ?_⟩ | refine ⟨?_, by decide, rfl, ?_⟩ | fail)))
      · exfalso; omega
    · by_cases hq : (l.length : Int) = (s.looks.length : Int)
      · have hk3 : k = l.length := by omega
        have hat : allIn l s.looks = true := by rw [hall, hk3]; exact allIn_nil (by omega)
        (repeat' (first | refine stq ?_ | (refine AL_do2 rfl ?_; first | refine ⟨_, op_call1 rfl rfl rfl rfl (f109 eye s.eye.low s.eye.high), nrmA rfl ?_⟩) | (with_reducible refine AL_id ?_); (fail_if_success (refine AL_glit rfl rfl rfl (by first | exact .inl (by with_reducible rfl) | exact .inr (by with_reducible rfl)) ?_)); first | refine AL_gdec rfl rfl rfl (fun hg => ?_) (fun hg => ?_) | refine AL_gnot rfl rfl rfl (fun hg => ?_) (fun hg => ?_) | refine AL_gcases rfl rfl rfl (fun hg => ?_) (fun hg => ?_)))
        all_goals (try (exfalso; omega))
        all_goals (first | exact ⟨_, _, rfl, rfl, by simp [looksB, withinB, hat]; omega⟩ | skip)
      · have hne : ¬ l.length = s.looks.length := by omega
        (repeat' (first | refine stq ?_ | (refine AL_do2 rfl ?_; first | refine ⟨_, op_call1 rfl rfl rfl rfl (f109 eye s.eye.low s.eye.high), nrmA rfl ?_⟩) | (with_reducible refine AL_id ?_); (fail_if_success (refine AL_glit rfl rfl rfl (by first | exact .inl (by with_reducible rfl) | exact .inr (by with_reducible rfl)) ?_)); first | refine AL_gdec rfl rfl rfl (fun hg => ?_) (fun hg => ?_) | refine AL_gnot rfl rfl rfl (fun hg => ?_) (fun hg => ?_) | refine AL_gcases rfl rfl rfl (fun hg => ?_) (fun hg => ?_)))
        all_goals (try (exfalso; omega))
        all_goals (first | exact ⟨_, _, rfl, rfl, by simp [looksB, withinB, hne]⟩ | skip)
        refine AW_if rfl (fun hc => ?_) (fun hc => ?_)
        · exfalso; omega
        · (repeat' (first | refine stq ?_ | (refine AL_do2 rfl ?_; first | refine ⟨_, op_call1 rfl rfl rfl rfl (f109 eye s.eye.low s.eye.high), nrmA rfl ?_⟩) | (with_reducible refine AL_id ?_); (fail_if_success (refine AL_glit rfl rfl rfl (by first | exact .inl (by with_reducible rfl) | exact .inr (by with_reducible rfl)) ?_)); first | refine AL_gdec rfl rfl rfl (fun hg => ?_) (fun hg => ?_) | refine AL_gnot rfl rfl rfl (fun hg => ?_) (fun hg => ?_) | refine AL_gcases rfl rfl rfl (fun hg => ?_) (fun hg => ?_)))
          all_goals (try (exfalso; omega))
          all_goals exact ⟨_, _, rfl, rfl, by simp [looksB, withinB, hne]⟩
def traysB (s : Sorter) (l : List Int) : Bool := decide (l.length = s.looks.length) && !l.any (fun n => !inB n 0 s.looks.length)
theorem f55 (s : Sorter) (l : List Int) (hs : s.looks.length ≤ 1000) (hl : l.length ≤ 1000) : ACalls Tryz.prog 55 [eSorter s, eInts l] (fun r => r = .pv (.bool (traysB s l))) := by
  refine ACalls.of_body hT Tryz.func55 rfl (by kernel_rfl) rfl ?_
  (repeat (refine stq ?_))
  refine AW_loopC (fun k : Nat => k ≤ l.length ∧ ∀ n ∈ l.take k, inB n 0 s.looks.length = true) (fun k => mkSt [(1, .pv (eInts l)), (2, .box 0 0), (5, .pv (vi k))] (soO s) 1) (fun k => l.length - k) 0 ⟨Nat.zero_le _, by simp⟩ ?_ ?_
  · (refine Le.mk ?_ ?_; all_goals (repeat' (first | exact trivial | refine sle ?_ | refine ⟨?_, rfl, ?_⟩ | refine ⟨?_, by decide, rfl, ?_⟩ | fail)))
  · rintro k ⟨hk, hall⟩
    (repeat (refine stq ?_))
    refine AW_if rfl (fun hc => ?_) (fun hc => ?_)
    · have hk' : k < l.length := by omega
      obtain ⟨n, hn⟩ : ∃ n, l[k]? = some n := ⟨l[k], by simp [hk']⟩
      have e1 := get_map eInt hn
      (repeat (refine stq ?_))
      (repeat (first | refine sdq ?_ | refine DG_next (D_call rfl rfl rfl rfl rfl (f109 n 0 s.looks.length)) ?_))
      refine DG_end hM (by kernel_rfl) ?_
      (repeat (refine stq ?_))
      refine AW_cond rfl (fun hc2 => ?_) (fun hc2 => ?_)
      · (repeat (refine stq ?_))
        refine ⟨_, _, rfl, rfl, ?_⟩
        have : l.any (fun n => !inB n 0 s.looks.length) = true := by
          rw [List.any_eq_true]; exact ⟨n, List.mem_of_getElem? hn, hc2⟩
        simp only [traysB, this]; simp
      · (repeat (refine stq ?_))
        refine ⟨k + 1, ⟨hk', all_take_succ hall hn (by simpa using hc2)⟩, by omega, ?_⟩
        (refine Le.mk ?_ ?_; all_goals (repeat' (first | exact trivial | refine sle ?_ | refine ⟨?_, rfl, ?_⟩ | refine ⟨?_, by decide, rfl, ?_⟩ | fail)))
    · have hk' : k = l.length := by omega
      rw [hk', List.take_length] at hall
      have hany : l.any (fun n => !inB n 0 s.looks.length) = false := by
        rw [List.any_eq_false]; intro s hs; simp [hall s hs]
      (repeat (refine stq ?_))
      refine ⟨_, _, rfl, rfl, ?_⟩
      simp only [traysB, hany, Bool.not_false, Bool.and_true]
      refine congrArg (fun b => RV.pv (.bool b)) ?_
      apply decide_eq_decide.2; omega
theorem f57 (s : Sorter) (n : Int) (hs : s.looks.length ≤ 1000) : ACalls Tryz.prog 57 [eSorter s, vi n] (fun r => r = .pv (.bool (inB n 0 (s.looks.length - 1)))) := by
  refine ACalls.of_body hT Tryz.func57 rfl (by kernel_rfl) rfl ?_
  (repeat' (first | refine stq ?_ | (refine AL_do2 rfl ?_; first | refine ⟨_, op_call1 rfl rfl rfl rfl (f109 n 0 (s.looks.length - 1)), nrmA rfl ?_⟩) | (with_reducible refine AL_id ?_); (fail_if_success (refine AL_glit rfl rfl rfl (by first | exact .inl (by with_reducible rfl) | exact .inr (by with_reducible rfl)) ?_)); first | refine AL_gdec rfl rfl rfl (fun hg => ?_) (fun hg => ?_) | refine AL_gnot rfl rfl rfl (fun hg => ?_) (fun hg => ?_) | refine AL_gcases rfl rfl rfl (fun hg => ?_) (fun hg => ?_)))
  exact ⟨_, _, rfl, rfl, rfl⟩
theorem f76 (s : Sorter) (hs : s.looks.length ≤ 1000) : ACalls Tryz.prog 76 [eSorter s] (fun r => r = .pv (vi (if isSorterB s then 0 else 2))) := by
  refine ACalls.of_body hT Tryz.func76 rfl (by kernel_rfl) rfl ?_
  (repeat' (first | refine stq ?_ | (refine AL_do2 rfl ?_; first | refine ⟨_, op_call1 rfl rfl rfl rfl (f138 s hs), nrmA rfl ?_⟩) | (with_reducible refine AL_id ?_); (fail_if_success (refine AL_glit rfl rfl rfl (by first | exact .inl (by with_reducible rfl) | exact .inr (by with_reducible rfl)) ?_)); first | refine AL_gdec rfl rfl rfl (fun hg => ?_) (fun hg => ?_) | refine AL_gnot rfl rfl rfl (fun hg => ?_) (fun hg => ?_) | refine AL_gcases rfl rfl rfl (fun hg => ?_) (fun hg => ?_)))
  refine AW_cond rfl (fun hc => ?_) (fun hc => ?_)
  · (repeat (refine stq ?_))
    exact ⟨_, _, rfl, rfl, by simp_all⟩
  · (repeat (refine stq ?_))
    exact ⟨_, _, rfl, rfl, by simp_all⟩
def widR (first : Bool) (s : Span) (n : Int) : Span := if first then ⟨n, n⟩ else ⟨min s.low n, max s.high n⟩
theorem f147 (s : Span) (n : Int) (first : Bool) : ACalls Tryz.prog 147 [eS s, vi n, .bool first] (fun r => r = .pv (eS (widR first s n))) := by
  refine ACalls.of_body hT Tryz.func147 rfl (by kernel_rfl) rfl ?_
  (repeat (refine stq ?_))
  refine AW_cond rfl (fun hc => ?_) (fun hc => ?_)
  · (repeat (refine stq ?_))
    exact ⟨_, _, rfl, rfl, by rw [hc]; rfl⟩
  · (repeat (refine stq ?_))
    exact ⟨_, _, rfl, rfl, by rw [hc]; rfl⟩
theorem near_in {tire eye n x f : Int} : near tire eye n x f = inB (x - f) (-eye - n * tire) (eye + n * tire) := by
  unfold near inB; rw [Bool.eq_iff_iff]; simp only [Bool.and_eq_true, decide_eq_true_eq]
  generalize n * tire = q
  omega
set_option maxHeartbeats 2000000 in
theorem f77 (looks : List Int) (eye tire : Int) (hl : looks.length ≤ 1000) (hb : bdL 100000 looks) (h3 : -100000 ≤ eye ∧ eye ≤ 100000) (h5 : -1000 ≤ tire ∧ tire ≤ 1000) :
    ACalls Tryz.prog 77 [eInts looks, vi eye, vi tire] (fun r => r = .own 3 1 ((layI tire looks eye).map eInt)) := by
  refine ACalls.of_body hT Tryz.func77 rfl (by kernel_rfl) rfl ?_
  (repeat (refine stq ?_))
  refine AW_own_nil (e := 3) (sz := 1) (t := 7) rfl rfl ?_
  refine AW_own_nil (e := 3) (sz := 1) (t := 8) rfl rfl ?_
  (repeat (refine stq ?_))
  refine AW_loopC (fun i : Nat × List Int × List Int => i.1 ≤ looks.length ∧ i.2.1.length = i.1 ∧ i.2.2.length ≤ i.1 ∧ bdL 100000 i.2.2 ∧ layI tire looks eye = layGo tire eye (looks.drop i.1) i.1 i.2.1 i.2.2)
    (fun i => mkSt [(0, .pv (eInts looks)), (1, .pv (vi eye)), (2, .pv (vi tire)), (7, .arr 0), (8, .arr 1), (9, .pv (vi i.1))]
      [(0, .arr 3 1 (i.2.1.map eInt)), (1, .arr 3 1 (i.2.2.map eInt))] 2) (fun i => looks.length - i.1) (0, [], []) ⟨Nat.zero_le _, rfl, Nat.le_refl _, by simp [bdL], rfl⟩ ?_ ?_
  · (refine Le.mk ?_ ?_; all_goals (repeat' (first | exact trivial | refine sle ?_ | refine ⟨?_, rfl, ?_⟩ | refine ⟨?_, by decide, rfl, ?_⟩ | fail)))
  · rintro ⟨k, out, firsts⟩ ⟨hk, ho, hf, hfb, hi⟩
    simp only at hk ho hf hfb hi
    have hfl : (firsts.map eInt).length = firsts.length := by simp
    (repeat (refine stq ?_))
    refine AW_if rfl (fun hc => ?_) (fun hc => ?_)
    · have hk' : k < looks.length := by simp only at hc; omega
      obtain ⟨x, hx⟩ : ∃ x, looks[k]? = some x := ⟨looks[k], by simp [hk']⟩
      have e1 := get_map eInt hx
      have hxb := hb x (List.mem_of_getElem? hx)
      have p := mul_bd (a := 1000) (b := 1000) (x := (k : Int)) (n := tire) (by omega) (by omega)
      have m1 : -9223372036854775808 ≤ (k : Int) * tire ∧ (k : Int) * tire ≤ 9223372036854775807 := by omega
      rw [layGo_drop tire eye hx] at hi
      (repeat (refine stq ?_))
      refine AW_loopC (fun t : Nat => t ≤ firsts.length ∧ idxFrom (near tire eye k x) firsts 0 = idxFrom (near tire eye k x) (firsts.drop t) t) (fun t => mkSt [(0, .pv (eInts looks)), (1, .pv (vi eye)), (2, .pv (vi tire)), (7, .arr 0), (8, .arr 1), (9, .pv (vi k)), (10, .pv (vi t))]
        [(0, .arr 3 1 (out.map eInt)), (1, .arr 3 1 (firsts.map eInt))] 2) (fun t => firsts.length - t) 0 ⟨Nat.zero_le _, rfl⟩ ?_ ?_
      · (refine Le.mk ?_ ?_; all_goals (repeat' (first | exact trivial | refine sle ?_ | refine ⟨?_, rfl, ?_⟩ | refine ⟨?_, by decide, rfl, ?_⟩ | fail)))
      · rintro t ⟨ht, hid⟩
        by_cases ht2 : t < firsts.length
        · obtain ⟨f, hfx⟩ : ∃ f, firsts[t]? = some f := ⟨firsts[t], by simp [ht2]⟩
          have e2 : (firsts.map eInt)[t]? = some (eInt f) := by rw [List.getElem?_map, hfx]; rfl
          have hfbd := hfb f (List.mem_of_getElem? hfx)
          rw [idxFrom_drop _ hfx] at hid
          have k109 := f109 (x - f) (-eye - k * tire) (eye + k * tire)
          rw [← near_in] at k109
          (repeat (refine stq ?_))
          iterate 2 (refine sdq ?_)
          refine DG_next (D_len_arr (n := (firsts.length : Int)) hT rfl rfl rfl rfl rfl rfl rfl (by simp)) ?_
          refine DG_boolT hT rfl (decide_eq_true (by omega)) ?_
          (repeat (first | refine DG_next (D_neg rfl rfl rfl rfl (by omega)) ?_ | refine sdq ?_))
          refine DG_next (D_indexAddr_arr (n := (t : Int)) hT rfl rfl rfl rfl rfl rfl rfl rfl rfl (by omega) (by simp; omega) rfl) ?_
          refine DG_next (D_load_aptr (el := eInt f) hT rfl rfl rfl rfl rfl rfl e2 rfl) ?_
          (repeat (first | refine DG_next (D_neg rfl rfl rfl rfl (by omega)) ?_ | refine sdq ?_ | refine DG_next (D_call rfl rfl rfl rfl rfl (k109)) ?_))
          refine DG_end hM (by kernel_rfl) ?_
          (repeat (refine stq ?_))
          refine AW_cond rfl (fun hc2 => ?_) (fun hc2 => ?_)
          · have hn : near tire eye k x f = false := by simpa using hc2
            rw [hn] at hid
            (repeat (refine stq ?_))
            refine ⟨t + 1, ⟨ht2, by rw [hid]; simp⟩, by omega, ?_⟩
            (refine Le.mk ?_ ?_; all_goals (repeat' (first | exact trivial | refine sle ?_ | refine ⟨?_, rfl, ?_⟩ | refine ⟨?_, by decide, rfl, ?_⟩ | fail)))
          · have hn : near tire eye k x f = true := by simpa using hc2
            rw [hn, if_pos rfl] at hid
            rw [hid, if_neg (by omega)] at hi
            (repeat (refine stq ?_))
            refine AW_if rfl (fun hc3 => ?_) (fun hc3 => ?_)
            · exfalso; omega
            · (repeat (refine stq ?_))
              refine ⟨(k + 1, out ++ [(t : Int)], firsts), ⟨hk', by simp [ho], by simp only; omega, hfb, by rw [hi]; simp⟩, by simp only; omega, ?_⟩
              (refine Le.mkR [(0, 3)] ?_ ?_ rfl; all_goals (repeat' (first | exact trivial | refine sle ?_ | refine ⟨?_, rfl, ?_⟩ | refine ⟨?_, by decide, rfl, ?_⟩ | fail)))
              simp [List.map_append]; rfl
        · have ht3 : t = firsts.length := by omega
          rw [List.drop_eq_nil_of_le (by omega)] at hid
          have hid : idxFrom (near tire eye k x) firsts 0 = -1 := hid
          rw [hid, if_pos (by omega)] at hi
          (repeat (refine stq ?_))
          iterate 2 (refine sdq ?_)
          refine DG_next (D_len_arr (n := (firsts.length : Int)) hT rfl rfl rfl rfl rfl rfl rfl (by simp)) ?_
          refine DG_boolF hT rfl (decide_eq_false (by omega)) ?_
          (repeat (refine sdq ?_))
          refine DG_end hM (by kernel_rfl) ?_
          (repeat (refine stq ?_))
          refine AW_if rfl (fun hc3 => ?_) (fun hc3 => ?_)
          · (repeat (refine stq ?_))
            refine ⟨(k + 1, out ++ [(firsts.length : Int)], firsts ++ [x]), ⟨hk', by simp [ho], by simp; omega, ?_, by rw [hi]; simp⟩, by simp only; omega, ?_⟩
            · intro y hy; rcases List.mem_append.1 hy with hy | hy
              · exact hfb y hy
              · simp at hy; subst hy; exact hxb
            · (refine Le.mkR [(0, 5), (1, 3)] ?_ ?_ rfl; all_goals (repeat' (first | exact trivial | refine sle ?_ | refine ⟨?_, rfl, ?_⟩ | refine ⟨?_, by decide, rfl, ?_⟩ | fail)))
              · simp [List.map_append, ht3]; rfl
              · simp [List.map_append]; rfl
          · exfalso; omega
    · have hk' : k = looks.length := by simp only at hc; omega
      subst hk'
      (repeat (refine stq ?_))
      exact ⟨_, _, rfl, rfl, by rw [hi]; simp [layGo]⟩
theorem truths_bd {s : Sorter} (hs : SorterP s) {x : List Int} (hx : x ∈ listsI s.looks) : x.length = s.looks.length ∧ bdL 3000 x := by
  have he := hs.eye
  have := (truthsI_mem hs (x := (x, s.eye.low)) (truthsR_mem.1 (List.mem_flatMap.2 ⟨s.eye.low, rangeI_mem.2 ⟨Int.le_refl _, he.2.1⟩, List.mem_map.2 ⟨x, hx, rfl⟩⟩)))
  exact ⟨this.1, this.2.1⟩
theorem sorter_lists {s : Sorter} (hs : SorterP s) (k : Nat) : (listsI (s.looks.take k)).length ≤ 1000000 := by
  have h1 := listsI_len 7 (s.looks.take k) fun x hx => by have := hs.looks x (List.mem_of_mem_take hx); omega
  have h2 : (s.looks.take k).length ≤ 4 := by have := hs.len; simp; omega
  have h3 : 7 ^ (s.looks.take k).length ≤ 7 ^ 4 := Nat.pow_le_pow_right (by omega) h2
  omega
/-- The truths gone through in some rounds of the eye, and some of the round under way. -/
def partR (s : Sorter) (i k : Nat) : List (List Int × Int) := (((rangeI s.eye.low s.eye.high).take i).flatMap fun e => (listsI s.looks).map fun l => (l, e)) ++ ((listsI s.looks).take k).map fun l => (l, s.eye.low + i)
theorem partR_zero (s : Sorter) (i : Nat) : partR s i 0 = ((rangeI s.eye.low s.eye.high).take i).flatMap fun e => (listsI s.looks).map fun l => (l, e) := by simp [partR]
theorem partR_snoc {s : Sorter} {i k : Nat} {x : List Int} (h : (listsI s.looks)[k]? = some x) : partR s i (k + 1) = partR s i k ++ [(x, s.eye.low + i)] := by
  unfold partR; rw [map_take_succ _ h, List.append_assoc]
theorem partR_round {s : Sorter} {i : Nat} (hi : i < (s.eye.high - s.eye.low + 1).toNat) : partR s (i + 1) 0 = partR s i (listsI s.looks).length := by
  rw [partR_zero, flatMap_take_succ (range_get hi)]
  unfold partR; rw [List.take_length]
theorem partR_end {s : Sorter} : partR s (s.eye.high - s.eye.low + 1).toNat 0 = truthsR s := by
  rw [partR_zero, List.take_of_length_le (by simp [rangeI])]; rfl
theorem partR_len {s : Sorter} (hs : SorterP s) {i k : Nat} (hi : i ≤ 5) : (partR s i k).length ≤ 6000000 := by
  have h1 := sorter_lists hs s.looks.length
  rw [List.take_length] at h1
  unfold partR
  rw [List.length_append, flatMap_const_len (c := (listsI s.looks).length) (fun e => by simp), List.length_map]
  have h2 : ((rangeI s.eye.low s.eye.high).take i).length ≤ 5 := by simp; omega
  have h3 : ((listsI s.looks).take k).length ≤ 1000000 := by simp; omega
  have := Nat.mul_le_mul h2 h1
  omega
set_option maxHeartbeats 2000000 in
theorem f63 (s : Sorter) (a b : Int) (hs : SorterP s) (ha : 0 ≤ a ∧ a < s.looks.length) (hb : 0 ≤ b ∧ b < s.looks.length) : ACalls Tryz.prog 63 [eSorter s, vi a, vi b] (fun r => r = .pv (vi (togetherL s a b))) := by
  have hlk := hs.looks
  have hln := hs.len
  have hey := hs.eye
  have hti := hs.tire
  have k146 := f146 s.looks (by omega) (fun x hx => by have := hlk x hx; omega) (sorter_lists hs)
  have hll := sorter_lists hs s.looks.length
  rw [List.take_length] at hll
  refine ACalls.of_body hT Tryz.func63 rfl (by kernel_rfl) rfl ?_
  (repeat' (first | refine stq ?_ | (refine AL_do2 rfl ?_; first | refine ⟨_, op_call1 rfl rfl rfl rfl (k146), nrmA rfl ?_⟩) | (with_reducible refine AL_id ?_); (fail_if_success (refine AL_glit rfl rfl rfl (by first | exact .inl (by with_reducible rfl) | exact .inr (by with_reducible rfl)) ?_)); first | refine AL_gdec rfl rfl rfl (fun hg => ?_) (fun hg => ?_) | refine AL_gnot rfl rfl rfl (fun hg => ?_) (fun hg => ?_) | refine AL_gcases rfl rfl rfl (fun hg => ?_) (fun hg => ?_)))
  refine AW_loopC (fun i : Nat => i ≤ (s.eye.high - s.eye.low + 1).toNat) (fun i => mkSt [(1, .pv (vi a)), (2, .pv (vi b)), (3, .box 0 0), (7, .pv (eRows (listsI s.looks))), (8, .pv (vi (cntR ((partR s i 0).map (sameTray s a b))))), (9, .pv (vi (partR s i 0).length)), (10, .pv (vi (s.eye.low + i)))] (soO s) 1) (fun i => (s.eye.high - s.eye.low + 1).toNat - i) 0 (Nat.zero_le _) ?_ ?_
  · (refine Le.mk ?_ ?_; all_goals (repeat' (first | exact trivial | refine sle ?_ | refine ⟨?_, rfl, ?_⟩ | refine ⟨?_, by decide, rfl, ?_⟩ | fail)))
    show some (FV.pv (vi s.eye.low)) = some (FV.pv (vi (s.eye.low + ((0 : Nat) : Int)))); simp
  · intro i hi
    (repeat (refine stq ?_))
    refine AW_if rfl (fun hc => ?_) (fun hc => ?_)
    · have hi' : i < (s.eye.high - s.eye.low + 1).toNat := by omega
      (repeat (refine stq ?_))
      refine AW_loopC (fun k : Nat => k ≤ (listsI s.looks).length) (fun k => mkSt [(1, .pv (vi a)), (2, .pv (vi b)), (3, .box 0 0), (7, .pv (eRows (listsI s.looks))), (8, .pv (vi (cntR ((partR s i k).map (sameTray s a b))))), (9, .pv (vi (partR s i k).length)), (10, .pv (vi (s.eye.low + i))), (11, .pv (vi k))] (soO s) 1) (fun k => (listsI s.looks).length - k) 0 (Nat.zero_le _) ?_ ?_
      · (refine Le.mk ?_ ?_; all_goals (repeat' (first | exact trivial | refine sle ?_ | refine ⟨?_, rfl, ?_⟩ | refine ⟨?_, by decide, rfl, ?_⟩ | fail)))
      · intro k hk
        have hpl := partR_len hs (i := i) (k := k) (by omega)
        have hcb := cnt_bd ((partR s i k).map (sameTray s a b))
        simp only [List.length_map] at hcb
        (repeat (refine stq ?_))
        refine AW_if rfl (fun hc2 => ?_) (fun hc2 => ?_)
        · have hk' : k < (listsI s.looks).length := by omega
          obtain ⟨x, hx⟩ : ∃ x, (listsI s.looks)[k]? = some x := ⟨(listsI s.looks)[k], by simp [hk']⟩
          have e1 := get_map eIntsC hx
          obtain ⟨x1, x2⟩ := truths_bd hs (List.mem_of_getElem? hx)
          have k77 := (f77 x (s.eye.low + i) s.tire (by omega) (fun z hz => by have := x2 z hz; omega) (by omega) (by omega)).pure
          have k77 : ACalls Tryz.prog 77 [eInts x, vi (s.eye.low + i), vi s.tire] (fun r => r = .pv (eInts (layI s.tire x (s.eye.low + i)))) := k77
          have hyl := layI_len s.tire x (s.eye.low + i)
          have hsame : sameTray s a b (x, s.eye.low + i) = decide ((layI s.tire x (s.eye.low + i)).getD a.toNat 0 = (layI s.tire x (s.eye.low + i)).getD b.toNat 0) := rfl
          have hps := partR_snoc (i := i) hx
          generalize layI s.tire x (s.eye.low + i) = y at k77 hyl hsame
          obtain ⟨u, hu⟩ : ∃ u, y[a.toNat]? = some u := ⟨y[a.toNat]'(by omega), by simp⟩
          obtain ⟨v, hv⟩ : ∃ v, y[b.toNat]? = some v := ⟨y[b.toNat]'(by omega), by simp⟩
          have e2 := get_map eInt hu
          have e3 := get_map eInt hv
          have hsame : sameTray s a b (x, s.eye.low + i) = decide (u = v) := by rw [hsame]; simp [List.getD, hu, hv]
          generalize hP : partR s i k = P at *
          (repeat (refine stq ?_))
          (repeat (first | refine sdq ?_ | refine DG_next (D_call rfl rfl rfl rfl rfl (k77)) ?_))
          refine DG_end hM (by kernel_rfl) ?_
          (repeat (refine stq ?_))
          (repeat (refine sdq ?_))
          refine DG_end hM (by kernel_rfl) ?_
          (repeat (refine stq ?_))
          refine AW_if rfl (fun hc3 => ?_) (fun hc3 => ?_)
          · (repeat (refine stq ?_))
            refine ⟨k + 1, hk', by omega, ?_⟩
            (refine Le.mk ?_ ?_; all_goals (repeat' (first | exact trivial | refine sle ?_ | refine ⟨?_, rfl, ?_⟩ | refine ⟨?_, by decide, rfl, ?_⟩ | fail)))
            · show some (FV.pv (vi (cntR (P.map (sameTray s a b)) + 1))) = some (FV.pv (vi (cntR ((partR s i (k + 1)).map (sameTray s a b)))))
              rw [hps, List.map_append, List.map_cons, List.map_nil, cntR_snoc, hsame, decide_eq_true hc3]; rfl
            · show some (FV.pv (vi ((P.length : Nat) + 1))) = some (FV.pv (vi ((partR s i (k + 1)).length : Nat)))
              rw [hps, List.length_append]; rfl
          · (repeat (refine stq ?_))
            refine ⟨k + 1, hk', by omega, ?_⟩
            (refine Le.mk ?_ ?_; all_goals (repeat' (first | exact trivial | refine sle ?_ | refine ⟨?_, rfl, ?_⟩ | refine ⟨?_, by decide, rfl, ?_⟩ | fail)))
            · show some (FV.pv (vi (cntR (P.map (sameTray s a b))))) = some (FV.pv (vi (cntR ((partR s i (k + 1)).map (sameTray s a b)))))
              rw [hps, List.map_append, List.map_cons, List.map_nil, cntR_snoc, hsame, decide_eq_false hc3]
              simp
            · show some (FV.pv (vi ((P.length : Nat) + 1))) = some (FV.pv (vi ((partR s i (k + 1)).length : Nat)))
              rw [hps, List.length_append]; rfl
        · have hk' : k = (listsI s.looks).length := by omega
          subst hk'
          rw [← partR_round hi']
          (repeat (refine stq ?_))
          refine ⟨i + 1, hi', by omega, ?_⟩
          (refine Le.mk ?_ ?_; all_goals (repeat' (first | exact trivial | refine sle ?_ | refine ⟨?_, rfl, ?_⟩ | refine ⟨?_, by decide, rfl, ?_⟩ | fail)))
          show some (FV.pv (vi (s.eye.low + i + 1))) = some (FV.pv (vi (s.eye.low + ((i + 1 : Nat) : Int)))); rw [show s.eye.low + (i : Int) + 1 = s.eye.low + ((i + 1 : Nat) : Int) by omega]
    · have hi' : i = (s.eye.high - s.eye.low + 1).toNat := by omega
      subst hi'
      rw [partR_end]
      (repeat' (first | refine stq ?_ | (refine AL_do2 rfl ?_; first | refine ⟨_, op_call1 rfl rfl rfl rfl (f121 (cntR ((truthsR s).map (sameTray s a b))) (truthsR s).length), ?_⟩) | (with_reducible refine AL_id ?_); (fail_if_success (refine AL_glit rfl rfl rfl (by first | exact .inl (by with_reducible rfl) | exact .inr (by with_reducible rfl)) ?_)); first | refine AL_gdec rfl rfl rfl (fun hg => ?_) (fun hg => ?_) | refine AL_gnot rfl rfl rfl (fun hg => ?_) (fun hg => ?_) | refine AL_gcases rfl rfl rfl (fun hg => ?_) (fun hg => ?_)))
      exact ⟨_, _, rfl, rfl, rfl⟩
end Go.Abs
