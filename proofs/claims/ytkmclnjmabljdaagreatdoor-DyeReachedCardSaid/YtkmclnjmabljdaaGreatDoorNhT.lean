/- Truths: the functions of the program and of the reference. -/
import Derived.Test.YtkmclnjmabljdaaGreatDoorNhA
set_option linter.unusedVariables false
set_option linter.unusedSimpArgs false

namespace Go.Abs
open Go.Proofs
set_option linter.unusedVariables false
set_option linter.unusedSimpArgs false
set_option maxRecDepth 100000

def truthB (h : List Dye) (l : List Bath) (ts : List (List Int)) (hs : List Int) : Bool := decide (ts.length = h.length) && decide (hs.length = l.length) && !ts.any (fun t => decide (¬ (t.length : Int) = 3))
def truthOK (ts : List (List Int)) (hs : List Int) : Prop := ts.length ≤ 1000 ∧ hs.length ≤ 1000 ∧ ∀ t ∈ ts, t.length ≤ 1000
abbrev trO (h : List Dye) (ts : List (List Int)) (hs : List Int) : List (Nat × AObj) := [(0, .box [.pv (.sl (h.map eDye))]), (1, .box [.pv (eRows ts), .pv (eInts hs)])]
theorem f153 (h : List Dye) (l : List Bath) (ts : List (List Int)) (hs : List Int) (hh : h.length ≤ 1000) (hl : l.length ≤ 1000) (ht : truthOK ts hs) : ACalls Tryz.prog 153 [eHouse h, eBaths l, eTruth ts hs] (fun r => r = .pv (.bool (truthB h l ts hs))) := by
  have h1 := ht.1
  have h2 := ht.2.1
  refine ACalls.of_body hT Tryz.func153 rfl (by kernel_rfl) rfl ?_
  (repeat' (first | refine stq ?_ | (refine AL_do2 rfl ?_; first | refine ⟨_, op_call1 rfl rfl rfl rfl (c195 ts 196 [] (fun t => decide (¬ (t.length : Int) = 3)) ht.1 (fun x hx => f196 x (ht.2.2 x hx))), ?_⟩) | (with_reducible refine AL_id ?_); (fail_if_success (refine AL_glit rfl rfl rfl (by first | exact .inl (by with_reducible rfl) | exact .inr (by with_reducible rfl)) ?_)); first | refine AL_gdec rfl rfl rfl (fun hg => ?_) (fun hg => ?_) | refine AL_gnot rfl rfl rfl (fun hg => ?_) (fun hg => ?_) | refine AL_gcases rfl rfl rfl (fun hg => ?_) (fun hg => ?_)))
  all_goals (refine ⟨_, _, rfl, rfl, ?_⟩; refine congrArg (fun b => RV.pv (.bool b)) ?_; unfold truthB; rw [Bool.eq_iff_iff]; simp only [Bool.and_eq_true, decide_eq_true_eq, Bool.not_eq_true', Bool.false_eq_true, false_iff, not_and]; first | (intros; omega) | (constructor <;> intro hq <;> simp_all <;> omega) | skip)
theorem f81 (h : List Dye) (l : List Bath) (ts : List (List Int)) (hs : List Int) (hh : h.length ≤ 1000) (hl : l.length ≤ 1000) (ht : truthOK ts hs) : ACalls Tryz.prog 81 [eHouse h, eBaths l, eTruth ts hs] (fun r => r = .pv (.bool (truthB h l ts hs))) := by
  have h1 := ht.1
  have h2 := ht.2.1
  refine ACalls.of_body hT Tryz.func81 rfl (by kernel_rfl) rfl ?_
  (repeat (refine stq ?_))
  refine AW_loopC (fun k : Nat => k ≤ ts.length ∧ ∀ t ∈ ts.take k, (t.length : Int) = 3) (fun k => mkSt [(1, .pv (eBaths l)), (3, .box 0 0), (5, .box 1 0), (7, .pv (vi k))] (trO h ts hs) 2) (fun k => ts.length - k) 0 ⟨Nat.zero_le _, by simp⟩ ?_ ?_
  · (refine Le.mk ?_ ?_; all_goals (repeat' (first | exact trivial | refine sle ?_ | refine ⟨?_, rfl, ?_⟩ | refine ⟨?_, by decide, rfl, ?_⟩ | fail)))
  · rintro k ⟨hk, hall⟩
    (repeat (refine stq ?_))
    refine AW_if rfl (fun hc => ?_) (fun hc => ?_)
    · have hk' : k < ts.length := by omega
      obtain ⟨t, htx⟩ : ∃ t, ts[k]? = some t := ⟨ts[k], by simp [hk']⟩
      have e1 := get_map eIntsC htx
      have htl := ht.2.2 t (List.mem_of_getElem? htx)
      (repeat (refine stq ?_))
      refine AW_if rfl (fun hc2 => ?_) (fun hc2 => ?_)
      · (repeat (refine stq ?_))
        refine ⟨_, _, rfl, rfl, ?_⟩
        have : ts.any (fun t => decide (¬ (t.length : Int) = 3)) = true := by
          rw [List.any_eq_true]; exact ⟨t, List.mem_of_getElem? htx, by simpa using hc2⟩
        rw [show truthB h l ts hs = false by unfold truthB; rw [this]; simp]
      · (repeat (refine stq ?_))
        refine ⟨k + 1, ⟨hk', all_take_succ hall htx (by omega)⟩, by omega, ?_⟩
        (refine Le.mk ?_ ?_; all_goals (repeat' (first | exact trivial | refine sle ?_ | refine ⟨?_, rfl, ?_⟩ | refine ⟨?_, by decide, rfl, ?_⟩ | fail)))
    · have hk' : k = ts.length := by omega
      rw [hk', List.take_length] at hall
      have hany : ts.any (fun t => decide (¬ (t.length : Int) = 3)) = false := by
        rw [List.any_eq_false]; intro t htm; simp [hall t htm]
      have hb : truthB h l ts hs = (decide ((ts.length : Int) = h.length) && decide ((hs.length : Int) = l.length)) := by
        unfold truthB; rw [hany]; simp only [Bool.not_false, Bool.and_true, Int.natCast_inj]
      rw [hb]
      (repeat' (first | refine stq ?_ | (with_reducible refine AL_id ?_); (fail_if_success (refine AL_glit rfl rfl rfl (by first | exact .inl (by with_reducible rfl) | exact .inr (by with_reducible rfl)) ?_)); first | refine AL_gdec rfl rfl rfl (fun hg => ?_) (fun hg => ?_) | refine AL_gnot rfl rfl rfl (fun hg => ?_) (fun hg => ?_) | refine AL_gcases rfl rfl rfl (fun hg => ?_) (fun hg => ?_)))
      all_goals exact ⟨_, _, rfl, rfl, by simp_all⟩
def fitsT : List (List Int) → List Dye → Bool
  | x :: ts, d :: h => withinB x d.takes && fitsT ts h
  | _, _ => true
def fitsB (h : List Dye) (l : List Bath) (ts : List (List Int)) (hs : List Int) : Bool := fitsT ts h && withinB hs (hoursI l)
theorem fitsT_drop {l : List (List Int)} {m : List Dye} {k : Nat} {x : List Int} {s : Dye} (h : l[k]? = some x) (h' : m[k]? = some s) : fitsT (l.drop k) (m.drop k) = (withinB x s.takes && fitsT (l.drop (k + 1)) (m.drop (k + 1))) := by
  have hk : k < l.length := (List.getElem?_eq_some_iff.1 h).1
  have hx : l[k] = x := (List.getElem?_eq_some_iff.1 h).2
  have hk' : k < m.length := (List.getElem?_eq_some_iff.1 h').1
  have hx' : m[k] = s := (List.getElem?_eq_some_iff.1 h').2
  rw [List.drop_eq_getElem_cons hk, List.drop_eq_getElem_cons hk', hx, hx']; rfl
theorem allIn_end {l : List Int} {m : List Span} (h : l.length = m.length) : allIn (l.drop l.length) (m.drop l.length) = true := by
  rw [List.drop_length, h, List.drop_length]; rfl
theorem hours_get {l : List Bath} {k : Nat} {b : Bath} (h : l[k]? = some b) : (hoursI l)[k]? = some b.hours := by simp [hoursI, h]
theorem f197 (l : List Int) (m : List Bath) (hl : l.length ≤ 1000) (hm : m.length ≤ 1000) : ACalls Tryz.prog 197 [eInts l, eBaths m, .fn 198 []] (fun r => r = .pv (.bool (withinB l (hoursI m)))) := by
  have hml := hours_len m
  refine ACalls.of_body hT Tryz.func197 rfl (by kernel_rfl) rfl ?_
  (repeat (refine stq ?_))
  refine AW_if rfl (fun hc => ?_) (fun hc => ?_)
  · (repeat (refine stq ?_))
    exact ⟨_, _, rfl, rfl, by simp [withinB]; omega⟩
  · have hlm : l.length = m.length := by omega
    (repeat (refine stq ?_))
    refine AW_loopC (fun k : Nat => k ≤ l.length ∧ allIn l (hoursI m) = allIn (l.drop k) ((hoursI m).drop k)) (fun k => mkSt [(1, .pv (eBaths m)), (2, .pv (.fn 198 [])), (15, .pv (eInts l)), (16, .pv (vi l.length)), (17, .pv (vi k))] [] 0) (fun k => l.length - k) 0 ⟨Nat.zero_le _, rfl⟩ ?_ ?_
    · (refine Le.mk ?_ ?_; all_goals (repeat' (first | exact trivial | refine sle ?_ | refine ⟨?_, rfl, ?_⟩ | refine ⟨?_, by decide, rfl, ?_⟩ | fail)))
    · rintro k ⟨hk, hi⟩
      (repeat (refine stq ?_))
      refine AW_if rfl (fun hc => ?_) (fun hc => ?_)
      · have hk' : k < l.length := by omega
        obtain ⟨x, hx⟩ : ∃ x, l[k]? = some x := ⟨l[k], by simp [hk']⟩
        obtain ⟨b, hb⟩ : ∃ b, m[k]? = some b := ⟨m[k]'(by omega), by simp⟩
        have e1 := get_map eInt hx
        have e2 := get_map eBath hb
        rw [allIn_drop hx (hours_get hb)] at hi
        (repeat' (first | refine stq ?_ | (refine AL_do2 rfl ?_; first | refine ⟨_, op_call1 rfl rfl rfl rfl (f198 x b), nrmA rfl ?_⟩) | (with_reducible refine AL_id ?_); (fail_if_success (refine AL_glit rfl rfl rfl (by first | exact .inl (by with_reducible rfl) | exact .inr (by with_reducible rfl)) ?_)); first | refine AL_gdec rfl rfl rfl (fun hg => ?_) (fun hg => ?_) | refine AL_gnot rfl rfl rfl (fun hg => ?_) (fun hg => ?_) | refine AL_gcases rfl rfl rfl (fun hg => ?_) (fun hg => ?_)))
        refine AW_cond rfl (fun hc2 => ?_) (fun hc2 => ?_)
        · (repeat (refine stq ?_))
          have hc3 : inB x b.hours.low b.hours.high = false := by simpa using hc2
          exact ⟨_, _, rfl, rfl, by rw [withinB, hi, hc3]; simp⟩
        · (repeat (refine stq ?_))
          have hc3 : inB x b.hours.low b.hours.high = true := by simpa using hc2
          refine ⟨k + 1, ⟨hk', by rw [hi, hc3]; simp⟩, by omega, ?_⟩
          (refine Le.mk ?_ ?_; all_goals (repeat' (first | exact trivial | refine sle ?_ | refine ⟨?_, rfl, ?_⟩ | refine ⟨?_, by decide, rfl, ?_⟩ | fail)))
      · have hk' : k = l.length := by omega
        subst hk'
        (repeat (refine stq ?_))
        exact ⟨_, _, rfl, rfl, by rw [withinB, hi, allIn_end (by omega)]; simp; omega⟩
theorem f154 (h : List Dye) (l : List Bath) (ts : List (List Int)) (hs : List Int) (hh : houseOK h) (hl : l.length ≤ 1000) (ht : truthOK ts hs) (hlen : ts.length = h.length) : ACalls Tryz.prog 154 [eHouse h, eBaths l, eTruth ts hs] (fun r => r = .pv (.bool (fitsB h l ts hs))) := by
  have h0 := hh.1
  have h1 := ht.1
  have h2 := ht.2.1
  refine ACalls.of_body hT Tryz.func154 rfl (by kernel_rfl) rfl ?_
  (repeat (refine stq ?_))
  refine AW_loopC (fun k : Nat => k ≤ h.length ∧ fitsT ts h = fitsT (ts.drop k) (h.drop k)) (fun k => mkSt [(1, .pv (eBaths l)), (5, .box 1 0), (10, .pv (.sl (h.map eDye))), (11, .pv (vi h.length)), (12, .pv (vi k))] (trO h ts hs) 2) (fun k => h.length - k) 0 ⟨Nat.zero_le _, rfl⟩ ?_ ?_
  · (refine Le.mk ?_ ?_; all_goals (repeat' (first | exact trivial | refine sle ?_ | refine ⟨?_, rfl, ?_⟩ | refine ⟨?_, by decide, rfl, ?_⟩ | fail)))
  · rintro k ⟨hk, hi⟩
    (repeat (refine stq ?_))
    refine AW_if rfl (fun hc => ?_) (fun hc => ?_)
    · have hk' : k < h.length := by omega
      obtain ⟨d, hd⟩ : ∃ d, h[k]? = some d := ⟨h[k], by simp [hk']⟩
      obtain ⟨t, htx⟩ : ∃ t, ts[k]? = some t := ⟨ts[k]'(by omega), by simp⟩
      have e1 := get_map eDye hd
      have e2 := get_map eIntsC htx
      rw [fitsT_drop htx hd] at hi
      (repeat (refine stq ?_))
      (repeat (first | refine sdq ?_ | refine DG_next (D_call rfl rfl rfl rfl rfl (f139 t d.takes (ht.2.2 t (List.mem_of_getElem? htx)) (hh.2 d (List.mem_of_getElem? hd)))) ?_))
      refine DG_end hM (by kernel_rfl) ?_
      (repeat (refine stq ?_))
      refine AW_cond rfl (fun hc2 => ?_) (fun hc2 => ?_)
      · have hw : withinB t d.takes = false := by simpa using hc2
        rw [hw] at hi
        (repeat (refine stq ?_))
        exact ⟨_, _, rfl, rfl, by rw [fitsB, hi]; simp⟩
      · have hw : withinB t d.takes = true := by simpa using hc2
        rw [hw] at hi
        (repeat (refine stq ?_))
        refine ⟨k + 1, ⟨hk', by rw [hi]; simp⟩, by omega, ?_⟩
        (refine Le.mk ?_ ?_; all_goals (repeat' (first | exact trivial | refine sle ?_ | refine ⟨?_, rfl, ?_⟩ | refine ⟨?_, by decide, rfl, ?_⟩ | fail)))
    · have hk' : k = h.length := by omega
      rw [hk', List.drop_eq_nil_of_le (Nat.le_refl _), List.drop_eq_nil_of_le (by omega)] at hi
      have hi : fitsT ts h = true := hi
      (repeat' (first | refine stq ?_ | (refine AL_do2 rfl ?_; first | refine ⟨_, op_call1 rfl rfl rfl rfl (f197 hs l h2 hl), nrmA rfl ?_⟩) | (with_reducible refine AL_id ?_); (fail_if_success (refine AL_glit rfl rfl rfl (by first | exact .inl (by with_reducible rfl) | exact .inr (by with_reducible rfl)) ?_)); first | refine AL_gdec rfl rfl rfl (fun hg => ?_) (fun hg => ?_) | refine AL_gnot rfl rfl rfl (fun hg => ?_) (fun hg => ?_) | refine AL_gcases rfl rfl rfl (fun hg => ?_) (fun hg => ?_)))
      exact ⟨_, _, rfl, rfl, by rw [fitsB, hi]; simp⟩
theorem truth_len {h : List Dye} {l : List Bath} {ts : List (List Int)} {hs : List Int} (hb : truthB h l ts hs = true) : ts.length = h.length ∧ hs.length = l.length ∧ ∀ t ∈ ts, t.length = 3 := by
  simp only [truthB, Bool.and_eq_true, decide_eq_true_eq, Bool.not_eq_true', List.any_eq_false] at hb
  refine ⟨hb.1.1, hb.1.2, fun t ht => ?_⟩
  have := hb.2 t ht
  omega
def fitsE (h : List Dye) (l : List Bath) (ts : List (List Int)) (hs : List Int) : Bool × Int := if isHouseB h && isBatchB h l && truthB h l ts hs then (fitsB h l ts hs, 0) else (false, 2)
theorem f82 (h : List Dye) (l : List Bath) (ts : List (List Int)) (hs : List Int) (hh : houseOK h) (hl : l.length ≤ 1000) (ht : truthOK ts hs) : ACalls Tryz.prog 82 [eHouse h, eBaths l, eTruth ts hs] (fun r => r = .tup [.bool (fitsE h l ts hs).1, vi (fitsE h l ts hs).2]) := by
  have k105 := f105 h hh.1 hh.2
  have k106 := f106 h l hh.1 hl
  have k153 := f153 h l ts hs hh.1 hl ht
  refine ACalls.of_body hT Tryz.func82 rfl (by kernel_rfl) rfl ?_
  cases c1 : isHouseB h with
  | false =>
    rw [c1] at k105
    (repeat' (first | refine stq ?_ | (refine AL_do2 rfl ?_; first | refine ⟨_, op_call1 rfl rfl rfl rfl (k105), nrmA rfl ?_⟩) | (with_reducible refine AL_id ?_); (fail_if_success (refine AL_glit rfl rfl rfl (by first | exact .inl (by with_reducible rfl) | exact .inr (by with_reducible rfl)) ?_)); first | refine AL_gdec rfl rfl rfl (fun hg => ?_) (fun hg => ?_) | refine AL_gnot rfl rfl rfl (fun hg => ?_) (fun hg => ?_) | refine AL_gcases rfl rfl rfl (fun hg => ?_) (fun hg => ?_)))
    exact ⟨_, _, rfl, rfl, by simp [fitsE, c1]⟩
  | true =>
    rw [c1] at k105
    cases c2 : isBatchB h l with
    | false =>
      rw [c2] at k106
      (repeat' (first | refine stq ?_ | (refine AL_do2 rfl ?_; first | refine ⟨_, op_call1 rfl rfl rfl rfl (k105), nrmA rfl ?_⟩ | refine ⟨_, op_call1 rfl rfl rfl rfl (k106), nrmA rfl ?_⟩) | (with_reducible refine AL_id ?_); (fail_if_success (refine AL_glit rfl rfl rfl (by first | exact .inl (by with_reducible rfl) | exact .inr (by with_reducible rfl)) ?_)); first | refine AL_gdec rfl rfl rfl (fun hg => ?_) (fun hg => ?_) | refine AL_gnot rfl rfl rfl (fun hg => ?_) (fun hg => ?_) | refine AL_gcases rfl rfl rfl (fun hg => ?_) (fun hg => ?_)))
      exact ⟨_, _, rfl, rfl, by simp [fitsE, c2]⟩
    | true =>
      rw [c2] at k106
      cases c3 : truthB h l ts hs with
      | false =>
        rw [c3] at k153
        (repeat' (first | refine stq ?_ | (refine AL_do2 rfl ?_; first | refine ⟨_, op_call1 rfl rfl rfl rfl (k105), nrmA rfl ?_⟩ | refine ⟨_, op_call1 rfl rfl rfl rfl (k106), nrmA rfl ?_⟩ | refine ⟨_, op_call1 rfl rfl rfl rfl (k153), nrmA rfl ?_⟩) | (with_reducible refine AL_id ?_); (fail_if_success (refine AL_glit rfl rfl rfl (by first | exact .inl (by with_reducible rfl) | exact .inr (by with_reducible rfl)) ?_)); first | refine AL_gdec rfl rfl rfl (fun hg => ?_) (fun hg => ?_) | refine AL_gnot rfl rfl rfl (fun hg => ?_) (fun hg => ?_) | refine AL_gcases rfl rfl rfl (fun hg => ?_) (fun hg => ?_)))
        exact ⟨_, _, rfl, rfl, by simp [fitsE, c3]⟩
      | true =>
        rw [c3] at k153
        (repeat' (first | refine stq ?_ | (refine AL_do2 rfl ?_; first | refine ⟨_, op_call1 rfl rfl rfl rfl (k105), nrmA rfl ?_⟩ | refine ⟨_, op_call1 rfl rfl rfl rfl (k106), nrmA rfl ?_⟩ | refine ⟨_, op_call1 rfl rfl rfl rfl (k153), nrmA rfl ?_⟩ | refine ⟨_, op_call1 rfl rfl rfl rfl (f154 h l ts hs hh hl ht (truth_len c3).1), nrmA rfl ?_⟩) | (with_reducible refine AL_id ?_); (fail_if_success (refine AL_glit rfl rfl rfl (by first | exact .inl (by with_reducible rfl) | exact .inr (by with_reducible rfl)) ?_)); first | refine AL_gdec rfl rfl rfl (fun hg => ?_) (fun hg => ?_) | refine AL_gnot rfl rfl rfl (fun hg => ?_) (fun hg => ?_) | refine AL_gcases rfl rfl rfl (fun hg => ?_) (fun hg => ?_)))
        exact ⟨_, _, rfl, rfl, by simp [fitsE, c1, c2, c3]⟩
/-- The depths of some dyes. -/
def runGo (l : List Bath) (hs : List Int) : List Dye → List (List Int) → Int → List Int
  | d :: h, t :: ts, i => depthI d i t l hs :: runGo l hs h ts (i + 1)
  | _, _, _ => []
theorem runGo_succ (l : List Bath) (hs : List Int) : ∀ (h : List Dye) (ts : List (List Int)) (i : Int) (k : Nat) (d : Dye) (t : List Int), h[k]? = some d → ts[k]? = some t → runGo l hs (h.take (k + 1)) ts i = runGo l hs (h.take k) ts i ++ [depthI d (i + k) t l hs]
  | [], ts, i, k, d, t, h, _ => by simp at h
  | d0 :: h, [], i, k, d, t, _, h' => by simp at h'
  | d0 :: h, t0 :: ts, i, 0, d, t, hd, ht => by
    simp only [List.getElem?_cons_zero, Option.some.injEq] at hd ht
    subst hd; subst ht
    simp [runGo]
  | d0 :: h, t0 :: ts, i, k + 1, d, t, hd, ht => by
    have := runGo_succ l hs h ts (i + 1) k d t (by simpa using hd) (by simpa using ht)
    simp only [List.take_succ_cons, runGo, this, List.cons_append]
    rw [show i + 1 + (k : Int) = i + ((k + 1 : Nat) : Int) by omega]
theorem runGo_len (l : List Bath) (hs : List Int) : ∀ (h : List Dye) (ts : List (List Int)) (i : Int), (runGo l hs h ts i).length ≤ h.length
  | [], ts, i => by simp [runGo]
  | d :: h, [], i => by simp [runGo]
  | d :: h, t :: ts, i => by have := runGo_len l hs h ts (i + 1); simp only [runGo, List.length_cons]; omega
theorem within_iff {l : List Int} {m : List Span} : withinB l m = true ↔ inS l m := by
  induction l generalizing m with
  | nil => cases m <;> simp [withinB, allIn, inS]
  | cons x l ih =>
    cases m with
    | nil => simp [withinB, inS]
    | cons s m =>
      have := @ih m
      simp only [withinB, allIn, inS, inB, Bool.and_eq_true, decide_eq_true_eq, List.length_cons, Nat.add_right_cancel_iff] at this ⊢
      constructor
      · rintro ⟨h1, h2, h3⟩; exact ⟨h2.1, h2.2, this.1 ⟨h1, h3⟩⟩
      · rintro ⟨h1, h2, h3⟩; exact ⟨(this.2 h3).1, ⟨h1, h2⟩, (this.2 h3).2⟩
theorem fitsT_get : ∀ {ts : List (List Int)} {h : List Dye}, fitsT ts h = true → ∀ (k : Nat) (t : List Int) (d : Dye), ts[k]? = some t → h[k]? = some d → inS t d.takes
  | [], h, _, k, t, d, ht, _ => by simp at ht
  | x :: ts, [], _, k, t, d, _, hd => by simp at hd
  | x :: ts, e :: h, hf, k, t, d, ht, hd => by
    simp only [fitsT, Bool.and_eq_true] at hf
    cases k with
    | zero =>
      simp only [List.getElem?_cons_zero, Option.some.injEq] at ht hd
      subst ht; subst hd
      exact within_iff.1 hf.1
    | succ k => exact fitsT_get hf.2 k t d (by simpa using ht) (by simpa using hd)
theorem inS_small {l : List Span} {x : List Int} (h : inS x l) (hs : ∀ s ∈ l, 0 ≤ s.low ∧ s.low ≤ s.high ∧ s.high ≤ 20) : small x := numsL_small (numsL_mem.2 h) hs
theorem fits_hours {h : List Dye} {l : List Bath} {ts : List (List Int)} {hs : List Int} (hl : BatchP h l) (hf : fitsB h l ts hs = true) : inS hs (hoursI l) ∧ small hs := by
  simp only [fitsB, Bool.and_eq_true] at hf
  have := within_iff.1 hf.2
  exact ⟨this, inS_small this (hoursI_ok hl)⟩
def runE (h : List Dye) (l : List Bath) (ts : List (List Int)) (hs : List Int) : List Int × Int := if isHouseB h && isBatchB h l && truthB h l ts hs && fitsB h l ts hs then (runGo l hs h ts 0, 0) else ([], 2)
set_option maxHeartbeats 2000000 in
theorem f78 (h : List Dye) (l : List Bath) (ts : List (List Int)) (hs : List Int) (hh : houseOK h) (hl : l.length ≤ 1000) (ht : truthOK ts hs) : ACalls Tryz.prog 78 [eHouse h, eBaths l, eTruth ts hs] (fun r => r = .tup [eInts (runE h l ts hs).1, vi (runE h l ts hs).2]) := by
  have k105 := f105 h hh.1 hh.2
  have k106 := f106 h l hh.1 hl
  have k153 := f153 h l ts hs hh.1 hl ht
  refine ACalls.of_body hT Tryz.func78 rfl (by kernel_rfl) rfl ?_
  cases c1 : isHouseB h with
  | false =>
    rw [c1] at k105
    (repeat' (first | refine stq ?_ | (refine AL_do2 rfl ?_; first | refine ⟨_, op_call1 rfl rfl rfl rfl (k105), nrmA rfl ?_⟩) | (with_reducible refine AL_id ?_); (fail_if_success (refine AL_glit rfl rfl rfl (by first | exact .inl (by with_reducible rfl) | exact .inr (by with_reducible rfl)) ?_)); first | refine AL_gdec rfl rfl rfl (fun hg => ?_) (fun hg => ?_) | refine AL_gnot rfl rfl rfl (fun hg => ?_) (fun hg => ?_) | refine AL_gcases rfl rfl rfl (fun hg => ?_) (fun hg => ?_)))
    exact ⟨_, _, rfl, rfl, by simp [runE, c1]; rfl⟩
  | true =>
    rw [c1] at k105
    cases c2 : isBatchB h l with
    | false =>
      rw [c2] at k106
      (repeat' (first | refine stq ?_ | (refine AL_do2 rfl ?_; first | refine ⟨_, op_call1 rfl rfl rfl rfl (k105), nrmA rfl ?_⟩ | refine ⟨_, op_call1 rfl rfl rfl rfl (k106), nrmA rfl ?_⟩) | (with_reducible refine AL_id ?_); (fail_if_success (refine AL_glit rfl rfl rfl (by first | exact .inl (by with_reducible rfl) | exact .inr (by with_reducible rfl)) ?_)); first | refine AL_gdec rfl rfl rfl (fun hg => ?_) (fun hg => ?_) | refine AL_gnot rfl rfl rfl (fun hg => ?_) (fun hg => ?_) | refine AL_gcases rfl rfl rfl (fun hg => ?_) (fun hg => ?_)))
      exact ⟨_, _, rfl, rfl, by simp [runE, c2]; rfl⟩
    | true =>
      rw [c2] at k106
      cases c3 : truthB h l ts hs with
      | false =>
        rw [c3] at k153
        (repeat' (first | refine stq ?_ | (refine AL_do2 rfl ?_; first | refine ⟨_, op_call1 rfl rfl rfl rfl (k105), nrmA rfl ?_⟩ | refine ⟨_, op_call1 rfl rfl rfl rfl (k106), nrmA rfl ?_⟩ | refine ⟨_, op_call1 rfl rfl rfl rfl (k153), nrmA rfl ?_⟩) | (with_reducible refine AL_id ?_); (fail_if_success (refine AL_glit rfl rfl rfl (by first | exact .inl (by with_reducible rfl) | exact .inr (by with_reducible rfl)) ?_)); first | refine AL_gdec rfl rfl rfl (fun hg => ?_) (fun hg => ?_) | refine AL_gnot rfl rfl rfl (fun hg => ?_) (fun hg => ?_) | refine AL_gcases rfl rfl rfl (fun hg => ?_) (fun hg => ?_)))
        exact ⟨_, _, rfl, rfl, by simp [runE, c3]; rfl⟩
      | true =>
        rw [c3] at k153
        have hlen := truth_len c3
        have k154 := f154 h l ts hs hh hl ht hlen.1
        cases c4 : fitsB h l ts hs with
        | false =>
          rw [c4] at k154
          (repeat' (first | refine stq ?_ | (refine AL_do2 rfl ?_; first | refine ⟨_, op_call1 rfl rfl rfl rfl (k105), nrmA rfl ?_⟩ | refine ⟨_, op_call1 rfl rfl rfl rfl (k106), nrmA rfl ?_⟩ | refine ⟨_, op_call1 rfl rfl rfl rfl (k153), nrmA rfl ?_⟩ | refine ⟨_, op_call1 rfl rfl rfl rfl (k154), nrmA rfl ?_⟩) | (with_reducible refine AL_id ?_); (fail_if_success (refine AL_glit rfl rfl rfl (by first | exact .inl (by with_reducible rfl) | exact .inr (by with_reducible rfl)) ?_)); first | refine AL_gdec rfl rfl rfl (fun hg => ?_) (fun hg => ?_) | refine AL_gnot rfl rfl rfl (fun hg => ?_) (fun hg => ?_) | refine AL_gcases rfl rfl rfl (fun hg => ?_) (fun hg => ?_)))
          exact ⟨_, _, rfl, rfl, by simp [runE, c4]; rfl⟩
        | true =>
          rw [c4] at k154
          have hH := houseP_of c1
          have hB := batchP_of c2
          have hh3 := hH.1
          have hfh := fits_hours hB c4
          have hft : fitsT ts h = true := by simp only [fitsB, Bool.and_eq_true] at c4; exact c4.1
          (repeat' (first | refine stq ?_ | (refine AL_do2 rfl ?_; first | refine ⟨_, op_call1 rfl rfl rfl rfl (k105), nrmA rfl ?_⟩ | refine ⟨_, op_call1 rfl rfl rfl rfl (k106), nrmA rfl ?_⟩ | refine ⟨_, op_call1 rfl rfl rfl rfl (k153), nrmA rfl ?_⟩ | refine ⟨_, op_call1 rfl rfl rfl rfl (k154), nrmA rfl ?_⟩) | (with_reducible refine AL_id ?_); (fail_if_success (refine AL_glit rfl rfl rfl (by first | exact .inl (by with_reducible rfl) | exact .inr (by with_reducible rfl)) ?_)); first | refine AL_gdec rfl rfl rfl (fun hg => ?_) (fun hg => ?_) | refine AL_gnot rfl rfl rfl (fun hg => ?_) (fun hg => ?_) | refine AL_gcases rfl rfl rfl (fun hg => ?_) (fun hg => ?_)))
          refine AW_own_nil (e := 3) (sz := 1) (t := 8) rfl rfl ?_
          (repeat (refine stq ?_))
          refine AW_loopC (fun k : Nat => k ≤ h.length) (fun k => mkSt [(1, .pv (eBaths l)), (3, .box 0 0), (5, .box 1 0), (8, .arr 2), (35, .pv (vi h.length)), (36, .pv (vi k))] (trO h ts hs ++ [(2, .arr 3 1 ((runGo l hs (h.take k) ts 0).map eInt))]) 3) (fun k => h.length - k) 0 (Nat.zero_le _) ?_ ?_
          · (refine Le.mk ?_ ?_; all_goals (repeat' (first | exact trivial | refine sle ?_ | refine ⟨?_, rfl, ?_⟩ | refine ⟨?_, by decide, rfl, ?_⟩ | fail)))
          · intro k hk
            have hrl := runGo_len l hs (h.take k) ts 0
            have hrl2 : (h.take k).length ≤ 3 := by simp; omega
            (repeat (refine stq ?_))
            refine AW_if rfl (fun hc => ?_) (fun hc => ?_)
            · have hk' : k < h.length := by omega
              obtain ⟨d, hd⟩ : ∃ d, h[k]? = some d := ⟨h[k], by simp [hk']⟩
              obtain ⟨t, htx⟩ : ∃ t, ts[k]? = some t := ⟨ts[k]'(by omega), by simp⟩
              have e2 := get_map eIntsC htx
              have hsn := runGo_succ l hs h ts 0 k d t hd htx
              rw [Int.zero_add] at hsn
              have hdm := hH.2.2 d (List.mem_of_getElem? hd)
              have htl := hlen.2.2 t (List.mem_of_getElem? htx)
              have k155 := f155 h k t l hs d (by simpa using hd) (by omega) (by omega) hl (fun b hb _ => by have := hB.2 b hb; unfold BathP at this; omega) hfh.2 (inS_small (fitsT_get hft k t d htx hd) hdm.2.2.2)
              (repeat (refine stq ?_))
              (repeat (first | refine sdq ?_ | refine DG_next (D_call rfl rfl rfl rfl rfl (k155)) ?_))
              refine DG_end hM (by kernel_rfl) ?_
              (repeat (refine stq ?_))
              refine ⟨k + 1, hk', by omega, ?_⟩
              (refine Le.mkR [(2, 3)] ?_ ?_ rfl; all_goals (repeat' (first | exact trivial | refine sle ?_ | refine ⟨?_, rfl, ?_⟩ | refine ⟨?_, by decide, rfl, ?_⟩ | fail)))
              rw [hsn, List.map_append]; rfl
            · have hk' : k = h.length := by omega
              subst hk'
              (repeat (refine stq ?_))
              exact ⟨_, _, rfl, rfl, by simp [runE, c1, c2, c3, c4, eInts]⟩
def briefB (ts : List (List Int)) (hs : List Int) : Bool := !(ts.take 6).any (fun d => decide (d.length > 5)) && decide (ts.length ≤ 5) && decide (hs.length ≤ 5)
theorem brief_ok {ts : List (List Int)} {hs : List Int} (hb : briefB ts hs = true) : ts.length ≤ 5 ∧ hs.length ≤ 5 ∧ truthOK ts hs := by
  simp only [briefB, Bool.and_eq_true, Bool.not_eq_true', List.any_eq_false, decide_eq_true_eq] at hb
  have h2 : ∀ s ∈ ts, s.length ≤ 5 := fun s hd => by
    have := hb.1.1 s (by rw [List.take_of_length_le (by omega)]; exact hd)
    omega
  exact ⟨hb.1.2, hb.2, by omega, by omega, fun t ht => by have := h2 t ht; omega⟩
theorem f80 (l : List (List Int)) (hs : List Int) : ACalls Tryz.prog 80 [eTruth l hs] (fun r => r = .pv (.bool (briefB l hs))) := by
  refine ACalls.of_body hT Tryz.func80 rfl (by kernel_rfl) rfl ?_
  (repeat (refine stq ?_))
  refine AW_loopC (fun k : Nat => k ≤ l.length ∧ k ≤ 6 ∧ ∀ s ∈ l.take k, s.length ≤ 5) (fun k => mkSt [(1, .box 0 0), (3, .pv (vi k))] [(0, .box [.pv (eRows l), .pv (eInts hs)])] 1) (fun k => 6 - k) 0 ⟨Nat.zero_le _, by omega, by simp⟩ ?_ ?_
  · (refine Le.mk ?_ ?_; all_goals (repeat' (first | exact trivial | refine sle ?_ | refine ⟨?_, rfl, ?_⟩ | refine ⟨?_, by decide, rfl, ?_⟩ | fail)))
  · rintro k ⟨hk, hk6, hall⟩
    (repeat' (first | refine stq ?_ | (with_reducible refine AL_id ?_); (fail_if_success (refine AL_glit rfl rfl rfl (by first | exact .inl (by with_reducible rfl) | exact .inr (by with_reducible rfl)) ?_)); first | refine AL_gdec rfl rfl rfl (fun hg => ?_) (fun hg => ?_) | refine AL_gnot rfl rfl rfl (fun hg => ?_) (fun hg => ?_) | refine AL_gcases rfl rfl rfl (fun hg => ?_) (fun hg => ?_)))
    · refine AW_if rfl (fun hc => ?_) (fun hc => ?_)
      · have hk' : k < l.length := by omega
        obtain ⟨d, hd⟩ : ∃ d, l[k]? = some d := ⟨l[k], by simp [hk']⟩
        have e1 := get_map eIntsC hd
        (repeat (refine stq ?_))
        refine AW_if rfl (fun hc2 => ?_) (fun hc2 => ?_)
        · (repeat (refine stq ?_))
          refine ⟨_, _, rfl, rfl, ?_⟩
          have : briefB l hs = false := by
            have h1 : (l.take 6).any (fun d => decide (d.length > 5)) = true := by
              simp only [List.any_eq_true, decide_eq_true_eq]
              exact ⟨d, List.mem_of_getElem? (i := k) (by rw [List.getElem?_take, if_pos (by omega)]; exact hd), by omega⟩
            simp [briefB, h1]
          rw [this]
        · (repeat (refine stq ?_))
          refine ⟨k + 1, ⟨hk', by omega, all_take_succ hall hd (by omega)⟩, by omega, ?_⟩
          (refine Le.mk ?_ ?_; all_goals (repeat' (first | exact trivial | refine sle ?_ | refine ⟨?_, rfl, ?_⟩ | refine ⟨?_, by decide, rfl, ?_⟩ | fail)))
      · have hk' : k = 6 := by omega
        subst hk'
        have h1 : ¬ l.length ≤ 5 := by omega
        (repeat' (first | refine stq ?_ | (with_reducible refine AL_id ?_); (fail_if_success (refine AL_glit rfl rfl rfl (by first | exact .inl (by with_reducible rfl) | exact .inr (by with_reducible rfl)) ?_)); first | refine AL_gdec rfl rfl rfl (fun hg => ?_) (fun hg => ?_) | refine AL_gnot rfl rfl rfl (fun hg => ?_) (fun hg => ?_) | refine AL_gcases rfl rfl rfl (fun hg => ?_) (fun hg => ?_)))
        all_goals (try (exfalso; omega))
        all_goals exact ⟨_, _, rfl, rfl, by simp [briefB, h1]⟩
    all_goals
      have hk' : k = l.length := by omega
      subst hk'
      have h1 : (l.take 6).any (fun d => decide (d.length > 5)) = false := by
        simp only [List.any_eq_false, decide_eq_true_eq]; intro d hd
        have := hall d (by rw [List.take_length]; exact List.mem_of_mem_take hd); omega
      have hb : briefB l hs = (decide ((l.length : Int) ≤ 5) && decide ((hs.length : Int) ≤ 5)) := by
        unfold briefB; rw [h1]; simp only [Bool.not_false, Bool.true_and]; congr 1 <;> (apply decide_eq_decide.2; omega)
      rw [hb]
      exact ⟨_, _, rfl, rfl, by simp_all; try omega⟩
def dotI (lamp r : List Int) : Int := sumI (List.zipWith (fun x y => x * y) lamp r)
theorem dot_succ {lamp r : List Int} {k : Nat} {w x : Int} (hw : lamp[k]? = some w) (hx : r[k]? = some x) : dotI (lamp.take (k + 1)) (r.take (k + 1)) = dotI (lamp.take k) (r.take k) + w * x := by
  unfold dotI
  rw [List.take_add_one, List.take_add_one, hw, hx]
  have hl : (lamp.take k).length = (r.take k).length := by
    have h1 := (List.getElem?_eq_some_iff.1 hw).1
    have h2 := (List.getElem?_eq_some_iff.1 hx).1
    simp; omega
  simp only [Option.toList]
  rw [List.zipWith_append hl, sumI_append]
  simp [sumI]
theorem dot_bd {lamp r : List Int} (hl : ∀ x ∈ lamp, -9 ≤ x ∧ x ≤ 9) (hr : ∀ x ∈ r, 0 ≤ x ∧ x ≤ 100) : -900 * (lamp.length : Int) ≤ dotI lamp r ∧ dotI lamp r ≤ 900 * (lamp.length : Int) := by
  have := sumI_bd (c := 900) (l := List.zipWith (fun x y => x * y) lamp r) fun z hz => by
    obtain ⟨i, hi⟩ := List.mem_iff_getElem?.1 hz
    rw [List.getElem?_zipWith] at hi
    cases h1 : lamp[i]? with
    | none => rw [h1] at hi; simp at hi
    | some w =>
      cases h2 : r[i]? with
      | none => rw [h1, h2] at hi; simp at hi
      | some x =>
        rw [h1, h2] at hi
        simp only [Option.some.injEq] at hi
        subst hi
        have g1 := hl w (List.mem_of_getElem? h1)
        have g2 := hr x (List.mem_of_getElem? h2)
        have := mul_bd (a := 9) (b := 100) (x := w) (n := x) (by omega) (by omega)
        omega
  have h2 : (List.zipWith (fun x y : Int => x * y) lamp r).length ≤ lamp.length := by simp; omega
  unfold dotI; omega
theorem f83 (lamp r : List Int) (hl : r.length = lamp.length) (h1000 : r.length ≤ 1000) (hw : ∀ x ∈ lamp, -9 ≤ x ∧ x ≤ 9) (hr : ∀ x ∈ r, 0 ≤ x ∧ x ≤ 100) : ACalls Tryz.prog 83 [eLamp lamp, eInts r] (fun v => v = .pv (vi (dotI lamp r))) := by
  refine ACalls.of_body hT Tryz.func83 rfl (by kernel_rfl) rfl ?_
  (repeat (refine stq ?_))
  refine AW_if rfl (fun hc => absurd hc (by omega)) (fun _ => ?_)
  (repeat (refine stq ?_))
  refine AW_loopC (fun k : Nat => k ≤ r.length) (fun k => mkSt [(1, .pv (eInts r)), (2, .box 0 0), (5, .pv (vi (dotI (lamp.take k) (r.take k)))), (6, .pv (vi k))] [(0, .box [.pv (eInts lamp)])] 1) (fun k => r.length - k) 0 (Nat.zero_le _) ?_ ?_
  · (refine Le.mk ?_ ?_; all_goals (repeat' (first | exact trivial | refine sle ?_ | refine ⟨?_, rfl, ?_⟩ | refine ⟨?_, by decide, rfl, ?_⟩ | fail)))
  · intro k hk
    (repeat (refine stq ?_))
    refine AW_if rfl (fun hc => ?_) (fun hc => ?_)
    · have hk' : k < r.length := by omega
      obtain ⟨x, hx⟩ : ∃ x, r[k]? = some x := ⟨r[k], by simp [hk']⟩
      obtain ⟨w, hwx⟩ : ∃ w, lamp[k]? = some w := ⟨lamp[k]'(by omega), by simp⟩
      have e1 := get_map eInt hx
      have e2 := get_map eInt hwx
      have hxb := hr x (List.mem_of_getElem? hx)
      have hwb := hw w (List.mem_of_getElem? hwx)
      have p := mul_bd (a := 9) (b := 100) (x := w) (n := x) (by omega) (by omega)
      have m1 : -9223372036854775808 ≤ w * x ∧ w * x ≤ 9223372036854775807 := by omega
      have hsn := dot_succ hwx hx
      have hdb := dot_bd (lamp := lamp.take k) (r := r.take k) (fun y hy => hw y (List.mem_of_mem_take hy)) (fun y hy => hr y (List.mem_of_mem_take hy))
      have hdl : (lamp.take k).length ≤ 1000 := by simp; omega
      (repeat' (first | refine stq ?_ | (with_reducible refine AL_id ?_); (fail_if_success (refine AL_glit rfl rfl rfl (by first | exact .inl (by with_reducible rfl) | exact .inr (by with_reducible rfl)) ?_)); first | refine AL_gdec rfl rfl rfl (fun hg => ?_) (fun hg => ?_) | refine AL_gnot rfl rfl rfl (fun hg => ?_) (fun hg => ?_) | refine AL_gcases rfl rfl rfl (fun hg => ?_) (fun hg => ?_)))
      all_goals (try (exfalso; omega))
      refine AW_if rfl (fun hc2 => absurd hc2 (by omega)) (fun _ => ?_)
      (repeat (refine stq ?_))
      (repeat (refine sdq ?_))
      refine DG_end hM (by kernel_rfl) ?_
      (repeat (refine stq ?_))
      refine ⟨k + 1, hk', by omega, ?_⟩
      (refine Le.mk ?_ ?_; all_goals (repeat' (first | exact trivial | refine sle ?_ | refine ⟨?_, rfl, ?_⟩ | refine ⟨?_, by decide, rfl, ?_⟩ | fail)))
      show some (FV.pv (vi (dotI (lamp.take k) (r.take k) + w * x))) = some (FV.pv (vi (dotI (lamp.take (k + 1)) (r.take (k + 1)))))
      rw [hsn]
    · have hk' : k = r.length := by omega
      subst hk'
      rw [List.take_length, hl, List.take_length]
      (repeat (refine stq ?_))
      exact ⟨_, _, rfl, rfl, rfl⟩
theorem f86 (h : List Dye) (l : List Bath) (ts : List (List Int)) (hs : List Int) (hH : HouseP h) (hB : BatchP h l) (c3 : truthB h l ts hs = true) (c4 : fitsB h l ts hs = true) : ACalls Tryz.prog 86 [eHouse h, eBaths l, eTruth ts hs] (fun r => r = .own 3 1 ((runGo l hs h ts 0).map eInt)) := by
  have hlen := truth_len c3
  have hh3 := hH.1
  have hl4 := hB.1
  have hfh := fits_hours hB c4
  have hft : fitsT ts h = true := by simp only [fitsB, Bool.and_eq_true] at c4; exact c4.1
  refine ACalls.of_body hT Tryz.func86 rfl (by kernel_rfl) rfl ?_
  (repeat (refine stq ?_))
  refine AW_own_nil (e := 3) (sz := 1) (t := 7) rfl rfl ?_
  (repeat (refine stq ?_))
  refine AW_loopC (fun k : Nat => k ≤ h.length) (fun k => mkSt [(1, .pv (eBaths l)), (3, .box 0 0), (5, .box 1 0), (7, .arr 2), (8, .pv (vi k))] (trO h ts hs ++ [(2, .arr 3 1 ((runGo l hs (h.take k) ts 0).map eInt))]) 3) (fun k => h.length - k) 0 (Nat.zero_le _) ?_ ?_
  · (refine Le.mk ?_ ?_; all_goals (repeat' (first | exact trivial | refine sle ?_ | refine ⟨?_, rfl, ?_⟩ | refine ⟨?_, by decide, rfl, ?_⟩ | fail)))
  · intro k hk
    have hrl := runGo_len l hs (h.take k) ts 0
    have hrl2 : (h.take k).length ≤ 3 := by simp; omega
    (repeat (refine stq ?_))
    refine AW_if rfl (fun hc => ?_) (fun hc => ?_)
    · have hk' : k < h.length := by omega
      obtain ⟨d, hd⟩ : ∃ d, h[k]? = some d := ⟨h[k], by simp [hk']⟩
      obtain ⟨t, htx⟩ : ∃ t, ts[k]? = some t := ⟨ts[k]'(by omega), by simp⟩
      have e2 := get_map eIntsC htx
      have hsn := runGo_succ l hs h ts 0 k d t hd htx
      rw [Int.zero_add] at hsn
      have hdm := hH.2.2 d (List.mem_of_getElem? hd)
      have htl := hlen.2.2 t (List.mem_of_getElem? htx)
      have k111 := f111 h k t l hs d (by simpa using hd) (by omega) (by omega) (by omega) (fun b hb _ => by have := hB.2 b hb; unfold BathP at this; omega) hfh.2 (inS_small (fitsT_get hft k t d htx hd) hdm.2.2.2)
      (repeat (refine stq ?_))
      (repeat (first | refine sdq ?_ | refine DG_next (D_call rfl rfl rfl rfl rfl (k111)) ?_))
      refine DG_end hM (by kernel_rfl) ?_
      (repeat (refine stq ?_))
      refine ⟨k + 1, hk', by omega, ?_⟩
      (refine Le.mkR [(2, 3)] ?_ ?_ rfl; all_goals (repeat' (first | exact trivial | refine sle ?_ | refine ⟨?_, rfl, ?_⟩ | refine ⟨?_, by decide, rfl, ?_⟩ | fail)))
      rw [hsn, List.map_append]; rfl
    · have hk' : k = h.length := by omega
      subst hk'
      (repeat (refine stq ?_))
      exact ⟨_, _, rfl, rfl, by simp⟩
end Go.Abs
