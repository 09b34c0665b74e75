/- DyeRipes. -/
import Derived.Test.YtkmclnjmabljdaaGreatDoorNeX
import Derived.Test.YtkmclnjmabljdaaGreatDoorNeW
set_option linter.unusedVariables false
set_option linter.unusedSimpArgs false
namespace Go.Abs
open Go.Proofs
set_option linter.unusedVariables false
set_option linter.unusedSimpArgs false
set_option maxRecDepth 100000

theorem f177 (l : List Bath) (x : Bath) (hl : l.length ≤ 1000) : ACalls Tryz.prog 177 [eBaths l, .agg (eBath x)] (fun r => r = .own 154 4 ((l ++ [x]).map eBath)) := by
  refine ACalls.of_body hT Tryz.func177 rfl (by kernel_rfl) rfl ?_
  (repeat (refine stp ?_))
  (repeat (first | refine DG_next (D_append_nil (e := 154) (sz := 4) hT rfl rfl rfl rfl rfl rfl rfl rfl rfl rfl rfl (by intro y hy; (first | (simp only [List.mem_cons, List.not_mem_nil, or_false] at hy; subst hy; rfl) | (simp only [List.mem_cons, List.not_mem_nil, or_false] at hy; rcases hy with hy | hy <;> subst hy <;> rfl) | (obtain ⟨_, _, rfl⟩ := List.mem_map.1 hy; rfl) | (cases hy))) (by simp only [List.length_map, List.length_take, List.length_cons, List.length_nil, List.length_append]; omega) rfl) ?_ | refine sdr ?_))
  refine DG_end hM (by kernel_rfl) ?_
  (repeat (refine stp ?_))
  exact ⟨_, _, rfl, rfl, by rw [List.map_append]; rfl⟩
def readyB (s want : Span) : Bool := decide (s.low ≥ want.low) && decide (s.high ≤ want.high)
theorem f125 (h : List Dye) (lamp : List Int) (l : List Bath) (dye temper n : Int) (want : Span) (hh : HouseP h) (hL : LampP h lamp) (hl : l.length ≤ 1000) (hl' : BatchP h (l ++ [⟨dye, temper, ⟨n, n⟩⟩])) :
    ACalls Tryz.prog 125 [eHouse h, eLamp lamp, eBaths l, vi dye, vi temper, vi n, eS want] (fun r => r = .pv (.bool (ripeOk h lamp l dye temper want n))) := by
  have k177 := (f177 l ⟨dye, temper, ⟨n, n⟩⟩ hl).pure
  have k70 := f70 h lamp _ hh hL hl'
  rw [look_eq hh hl'] at k70
  refine ACalls.of_body hT Tryz.func125 rfl (by kernel_rfl) rfl ?_
  refine AW_res ?_
  (repeat (refine stp ?_))
  (repeat (first | refine DG_next (D_alloc (F := 0) hT rfl rfl rfl rfl rfl) ?_ | refine sdr ?_ | refine DG_next (D_call rfl rfl rfl rfl rfl (k177)) ?_ | refine DG_next (D_call rfl rfl rfl rfl rfl (k70)) ?_))
  refine DG_end hM (by kernel_rfl) ?_
  unfold ripeOk
  generalize lookI h lamp (l ++ [⟨dye, temper, ⟨n, n⟩⟩]) = s
  (repeat' (first | refine stp ?_ | refine AL_gdec rfl rfl rfl (fun hg => ?_) (fun hg => ?_) | refine AL_gnot rfl rfl rfl (fun hg => ?_) (fun hg => ?_) | refine AL_gcases rfl rfl rfl (fun hg => ?_) (fun hg => ?_)))
  all_goals exact ⟨_, _, rfl, rfl, by simp_all; try omega⟩
/-- The reference's search for the greatest number from one on. -/
def upTo (ok : Int → Bool) : Nat → Int → Int
  | 0, m => m
  | f + 1, m => if ok (m + 1) then upTo ok f (m + 1) else m
def firstOk (ok : Int → Bool) : Nat → Int → Option Span
  | 0, _ => none
  | f + 1, n => if ok n then some ⟨n, upTo ok f n⟩ else firstOk ok f (n + 1)
theorem ripeGo_some (ok : Int → Bool) : ∀ (f : Nat) (a m : Int), ripeGo ok f (m + 1) (some ⟨a, m⟩) = some ⟨a, upTo ok f m⟩
  | 0, a, m => rfl
  | f + 1, a, m => by
    simp only [ripeGo, upTo]
    split
    · exact ripeGo_some ok f a (m + 1)
    · rfl
theorem ripeGo_none (ok : Int → Bool) : ∀ (f : Nat) (n : Int), ripeGo ok f n none = firstOk ok f n
  | 0, n => rfl
  | f + 1, n => by
    simp only [ripeGo, firstOk]
    split
    · exact ripeGo_some ok f n n
    · exact ripeGo_none ok f (n + 1)
def ripeR (ok : Int → Bool) : Span := (firstOk ok 13 0).getD ⟨-1, -1⟩
set_option maxHeartbeats 600000 in
theorem f45 (h : List Dye) (lamp : List Int) (l : List Bath) (dye temper : Int) (want : Span) (hh : HouseP h) (hL : LampP h lamp) (hl : l.length ≤ 1000) (hl' : ∀ n : Int, 0 ≤ n → n ≤ 12 → BatchP h (l ++ [⟨dye, temper, ⟨n, n⟩⟩])) :
    ACalls Tryz.prog 45 [eHouse h, eLamp lamp, eBaths l, vi dye, vi temper, eS want] (fun r => r = .pv (eS (ripeR (ripeOk h lamp l dye temper want)))) := by
  have kR : ∀ n : Int, 0 ≤ n → n ≤ 12 → ACalls Tryz.prog 125 [eHouse h, eLamp lamp, eBaths l, vi dye, vi temper, vi n, eS want] (fun r => r = .pv (.bool (ripeOk h lamp l dye temper want n))) := fun n h0 h1 => f125 h lamp l dye temper n want hh hL hl (hl' n h0 h1)
  generalize ripeOk h lamp l dye temper want = ok at kR ⊢
  refine ACalls.of_body hT Tryz.func45 rfl (by kernel_rfl) rfl ?_
  (repeat (refine stp ?_))
  refine AW_loopC (fun k : Nat => k ≤ 13 ∧ firstOk ok 13 0 = firstOk ok (13 - k) k) (fun k => mkSt [(2, .pv (eBaths l)), (3, .pv (vi dye)), (4, .pv (vi temper)), (6, .box 0 0), (7, .box 1 0), (11, .box 2 0), (12, .box 3 0), (13, .pv (vi k))]
    [(0, .box [.pv (.sl (h.map eDye))]), (1, .box [.pv (eInts lamp)]), (2, .box [.pv (vi want.low), .pv (vi want.high)]), (3, .box [.pv (vi 0), .pv (vi 0)])] 4) (fun k => 13 - k) 0 ⟨by omega, rfl⟩ ?_ ?_
  · (refine Le.mk ?_ ?_; all_goals (repeat' (first | exact trivial | refine sle ?_ | refine ⟨?_, rfl, ?_⟩ | refine ⟨?_, by decide, rfl, ?_⟩ | fail)))
  · rintro k ⟨hk, hgo⟩
    (repeat (refine stp ?_))
    refine AW_if rfl (fun hc => ?_) (fun hc => ?_)
    · have hk' : k < 13 := by omega
      have hgo2 : firstOk ok (13 - k) k = if ok k then some ⟨k, upTo ok (13 - (k + 1)) k⟩ else firstOk ok (13 - (k + 1)) ((k + 1 : Nat) : Int) := by
        rw [show 13 - k = (13 - (k + 1)) + 1 by omega]; simp [firstOk]
      (repeat' (first | refine stp ?_ | (refine AL_do2 rfl ?_; first | refine ⟨_, op_call1 rfl rfl rfl rfl (kR k (by omega) (by omega)), ?_⟩) | refine AL_gdec rfl rfl rfl (fun hg => ?_) (fun hg => ?_) | refine AL_gnot rfl rfl rfl (fun hg => ?_) (fun hg => ?_) | refine AL_gcases rfl rfl rfl (fun hg => ?_) (fun hg => ?_)))
      refine AW_cond rfl (fun hc2 => ?_) (fun hc2 => ?_)
      · have hok : ok k = false := by simpa using hc2
        rw [hok] at hgo2
        (repeat (refine stp ?_))
        refine ⟨k + 1, ⟨by omega, by rw [hgo, hgo2]; simp⟩, by omega, ?_⟩
        (refine Le.mk ?_ ?_; all_goals (repeat' (first | exact trivial | refine sle ?_ | refine ⟨?_, rfl, ?_⟩ | refine ⟨?_, by decide, rfl, ?_⟩ | fail)))
      · have hok : ok k = true := by simpa using hc2
        rw [hok] at hgo2
        (repeat (refine stp ?_))
        refine AW_loopC (fun j : Nat => k ≤ j ∧ j ≤ 12 ∧ upTo ok (13 - (k + 1)) k = upTo ok (12 - j) j) (fun j => mkSt [(2, .pv (eBaths l)), (3, .pv (vi dye)), (4, .pv (vi temper)), (6, .box 0 0), (7, .box 1 0), (11, .box 2 0), (12, .box 3 0), (13, .pv (vi k)), (14, .pv (vi j))]
          [(0, .box [.pv (.sl (h.map eDye))]), (1, .box [.pv (eInts lamp)]), (2, .box [.pv (vi want.low), .pv (vi want.high)]), (3, .box [.pv (vi 0), .pv (vi 0)])] 4) (fun j => 12 - j) k ⟨by omega, by omega, by rw [show 13 - (k + 1) = 12 - k by omega]⟩ ?_ ?_
        · (refine Le.mk ?_ ?_; all_goals (repeat' (first | exact trivial | refine sle ?_ | refine ⟨?_, rfl, ?_⟩ | refine ⟨?_, by decide, rfl, ?_⟩ | fail)))
        · rintro j ⟨hj0, hj1, hup⟩
          have hres : upTo ok (13 - (k + 1)) k = (j : Int) → ripeR ok = ⟨k, j⟩ := fun he => by unfold ripeR; rw [hgo, hgo2, if_pos rfl, he]; rfl
          by_cases hj : j = 12
          · have he : upTo ok (13 - (k + 1)) k = (j : Int) := by rw [hup, hj]; rfl
            subst hj
            (repeat' (first | refine stp ?_ | refine AL_gdec rfl rfl rfl (fun hg => ?_) (fun hg => ?_) | refine AL_gnot rfl rfl rfl (fun hg => ?_) (fun hg => ?_) | refine AL_gcases rfl rfl rfl (fun hg => ?_) (fun hg => ?_)))
            refine ⟨_, _, rfl, rfl, ?_⟩
            rw [hres he]; rfl
          · have hj2 : j < 12 := by omega
            have hup2 : upTo ok (12 - j) j = if ok ((j : Int) + 1) then upTo ok (12 - (j + 1)) ((j + 1 : Nat) : Int) else j := by
              rw [show 12 - j = (12 - (j + 1)) + 1 by omega]; simp [upTo]
            (repeat' (first | refine stp ?_ | (refine AL_do2 rfl ?_; first | refine ⟨_, op_call1 rfl rfl rfl rfl (kR ((j : Int) + 1) (by omega) (by omega)), ?_⟩) | refine AL_gdec rfl rfl rfl (fun hg => ?_) (fun hg => ?_) | refine AL_gnot rfl rfl rfl (fun hg => ?_) (fun hg => ?_) | refine AL_gcases rfl rfl rfl (fun hg => ?_) (fun hg => ?_)))
            · refine AW_cond rfl (fun hc3 => ?_) (fun hc3 => ?_)
              · (repeat (refine stp ?_))
                refine ⟨j + 1, ⟨by omega, by omega, by rw [hup, hup2, if_pos hc3]⟩, by omega, ?_⟩
                (refine Le.mk ?_ ?_; all_goals (repeat' (first | exact trivial | refine sle ?_ | refine ⟨?_, rfl, ?_⟩ | refine ⟨?_, by decide, rfl, ?_⟩ | fail)))
              · have he : upTo ok (13 - (k + 1)) k = (j : Int) := by rw [hup, hup2, if_neg (by simp [hc3])]
                (repeat (refine stp ?_))
                refine ⟨_, _, rfl, rfl, ?_⟩
                rw [hres he]; rfl
            · exfalso; omega
    · have hk' : k = 13 := by omega
      subst hk'
      (repeat (refine stp ?_))
      refine ⟨_, _, rfl, rfl, ?_⟩
      unfold ripeR; rw [hgo]; rfl
theorem f41 (h : List Dye) (l : List Bath) (lamp : List Int) (hh : houseOK h) (hl : l.length ≤ 1000) (hlm : lamp.length ≤ 1000) : ACalls Tryz.prog 41 [eHouse h, eBaths l, eLamp lamp] (fun r => r = .pv (.bool (isHouseB h && isBatchB h l && isLampB h lamp))) := by
  refine ACalls.of_body hT Tryz.func41 rfl (by kernel_rfl) rfl ?_
  (repeat' (first | refine stp ?_ | (refine AL_do2 rfl ?_; first | refine ⟨_, op_call1 rfl rfl rfl rfl (f30 h hh), ?_⟩ | refine ⟨_, op_call1 rfl rfl rfl rfl (f31 h l hh.1 hl), ?_⟩ | refine ⟨_, op_call1 rfl rfl rfl rfl (f119 h lamp hh.1 hlm), ?_⟩) | refine AL_gdec rfl rfl rfl (fun hg => ?_) (fun hg => ?_) | refine AL_gnot rfl rfl rfl (fun hg => ?_) (fun hg => ?_) | refine AL_gcases rfl rfl rfl (fun hg => ?_) (fun hg => ?_)))
  all_goals exact ⟨_, _, rfl, rfl, by simp_all⟩
theorem ok_all {ok : Int → Bool} {x : Span} (h : firstOk ok 13 0 = some x) : 0 ≤ x.low := by
  have key : ∀ (f : Nat) (n : Int), 0 ≤ n → ∀ x, firstOk ok f n = some x → 0 ≤ x.low := by
    intro f
    induction f with
    | zero => intro n _ x h; cases h
    | succ f ih =>
      intro n hn x h
      simp only [firstOk] at h
      split at h
      · cases h; exact hn
      · exact ih (n + 1) (by omega) x h
  exact key 13 0 (Int.le_refl _) x h
set_option maxHeartbeats 1000000 in
theorem f5 (h : List Dye) (lamp : List Int) (l : List Bath) (d temper : Int) (want : Span) : ACalls Tryz.prog 5 [eHouse h, eLamp lamp, eBaths l, vi d, vi temper, eS want] (fun r => r = .pv (.bool true)) := by
  have k27 := f27 h
  refine ACalls.of_body hT Tryz.func5 rfl (by kernel_rfl) rfl ?_
  by_cases hs : slimB h = true ∧ l.length ≤ 5 ∧ lamp.length ≤ 5
  · obtain ⟨hs, hll, hlm⟩ := hs
    rw [hs] at k27
    have hOK := slim_houseOK hs
    have k40 := f40 h lamp l d temper want hOK (by omega) (by omega)
    have k41 := f41 h l lamp hOK (by omega) (by omega)
    have k42 := f42 h d hOK.1
    have k43 := f43 temper
    have k44 := f44 want
    by_cases hw : (isHouseB h && isLampB h lamp && isBatchB h l && decide (l.length ≠ 3) && inB d 0 (h.length - 1) && inB temper 0 2 && isWishB want) = true
    · have e : ripeI h lamp l d temper want = match ripeGo (ripeOk h lamp l d temper want) 13 0 none with
        | some s => (s, 0)
        | none => (⟨0, 0⟩, 5) := by unfold ripeI; rw [if_pos hw]; rfl
      rw [e, ripeGo_none] at k40
      simp only [Bool.and_eq_true, decide_eq_true_eq] at hw
      obtain ⟨⟨⟨⟨⟨⟨w1, w2⟩, w3⟩, w4⟩, w5⟩, w6⟩, w7⟩ := hw
      have hH := houseP_of w1
      have hL := lampP_of w2
      have hB := batchP_of w3
      have hb3 : l.length ≤ 3 := by
        have := w3
        simp only [isBatchB, Bool.and_eq_true, decide_eq_true_eq] at this; exact this.1
      have hB' : ∀ n : Int, 0 ≤ n → n ≤ 12 → BatchP h (l ++ [⟨d, temper, ⟨n, n⟩⟩]) := by
        intro n h0 h1
        have v5 := w5; have v6 := w6
        simp only [inB, Bool.and_eq_true, decide_eq_true_eq] at v5 v6
        refine ⟨by simp; omega, fun b hb => ?_⟩
        rcases List.mem_append.1 hb with hb | hb
        · exact hB.2 b hb
        · simp only [List.mem_singleton] at hb; subst hb; unfold BathP; simp only; omega
      have k45 := f45 h lamp l d temper want hH hL (by omega) hB'
      unfold ripeR at k45
      rw [w1, w2, w3] at k41
      rw [w5] at k42; rw [w6] at k43; rw [w7] at k44
      have hl3 : ¬ (l.length : Int) ≥ 3 := by omega
      cases hf : firstOk (ripeOk h lamp l d temper want) 13 0 with
      | none =>
        rw [hf] at k40 k45
        have k40' : ACalls Tryz.prog 40 [eHouse h, eLamp lamp, eBaths l, vi d, vi temper, eS want] (fun r => r = .tup [eS ⟨0, 0⟩, vi 5]) := k40
        have k45' : ACalls Tryz.prog 45 [eHouse h, eLamp lamp, eBaths l, vi d, vi temper, eS want] (fun r => r = .pv (eS ⟨-1, -1⟩)) := k45
        (repeat' (first | refine stp ?_ | (refine AL_do2 rfl ?_; first | refine ⟨_, op_call1 rfl rfl rfl rfl (k27), ?_⟩ | refine ⟨_, op_call1 rfl rfl rfl rfl (f28), ?_⟩) | refine AL_gdec rfl rfl rfl (fun hg => ?_) (fun hg => ?_) | refine AL_gnot rfl rfl rfl (fun hg => ?_) (fun hg => ?_) | refine AL_gcases rfl rfl rfl (fun hg => ?_) (fun hg => ?_)))
        any_goals (exfalso; omega)
        refine AW_if rfl (fun hc => absurd hc (by omega)) (fun _ => ?_)
        (repeat' (first | refine stp ?_ | (refine AL_do2 rfl ?_; first | refine ⟨_, op_call1 rfl rfl rfl rfl (k40'), ?_⟩ | refine ⟨_, op_call1 rfl rfl rfl rfl (k41), ?_⟩ | refine ⟨_, op_call1 rfl rfl rfl rfl (k42), ?_⟩ | refine ⟨_, op_call1 rfl rfl rfl rfl (k43), ?_⟩ | refine ⟨_, op_call1 rfl rfl rfl rfl (k44), ?_⟩ | refine ⟨_, op_call1 rfl rfl rfl rfl (k45'), ?_⟩ | refine ⟨_, op_eqlS (ms := [0, 0]) (ns := [0, 0]) aggEq37 rfl rfl rfl rfl rfl rfl, ?_⟩ | refine ⟨_, op_call1 rfl rfl rfl rfl (f28), ?_⟩) | refine AL_gdec rfl rfl rfl (fun hg => ?_) (fun hg => ?_) | refine AL_gnot rfl rfl rfl (fun hg => ?_) (fun hg => ?_) | refine AL_gcases rfl rfl rfl (fun hg => ?_) (fun hg => ?_)))
        any_goals (exfalso; omega)
        exact ⟨_, _, rfl, rfl, rfl⟩
      | some x =>
        rw [hf] at k40 k45
        have hx0 := ok_all hf
        have k40' : ACalls Tryz.prog 40 [eHouse h, eLamp lamp, eBaths l, vi d, vi temper, eS want] (fun r => r = .tup [eS x, vi 0]) := k40
        have k45' : ACalls Tryz.prog 45 [eHouse h, eLamp lamp, eBaths l, vi d, vi temper, eS want] (fun r => r = .pv (eS x)) := k45
        have heq : decide ([x.low, x.high] = [x.low, x.high]) = true := decide_eq_true rfl
        (repeat' (first | refine stp ?_ | (refine AL_do2 rfl ?_; first | refine ⟨_, op_call1 rfl rfl rfl rfl (k27), ?_⟩ | refine ⟨_, op_call1 rfl rfl rfl rfl (f28), ?_⟩) | refine AL_gdec rfl rfl rfl (fun hg => ?_) (fun hg => ?_) | refine AL_gnot rfl rfl rfl (fun hg => ?_) (fun hg => ?_) | refine AL_gcases rfl rfl rfl (fun hg => ?_) (fun hg => ?_)))
        any_goals (exfalso; omega)
        refine AW_if rfl (fun hc => absurd hc (by omega)) (fun _ => ?_)
        (repeat' (first | refine stp ?_ | (refine AL_do2 rfl ?_; first | refine ⟨_, op_call1 rfl rfl rfl rfl (k40'), ?_⟩ | refine ⟨_, op_call1 rfl rfl rfl rfl (k41), ?_⟩ | refine ⟨_, op_call1 rfl rfl rfl rfl (k42), ?_⟩ | refine ⟨_, op_call1 rfl rfl rfl rfl (k43), ?_⟩ | refine ⟨_, op_call1 rfl rfl rfl rfl (k44), ?_⟩ | refine ⟨_, op_call1 rfl rfl rfl rfl (k45'), ?_⟩) | refine AL_gdec rfl rfl rfl (fun hg => ?_) (fun hg => ?_) | refine AL_gnot rfl rfl rfl (fun hg => ?_) (fun hg => ?_) | refine AL_gcases rfl rfl rfl (fun hg => ?_) (fun hg => ?_)))
        any_goals (exfalso; omega)
        refine AW_if rfl (fun hc => absurd hc (by omega)) (fun hc => ?_)
        (repeat' (first | refine stp ?_ | (refine AL_do2 rfl ?_; first | refine ⟨_, op_eqlS (ms := [x.low, x.high]) (ns := [x.low, x.high]) aggEq37 rfl rfl rfl rfl rfl rfl, ?_⟩ | refine ⟨_, op_call1 rfl rfl rfl rfl (f28), ?_⟩) | refine AL_gdec rfl rfl rfl (fun hg => ?_) (fun hg => ?_) | refine AL_gnot rfl rfl rfl (fun hg => ?_) (fun hg => ?_) | refine AL_gcases rfl rfl rfl (fun hg => ?_) (fun hg => ?_)))
        all_goals first
          | exact ⟨_, _, rfl, rfl, rfl⟩
          | (exfalso; simp_all; done)
    · have e : ripeI h lamp l d temper want = (⟨0, 0⟩, 2) := by unfold ripeI; rw [if_neg hw]
      rw [e] at k40
      (repeat' (first | refine stp ?_ | (refine AL_do2 rfl ?_; first | refine ⟨_, op_call1 rfl rfl rfl rfl (k27), ?_⟩ | refine ⟨_, op_call1 rfl rfl rfl rfl (f28), ?_⟩) | refine AL_gdec rfl rfl rfl (fun hg => ?_) (fun hg => ?_) | refine AL_gnot rfl rfl rfl (fun hg => ?_) (fun hg => ?_) | refine AL_gcases rfl rfl rfl (fun hg => ?_) (fun hg => ?_)))
      any_goals (exfalso; omega)
      refine AW_if rfl (fun hc => absurd hc (by omega)) (fun _ => ?_)
      (repeat' (first | refine stp ?_ | (refine AL_do2 rfl ?_; first | refine ⟨_, op_call1 rfl rfl rfl rfl (k40), ?_⟩ | refine ⟨_, op_call1 rfl rfl rfl rfl (k41), ?_⟩ | refine ⟨_, op_call1 rfl rfl rfl rfl (k42), ?_⟩ | refine ⟨_, op_call1 rfl rfl rfl rfl (k43), ?_⟩ | refine ⟨_, op_call1 rfl rfl rfl rfl (k44), ?_⟩ | refine ⟨_, op_eqlS (ms := [0, 0]) (ns := [0, 0]) aggEq37 rfl rfl rfl rfl rfl rfl, ?_⟩ | refine ⟨_, op_call1 rfl rfl rfl rfl (f28), ?_⟩) | refine AL_gdec rfl rfl rfl (fun hg => ?_) (fun hg => ?_) | refine AL_gnot rfl rfl rfl (fun hg => ?_) (fun hg => ?_) | refine AL_gcases rfl rfl rfl (fun hg => ?_) (fun hg => ?_)))
      all_goals (first | exact ⟨_, _, rfl, rfl, rfl⟩ | skip)
      refine AW_cond rfl (fun hc => ?_) (fun hc => ?_)
      · (repeat' (first | refine stp ?_ | (refine AL_do2 rfl ?_; first | refine ⟨_, op_eqlS (ms := [0, 0]) (ns := [0, 0]) aggEq37 rfl rfl rfl rfl rfl rfl, ?_⟩ | refine ⟨_, op_call1 rfl rfl rfl rfl (f28), ?_⟩) | refine AL_gdec rfl rfl rfl (fun hg => ?_) (fun hg => ?_) | refine AL_gnot rfl rfl rfl (fun hg => ?_) (fun hg => ?_) | refine AL_gcases rfl rfl rfl (fun hg => ?_) (fun hg => ?_)))
        exact ⟨_, _, rfl, rfl, rfl⟩
      · exfalso
        apply hw
        have h3 : l.length ≠ 3 := by omega
        simp_all
  · (repeat' (first | refine stp ?_ | (refine AL_do2 rfl ?_; first | refine ⟨_, op_call1 rfl rfl rfl rfl (k27), ?_⟩ | refine ⟨_, op_call1 rfl rfl rfl rfl (f28), ?_⟩) | refine AL_gdec rfl rfl rfl (fun hg => ?_) (fun hg => ?_) | refine AL_gnot rfl rfl rfl (fun hg => ?_) (fun hg => ?_) | refine AL_gcases rfl rfl rfl (fun hg => ?_) (fun hg => ?_)))
    all_goals (first | exact ⟨_, _, rfl, rfl, rfl⟩ | skip)
    refine AW_if rfl (fun hc => ?_) (fun hc => ?_)
    · (repeat' (first | refine stp ?_ | (refine AL_do2 rfl ?_; first | refine ⟨_, op_call1 rfl rfl rfl rfl (f28), ?_⟩) | refine AL_gdec rfl rfl rfl (fun hg => ?_) (fun hg => ?_) | refine AL_gnot rfl rfl rfl (fun hg => ?_) (fun hg => ?_) | refine AL_gcases rfl rfl rfl (fun hg => ?_) (fun hg => ?_)))
      exact ⟨_, _, rfl, rfl, rfl⟩
    · exact absurd ⟨by simp_all, by omega, by omega⟩ hs
end Go.Abs
