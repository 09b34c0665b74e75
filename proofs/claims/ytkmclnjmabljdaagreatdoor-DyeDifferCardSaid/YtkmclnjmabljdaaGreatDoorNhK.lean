/- Differences of looks in truth: plain laws. -/
import Derived.Test.YtkmclnjmabljdaaGreatDoorNhU
set_option linter.unusedVariables false
set_option linter.unusedSimpArgs false
namespace Go.Abs
open Go.Proofs
set_option linter.unusedVariables false
set_option linter.unusedSimpArgs false
set_option maxRecDepth 100000

/-- A difference of looks in truth is one of all. -/
theorem apartGo_in (a b : List Bath) : ∀ (h : List Dye) (ws r q : List Int) (i n0 : Int) (out : List Int), n0 ∈ out → (∀ (k : Nat) d x y, h[k]? = some d → r[k]? = some x → q[k]? = some y → x - y ∈ eachL d (i + k) a b) → ws.length = h.length → r.length = h.length → q.length = h.length →
    n0 + (sumI (List.zipWith (fun x y => x * y) ws r) - sumI (List.zipWith (fun x y => x * y) ws q)) ∈ apartGo a b h ws i out
  | [], ws, r, q, i, n0, out, h0, _, hw, hr, hq => by
    have e1 : ws = [] := List.length_eq_zero_iff.1 hw
    subst e1; simpa [apartGo, sumI] using h0
  | d :: h, [], r, q, i, n0, out, _, _, hw, _, _ => by simp at hw
  | d :: h, w :: ws, [], q, i, n0, out, _, _, _, hr, _ => by simp at hr
  | d :: h, w :: ws, x :: r, [], i, n0, out, _, _, _, _, hq => by simp at hq
  | d :: h, w :: ws, x :: r, y :: q, i, n0, out, h0, hk, hw, hr, hq => by
    have h1 := hk 0 d x y rfl rfl rfl
    rw [show i + ((0 : Nat) : Int) = i by simp] at h1
    have ih := apartGo_in a b h ws r q (i + 1) (n0 + w * (x - y)) (out.flatMap fun n => (eachL d i a b).map fun m => n + w * m) (List.mem_flatMap.2 ⟨n0, h0, List.mem_map.2 ⟨_, h1, rfl⟩⟩)
      (fun k e u v hd hu hv => by
        have := hk (k + 1) e u v (by simpa using hd) (by simpa using hu) (by simpa using hv)
        rwa [show i + ((k + 1 : Nat) : Int) = i + 1 + (k : Int) by omega] at this) (by simpa using hw) (by simpa using hr) (by simpa using hq)
    simp only [apartGo, List.zipWith_cons_cons, sumI] at ih ⊢
    have e : n0 + (w * x + sumI (List.zipWith (fun x y => x * y) ws r) - (w * y + sumI (List.zipWith (fun x y => x * y) ws q))) = n0 + w * (x - y) + (sumI (List.zipWith (fun x y => x * y) ws r) - sumI (List.zipWith (fun x y => x * y) ws q)) := by
      rw [Int.mul_sub]; omega
    rw [e]; exact ih
theorem differ_in {h : List Dye} {lamp : List Int} {a b : List Bath} {ts : List (List Int)} {hs hs2 : List Int} (hH : HouseP h) (hL : LampP h lamp) (hA : BatchP h a) (hB : BatchP h b) (c1 : truthB h a ts hs = true) (c2 : truthB h b ts hs2 = true) (f1 : fitsB h a ts hs = true) (f2 : fitsB h b ts hs2 = true) :
    dotI lamp (runGo a hs h ts 0) - dotI lamp (runGo b hs2 h ts 0) ∈ apartL h lamp a b := by
  have l1 := truth_len c1
  have l2 := truth_len c2
  have g1 := runGo_len_eq a hs h ts 0 l1.1
  have g2 := runGo_len_eq b hs2 h ts 0 l1.1
  have ft : fitsT ts h = true := by simp only [fitsB, Bool.and_eq_true] at f1; exact f1.1
  have h1 := (fits_hours hA f1).1
  have h2 := (fits_hours hB f2).1
  have := apartGo_in a b h lamp (runGo a hs h ts 0) (runGo b hs2 h ts 0) 0 0 [0] (by simp) (fun k d x y hd hx hy => by
    have hk : k < h.length := (List.getElem?_eq_some_iff.1 hd).1
    have ht : ts[k]? = some (ts[k]'(by omega)) := by simp
    have e1 := runGo_get a hs h ts 0 k d _ hd ht
    have e2 := runGo_get b hs2 h ts 0 k d _ hd ht
    rw [hx] at e1; rw [hy] at e2
    cases e1; cases e2
    exact List.mem_flatMap.2 ⟨_, numsL_mem.2 (fitsT_get ft k _ d ht hd), diffL_mem.2 ⟨_, (depthsL_mem hA _).2 ⟨hs, h1, rfl⟩, _, (depthsL_mem hB _).2 ⟨hs2, h2, rfl⟩, rfl⟩⟩) hL.1 g1 g2
  simpa [dotI, apartL] using this
theorem differ_facts {h : List Dye} {lamp : List Int} {a b : List Bath} {eye : Span} {n e : Int} (hn : n ∈ apartL h lamp a b) (he : eye.low ≤ e ∧ e ≤ eye.high) :
    (spanOf (apartL h lamp a b)).low ≤ n ∧ n ≤ (spanOf (apartL h lamp a b)).high ∧ (alikeI h lamp a b eye = 1 ∧ (e < n ∨ n < -e) ∨ alikeI h lamp a b eye = 2 ∨ alikeI h lamp a b eye = 3 ∧ n ≤ e ∧ -e ≤ n) := by
  have h1 := (span_mem (List.ne_nil_of_mem hn)).2.2 n hn
  refine ⟨h1.1, h1.2, ?_⟩
  unfold alikeI wordI
  cases q1 : ((apartL h lamp a b).any fun n => decide (max n (-n) > eye.low)) with
  | false =>
    have := List.any_eq_false.1 q1 n hn
    simp only [decide_eq_true_eq] at this
    exact .inr (.inr ⟨rfl, by omega, by omega⟩)
  | true =>
    cases q2 : ((apartL h lamp a b).any fun n => decide (max n (-n) ≤ eye.high)) with
    | false =>
      have := List.any_eq_false.1 q2 n hn
      simp only [decide_eq_true_eq] at this
      exact .inl ⟨rfl, by omega⟩
    | true => exact .inr (.inl rfl)
end Go.Abs
