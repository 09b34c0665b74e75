/- The reference's differences are those of the program; Words. -/
import Derived.Test.YtkmclnjmabljdaaGreatDoorNeU
import Derived.Test.YtkmclnjmabljdaaGreatDoorNdG
set_option linter.unusedVariables false
set_option linter.unusedSimpArgs false
namespace Go.Abs
open Go.Proofs
set_option linter.unusedVariables false
set_option linter.unusedSimpArgs false
set_option maxRecDepth 100000

/-- A number of each span. -/
def inS : List Int → List Span → Prop
  | [], [] => True
  | x :: xs, s :: l => s.low ≤ x ∧ x ≤ s.high ∧ inS xs l
  | _, _ => False
theorem rangeI_mem {lo hi n : Int} : n ∈ rangeI lo hi ↔ lo ≤ n ∧ n ≤ hi := by
  simp only [rangeI, List.mem_map, List.mem_range]
  constructor
  · rintro ⟨j, hj, rfl⟩; omega
  · rintro ⟨h1, h2⟩
    exact ⟨(n - lo).toNat, by omega, by omega⟩
theorem numsL_mem : ∀ {l : List Span} {x : List Int}, x ∈ numsL l ↔ inS x l
  | [], x => by
    cases x <;> simp [numsL, inS]
  | s :: l, x => by
    simp only [numsL, List.mem_flatMap, List.mem_map, rangeI_mem]
    cases x with
    | nil => simp [inS]
    | cons n xs =>
      simp only [inS, List.cons.injEq]
      constructor
      · rintro ⟨m, hm, y, hy, rfl, rfl⟩; exact ⟨hm.1, hm.2, numsL_mem.1 hy⟩
      · rintro ⟨h1, h2, h3⟩; exact ⟨n, ⟨h1, h2⟩, xs, numsL_mem.2 h3, rfl, rfl⟩
/-- Which hours of a batch count for a dye. -/
theorem prods_own (dye : Int) (t : List Int) : ∀ (l : List Bath) (p : List Int), (∃ x ∈ numsL (ownI l dye), prods dye t l x = p) ↔ ∃ x ∈ numsL ((ofDye dye l).map (fun b : Bath => b.hours)), prods dye t (ofDye dye l) x = p
  | [], p => by simp [ownI, ofDye, numsL, prods]
  | b :: l, p => by
    by_cases h : b.dye = dye
    · have e1 : ofDye dye (b :: l) = b :: ofDye dye l := by simp [ofDye, h]
      have e2 : ownI (b :: l) dye = b.hours :: ownI l dye := by simp [ownI, h]
      rw [e1, e2, List.map_cons]
      simp only [numsL_mem]
      constructor
      · rintro ⟨x, hx, rfl⟩
        cases x with
        | nil => exact hx.elim
        | cons n xs =>
          obtain ⟨h1, h2, h3⟩ := hx
          obtain ⟨y, hy, hp⟩ := (prods_own dye t l (prods dye t l xs)).1 ⟨xs, numsL_mem.2 h3, rfl⟩
          exact ⟨n :: y, ⟨h1, h2, numsL_mem.1 hy⟩, by simp only [prods, hp]⟩
      · rintro ⟨x, hx, rfl⟩
        cases x with
        | nil => exact hx.elim
        | cons n xs =>
          obtain ⟨h1, h2, h3⟩ := hx
          obtain ⟨y, hy, hp⟩ := (prods_own dye t l (prods dye t (ofDye dye l) xs)).2 ⟨xs, numsL_mem.2 h3, rfl⟩
          exact ⟨n :: y, ⟨h1, h2, numsL_mem.1 hy⟩, by simp only [prods, hp]⟩
    · have e1 : ofDye dye (b :: l) = ofDye dye l := by simp [ofDye, h]
      have e2 : ownI (b :: l) dye = ⟨0, 0⟩ :: ownI l dye := by simp [ownI, h]
      rw [e1, e2, ← prods_own dye t l p]
      simp only [numsL_mem]
      constructor
      · rintro ⟨x, hx, rfl⟩
        cases x with
        | nil => exact hx.elim
        | cons n xs => exact ⟨xs, hx.2.2, by simp [prods, h]⟩
      · rintro ⟨x, hx, rfl⟩
        exact ⟨0 :: x, ⟨by simp, by simp, hx⟩, by simp [prods, h]⟩
theorem depths_own (d : Dye) (dye : Int) (t : List Int) (l : List Bath) (n : Int) : (∃ x ∈ hoursR l dye, depthI d dye t l x = n) ↔ n ∈ depthsL d dye t l := by
  unfold hoursR depthsL depthI
  rw [listsI_eq]
  simp only [List.mem_map]
  constructor
  · rintro ⟨x, hx, rfl⟩
    obtain ⟨y, hy, hp⟩ := (prods_own dye t l (prods dye t l x)).1 ⟨x, hx, rfl⟩
    exact ⟨y, hy, by rw [hp]⟩
  · rintro ⟨x, ⟨hx, rfl⟩⟩
    obtain ⟨y, hy, hp⟩ := (prods_own dye t l (prods dye t (ofDye dye l) x)).2 ⟨x, hx, rfl⟩
    exact ⟨y, hy, by rw [hp]⟩
/-- Takes at tempers that no bath is at may be the least. -/
def fixT (all : List Bath) (dye : Int) : List Span → List Int → Int → List Int
  | s :: l, x :: xs, i => (if metB all dye i then x else s.low) :: fixT all dye l xs (i + 1)
  | _, _, _ => []
theorem fixT_in (all : List Bath) (dye : Int) : ∀ (l : List Span) (x : List Int) (i : Int), inS x l → inS (fixT all dye l x i) (usedI all dye l i)
  | [], [], _, _ => trivial
  | [], _ :: _, _, h => h.elim
  | _ :: _, [], _, h => h.elim
  | s :: l, x :: xs, i, ⟨h1, h2, h3⟩ => by
    simp only [fixT, usedI]
    refine ⟨?_, ?_, fixT_in all dye l xs (i + 1) h3⟩
    · split <;> rename_i hm <;> simp_all
    · split <;> rename_i hm <;> simp_all
theorem fixT_get (all : List Bath) (dye : Int) : ∀ (l : List Span) (x : List Int) (i : Int) (k : Nat), inS x l → metB all dye (i + k) = true → (fixT all dye l x i).getD k 0 = x.getD k 0
  | [], [], _, _, _, _ => rfl
  | [], _ :: _, _, _, h, _ => h.elim
  | _ :: _, [], _, _, h, _ => h.elim
  | s :: l, x :: xs, i, 0, ⟨h1, h2, h3⟩, hm => by
    have : metB all dye i = true := by simpa using hm
    simp [fixT, this]
  | s :: l, x :: xs, i, k + 1, ⟨h1, h2, h3⟩, hm => by
    have := fixT_get all dye l xs (i + 1) k h3 (by rw [show i + 1 + (k : Int) = i + ((k + 1 : Nat) : Int) by omega]; exact hm)
    simpa [fixT] using this
theorem used_in (all : List Bath) (dye : Int) : ∀ (l : List Span) (x : List Int) (i : Int), (∀ s ∈ l, s.low ≤ s.high) → inS x (usedI all dye l i) → inS x l
  | [], [], _, _, _ => trivial
  | [], _ :: _, _, _, h => h.elim
  | _ :: _, [], _, _, h => h.elim
  | s :: l, x :: xs, i, hs, ⟨h1, h2, h3⟩ => by
    have h0 := hs s (by simp)
    refine ⟨?_, ?_, used_in all dye l xs (i + 1) (fun u hu => hs u (by simp [hu])) h3⟩
    · split at h1 <;> simp_all
    · split at h2
      · exact h2
      · simp at h2; omega
theorem prods_congr (dye : Int) (t t' : List Int) : ∀ (l : List Bath) (x : List Int), (∀ b ∈ l, b.dye = dye → t.getD b.temper.toNat 0 = t'.getD b.temper.toNat 0) → prods dye t l x = prods dye t' l x
  | [], _, _ => by simp [prods]
  | _ :: _, [], _ => by simp [prods]
  | b :: l, x :: xs, h => by
    simp only [prods, prods_congr dye t t' l xs fun c hc => h c (by simp [hc])]
    by_cases hb : b.dye = dye
    · rw [if_pos hb, if_pos hb, h b (by simp) hb]
    · rw [if_neg hb, if_neg hb]
theorem eachR_mem {d : Dye} {dye : Int} {a b : List Bath} {h : List Dye} (hd : ∀ s ∈ d.takes, s.low ≤ s.high) (ha : BatchP h a) (hb : BatchP h b) (n : Int) : n ∈ eachR d dye a b ↔ n ∈ eachL d dye a b := by
  have key : ∀ t t' : List Int, (∀ c ∈ a ++ b, c.dye = dye → t.getD c.temper.toNat 0 = t'.getD c.temper.toNat 0) → ((∃ x ∈ hoursR a dye, ∃ y ∈ hoursR b dye, n = depthI d dye t a x - depthI d dye t b y) ↔ n ∈ diffL (depthsL d dye t' a) (depthsL d dye t' b)) := by
    intro t t' ht
    have e1 : ∀ x, depthI d dye t a x = depthI d dye t' a x := fun x => by unfold depthI; rw [prods_congr dye t t' a x fun c hc => ht c (by simp [hc])]
    have e2 : ∀ x, depthI d dye t b x = depthI d dye t' b x := fun x => by unfold depthI; rw [prods_congr dye t t' b x fun c hc => ht c (by simp [hc])]
    rw [diffL_mem]
    constructor
    · rintro ⟨x, hx, y, hy, rfl⟩
      exact ⟨_, (depths_own d dye t' a _).1 ⟨x, hx, rfl⟩, _, (depths_own d dye t' b _).1 ⟨y, hy, rfl⟩, by rw [e1, e2]⟩
    · rintro ⟨u, hu, v, hv, rfl⟩
      obtain ⟨x, hx, rfl⟩ := (depths_own d dye t' a u).2 hu
      obtain ⟨y, hy, rfl⟩ := (depths_own d dye t' b v).2 hv
      exact ⟨x, hx, y, hy, by rw [e1, e2]⟩
  have met : ∀ c ∈ a ++ b, c.dye = dye → metB (a ++ b) dye (0 + (c.temper.toNat : Int)) = true := fun c hc hcd => by
    have ht : 0 ≤ c.temper := by
      rcases List.mem_append.1 hc with h | h
      · have := ha.2 c h; unfold BathP at this; omega
      · have := hb.2 c h; unfold BathP at this; omega
    unfold metB
    rw [List.any_eq_true]
    exact ⟨c, hc, by simp [hcd]; omega⟩
  have cand : n ∈ eachR d dye a b ↔ ∃ t ∈ takesR d dye a b, ∃ x ∈ hoursR a dye, ∃ y ∈ hoursR b dye, n = depthI d dye t a x - depthI d dye t b y := by
    unfold eachR
    rw [insAll_mem]
    simp only [List.not_mem_nil, false_or, candI, diffR, List.mem_flatMap, List.mem_map]
    constructor
    · rintro ⟨t, ht, x, hx, y, hy, rfl⟩; exact ⟨t, ht, x, hx, y, hy, rfl⟩
    · rintro ⟨t, ht, x, hx, y, hy, rfl⟩; exact ⟨t, ht, x, hx, y, hy, rfl⟩
  rw [cand]
  simp only [eachL, List.mem_flatMap, takesR, listsI_eq, numsL_mem]
  constructor
  · rintro ⟨t, ht, hx⟩
    exact ⟨t, used_in _ _ _ _ _ hd ht, (key t t fun _ _ _ => rfl).1 hx⟩
  · rintro ⟨t, ht, hx⟩
    exact ⟨fixT (a ++ b) dye d.takes t 0, fixT_in _ _ _ _ _ ht, (key _ t fun c hc hcd => fixT_get _ _ _ _ _ _ ht (met c hc hcd)).2 hx⟩
theorem diffGo_mem {h0 : List Dye} {a b : List Bath} (hh : HouseP h0) (ha : BatchP h0 a) (hb : BatchP h0 b) : ∀ (h : List Dye) (ws : List Int) (i : Int) (out out' : List Int), (∀ d ∈ h, d ∈ h0) → (∀ n, n ∈ out ↔ n ∈ out') → ∀ n, n ∈ diffGo a b h ws i out ↔ n ∈ apartGo a b h ws i out'
  | [], ws, i, out, out', _, ho, n => by simpa [diffGo, apartGo] using ho n
  | d :: h, [], i, out, out', _, ho, n => by simpa [diffGo, apartGo] using ho n
  | d :: h, w :: ws, i, out, out', hd, ho, n => by
    simp only [diffGo, apartGo]
    refine diffGo_mem hh ha hb h ws (i + 1) _ _ (fun d hd' => hd d (by simp [hd'])) (fun m => ?_) n
    unfold diffStepR
    rw [insAll_mem]
    simp only [List.not_mem_nil, false_or, List.mem_flatMap, List.mem_map]
    have hds : ∀ s ∈ d.takes, s.low ≤ s.high := fun s hs => by have := (hh.2.2 d (hd d (by simp))).2.2.2 s hs; omega
    constructor
    · rintro ⟨x, hx, y, hy, rfl⟩; exact ⟨x, (ho x).1 hx, y, (eachR_mem hds ha hb y).1 hy, rfl⟩
    · rintro ⟨x, hx, y, hy, rfl⟩; exact ⟨x, (ho x).2 hx, y, (eachR_mem hds ha hb y).2 hy, rfl⟩
/-- The reference's differences are the program's. -/
theorem diffsR_mem {h : List Dye} {lamp : List Int} {a b : List Bath} (hh : HouseP h) (ha : BatchP h a) (hb : BatchP h b) (n : Int) : n ∈ diffsR h lamp a b ↔ n ∈ apartL h lamp a b :=
  diffGo_mem hh ha hb h lamp 0 [0] [0] (fun _ h => h) (fun _ => Iff.rfl) n

theorem f37 (s : Span) : ACalls Tryz.prog 37 [eS s] (fun r => r = .pv (.bool (isEyeB s))) := by
  refine ACalls.of_body hT Tryz.func37 rfl (by kernel_rfl) rfl ?_
  (repeat' (first | refine stp ?_ | (refine AL_do2 rfl ?_; first | refine ⟨_, op_call1 rfl rfl rfl rfl (f108 s 0 200 4 (by decide) (by decide)), ?_⟩) | refine AL_gdec rfl rfl rfl (fun hg => ?_) (fun hg => ?_) | refine AL_gnot rfl rfl rfl (fun hg => ?_) (fun hg => ?_) | refine AL_gcases rfl rfl rfl (fun hg => ?_) (fun hg => ?_)))
  exact ⟨_, _, rfl, rfl, rfl⟩
theorem f44 (s : Span) : ACalls Tryz.prog 44 [eS s] (fun r => r = .pv (.bool (isWishB s))) := by
  refine ACalls.of_body hT Tryz.func44 rfl (by kernel_rfl) rfl ?_
  (repeat' (first | refine stp ?_ | (refine AL_do2 rfl ?_; first | refine ⟨_, op_call1 rfl rfl rfl rfl (f108 s (-3000) 3000 6000 (by decide) (by decide)), ?_⟩) | refine AL_gdec rfl rfl rfl (fun hg => ?_) (fun hg => ?_) | refine AL_gnot rfl rfl rfl (fun hg => ?_) (fun hg => ?_) | refine AL_gcases rfl rfl rfl (fun hg => ?_) (fun hg => ?_)))
  exact ⟨_, _, rfl, rfl, rfl⟩
theorem f119 (h : List Dye) (l : List Int) (hh : h.length ≤ 1000) (hl : l.length ≤ 1000) : ACalls Tryz.prog 119 [eHouse h, eLamp l] (fun r => r = .pv (.bool (isLampB h l))) := by
  refine ACalls.of_body hT Tryz.func119 rfl (by kernel_rfl) rfl ?_
  (repeat (refine stp ?_))
  refine AW_loopC (fun k : Nat => k ≤ l.length ∧ ∀ n ∈ l.take k, inB n (-9) 9 = true) (fun k => mkSt [(2, .box 0 0), (3, .box 1 0), (5, .pv (vi k))] [(0, .box [.pv (.sl (h.map eDye))]), (1, .box [.pv (eInts l)])] 2) (fun k => l.length - k) 0 ⟨Nat.zero_le _, by simp⟩ ?_ ?_
  · (refine Le.mk ?_ ?_; all_goals (repeat' (first | exact trivial | refine sle ?_ | refine ⟨?_, rfl, ?_⟩ | refine ⟨?_, by decide, rfl, ?_⟩ | fail)))
  · rintro k ⟨hk, hall⟩
    (repeat (refine stp ?_))
    refine AW_if rfl (fun hc => ?_) (fun hc => ?_)
    · have hk' : k < l.length := by omega
      obtain ⟨n, hn⟩ : ∃ n, l[k]? = some n := ⟨l[k], by simp [hk']⟩
      have e1 := get_map eInt hn
      (repeat' (first | refine stp ?_ | (refine AL_do2 rfl ?_; first | refine ⟨_, op_call1 rfl rfl rfl rfl (f109 n (-9) 9), ?_⟩) | refine AL_gdec rfl rfl rfl (fun hg => ?_) (fun hg => ?_) | refine AL_gnot rfl rfl rfl (fun hg => ?_) (fun hg => ?_) | refine AL_gcases rfl rfl rfl (fun hg => ?_) (fun hg => ?_)))
      refine AW_cond rfl (fun hc2 => ?_) (fun hc2 => ?_)
      · (repeat (refine stp ?_))
        refine ⟨_, _, rfl, rfl, ?_⟩
        have : l.any (fun x => !inB x (-9) 9) = true := by
          rw [List.any_eq_true]; exact ⟨n, List.mem_of_getElem? hn, hc2⟩
        simp [isLampB, this]
      · (repeat (refine stp ?_))
        refine ⟨k + 1, ⟨hk', all_take_succ hall hn (by simpa using hc2)⟩, by omega, ?_⟩
        (refine Le.mk ?_ ?_; all_goals (repeat' (first | exact trivial | refine sle ?_ | refine ⟨?_, rfl, ?_⟩ | refine ⟨?_, by decide, rfl, ?_⟩ | fail)))
    · have hk' : k = l.length := by omega
      rw [hk', List.take_length] at hall
      have hany : l.any (fun x => !inB x (-9) 9) = false := by
        rw [List.any_eq_false]; intro s hs; simp [hall s hs]
      (repeat (refine stp ?_))
      refine ⟨_, _, rfl, rfl, ?_⟩
      simp only [isLampB, hany, Bool.not_false, Bool.and_true]
      congr 3; simp; omega
theorem f36 (h : List Dye) (l : List (List Int)) (hh : h.length ≤ 1000) (hl : lampsOK l) : ACalls Tryz.prog 36 [eHouse h, eLamps l] (fun r => r = .pv (.bool (inB l.length 1 3 && !l.any (fun x => !isLampB h x)))) := by
  have hl1 := hl.1
  refine ACalls.of_body hT Tryz.func36 rfl (by kernel_rfl) rfl ?_
  (repeat (refine stp ?_))
  refine AW_loopC (fun k : Nat => k ≤ l.length ∧ ∀ x ∈ l.take k, isLampB h x = true) (fun k => mkSt [(1, .pv (eLamps l)), (2, .box 0 0), (5, .pv (vi k))] [(0, .box [.pv (.sl (h.map eDye))])] 1) (fun k => l.length - k) 0 ⟨Nat.zero_le _, by simp⟩ ?_ ?_
  · (refine Le.mk ?_ ?_; all_goals (repeat' (first | exact trivial | refine sle ?_ | refine ⟨?_, rfl, ?_⟩ | refine ⟨?_, by decide, rfl, ?_⟩ | fail)))
  · rintro k ⟨hk, hall⟩
    (repeat (refine stp ?_))
    refine AW_if rfl (fun hc => ?_) (fun hc => ?_)
    · have hk' : k < l.length := by omega
      obtain ⟨x, hx⟩ : ∃ x, l[k]? = some x := ⟨l[k], by simp [hk']⟩
      have e1 := get_map eLampC hx
      (repeat (refine stp ?_))
      (repeat (first | refine sdr ?_ | refine DG_next (D_call rfl rfl rfl rfl rfl (f119 h x hh (hl.2 x (List.mem_of_getElem? hx)))) ?_))
      refine DG_end hM (by kernel_rfl) ?_
      (repeat (refine stp ?_))
      refine AW_cond rfl (fun hc2 => ?_) (fun hc2 => ?_)
      · (repeat (refine stp ?_))
        refine ⟨_, _, rfl, rfl, ?_⟩
        have : l.any (fun x => !isLampB h x) = true := by
          rw [List.any_eq_true]; exact ⟨x, List.mem_of_getElem? hx, hc2⟩
        simp [this]
      · (repeat (refine stp ?_))
        refine ⟨k + 1, ⟨hk', all_take_succ hall hx (by simpa using hc2)⟩, by omega, ?_⟩
        (refine Le.mk ?_ ?_; all_goals (repeat' (first | exact trivial | refine sle ?_ | refine ⟨?_, rfl, ?_⟩ | refine ⟨?_, by decide, rfl, ?_⟩ | fail)))
    · have hk' : k = l.length := by omega
      rw [hk', List.take_length] at hall
      have hany : l.any (fun x => !isLampB h x) = false := by
        rw [List.any_eq_false]; intro s hs; simp [hall s hs]
      (repeat' (first | refine stp ?_ | (refine AL_do2 rfl ?_; first | refine ⟨_, op_call1 rfl rfl rfl rfl (f109 l.length 1 3), ?_⟩) | refine AL_gdec rfl rfl rfl (fun hg => ?_) (fun hg => ?_) | refine AL_gnot rfl rfl rfl (fun hg => ?_) (fun hg => ?_) | refine AL_gcases rfl rfl rfl (fun hg => ?_) (fun hg => ?_)))
      exact ⟨_, _, rfl, rfl, by simp [hany]⟩
def wordR (so all : Int) : Int := if so = all then 3 else if so = 0 then 1 else 2
theorem f121 (so all : Int) : ACalls Tryz.prog 121 [vi so, vi all] (fun r => r = .pv (vi (wordR so all))) := by
  refine ACalls.of_body hT Tryz.func121 rfl (by kernel_rfl) rfl ?_
  (repeat (refine stp ?_))
  refine AW_if rfl (fun hc => ?_) (fun hc => ?_)
  · (repeat (refine stp ?_))
    exact ⟨_, _, rfl, rfl, by rw [wordR, if_pos hc]⟩
  · (repeat (refine stp ?_))
    refine AW_if rfl (fun hc2 => ?_) (fun hc2 => ?_)
    · (repeat (refine stp ?_))
      exact ⟨_, _, rfl, rfl, by rw [wordR, if_neg hc, if_pos hc2]⟩
    · (repeat (refine stp ?_))
      exact ⟨_, _, rfl, rfl, by rw [wordR, if_neg hc, if_neg hc2]⟩
def fewB (l : List (List Int)) : Bool := !(l.take 6).any (fun d => decide (d.length > 5)) && decide (l.length ≤ 5)
theorem few_ok {l : List (List Int)} (hs : fewB l = true) : l.length ≤ 5 ∧ ∀ d ∈ l, d.length ≤ 5 := by
  simp only [fewB, Bool.and_eq_true, Bool.not_eq_true', List.any_eq_false, decide_eq_true_eq] at hs
  refine ⟨hs.2, fun d hd => ?_⟩
  have := hs.1 d (by rw [List.take_of_length_le (by omega)]; exact hd)
  omega
theorem f34 (h : List (List Int)) : ACalls Tryz.prog 34 [eLamps h] (fun r => r = .pv (.bool (fewB h))) := by
  refine ACalls.of_body hT Tryz.func34 rfl (by kernel_rfl) rfl ?_
  (repeat (refine stp ?_))
  refine AW_loopC (fun k : Nat => k ≤ h.length ∧ k ≤ 6 ∧ ∀ d ∈ h.take k, d.length ≤ 5) (fun k => mkSt [(0, .pv (eLamps h)), (3, .pv (vi k))] [] 0) (fun k => 6 - k) 0 ⟨Nat.zero_le _, by omega, by simp⟩ ?_ ?_
  · (refine Le.mk ?_ ?_; all_goals (repeat' (first | exact trivial | refine sle ?_ | refine ⟨?_, rfl, ?_⟩ | refine ⟨?_, by decide, rfl, ?_⟩ | fail)))
  · rintro k ⟨hk, hk6, hall⟩
    (repeat' (first | refine stp ?_ | refine AL_gdec rfl rfl rfl (fun hg => ?_) (fun hg => ?_) | refine AL_gnot rfl rfl rfl (fun hg => ?_) (fun hg => ?_) | refine AL_gcases rfl rfl rfl (fun hg => ?_) (fun hg => ?_)))
    · refine AW_if rfl (fun hc => ?_) (fun hc => ?_)
      · have hk' : k < h.length := by omega
        obtain ⟨d, hd⟩ : ∃ d, h[k]? = some d := ⟨h[k], by simp [hk']⟩
        have e1 := get_map eLampC hd
        (repeat (refine stp ?_))
        refine AW_if rfl (fun hc2 => ?_) (fun hc2 => ?_)
        · (repeat (refine stp ?_))
          refine ⟨_, _, rfl, rfl, ?_⟩
          have : fewB h = false := by
            simp only [fewB, Bool.and_eq_false_iff, Bool.not_eq_false', List.any_eq_true, decide_eq_true_eq]
            exact .inl ⟨d, List.mem_of_getElem? (i := k) (by rw [List.getElem?_take, if_pos (by omega)]; exact hd), by omega⟩
          rw [this]
        · (repeat (refine stp ?_))
          refine ⟨k + 1, ⟨hk', by omega, all_take_succ hall hd (by omega)⟩, by omega, ?_⟩
          (refine Le.mk ?_ ?_; all_goals (repeat' (first | exact trivial | refine sle ?_ | refine ⟨?_, rfl, ?_⟩ | refine ⟨?_, by decide, rfl, ?_⟩ | fail)))
      · have hk' : k = 6 := by omega
        subst hk'
        (repeat (refine stp ?_))
        refine ⟨_, _, rfl, rfl, ?_⟩
        have h1 : (h.take 6).any (fun d => decide (d.length > 5)) = false := by
          simp only [List.any_eq_false, decide_eq_true_eq]; intro d hd; have := hall d hd; omega
        simp [fewB, h1]; omega
    · have hk' : k = h.length := by omega
      refine ⟨_, _, rfl, rfl, ?_⟩
      have h1 : (h.take 6).any (fun d => decide (d.length > 5)) = false := by
        simp only [List.any_eq_false, decide_eq_true_eq]; intro d hd
        have := hall d (by rw [hk', List.take_length]; exact List.mem_of_mem_take hd); omega
      simp [fewB, h1]; omega
end Go.Abs
