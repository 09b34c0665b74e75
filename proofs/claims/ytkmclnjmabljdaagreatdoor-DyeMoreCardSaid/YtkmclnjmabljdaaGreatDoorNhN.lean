/- DyeMore: what is known better, plain laws. -/
import Derived.Test.YtkmclnjmabljdaaGreatDoorNhD
set_option linter.unusedVariables false
set_option linter.unusedSimpArgs false
namespace Go.Abs
open Go.Proofs
set_option linter.unusedVariables false
set_option linter.unusedSimpArgs false
set_option maxRecDepth 100000

def closerI (up down : Int) (s : Span) : Span := ⟨min s.high (s.low + up), max (min s.high (s.low + up)) (s.high - down)⟩
theorem closer_in {up down : Int} {s : Span} (hu : 0 ≤ up) (hd : 0 ≤ down) (h : s.low ≤ s.high) : s.low ≤ (closerI up down s).low ∧ (closerI up down s).low ≤ (closerI up down s).high ∧ (closerI up down s).high ≤ s.high := by
  unfold closerI; simp only; omega
def closeBath (up down : Int) (b : Bath) : Bath := ⟨b.dye, b.temper, closerI up down b.hours⟩
def closeDye (up down : Int) (d : Dye) : Dye := ⟨d.takes.map (closerI up down), d.full⟩
theorem inS_sub {f : Span → Span} : ∀ {l : List Span} {x : List Int}, (∀ s ∈ l, s.low ≤ (f s).low ∧ (f s).high ≤ s.high) → inS x (l.map f) → inS x l
  | [], [], _, _ => trivial
  | [], _ :: _, _, h => h.elim
  | _ :: _, [], _, h => h.elim
  | s :: l, y :: x, hf, ⟨h1, h2, h3⟩ => by
    have := hf s (by simp)
    exact ⟨by omega, by omega, inS_sub (fun t ht => hf t (by simp [ht])) h3⟩
theorem span_sub {s : Span} {lo hi d up down : Int} (hu : 0 ≤ up) (hd : 0 ≤ down) (h : isSpanB s lo hi d = true) : isSpanB (closerI up down s) lo hi d = true := by
  simp only [isSpanB, Bool.and_eq_true, decide_eq_true_eq] at h ⊢
  have := closer_in (s := s) hu hd (by omega)
  omega
theorem house_sub {h : List Dye} {up down : Int} (hu : 0 ≤ up) (hd : 0 ≤ down) (hh : isHouseB h = true) : isHouseB (h.map (closeDye up down)) = true := by
  simp only [isHouseB, Bool.and_eq_true, Bool.not_eq_true', List.any_eq_false, List.length_map, Bool.not_eq_false] at hh ⊢
  refine ⟨hh.1, fun d' hd' => ?_⟩
  obtain ⟨d, hdm, rfl⟩ := List.mem_map.1 hd'
  have := hh.2 d hdm
  simp only [isDyeB, closeDye, Bool.and_eq_true, Bool.not_eq_true', List.any_eq_false, List.length_map, Bool.not_eq_false] at this ⊢
  refine ⟨this.1, fun s' hs' => ?_⟩
  obtain ⟨s, hs, rfl⟩ := List.mem_map.1 hs'
  exact span_sub hu hd (this.2 s hs)
theorem batch_sub {h h' : List Dye} {l : List Bath} {up down : Int} (hl : h'.length = h.length) (hu : 0 ≤ up) (hd : 0 ≤ down) (hh : isBatchB h l = true) : isBatchB h' (l.map (closeBath up down)) = true := by
  simp only [isBatchB, Bool.and_eq_true, Bool.not_eq_true', List.any_eq_false, List.length_map, Bool.not_eq_false, hl] at hh ⊢
  refine ⟨hh.1, fun d' hd' => ?_⟩
  obtain ⟨d, hdm, rfl⟩ := List.mem_map.1 hd'
  have := hh.2 d hdm
  simp only [isBathB, closeBath, Bool.and_eq_true] at this ⊢
  exact ⟨this.1, span_sub hu hd this.2⟩
theorem ofDye_close (dye up down : Int) (l : List Bath) : ofDye dye (l.map (closeBath up down)) = (ofDye dye l).map (closeBath up down) := by
  simp only [ofDye, List.filter_map]; rfl
theorem prods_close (dye up down : Int) (t : List Int) : ∀ (l : List Bath) (x : List Int), prods dye t (l.map (closeBath up down)) x = prods dye t l x
  | [], x => by cases x <;> rfl
  | b :: l, [] => rfl
  | b :: l, y :: x => by simp only [List.map_cons, prods, prods_close dye up down t l x]; rfl
theorem depths_sub {h : List Dye} {d : Dye} {dye up down : Int} {t : List Int} {l : List Bath} (hu : 0 ≤ up) (hd : 0 ≤ down) (hl : BatchP h l) (n : Int) (hn : n ∈ depthsL (closeDye up down d) dye t (l.map (closeBath up down))) : n ∈ depthsL d dye t l := by
  unfold depthsL at hn ⊢
  rw [ofDye_close] at hn
  simp only [List.mem_map, numsL_mem, List.map_map] at hn ⊢
  obtain ⟨x, hx, rfl⟩ := hn
  refine ⟨x, ?_, ?_⟩
  · have e : (ofDye dye l).map ((fun b : Bath => b.hours) ∘ closeBath up down) = ((ofDye dye l).map (fun b : Bath => b.hours)).map (closerI up down) := by rw [List.map_map]; rfl
    rw [e] at hx
    refine inS_sub (fun s hs => ?_) hx
    obtain ⟨b, hb, rfl⟩ := List.mem_map.1 hs
    have := hl.2 b (ofDye_mem hb).1
    unfold BathP at this
    have := closer_in (s := b.hours) hu hd (by omega)
    omega
  · unfold depthI; rw [prods_close]; rfl
theorem each_sub {h : List Dye} {d : Dye} {dye up down : Int} {a b : List Bath} (hu : 0 ≤ up) (hd : 0 ≤ down) (hh : HouseP h) (hm : d ∈ h) (ha : BatchP h a) (hb : BatchP h b) (n : Int) (hn : n ∈ eachL (closeDye up down d) dye (a.map (closeBath up down)) (b.map (closeBath up down))) : n ∈ eachL d dye a b := by
  unfold eachL at hn ⊢
  simp only [List.mem_flatMap, numsL_mem, diffL_mem] at hn ⊢
  obtain ⟨t, ht, x, hx, y, hy, rfl⟩ := hn
  refine ⟨t, inS_sub (fun s hs => ?_) ht, x, depths_sub hu hd ha x hx, y, depths_sub hu hd hb y hy, rfl⟩
  have := (hh.2.2 d hm).2.2.2 s hs
  have := closer_in (s := s) hu hd (by omega)
  omega
theorem apartGo_sub {h0 : List Dye} {a b : List Bath} {up down : Int} (hu : 0 ≤ up) (hd : 0 ≤ down) (hh : HouseP h0) (ha : BatchP h0 a) (hb : BatchP h0 b) : ∀ (h : List Dye) (ws : List Int) (i : Int) (o o' : List Int), (∀ d ∈ h, d ∈ h0) → (∀ n ∈ o', n ∈ o) →
    ∀ n ∈ apartGo (a.map (closeBath up down)) (b.map (closeBath up down)) (h.map (closeDye up down)) ws i o', n ∈ apartGo a b h ws i o
  | [], ws, i, o, o', _, ho, n, hn => by simp only [List.map_nil, apartGo] at hn ⊢; exact ho n hn
  | d :: h, [], i, o, o', _, ho, n, hn => by simp only [List.map_cons, apartGo] at hn ⊢; exact ho n hn
  | d :: h, w :: ws, i, o, o', hm, ho, n, hn => by
    simp only [List.map_cons, apartGo] at hn ⊢
    refine apartGo_sub hu hd hh ha hb h ws (i + 1) _ _ (fun e he => hm e (by simp [he])) (fun m hm' => ?_) n hn
    simp only [List.mem_flatMap, List.mem_map] at hm' ⊢
    obtain ⟨x, hx, y, hy, rfl⟩ := hm'
    exact ⟨x, ho x hx, y, each_sub hu hd hh (hm d (by simp)) ha hb y hy, rfl⟩
theorem apart_sub {h : List Dye} {lamp : List Int} {a b : List Bath} {up down : Int} (hu : 0 ≤ up) (hd : 0 ≤ down) (hh : HouseP h) (ha : BatchP h a) (hb : BatchP h b) (n : Int) (hn : n ∈ apartL (h.map (closeDye up down)) lamp (a.map (closeBath up down)) (b.map (closeBath up down))) : n ∈ apartL h lamp a b :=
  apartGo_sub hu hd hh ha hb h lamp 0 [0] [0] (fun _ h => h) (fun _ h => h) n hn
theorem spans_sub {L M : List Int} (h : ∀ n ∈ M, n ∈ L) (hM : M ≠ []) : (spanOf L).low ≤ (spanOf M).low ∧ (spanOf M).high ≤ (spanOf L).high := by
  obtain ⟨m1, m2, m3⟩ := span_mem hM
  have hL : L ≠ [] := List.ne_nil_of_mem (h _ m1)
  obtain ⟨l1, l2, l3⟩ := span_mem hL
  exact ⟨(l3 _ (h _ m1)).1, (l3 _ (h _ m2)).2⟩
theorem word_sub {L M : List Int} {eye : Span} (he : eye.low ≤ eye.high) (h : ∀ n ∈ M, n ∈ L) (hM : M ≠ []) (hw : ¬ wordI (L.any fun n => decide (max n (-n) ≤ eye.high)) (L.any fun n => decide (max n (-n) > eye.low)) = 2) :
    wordI (M.any fun n => decide (max n (-n) ≤ eye.high)) (M.any fun n => decide (max n (-n) > eye.low)) = wordI (L.any fun n => decide (max n (-n) ≤ eye.high)) (L.any fun n => decide (max n (-n) > eye.low)) := by
  have sub : ∀ p : Int → Bool, L.any p = false → M.any p = false := fun p hp => by
    rw [List.any_eq_false] at hp ⊢; intro x hx; exact hp x (h x hx)
  cases q1 : (L.any fun n => decide (max n (-n) > eye.low)) with
  | false => rw [sub _ q1]; rfl
  | true =>
    rw [q1] at hw
    cases q2 : (L.any fun n => decide (max n (-n) ≤ eye.high)) with
    | true => rw [q2] at hw; exact absurd rfl hw
    | false =>
      rw [sub _ q2]
      have : (M.any fun n => decide (max n (-n) > eye.low)) = true := by
        obtain ⟨x, hx⟩ := List.exists_mem_of_ne_nil M hM
        have h1 := List.any_eq_false.1 q2 x (h x hx)
        rw [List.any_eq_true]
        refine ⟨x, hx, ?_⟩
        simp only [decide_eq_true_eq] at h1 ⊢
        omega
      rw [this]
end Go.Abs
