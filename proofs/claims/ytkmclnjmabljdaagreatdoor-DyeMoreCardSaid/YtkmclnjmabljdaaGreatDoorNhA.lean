/- DyeTurned. -/
import Derived.Test.YtkmclnjmabljdaaGreatDoorNeZ
import Derived.Test.YtkmclnjmabljdaaGreatDoorNdT3
set_option linter.unusedVariables false
set_option linter.unusedSimpArgs false

namespace Go.Abs
open Go.Proofs
set_option linter.unusedVariables false
set_option linter.unusedSimpArgs false
set_option maxRecDepth 100000

theorem diffL_neg {xs ys : List Int} {n : Int} : n ∈ diffL xs ys ↔ -n ∈ diffL ys xs := by
  rw [diffL_mem, diffL_mem]
  constructor
  · rintro ⟨x, hx, y, hy, rfl⟩; exact ⟨y, hy, x, hx, by omega⟩
  · rintro ⟨x, hx, y, hy, h⟩; exact ⟨y, hy, x, hx, by omega⟩
theorem eachL_neg {d : Dye} {k : Int} {a b : List Bath} {n : Int} : n ∈ eachL d k a b ↔ -n ∈ eachL d k b a := by
  simp only [eachL, List.mem_flatMap]
  constructor
  · rintro ⟨t, ht, h⟩; exact ⟨t, ht, diffL_neg.1 h⟩
  · rintro ⟨t, ht, h⟩; exact ⟨t, ht, diffL_neg.2 h⟩
theorem apartGo_neg (a b : List Bath) : ∀ (h : List Dye) (ws : List Int) (i : Int) (out out' : List Int), (∀ n, n ∈ out → -n ∈ out') → ∀ n, n ∈ apartGo a b h ws i out → -n ∈ apartGo b a h ws i out'
  | [], ws, i, out, out', ho, n, hn => by simp only [apartGo] at hn ⊢; exact ho n hn
  | d :: h, [], i, out, out', ho, n, hn => by simp only [apartGo] at hn ⊢; exact ho n hn
  | d :: h, w :: ws, i, out, out', ho, n, hn => by
    simp only [apartGo] at hn ⊢
    refine apartGo_neg a b h ws (i + 1) _ _ (fun m hm => ?_) n hn
    simp only [List.mem_flatMap, List.mem_map] at hm ⊢
    obtain ⟨x, hx, y, hy, rfl⟩ := hm
    exact ⟨-x, ho x hx, -y, eachL_neg.1 hy, by rw [Int.mul_neg]; omega⟩
theorem apartL_neg {h : List Dye} {lamp : List Int} {a b : List Bath} (n : Int) : n ∈ apartL h lamp a b ↔ -n ∈ apartL h lamp b a :=
  ⟨fun hn => apartGo_neg a b h lamp 0 [0] [0] (by simp) n hn, fun hn => by have := apartGo_neg b a h lamp 0 [0] [0] (by simp) _ hn; rwa [Int.neg_neg] at this⟩
theorem span_neg {h : List Dye} {lamp : List Int} {a b : List Bath} (hne : apartL h lamp a b ≠ []) : spanOf (apartL h lamp b a) = ⟨-(spanOf (apartL h lamp a b)).high, -(spanOf (apartL h lamp a b)).low⟩ := by
  have h1 := spanOf_hull (apartL h lamp b a)
  rcases spanOf_hull (apartL h lamp a b) with ⟨he, _⟩ | ⟨p1, p2, p3⟩
  · exact absurd he hne
  generalize spanOf (apartL h lamp a b) = p at p1 p2 p3
  have h2 : isHull (apartL h lamp b a) ⟨-p.high, -p.low⟩ := .inr ⟨by rw [apartL_neg, Int.neg_neg]; exact p2, by rw [apartL_neg, Int.neg_neg]; exact p1, fun x hx => by
    have := p3 _ ((apartL_neg x).1 hx)
    simp only; omega⟩
  exact hull_unique (fun _ => Iff.rfl) h1 h2
theorem depthsL_ne {h : List Dye} {l : List Bath} (hl : BatchP h l) (d : Dye) (k : Int) (t : List Int) : ∃ x, x ∈ depthsL d k t l := by
  refine ⟨_, (depthsL_mem (d := d) (dye := k) (t := t) hl _).2 ⟨_, lows_in fun s hs => ?_, rfl⟩⟩
  obtain ⟨b, hb, rfl⟩ := List.mem_map.1 hs
  have := hl.2 b hb
  unfold BathP at this; omega
theorem apartGo_tri {h0 : List Dye} {a b c : List Bath} (hb : BatchP h0 b) : ∀ (h : List Dye) (ws : List Int) (i : Int) (o1 o2 o3 : List Int), (∀ n ∈ o1, ∃ x ∈ o2, ∃ y ∈ o3, n = x + y) → ∀ n ∈ apartGo a c h ws i o1, ∃ x ∈ apartGo a b h ws i o2, ∃ y ∈ apartGo b c h ws i o3, n = x + y
  | [], ws, i, o1, o2, o3, ho, n, hn => by simp only [apartGo] at hn ⊢; exact ho n hn
  | d :: h, [], i, o1, o2, o3, ho, n, hn => by simp only [apartGo] at hn ⊢; exact ho n hn
  | d :: h, w :: ws, i, o1, o2, o3, ho, n, hn => by
    simp only [apartGo] at hn ⊢
    refine apartGo_tri hb h ws (i + 1) _ _ _ (fun m hm => ?_) n hn
    simp only [List.mem_flatMap, List.mem_map] at hm
    obtain ⟨u, hu, v, hv, rfl⟩ := hm
    obtain ⟨x, hx, y, hy, rfl⟩ := ho u hu
    simp only [eachL, List.mem_flatMap, diffL_mem] at hv
    obtain ⟨t, ht, p, hp, q, hq, rfl⟩ := hv
    obtain ⟨z, hz⟩ := depthsL_ne hb d i t
    have m1 : p - z ∈ eachL d i a b := List.mem_flatMap.2 ⟨t, ht, diffL_mem.2 ⟨p, hp, z, hz, rfl⟩⟩
    have m2 : z - q ∈ eachL d i b c := List.mem_flatMap.2 ⟨t, ht, diffL_mem.2 ⟨z, hz, q, hq, rfl⟩⟩
    refine ⟨x + w * (p - z), List.mem_flatMap.2 ⟨x, hx, List.mem_map.2 ⟨_, m1, rfl⟩⟩, y + w * (z - q), List.mem_flatMap.2 ⟨y, hy, List.mem_map.2 ⟨_, m2, rfl⟩⟩, ?_⟩
    have e : w * (p - q) = w * (p - z) + w * (z - q) := by rw [← Int.mul_add]; congr 1; omega
    omega
theorem apartL_tri {h : List Dye} {lamp : List Int} {a b c : List Bath} (hb : BatchP h b) (n : Int) (hn : n ∈ apartL h lamp a c) : ∃ x ∈ apartL h lamp a b, ∃ y ∈ apartL h lamp b c, n = x + y :=
  apartGo_tri hb h lamp 0 [0] [0] [0] (by simp) n hn
def smallB (s : Span) : Bool := decide (s.low ≥ -6000) && decide (s.low ≤ s.high) && decide (s.high ≤ 6000)
theorem f72 (s : Span) : ACalls Tryz.prog 72 [eS s] (fun r => r = .pv (.bool (smallB s))) := by
  refine ACalls.of_body hT Tryz.func72 rfl (by kernel_rfl) rfl ?_
  (repeat' (first | refine stq ?_ | (with_reducible refine AL_id ?_); (fail_if_success (refine AL_glit rfl rfl rfl (by first | exact .inl (by with_reducible rfl) | exact .inr (by with_reducible rfl)) ?_)); first | refine AL_gdec rfl rfl rfl (fun hg => ?_) (fun hg => ?_) | refine AL_gnot rfl rfl rfl (fun hg => ?_) (fun hg => ?_) | refine AL_gcases rfl rfl rfl (fun hg => ?_) (fun hg => ?_)))
  all_goals exact ⟨_, _, rfl, rfl, by simp_all [smallB]; try omega⟩
theorem apartL_ne {h : List Dye} {lamp : List Int} {a b : List Bath} (hh : HouseP h) (ha : BatchP h a) (hb : BatchP h b) : apartL h lamp a b ≠ [] := by
  intro he
  have := diffsR_ne (lamp := lamp) hh ha hb
  cases hd : diffsR h lamp a b with
  | nil => exact this hd
  | cons x l =>
    have hx := (diffsR_mem hh ha hb x).1 (by rw [hd]; simp)
    rw [he] at hx; cases hx
theorem span_mem {l : List Int} (hne : l ≠ []) : (spanOf l).low ∈ l ∧ (spanOf l).high ∈ l ∧ ∀ x ∈ l, (spanOf l).low ≤ x ∧ x ≤ (spanOf l).high := by
  rcases spanOf_hull l with ⟨he, _⟩ | h
  · exact absurd he hne
  · exact h
theorem small_of {h : List Dye} {lamp : List Int} {a b : List Bath} (hh : HouseP h) (hL : LampP h lamp) (ha : BatchP h a) (hb : BatchP h b) : smallB (spanOf (apartL h lamp a b)) = true := by
  obtain ⟨h1, h2, h3⟩ := span_mem (apartL_ne (lamp := lamp) hh ha hb)
  have b1 := apartL_bd hh hL ha hb _ h1
  have b2 := apartL_bd hh hL ha hb _ h2
  have b3 := (h3 _ h1).2
  simp only [smallB, Bool.and_eq_true, decide_eq_true_eq]; omega
theorem apart_look {h : List Dye} {lamp : List Int} {a : List Bath} (hh : HouseP h) (ha : BatchP h a) : spanOf (apartL h lamp a []) = lookI h lamp a := by
  rw [← span_diffs hh ha ⟨by simp, by simp⟩]; exact look_eq hh ha
theorem DG_boolT {P : Program} {nt id k : Nat} {opl rest : List Oper} {s s0 : ASt} {o : Oper} {l : List DEnt} {Q : Exit → ASt → Prop} {c : Bool} (hT : TabOK P T) (hs : stepD T nt opl.toArray s o = some (s.putO o.dst (some (.pv (.bool c))), ⟨some (.pv (.bool c)), false, [], []⟩)) (hc : c = true) (h : DG P nt id opl Q s0 (k + 1) rest (s.putO o.dst (some (.pv (.bool true)))) (l ++ [⟨some (.pv (.bool true)), false, [], []⟩])) : DG P nt id opl Q s0 k (o :: rest) s l := by
  subst hc; exact DG_step hT hs h
set_option maxHeartbeats 3500000 in
theorem f14 (h : List Dye) (lamp : List Int) (a b c : List Bath) : ACalls Tryz.prog 14 [eHouse h, eLamp lamp, eBaths a, eBaths b, eBaths c] (fun r => r = .pv (.bool true)) := by
  have k27 := f27 h
  refine ACalls.of_body hT Tryz.func14 rfl (by kernel_rfl) rfl ?_
  by_cases hs : slimB h = true ∧ a.length ≤ 5 ∧ b.length ≤ 5 ∧ c.length ≤ 5 ∧ lamp.length ≤ 5
  · obtain ⟨hs, hla, hlb, hlc, hlm⟩ := hs
    rw [hs] at k27
    have hOK := slim_houseOK hs
    have k41 := f41 h a lamp hOK (by omega) (by omega)
    have k31b := f31 h b hOK.1 (by omega)
    have k31c := f31 h c hOK.1 (by omega)
    by_cases hf : ((isHouseB h && isBatchB h a && isLampB h lamp) && isBatchB h b && isBatchB h c) = true
    · simp only [Bool.and_eq_true] at hf
      obtain ⟨⟨⟨⟨w1, w2⟩, w3⟩, w4⟩, w5⟩ := hf
      rw [w1, w2, w3] at k41
      rw [w4] at k31b
      rw [w5] at k31c
      have hH := houseP_of w1
      have hL := lampP_of w3
      have hA := batchP_of w2
      have hB := batchP_of w4
      have hC := batchP_of w5
      have nil1 : isBatchB h [] = true := rfl
      have kp := f66 h lamp a b hOK (by omega) (by omega) (by omega)
      have kq := f66 h lamp b a hOK (by omega) (by omega) (by omega)
      have kr := f66 h lamp b c hOK (by omega) (by omega) (by omega)
      have ks := f66 h lamp a c hOK (by omega) (by omega) (by omega)
      have kt := f66 h lamp a [] hOK (by omega) (by omega) (by simp)
      have ku := f69 h lamp a hOK (by omega) (by omega)
      rw [show apartE h lamp a b = (spanOf (apartL h lamp a b), 0) by simp [apartE, w1, w2, w3, w4]] at kp
      rw [show apartE h lamp b a = (spanOf (apartL h lamp b a), 0) by simp [apartE, w1, w2, w3, w4]] at kq
      rw [show apartE h lamp b c = (spanOf (apartL h lamp b c), 0) by simp [apartE, w1, w3, w4, w5]] at kr
      rw [show apartE h lamp a c = (spanOf (apartL h lamp a c), 0) by simp [apartE, w1, w2, w3, w5]] at ks
      rw [show apartE h lamp a [] = (spanOf (apartL h lamp a []), 0) by simp [apartE, w1, w2, w3, nil1]] at kt
      rw [show lookE h lamp a = (lookI h lamp a, 0) by simp [lookE, w1, w2, w3]] at ku
      rw [apart_look hH hA] at kt
      rw [span_neg (apartL_ne hH hA hB)] at kq
      have s1 := small_of hH hL hA hB
      have s2 := small_of hH hL hB hA
      have s3 := small_of hH hL hB hC
      have s4 := small_of hH hL hA hC
      rw [span_neg (apartL_ne hH hA hB)] at s2
      have tri : (spanOf (apartL h lamp a c)).low ≥ (spanOf (apartL h lamp a b)).low + (spanOf (apartL h lamp b c)).low ∧ (spanOf (apartL h lamp a c)).high ≤ (spanOf (apartL h lamp a b)).high + (spanOf (apartL h lamp b c)).high := by
        have q1 := span_mem (apartL_ne (lamp := lamp) hH hA hC)
        have q2 := span_mem (apartL_ne (lamp := lamp) hH hA hB)
        have q3 := span_mem (apartL_ne (lamp := lamp) hH hB hC)
        obtain ⟨x, hx, y, hy, e1⟩ := apartL_tri hB _ q1.1
        obtain ⟨x', hx', y', hy', e2⟩ := apartL_tri hB _ q1.2.1
        have := q2.2.2 x hx; have := q3.2.2 y hy
        have := q2.2.2 x' hx'; have := q3.2.2 y' hy'
        omega
      generalize spanOf (apartL h lamp a b) = p at kp kq s1 s2 tri
      generalize spanOf (apartL h lamp b c) = r at kr s3 tri
      generalize spanOf (apartL h lamp a c) = s at ks s4 tri
      generalize lookI h lamp a = u at kt ku
      have v1 := f72 p
      have v2 := f72 ⟨-p.high, -p.low⟩
      have v3 := f72 r
      have v4 := f72 s
      rw [s1] at v1; rw [s2] at v2; rw [s3] at v3; rw [s4] at v4
      simp only [smallB, Bool.and_eq_true, decide_eq_true_eq] at s1 s3 s4
      have kt' : ACalls Tryz.prog 66 [eHouse h, eLamp lamp, eBaths a, .sl []] (fun r => r = .tup [eS u, vi 0]) := kt
      have kp : ACalls Tryz.prog 66 [eHouse h, eLamp lamp, eBaths a, eBaths b] (fun r => r = .tup [eS p, vi 0]) := kp
      have kq : ACalls Tryz.prog 66 [eHouse h, eLamp lamp, eBaths b, eBaths a] (fun r => r = .tup [eS ⟨-p.high, -p.low⟩, vi 0]) := kq
      have kr : ACalls Tryz.prog 66 [eHouse h, eLamp lamp, eBaths b, eBaths c] (fun v => v = .tup [eS r, vi 0]) := kr
      have ks : ACalls Tryz.prog 66 [eHouse h, eLamp lamp, eBaths a, eBaths c] (fun r => r = .tup [eS s, vi 0]) := ks
      have ku : ACalls Tryz.prog 69 [eHouse h, eLamp lamp, eBaths a] (fun r => r = .tup [eS u, vi 0]) := ku
      (repeat' (first | refine stq ?_ | (refine AL_do2 rfl ?_; first | refine ⟨_, op_call1 rfl rfl rfl rfl (k27), nrmA rfl ?_⟩ | refine ⟨_, op_call1 rfl rfl rfl rfl (k41), nrmA rfl ?_⟩ | refine ⟨_, op_call1 rfl rfl rfl rfl (k31b), nrmA rfl ?_⟩ | refine ⟨_, op_call1 rfl rfl rfl rfl (k31c), nrmA rfl ?_⟩ | refine ⟨_, op_call1 rfl rfl rfl rfl (f28), nrmA rfl ?_⟩) | (with_reducible refine AL_id ?_); (fail_if_success (refine AL_glit rfl rfl rfl (by first | exact .inl (by with_reducible rfl) | exact .inr (by with_reducible rfl)) ?_)); first | refine AL_gdec rfl rfl rfl (fun hg => ?_) (fun hg => ?_) | refine AL_gnot rfl rfl rfl (fun hg => ?_) (fun hg => ?_) | refine AL_gcases rfl rfl rfl (fun hg => ?_) (fun hg => ?_)))
      any_goals (exfalso; omega)
      (repeat' (first | refine stq ?_ | (refine AL_do2 rfl ?_; first | refine ⟨_, op_call1 rfl rfl rfl rfl (kp), nrmA rfl ?_⟩ | refine ⟨_, op_call1 rfl rfl rfl rfl (kq), nrmA rfl ?_⟩ | refine ⟨_, op_call1 rfl rfl rfl rfl (kr), nrmA rfl ?_⟩ | refine ⟨_, op_call1 rfl rfl rfl rfl (ks), nrmA rfl ?_⟩ | refine ⟨_, op_call1 rfl rfl rfl rfl (kt'), nrmA rfl ?_⟩ | refine ⟨_, op_call1 rfl rfl rfl rfl (ku), nrmA rfl ?_⟩ | refine ⟨_, op_call1 rfl rfl rfl rfl (v1), nrmA rfl ?_⟩ | refine ⟨_, op_call1 rfl rfl rfl rfl (v2), nrmA rfl ?_⟩ | refine ⟨_, op_call1 rfl rfl rfl rfl (v3), nrmA rfl ?_⟩ | refine ⟨_, op_call1 rfl rfl rfl rfl (v4), nrmA rfl ?_⟩ | refine ⟨_, op_neqS1 [u.low, u.high] aggEq37 rfl rfl rfl rfl rfl, ?_⟩) | (with_reducible refine AL_id ?_); (fail_if_success (refine AL_glit rfl rfl rfl (by first | exact .inl (by with_reducible rfl) | exact .inr (by with_reducible rfl)) ?_)); first | refine AL_gdec rfl rfl rfl (fun hg => ?_) (fun hg => ?_) | refine AL_gnot rfl rfl rfl (fun hg => ?_) (fun hg => ?_) | refine AL_gcases rfl rfl rfl (fun hg => ?_) (fun hg => ?_)))
      (repeat (first | refine DG_next (D_neg rfl rfl rfl rfl (by omega)) ?_ | refine sdq ?_))
      (repeat (first | refine sdq ?_ | refine DG_next (D_call rfl rfl rfl rfl rfl (f61 (-p.high) (-p.low))) ?_))
      refine DG_next (D_eqlS1 [-p.high, -p.low] aggEq37 rfl rfl rfl rfl rfl rfl) ?_
      iterate 8 (refine sdq ?_)
      refine DG_boolT hT rfl (decide_eq_true tri.1) ?_
      iterate 9 (refine sdq ?_)
      refine DG_boolT hT rfl (decide_eq_true tri.2) ?_
      (repeat (first | refine sdq ?_ | refine DG_next (D_call rfl rfl rfl rfl rfl (f28)) ?_))
      refine DG_end hM (by kernel_rfl) ?_
      (repeat (refine stq ?_))
      exact ⟨_, _, rfl, rfl, rfl⟩
    · (repeat' (first | refine stq ?_ | (refine AL_do2 rfl ?_; first | refine ⟨_, op_call1 rfl rfl rfl rfl (k27), nrmA rfl ?_⟩ | refine ⟨_, op_call1 rfl rfl rfl rfl (k41), nrmA rfl ?_⟩ | refine ⟨_, op_call1 rfl rfl rfl rfl (k31b), nrmA rfl ?_⟩ | refine ⟨_, op_call1 rfl rfl rfl rfl (k31c), nrmA rfl ?_⟩ | refine ⟨_, op_call1 rfl rfl rfl rfl (f28), nrmA rfl ?_⟩) | (with_reducible refine AL_id ?_); (fail_if_success (refine AL_glit rfl rfl rfl (by first | exact .inl (by with_reducible rfl) | exact .inr (by with_reducible rfl)) ?_)); first | refine AL_gdec rfl rfl rfl (fun hg => ?_) (fun hg => ?_) | refine AL_gnot rfl rfl rfl (fun hg => ?_) (fun hg => ?_) | refine AL_gcases rfl rfl rfl (fun hg => ?_) (fun hg => ?_)))
      all_goals (try (exfalso; omega))
      all_goals (first | exact ⟨_, _, rfl, rfl, rfl⟩ | skip)
      refine AW_cond rfl (fun hc => ?_) (fun hc => ?_)
      · (repeat' (first | refine stq ?_ | (refine AL_do2 rfl ?_; first | refine ⟨_, op_call1 rfl rfl rfl rfl (f28), nrmA rfl ?_⟩) | (with_reducible refine AL_id ?_); (fail_if_success (refine AL_glit rfl rfl rfl (by first | exact .inl (by with_reducible rfl) | exact .inr (by with_reducible rfl)) ?_)); first | refine AL_gdec rfl rfl rfl (fun hg => ?_) (fun hg => ?_) | refine AL_gnot rfl rfl rfl (fun hg => ?_) (fun hg => ?_) | refine AL_gcases rfl rfl rfl (fun hg => ?_) (fun hg => ?_)))
        exact ⟨_, _, rfl, rfl, rfl⟩
      · exfalso; apply hf; simp_all
  · cases hq : slimB h with
    | false =>
      rw [hq] at k27
      (repeat' (first | refine stq ?_ | (refine AL_do2 rfl ?_; first | refine ⟨_, op_call1 rfl rfl rfl rfl (k27), nrmA rfl ?_⟩ | refine ⟨_, op_call1 rfl rfl rfl rfl (f28), nrmA rfl ?_⟩) | (with_reducible refine AL_id ?_); (fail_if_success (refine AL_glit rfl rfl rfl (by first | exact .inl (by with_reducible rfl) | exact .inr (by with_reducible rfl)) ?_)); first | refine AL_gdec rfl rfl rfl (fun hg => ?_) (fun hg => ?_) | refine AL_gnot rfl rfl rfl (fun hg => ?_) (fun hg => ?_) | refine AL_gcases rfl rfl rfl (fun hg => ?_) (fun hg => ?_)))
      all_goals exact ⟨_, _, rfl, rfl, rfl⟩
    | true =>
      rw [hq] at k27
      simp only [hq, true_and] at hs
      (repeat' (first | (exfalso; omega) | refine AW_if rfl (fun hc => absurd hc (by omega)) (fun _ => ?_) | refine AW_if rfl (fun _ => ?_) (fun hc => absurd (by omega) hc) | refine stq ?_ | (refine AL_do2 rfl ?_; first | refine ⟨_, op_call1 rfl rfl rfl rfl (k27), nrmA rfl ?_⟩ | refine ⟨_, op_call1 rfl rfl rfl rfl (f28), nrmA rfl ?_⟩) | (with_reducible refine AL_id ?_); (fail_if_success (refine AL_glit rfl rfl rfl (by first | exact .inl (by with_reducible rfl) | exact .inr (by with_reducible rfl)) ?_)); first | refine AL_gdec rfl rfl rfl (fun hg => ?_) (fun hg => ?_) | refine AL_gnot rfl rfl rfl (fun hg => ?_) (fun hg => ?_) | refine AL_gcases rfl rfl rfl (fun hg => ?_) (fun hg => ?_)))
      all_goals exact ⟨_, _, rfl, rfl, rfl⟩
end Go.Abs
