/- The reference's Apart and Look. -/
import Derived.Test.YtkmclnjmabljdaaGreatDoorNeV
import Derived.Test.YtkmclnjmabljdaaGreatDoorNcAbsAF
set_option linter.unusedVariables false
set_option linter.unusedSimpArgs false
namespace Go.Abs
open Go.Proofs
set_option linter.unusedVariables false
set_option linter.unusedSimpArgs false
set_option maxRecDepth 100000

theorem lows_in : ∀ {l : List Span}, (∀ s ∈ l, s.low ≤ s.high) → inS (lowsI l) l
  | [], _ => trivial
  | s :: l, h => ⟨Int.le_refl _, h s (by simp), lows_in fun u hu => h u (by simp [hu])⟩
theorem highs_in : ∀ {l : List Span}, (∀ s ∈ l, s.low ≤ s.high) → inS (highsI l) l
  | [], _ => trivial
  | s :: l, h => ⟨h s (by simp), Int.le_refl _, highs_in fun u hu => h u (by simp [hu])⟩
theorem diffsR_ne {h : List Dye} {lamp : List Int} {a b : List Bath} (hh : HouseP h) (ha : BatchP h a) (hb : BatchP h b) : diffsR h lamp a b ≠ [] := by
  have depth_ne : ∀ {l : List Bath}, BatchP h l → ∀ (d : Dye) (k : Int) (t : List Int), ∃ x, x ∈ depthsL d k t l := fun {l} hl d k t => by
    refine ⟨depthI d k t (ofDye k l) (lowsI ((ofDye k l).map (fun b : Bath => b.hours))), List.mem_map.2 ⟨_, ?_, rfl⟩⟩
    rw [numsL_mem]
    refine lows_in fun s hs => ?_
    obtain ⟨b, hb, rfl⟩ := List.mem_map.1 hs
    have := hl.2 b (ofDye_mem hb).1
    unfold BathP at this; omega
  have each_ne : ∀ d ∈ h, ∀ k, ∃ x, x ∈ eachL d k a b := fun d hd k => by
    have ht : lowsI d.takes ∈ numsL d.takes := by rw [numsL_mem]; exact lows_in fun s hs => by have := (hh.2.2 d hd).2.2.2 s hs; omega
    obtain ⟨x, hx⟩ := depth_ne ha d k (lowsI d.takes)
    obtain ⟨y, hy⟩ := depth_ne hb d k (lowsI d.takes)
    exact ⟨x - y, List.mem_flatMap.2 ⟨_, ht, diffL_mem.2 ⟨x, hx, y, hy, rfl⟩⟩⟩
  have key : ∀ (g : List Dye) (ws : List Int) (i : Int) (out : List Int), (∀ d ∈ g, d ∈ h) → (∃ x, x ∈ out) → ∃ x, x ∈ apartGo a b g ws i out := by
    intro g
    induction g with
    | nil => intro ws i out _ ho; simpa [apartGo] using ho
    | cons d g ih =>
      intro ws i out hd ho
      cases ws with
      | nil => simpa [apartGo] using ho
      | cons w ws =>
        obtain ⟨x, hx⟩ := ho
        obtain ⟨y, hy⟩ := each_ne d (hd d (by simp)) i
        exact ih ws (i + 1) _ (fun e he => hd e (by simp [he])) ⟨x + w * y, List.mem_flatMap.2 ⟨x, hx, List.mem_map.2 ⟨y, hy, rfl⟩⟩⟩
  obtain ⟨x, hx⟩ := key h lamp 0 [0] (fun _ h => h) ⟨0, by simp⟩
  intro he
  have := (diffsR_mem hh ha hb x).2 hx
  rw [he] at this
  cases this
theorem foldl_take_succ {f : Int → Int → Int} {l : List Int} {k : Nat} {x a : Int} (h : l[k]? = some x) : (l.take (k + 1)).foldl f a = f ((l.take k).foldl f a) x := by
  rw [List.take_add_one, h]; simp
set_option maxHeartbeats 2000000 in
theorem f71 (h : List Dye) (lamp : List Int) (a b : List Bath) (hh : HouseP h) (hL : LampP h lamp) (ha : BatchP h a) (hb : BatchP h b) : ACalls Tryz.prog 71 [eHouse h, eLamp lamp, eBaths a, eBaths b] (fun r => r = .pv (eS (spanOf (diffsR h lamp a b)))) := by
  have k120 := f120 h lamp a b hh hL ha hb
  have hne := diffsR_ne (lamp := lamp) hh ha hb
  have hLl : (diffsR h lamp a b).length ≤ 2 * 3000 + 1 := nd_len (c := 3000) (diffGo_nodup a b _ _ _ _ (by simp)) fun n hn => by
    have := diffGo_bd hh ha hb h lamp 0 [0] 0 (fun d hd => hd) hL.2 (by simp [bdK]) (Int.le_refl _) n hn
    have := hh.1; omega
  generalize diffsR h lamp a b = L at k120 hne hLl ⊢
  obtain ⟨x0, tl, rfl⟩ : ∃ x0 tl, L = x0 :: tl := by cases L with
    | nil => exact absurd rfl hne
    | cons x tl => exact ⟨x, tl, rfl⟩
  refine ACalls.of_body hT Tryz.func71 rfl (by kernel_rfl) rfl ?_
  refine AW_res ?_
  have e0 : ((x0 :: tl).map eInt)[(0 : Int).toNat]? = some (eInt x0) := rfl
  generalize hLL : x0 :: tl = L at k120 hLl e0 ⊢
  (repeat' (first | refine stp ?_ | (refine AL_do2 rfl ?_; first | refine ⟨_, op_call1 rfl rfl rfl rfl (k120), ?_⟩) | refine AL_gdec rfl rfl rfl (fun hg => ?_) (fun hg => ?_) | refine AL_gnot rfl rfl rfl (fun hg => ?_) (fun hg => ?_) | refine AL_gcases rfl rfl rfl (fun hg => ?_) (fun hg => ?_)))
  (repeat (first | refine DG_next (D_alloc (F := 0) hT rfl rfl rfl rfl rfl) ?_ | refine sdr ?_))
  refine DG_end hM (by kernel_rfl) ?_
  (repeat (refine stp ?_))
  refine AW_loopC (fun k : Nat => k ≤ L.length) (fun k => mkSt [(8, .box 3 0), (9, .pv (eInts L)), (10, .box 0 0), (11, .pv (vi k))] [(0, .box [.pv (vi ((L.take k).foldl min x0)), .pv (vi ((L.take k).foldl max x0))]), (3, .box [.pv (vi 0), .pv (vi 0)])] 4) (fun k => L.length - k) 0 (Nat.zero_le _) ?_ ?_
  · (refine Le.mk ?_ ?_; all_goals (repeat' (first | exact trivial | refine sle ?_ | refine ⟨?_, rfl, ?_⟩ | refine ⟨?_, by decide, rfl, ?_⟩ | fail)))
  · intro k hk
    (repeat (refine stp ?_))
    refine AW_if rfl (fun hc => ?_) (fun hc => ?_)
    · have hk' : k < L.length := by omega
      obtain ⟨x, hx⟩ : ∃ x, L[k]? = some x := ⟨L[k], by simp [hk']⟩
      have e1 := get_map eInt hx
      (repeat (refine stp ?_))
      (repeat (refine sdr ?_))
      refine DG_end hM (by kernel_rfl) ?_
      (repeat (refine stp ?_))
      refine ⟨k + 1, hk', by omega, ?_⟩
      (refine Le.mk ?_ ?_; all_goals (repeat' (first | exact trivial | refine sle ?_ | refine ⟨?_, rfl, ?_⟩ | refine ⟨?_, by decide, rfl, ?_⟩ | fail)))
      rw [foldl_take_succ hx, foldl_take_succ hx]; rfl
    · have hk' : k = L.length := by omega
      subst hk'
      (repeat (refine stp ?_))
      refine ⟨_, _, rfl, rfl, ?_⟩
      rw [List.take_length, ← hLL]
      simp only [spanOf, eS, eSpan, List.foldl_cons, Int.min_self, Int.max_self]
theorem f70 (h : List Dye) (lamp : List Int) (a : List Bath) (hh : HouseP h) (hL : LampP h lamp) (ha : BatchP h a) : ACalls Tryz.prog 70 [eHouse h, eLamp lamp, eBaths a] (fun r => r = .pv (eS (spanOf (diffsR h lamp a [])))) := by
  have k71 : ACalls Tryz.prog 71 [eHouse h, eLamp lamp, eBaths a, .sl []] (fun r => r = .pv (eS (spanOf (diffsR h lamp a [])))) := f71 h lamp a [] hh hL ha ⟨by simp, by simp⟩
  refine ACalls.of_body hT Tryz.func70 rfl (by kernel_rfl) rfl ?_
  (repeat' (first | refine stp ?_ | (refine AL_do2 rfl ?_; first | refine ⟨_, op_call1 rfl rfl rfl rfl (k71), ?_⟩) | refine AL_gdec rfl rfl rfl (fun hg => ?_) (fun hg => ?_) | refine AL_gnot rfl rfl rfl (fun hg => ?_) (fun hg => ?_) | refine AL_gcases rfl rfl rfl (fun hg => ?_) (fun hg => ?_)))
  exact ⟨_, _, rfl, rfl, rfl⟩

/-! The looks of a batch reach from the sum of all least ones to that of all greatest ones. -/
theorem sumI_mono : ∀ {l m : List Int}, l.length = m.length → (∀ (i : Nat) (x y : Int), l[i]? = some x → m[i]? = some y → x ≤ y) → sumI l ≤ sumI m
  | [], [], _, _ => Int.le_refl _
  | [], _ :: _, h, _ => by simp at h
  | _ :: _, [], h, _ => by simp at h
  | x :: l, y :: m, h, hp => by
    have h1 := hp 0 x y rfl rfl
    have h2 := sumI_mono (l := l) (m := m) (by simpa using h) fun i u v hu hv => hp (i + 1) u v (by simpa using hu) (by simpa using hv)
    simp only [sumI]; omega
theorem inS_get : ∀ {l : List Span} {x : List Int}, inS x l → (∀ s ∈ l, 0 ≤ s.low) → ∀ k, (lowsI l).getD k 0 ≤ x.getD k 0 ∧ x.getD k 0 ≤ (highsI l).getD k 0 ∧ 0 ≤ (lowsI l).getD k 0
  | [], [], _, _, k => by simp [lowsI, highsI]
  | [], _ :: _, h, _, _ => h.elim
  | _ :: _, [], h, _, _ => h.elim
  | s :: l, x :: xs, ⟨h1, h2, h3⟩, hs, 0 => by have := hs s (by simp); simp [lowsI, highsI]; omega
  | s :: l, x :: xs, ⟨h1, h2, h3⟩, hs, k + 1 => by
    have := inS_get h3 (fun u hu => hs u (by simp [hu])) k
    simpa [lowsI, highsI] using this
theorem prods_mono (dye : Int) (t t' : List Int) (ht : ∀ k, 0 ≤ t.getD k 0 ∧ t.getD k 0 ≤ t'.getD k 0) : ∀ (l : List Bath) (x x' : List Int), x.length = l.length → x'.length = l.length → (∀ k, 0 ≤ x.getD k 0 ∧ x.getD k 0 ≤ x'.getD k 0) → sumI (prods dye t l x) ≤ sumI (prods dye t' l x')
  | [], _, _, _, _, _ => by simp [prods, sumI]
  | b :: l, [], _, h, _, _ => by simp at h
  | b :: l, _ :: _, [], _, h, _ => by simp at h
  | b :: l, x :: xs, x' :: xs', h1, h2, hx => by
    have ih := prods_mono dye t t' ht l xs xs' (by simpa using h1) (by simpa using h2) fun k => by simpa using hx (k + 1)
    have h0 : 0 ≤ x ∧ x ≤ x' := by simpa using hx 0
    simp only [prods, sumI_append]
    have h3 : sumI (if b.dye = dye then [x * t.getD b.temper.toNat 0] else []) ≤ sumI (if b.dye = dye then [x' * t'.getD b.temper.toNat 0] else []) := by
      split
      · have q := ht b.temper.toNat
        have q1 : x * t.getD b.temper.toNat 0 ≤ x' * t'.getD b.temper.toNat 0 := Int.mul_le_mul h0.2 q.2 q.1 (by omega)
        simp only [sumI]; omega
      · exact Int.le_refl _
    omega
theorem hours_len (l : List Bath) : (hoursI l).length = l.length := by simp [hoursI]
/-- Each depth lies between the ends, whichever hours are counted. -/
theorem depth_ends {h : List Dye} {l : List Bath} {d : Dye} {k : Int} {t x : List Int} (hh : HouseP h) (hl : BatchP h l) (hd : d ∈ h) (ht : inS t d.takes) (hx : inS x (hoursI l)) : (endsI d l k).low ≤ depthI d k t l x ∧ depthI d k t l x ≤ (endsI d l k).high := by
  have hdm := hh.2.2 d hd
  have hho : ∀ s ∈ hoursI l, 0 ≤ s.low := fun s hs => by
    obtain ⟨b, hb, rfl⟩ := List.mem_map.1 hs
    have := hl.2 b hb; unfold BathP at this; omega
  have gt := inS_get ht fun s hs => (hdm.2.2.2 s hs).1
  have gx := inS_get hx hho
  have lx : x.length = l.length := by rw [← hours_len l]; exact numsL_len _ _ (numsL_mem.2 hx)
  have ll : (lowsI (hoursI l)).length = l.length := by simp [lowsI, hoursI]
  have lh : (highsI (hoursI l)).length = l.length := by simp [highsI, hoursI]
  have m1 := prods_mono k (lowsI d.takes) t (fun j => ⟨(gt j).2.2, (gt j).1⟩) l (lowsI (hoursI l)) x ll lx fun j => ⟨(gx j).2.2, (gx j).1⟩
  have m2 := prods_mono k t (highsI d.takes) (fun j => ⟨by have := gt j; omega, (gt j).2.1⟩) l x (highsI (hoursI l)) lx lh fun j => ⟨by have := gx j; omega, (gx j).2.1⟩
  unfold endsI shallowI deepI depthI
  constructor <;> simp only <;> omega
/-- What hours of a batch's baths in a dye are those of the whole batch. -/
theorem of_own {dye : Int} {l : List Bath} {t p : List Int} (hl : ∀ b ∈ l, b.hours.low ≤ b.hours.high) : (∃ x ∈ numsL ((ofDye dye l).map (fun b : Bath => b.hours)), prods dye t (ofDye dye l) x = p) ↔ ∃ x, inS x (hoursI l) ∧ prods dye t l x = p := by
  induction l generalizing p with
  | nil =>
    simp only [ofDye, List.filter_nil, List.map_nil, numsL, hoursI, List.mem_singleton]
    constructor
    · rintro ⟨x, rfl, hp⟩; exact ⟨[], trivial, hp⟩
    · rintro ⟨x, hx, hp⟩
      cases x with
      | nil => exact ⟨[], rfl, hp⟩
      | cons => exact hx.elim
  | cons b l ih =>
    have hb := hl b (by simp)
    have ih := fun q => ih (p := q) fun c hc => hl c (by simp [hc])
    by_cases hd : b.dye = dye
    · have e1 : ofDye dye (b :: l) = b :: ofDye dye l := by simp [ofDye, hd]
      rw [e1, List.map_cons]
      simp only [numsL_mem] at ih ⊢
      constructor
      · rintro ⟨x, hx, rfl⟩
        cases x with
        | nil => exact hx.elim
        | cons n xs =>
          obtain ⟨h1, h2, h3⟩ := hx
          obtain ⟨y, hy, hp⟩ := (ih (prods dye t (ofDye dye l) xs)).1 ⟨xs, h3, rfl⟩
          exact ⟨n :: y, ⟨h1, h2, hy⟩, by simp only [prods, hp]⟩
      · rintro ⟨x, hx, rfl⟩
        cases x with
        | nil => exact hx.elim
        | cons n xs =>
          obtain ⟨h1, h2, h3⟩ := hx
          obtain ⟨y, hy, hp⟩ := (ih (prods dye t l xs)).2 ⟨xs, h3, rfl⟩
          exact ⟨n :: y, ⟨h1, h2, hy⟩, by simp only [prods, hp]⟩
    · have e1 : ofDye dye (b :: l) = ofDye dye l := by simp [ofDye, hd]
      rw [e1, ih p]
      constructor
      · rintro ⟨x, hx, rfl⟩
        exact ⟨b.hours.low :: x, ⟨Int.le_refl _, hb, hx⟩, by simp [prods, hd]⟩
      · rintro ⟨x, hx, rfl⟩
        cases x with
        | nil => exact hx.elim
        | cons n xs => exact ⟨xs, hx.2.2, by simp [prods, hd]⟩
theorem depthsL_mem {h : List Dye} {d : Dye} {dye : Int} {t : List Int} {l : List Bath} (hl : BatchP h l) (n : Int) : n ∈ depthsL d dye t l ↔ ∃ x, inS x (hoursI l) ∧ depthI d dye t l x = n := by
  have hb : ∀ b ∈ l, b.hours.low ≤ b.hours.high := fun b hb => by have := hl.2 b hb; unfold BathP at this; omega
  unfold depthsL depthI
  simp only [List.mem_map]
  constructor
  · rintro ⟨x, hx, rfl⟩
    obtain ⟨y, hy, hp⟩ := (of_own hb).1 ⟨x, hx, rfl⟩
    exact ⟨y, hy, by rw [hp]⟩
  · rintro ⟨x, hx, rfl⟩
    obtain ⟨y, hy, hp⟩ := (of_own (t := t) (dye := dye) hb).2 ⟨x, hx, rfl⟩
    exact ⟨y, hy, by rw [hp]⟩
theorem eachL_nil {h : List Dye} {d : Dye} {k : Int} {l : List Bath} (hh : HouseP h) (hl : BatchP h l) (hd : d ∈ h) (n : Int) : n ∈ eachL d k l [] ↔ ∃ t, inS t d.takes ∧ ∃ x, inS x (hoursI l) ∧ depthI d k t l x = n := by
  have hf := (hh.2.2 d hd).2.1
  have h0 : ∀ t, depthsL d k t [] = [0] := fun t => by
    simp only [depthsL, ofDye, List.filter_nil, List.map_nil, numsL, List.map_cons, depthI, prods, sumI]
    rw [Int.min_eq_right hf]
  simp only [eachL, List.mem_flatMap, numsL_mem, diffL_mem, h0, depthsL_mem hl, List.mem_singleton]
  constructor
  · rintro ⟨t, ht, u, ⟨x, hx, rfl⟩, y, rfl, rfl⟩; exact ⟨t, ht, x, hx, by omega⟩
  · rintro ⟨t, ht, x, hx, rfl⟩; exact ⟨t, ht, _, ⟨x, hx, rfl⟩, 0, rfl, by omega⟩
theorem eachL_hull {h : List Dye} {d : Dye} {k : Int} {l : List Bath} (hh : HouseP h) (hl : BatchP h l) (hd : d ∈ h) : isHull (eachL d k l []) (endsI d l k) := by
  have hdm := hh.2.2 d hd
  have hs : ∀ s ∈ d.takes, s.low ≤ s.high := fun s hs => by have := hdm.2.2.2 s hs; omega
  have hho : ∀ s ∈ hoursI l, s.low ≤ s.high := fun s hs => by
    obtain ⟨b, hb, rfl⟩ := List.mem_map.1 hs
    have := hl.2 b hb; unfold BathP at this; omega
  refine .inr ⟨(eachL_nil hh hl hd _).2 ⟨_, lows_in hs, _, lows_in hho, rfl⟩, (eachL_nil hh hl hd _).2 ⟨_, highs_in hs, _, highs_in hho, rfl⟩, fun n hn => ?_⟩
  obtain ⟨t, ht, x, hx, rfl⟩ := (eachL_nil hh hl hd n).1 hn
  exact depth_ends hh hl hd ht hx
theorem hull_step {out E : List Int} {s e : Span} {w : Int} (ho : out ≠ [] ∧ isHull out s) (hE : E ≠ [] ∧ isHull E e) : (out.flatMap fun n => E.map fun m => n + w * m) ≠ [] ∧ isHull (out.flatMap fun n => E.map fun m => n + w * m) (spanPlus s (spanTimes e w)) := by
  obtain ⟨ho1, ho2⟩ := ho
  obtain ⟨hE1, hE2⟩ := hE
  rcases ho2 with ⟨rfl, _⟩ | ⟨a1, a2, a3⟩
  · exact absurd rfl ho1
  rcases hE2 with ⟨rfl, _⟩ | ⟨b1, b2, b3⟩
  · exact absurd rfl hE1
  have mem : ∀ n m, n ∈ out → m ∈ E → n + w * m ∈ out.flatMap fun n => E.map fun m => n + w * m := fun n m hn hm => List.mem_flatMap.2 ⟨n, hn, List.mem_map.2 ⟨m, hm, rfl⟩⟩
  have hle := b3 _ b2
  refine ⟨List.ne_nil_of_mem (mem _ _ a1 b1), .inr ?_⟩
  unfold spanPlus spanTimes
  rcases Int.le_total 0 w with hw | hw
  · have o1 : e.low * w ≤ e.high * w := Int.mul_le_mul_of_nonneg_right hle.1 hw
    simp only [Int.min_eq_left o1, Int.max_eq_right o1]
    refine ⟨by rw [Int.mul_comm]; exact mem _ _ a1 b1, by rw [Int.mul_comm]; exact mem _ _ a2 b2, fun x hx => ?_⟩
    obtain ⟨n, hn, hx⟩ := List.mem_flatMap.1 hx
    obtain ⟨m, hm, rfl⟩ := List.mem_map.1 hx
    have q1 := a3 n hn
    have q2 := b3 m hm
    have q3 : e.low * w ≤ m * w := Int.mul_le_mul_of_nonneg_right q2.1 hw
    have q4 : m * w ≤ e.high * w := Int.mul_le_mul_of_nonneg_right q2.2 hw
    rw [Int.mul_comm w m]; omega
  · have o1 : e.high * w ≤ e.low * w := Int.mul_le_mul_of_nonpos_right hle.1 hw
    simp only [Int.min_eq_right o1, Int.max_eq_left o1]
    refine ⟨by rw [Int.mul_comm]; exact mem _ _ a1 b2, by rw [Int.mul_comm]; exact mem _ _ a2 b1, fun x hx => ?_⟩
    obtain ⟨n, hn, hx⟩ := List.mem_flatMap.1 hx
    obtain ⟨m, hm, rfl⟩ := List.mem_map.1 hx
    have q1 := a3 n hn
    have q2 := b3 m hm
    have q3 : e.high * w ≤ m * w := Int.mul_le_mul_of_nonpos_right q2.2 hw
    have q4 : m * w ≤ e.low * w := Int.mul_le_mul_of_nonpos_right q2.1 hw
    rw [Int.mul_comm w m]; omega
theorem apart_hull {h0 : List Dye} {l : List Bath} (hh : HouseP h0) (hl : BatchP h0 l) : ∀ (h : List Dye) (ws : List Int) (i : Int) (out : List Int) (s : Span), (∀ d ∈ h, d ∈ h0) → out ≠ [] ∧ isHull out s → apartGo l [] h ws i out ≠ [] ∧ isHull (apartGo l [] h ws i out) (spanPlus s (sumS (termsL l h ws i)))
  | [], ws, i, out, s, _, ho => by
    have : termsL l [] ws i = [] := by cases ws <;> rfl
    rw [this]; simpa [apartGo, spanPlus, sumS, sumI] using ho
  | d :: h, [], i, out, s, _, ho => by simpa [apartGo, termsL, spanPlus, sumS, sumI] using ho
  | d :: h, w :: ws, i, out, s, hd, ho => by
    have hE := eachL_hull (k := i) hh hl (hd d (by simp))
    have hne : eachL d i l [] ≠ [] := by
      rcases hE with ⟨he, hs⟩ | ⟨h1, _⟩
      · intro _
        have hs' : ∀ s ∈ d.takes, s.low ≤ s.high := fun s hs => by have := (hh.2.2 d (hd d (by simp))).2.2.2 s hs; omega
        have hho : ∀ s ∈ hoursI l, s.low ≤ s.high := fun s hs => by
          obtain ⟨b, hb, rfl⟩ := List.mem_map.1 hs
          have := hl.2 b hb; unfold BathP at this; omega
        have := (eachL_nil (k := i) hh hl (hd d (by simp)) _).2 ⟨_, lows_in hs', _, lows_in hho, rfl⟩
        rw [he] at this; cases this
      · exact List.ne_nil_of_mem h1
    have := apart_hull hh hl h ws (i + 1) _ _ (fun e he => hd e (by simp [he])) (hull_step (w := w) ho ⟨hne, hE⟩)
    have e : spanPlus (spanPlus s (spanTimes (endsI d l i) w)) (sumS (termsL l h ws (i + 1))) = spanPlus s (sumS (termsL l (d :: h) (w :: ws) i)) := by
      simp only [termsL, sumS, spanPlus, List.map_cons, sumI, Span.mk.injEq]; omega
    rw [e] at this
    simpa [apartGo] using this
/-- The reference's look is the program's. -/
theorem look_eq {h : List Dye} {lamp : List Int} {l : List Bath} (hh : HouseP h) (hl : BatchP h l) : spanOf (diffsR h lamp l []) = lookI h lamp l := by
  have h1 := (apart_hull hh hl h lamp 0 [0] ⟨0, 0⟩ (fun _ h => h) ⟨by simp, .inr ⟨by simp, by simp, by simp⟩⟩).2
  have e : spanPlus ⟨0, 0⟩ (sumS (termsL l h lamp 0)) = lookI h lamp l := by simp [spanPlus, lookI]
  rw [e] at h1
  exact hull_unique (diffsR_mem hh hl ⟨by simp, by simp⟩) (spanOf_hull _) h1
end Go.Abs
