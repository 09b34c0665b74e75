/- Lemmas. -/
import Derived.Test.YtmplfjolcdlipaaGreatDoorNcA
import Derived.Test.YtmplfjolcdlipaaGreatDoorNcB
import Derived.Test.YtmplfjolcdlipaaGreatDoorNcC
import Derived.Test.YtmplfjolcdlipaaGreatDoorNcD
import Derived.Test.YtmplfjolcdlipaaGreatDoorNcE
import Derived.Test.YtmplfjolcdlipaaGreatDoorNcF
import Derived.Test.YtmplfjolcdlipaaGreatDoorNcG
import Derived.Test.YtmplfjolcdlipaaGreatDoorNcH
import Derived.Test.YtmplfjolcdlipaaGreatDoorDrA
import Derived.Test.YtmplfjolcdlipaaGreatDoorDrB
import Derived.Test.YtmplfjolcdlipaaGreatDoorDrC
import Derived.Test.YtmplfjolcdlipaaGreatDoorFA
import Derived.Test.YtmplfjolcdlipaaGreatDoorNcI
import Derived.Test.YtmplfjolcdlipaaGreatDoorNcJ
import Derived.Test.YtmplfjolcdlipaaGreatDoorNcK
import Derived.Test.YtmplfjolcdlipaaGreatDoorSh
import Derived.Test.YtmplfjolcdlipaaGreatDoorDrO
import Derived.Test.YtmplfjolcdlipaaGreatDoorDrD
import Derived.Test.YtmplfjolcdlipaaGreatDoorDrE
import Derived.Test.YtmplfjolcdlipaaGreatDoorDrF
import Derived.Test.YtmplfjolcdlipaaGreatDoorDrP
import Derived.Test.YtmplfjolcdlipaaGreatDoorDrQ
import Derived.Test.YtmplfjolcdlipaaGreatDoorDrR
import Derived.Test.YtmplfjolcdlipaaGreatDoorDrS
import Derived.Test.YtmplfjolcdlipaaGreatDoorDrU
import Derived.Test.YtmplfjolcdlipaaGreatDoorDrG
import Derived.Test.YtmplfjolcdlipaaGreatDoorDrV
import Derived.Test.YtmplfjolcdlipaaGreatDoorDrH
import Derived.Test.YtmplfjolcdlipaaGreatDoorDrI
import Derived.Test.YtmplfjolcdlipaaGreatDoorDrJ
import Derived.Test.YtmplfjolcdlipaaGreatDoorDrK
import Derived.Test.YtmplfjolcdlipaaGreatDoorDrL
import Derived.Test.YtmplfjolcdlipaaGreatDoorDrM
import Derived.Test.YtmplfjolcdlipaaGreatDoorDrN
import Derived.Test.YtmplfjolcdlipaaGreatDoorDrW
import Derived.Test.YtmplfjolcdlipaaGreatDoorDrBK
import Derived.Test.YtmplfjolcdlipaaGreatDoorDrBJ
import Derived.Test.YtmplfjolcdlipaaGreatDoorDrBL
set_option linter.unusedVariables false
set_option linter.unusedSimpArgs false
namespace Go.Abs
set_option linter.unusedVariables false
section
variable {d : Drum} {a : Acid}
theorem ends_get {high : Bool} {i : Nat} (hi : i < d.hours.toNat) : (endsL (strongL d a) high).getD i 0 = if high then (strongS d a i).high else (strongS d a i).low := by
  rw [List.getD_eq_getElem?_getD, endsL, List.getElem?_map, strongL_get hi]
  rfl
end
end Go.Abs
namespace Go.Abs
set_option linter.unusedVariables false
theorem foldl_hull : ∀ (l : List Span) (x : Span), (∀ s, s = x ∨ s ∈ l → (l.foldl hull2 x).low ≤ s.low ∧ s.high ≤ (l.foldl hull2 x).high) ∧ (∃ s, (s = x ∨ s ∈ l) ∧ (l.foldl hull2 x).low = s.low) ∧ ∃ s, (s = x ∨ s ∈ l) ∧ (l.foldl hull2 x).high = s.high
  | [], x => ⟨fun s h => (by rcases h with rfl | h; exact ⟨Int.le_refl _, Int.le_refl _⟩; cases h), ⟨x, .inl rfl, rfl⟩, x, .inl rfl, rfl⟩
  | y :: l, x => by
    obtain ⟨h1, ⟨s2, h2, g2⟩, s3, h3, g3⟩ := foldl_hull l (hull2 x y)
    have hx := h1 _ (.inl rfl)
    simp only [List.foldl_cons]
    refine ⟨fun s hs => ?_, ?_, ?_⟩
    · rcases hs with rfl | hs
      · simp only [hull2] at hx ⊢; omega
      · rcases List.mem_cons.1 hs with rfl | hs
        · simp only [hull2] at hx ⊢; omega
        · exact h1 s (.inr hs)
    · rcases h2 with rfl | h2
      · by_cases h : x.low ≤ y.low
        · exact ⟨x, .inl rfl, by rw [g2]; simp only [hull2]; omega⟩
        · exact ⟨y, .inr (by simp), by rw [g2]; simp only [hull2]; omega⟩
      · exact ⟨s2, .inr (by simp [h2]), g2⟩
    · rcases h3 with rfl | h3
      · by_cases h : x.high ≤ y.high
        · exact ⟨y, .inr (by simp), by rw [g3]; simp only [hull2]; omega⟩
        · exact ⟨x, .inl rfl, by rw [g3]; simp only [hull2]; omega⟩
      · exact ⟨s3, .inr (by simp [h3]), g3⟩
theorem hull_in {l : List Span} {s : Span} (h : s ∈ l) : (hullL l).low ≤ s.low ∧ s.high ≤ (hullL l).high := by
  cases l with
  | nil => cases h
  | cons x l => exact (foldl_hull l x).1 s (by rcases List.mem_cons.1 h with h | h <;> simp [h])
theorem hull_low {l : List Span} (h : l ≠ []) : ∃ s ∈ l, (hullL l).low = s.low := by
  cases l with
  | nil => exact absurd rfl h
  | cons x l =>
    obtain ⟨s, hs, h2⟩ := (foldl_hull l x).2.1
    exact ⟨s, by rcases hs with h | h <;> simp [h], h2⟩
theorem hull_high {l : List Span} (h : l ≠ []) : ∃ s ∈ l, (hullL l).high = s.high := by
  cases l with
  | nil => exact absurd rfl h
  | cons x l =>
    obtain ⟨s, hs, h2⟩ := (foldl_hull l x).2.2
    exact ⟨s, by rcases hs with h | h <;> simp [h], h2⟩
theorem hull_mono {α : Type} {l l' : List α} {f g : α → Span} (hne : l' ≠ []) (h : ∀ x ∈ l', x ∈ l ∧ (f x).low ≤ (g x).low ∧ (g x).high ≤ (f x).high) : (hullL (l.map f)).low ≤ (hullL (l'.map g)).low ∧ (hullL (l'.map g)).high ≤ (hullL (l.map f)).high := by
  have hne' : l'.map g ≠ [] := by simpa using hne
  obtain ⟨s, hs, e1⟩ := hull_low hne'
  obtain ⟨t, ht, e2⟩ := hull_high hne'
  obtain ⟨x, hx, rfl⟩ := List.mem_map.1 hs
  obtain ⟨y, hy, rfl⟩ := List.mem_map.1 ht
  have h1 := h x hx
  have h2 := h y hy
  have h3 := hull_in (List.mem_map_of_mem (f := f) h1.1)
  have h4 := hull_in (List.mem_map_of_mem (f := f) h2.1)
  omega
theorem eat_nonneg {n p : Int} (hn : 0 ≤ n) (hp : 0 ≤ p) : 0 ≤ eatI n p := by
  unfold eatI
  rw [Int.tdiv_eq_ediv_of_nonneg (Int.mul_nonneg hn hp)]
  exact Int.ediv_nonneg (Int.mul_nonneg hn hp) (by decide)
theorem eat_mono {n m p : Int} (hn : 0 ≤ n) (hm : n ≤ m) (hp : 0 ≤ p) : eatI n p ≤ eatI m p := by
  unfold eatI
  rw [Int.tdiv_eq_ediv_of_nonneg (Int.mul_nonneg hn hp), Int.tdiv_eq_ediv_of_nonneg (Int.mul_nonneg (by omega) hp)]
  exact Int.ediv_le_ediv (by decide) (Int.mul_le_mul_of_nonneg_right hm hp)
def eaten (t : List Int) (p : Int) (h : Nat) : Int := sumI ((t.take h).map fun n => eatI n p)
theorem eaten_succ {t : List Int} {h : Nat} (hh : h < t.length) (p : Int) : eaten t p (h + 1) = eaten t p h + eatI (t.getD h 0) p := by
  unfold eaten
  rw [List.take_add_one, List.map_append, sumI_append, List.getD_eq_getElem?_getD]
  simp [hh, sumI]
theorem eaten_mono {t u : List Int} {p : Int} (hp : 0 ≤ p) : ∀ h, h ≤ t.length → h ≤ u.length → (∀ i, i < h → 0 ≤ t.getD i 0 ∧ t.getD i 0 ≤ u.getD i 0) → eaten t p h ≤ eaten u p h
  | 0, _, _, _ => by simp [eaten]
  | h + 1, h1, h2, hi => by
    have ih := eaten_mono hp h (by omega) (by omega) (fun i hh => hi i (by omega))
    have := hi h (by omega)
    have := eat_mono this.1 this.2 hp
    rw [eaten_succ (by omega), eaten_succ (by omega)]
    omega
theorem state_def (b : Batch) (t : List Int) (h : Nat) : stateI b t h = ⟨max 0 (b.rough - eaten t b.polish h), max 0 (b.thick - eaten t b.eat h)⟩ := rfl
theorem state_mono {b : Batch} (hb : BatchP3 b) {t u : List Int} {h : Nat} (h1 : h ≤ t.length) (h2 : h ≤ u.length) (hi : ∀ i, i < h → 0 ≤ t.getD i 0 ∧ t.getD i 0 ≤ u.getD i 0) : (stateI b u h).rough ≤ (stateI b t h).rough ∧ (stateI b u h).thick ≤ (stateI b t h).thick := by
  have := eaten_mono hb.p0 h h1 h2 hi
  have := eaten_mono hb.e0 h h1 h2 hi
  simp only [state_def]; omega
theorem state_later {b : Batch} (hb : BatchP3 b) {t : List Int} {h : Nat} (h1 : h < t.length) (h0 : 0 ≤ t.getD h 0) : (stateI b t (h + 1)).rough ≤ (stateI b t h).rough ∧ (stateI b t (h + 1)).thick ≤ (stateI b t h).thick := by
  have := eat_nonneg h0 hb.p0
  have := eat_nonneg h0 hb.e0
  simp only [state_def, eaten_succ h1]; omega
section
variable {d : Drum}
theorem ends_nonneg (hd : DrumP d) {p : Acid × Nat} (hp : p ∈ filledL d) (high : Bool) {i : Nat} (hi : i < d.hours.toNat) : 0 ≤ (endsL (strongL d p.1) high).getD i 0 := by
  have := strong_bd hd (filled_acid hd hp) (filled_mem.1 hp).2.2 hi
  rw [ends_get hi]
  cases high <;> simp only [if_true, Bool.false_eq_true, if_false] <;> omega
theorem bounds_later (hd : DrumP d) (hne : filledL d ≠ []) {b : Batch} (hb : BatchP3 b) {h : Nat} (hh : h < d.hours.toNat) : (boundsI d b (h + 1)).rough.high ≤ (boundsI d b h).rough.high ∧ (boundsI d b (h + 1)).thick.low ≤ (boundsI d b h).thick.low := by
  have hne1 : (filledL d).map (fun p : Acid × Nat => (⟨(hardS d b (h + 1) p).rough, (weakS d b (h + 1) p).rough⟩ : Span)) ≠ [] := by simpa using hne
  have hne2 : (filledL d).map (fun p : Acid × Nat => (⟨(hardS d b h p).thick, (weakS d b h p).thick⟩ : Span)) ≠ [] := by simpa using hne
  obtain ⟨s, hs, e1⟩ := hull_high hne1
  obtain ⟨x, hx, rfl⟩ := List.mem_map.1 hs
  obtain ⟨t, ht, e2⟩ := hull_low hne2
  obtain ⟨y, hy, rfl⟩ := List.mem_map.1 ht
  have h1 := hull_in (List.mem_map_of_mem (f := fun p : Acid × Nat => (⟨(hardS d b h p).rough, (weakS d b h p).rough⟩ : Span)) hx)
  have h2 := hull_in (List.mem_map_of_mem (f := fun p : Acid × Nat => (⟨(hardS d b (h + 1) p).thick, (weakS d b (h + 1) p).thick⟩ : Span)) hy)
  have g1 := (state_later hb (t := endsL (strongL d x.1) false) (h := h) (by rw [ends_len]; exact hh) (ends_nonneg hd hx false hh)).1
  have g2 := (state_later hb (t := endsL (strongL d y.1) true) (h := h) (by rw [ends_len]; exact hh) (ends_nonneg hd hy true hh)).2
  dsimp only at h1 h2 e1 e2
  simp only [boundsI]
  simp only [weakS, hardS] at h1 h2 e1 e2 g1 g2 ⊢
  omega
theorem bounds_until (hd : DrumP d) (hne : filledL d ≠ []) {b : Batch} (hb : BatchP3 b) {h : Nat} : ∀ k, h + k ≤ d.hours.toNat → (boundsI d b (h + k)).rough.high ≤ (boundsI d b h).rough.high ∧ (boundsI d b (h + k)).thick.low ≤ (boundsI d b h).thick.low
  | 0, _ => ⟨Int.le_refl _, Int.le_refl _⟩
  | k + 1, hk => by
    have h1 := bounds_until hd hne hb (h := h) k (by omega)
    have h2 := bounds_later hd hne hb (h := h + k) (by omega)
    rw [show h + (k + 1) = h + k + 1 by omega]; omega
theorem smooth_spec (hd : DrumP d) (hne : filledL d ≠ []) {b : Batch} (hb : BatchP3 b) {h : Nat} (hh : h ≤ d.hours.toNat) : (boundsI d b h).rough.high ≤ b.goal ↔ 0 ≤ smoothI d b ∧ smoothI d b ≤ h := by
  unfold smoothI
  rcases firstI_spec (fun h => decide ((boundsI d b h).rough.high ≤ b.goal)) (d.hours.toNat + 1) 0 with ⟨h1, h2⟩ | ⟨n, h1, h2, h3, h4, h5⟩
  · rw [h1]
    have := h2 h (by omega) (by omega)
    simp only [decide_eq_false_iff_not] at this
    exact ⟨fun h => absurd h this, fun h => by omega⟩
  · rw [h1]
    simp only [decide_eq_true_eq] at h4
    constructor
    · intro hg
      refine ⟨by omega, ?_⟩
      by_cases hn : h < n
      · have := h5 h (by omega) hn
        simp only [decide_eq_false_iff_not] at this
        exact absurd hg this
      · omega
    · rintro ⟨_, hg⟩
      have := (bounds_until hd hne hb (h := n) (h - n) (by omega)).1
      rw [show n + (h - n) = h by omega] at this
      omega
theorem thin_spec (hd : DrumP d) (hne : filledL d ≠ []) {b : Batch} (hb : BatchP3 b) {h : Nat} (hh : h ≤ d.hours.toNat) : (boundsI d b h).thick.low ≥ b.least ↔ (h : Int) ≤ thinI d b := by
  unfold thinI
  rcases lastI_spec (fun h => decide ((boundsI d b h).thick.low ≥ b.least)) (d.hours.toNat + 1) with ⟨h1, h2⟩ | ⟨n, h1, h2, h3, h4⟩
  · rw [h1]
    have := h2 h (by omega)
    simp only [decide_eq_false_iff_not] at this
    exact ⟨fun h => absurd h this, fun h => by omega⟩
  · rw [h1]
    simp only [decide_eq_true_eq] at h3
    constructor
    · intro hg
      by_cases hn : n < h
      · have := h4 h hn (by omega)
        simp only [decide_eq_false_iff_not] at this
        exact absurd hg this
      · omega
    · intro hg
      have := (bounds_until hd hne hb (h := h) (n - h) (by omega)).2
      rw [show h + (n - h) = n by omega] at this
      omega
theorem thin_bd (d : Drum) (b : Batch) : -1 ≤ thinI d b ∧ thinI d b ≤ d.hours.toNat := by
  unfold thinI
  rcases lastI_spec (fun h => decide ((boundsI d b h).thick.low ≥ b.least)) (d.hours.toNat + 1) with ⟨h1, h2⟩ | ⟨n, h1, h2, h3, h4⟩ <;> rw [h1] <;> omega
end
end Go.Abs
namespace Go.Abs
open Go.RowKit
set_option linter.unusedVariables false
section
variable {P : Program} {T : Nat → Option TyI} {nt : Nat} {s : ASt} {o : Oper} {ops : Array Oper}
theorem op_append_nil1 {t e sz : Nat} {x0 x : Operand} {ti ei : TyI} {ys : List (List PV)} (hT : TabOK P T) (ho : o.op = .call { callee := .builtin .append, args := #[x0, x], argTypes := #[t, t] }) (hd : dstB nt o.dst = true)
    (ht : T t = some ti) (hk : ti.kind = .slice e) (he : T e = some ei) (hpos : Nat.blt 0 ei.size = true) (hzl : Nat.beq ei.zero.length ei.size = true) (hx0 : s.ev x0 = some .nils) (hsz : Nat.beq sz ei.size = true)
    (hy : s.srcOf x = some ys) (hyl : ∀ y ∈ ys, y.length = sz) (hmax : ys.length ≤ 1099511627776) (hby : Nat.ble ei.bytes 128 = true) :
    OpTo P nt o s ((s.newObj (.arr e sz ys)).putO o.dst (some (.arr s.nxt))) := by
  intro ro W0 D0 D φ a w hI K Q hK
  have hs : sz = ei.size := Nat.eq_of_beq_eq_true hsz
  have hp : 0 < sz := by rw [hs]; simpa using hpos
  have hzl' := Nat.eq_of_beq_eq_true hzl
  have hby' := Nat.le_of_ble_eq_true hby
  obtain ⟨info, z, i1, i2, i3, i4, i5⟩ := (hT.ty he).info
  have hund := (hT.ty ht).slice hk
  obtain ⟨ad, m, c, hvx, hm, hsrc⟩ := hI.src hy hyl hp
  have hv0 : a.eval x0 = .slice none 0 0 := by
    have := (hI.ev hx0).2
    generalize a.eval x0 = v at this
    cases this; rfl
  have hzc : z.cells.size = sz := by
    have := (zrepL_ok i5).1
    simp at this; omega
  have hbytes : (0 + ys.length) * ei.bytes ≤ 140737488355328 := by
    rw [Nat.zero_add]
    have := Nat.mul_le_mul hmax hby'
    omega
  have hml : 0 + ys.length ≤ maxLen := by simp only [maxLen]; omega
  have hown : w.ownsRow w.heap.size e sz (.slice none 0 0) 0 [] := World.ownsRow_nil _ _ _ _
  have key : ∃ v' w', (Builtin.append_ #[t, t] o.type #[.slice none 0 0, a.eval x]).run P w = .ok v' w' ∧ Below w.heap.size w w' ∧ RRep w.heap.size w' D v' (.own e sz ys) := by
    have nilcase : ∀ c', (Builtin.append_ #[t, t] o.type #[.slice none 0 0, .slice ad 0 c']).run P w = .ok (.slice none 0 0) w := fun c' => run_append_zero w hund i1 none ad 0 0 c' (Nat.le_refl _)
    have nilrep : RRep w.heap.size w D (.slice none 0 0) (.own e sz []) := ⟨[], hown, ⟨by simp, by simp⟩, fun b hb => by simp [blk] at hb⟩
    rcases hsrc with rfl | ⟨b, news, rfl, hnl, hnc, hnr⟩
    · refine ⟨_, w, ?_, Below.refl _ _, nilrep⟩
      rw [hvx, hm]; exact nilcase c
    · cases ys with
      | nil =>
        refine ⟨_, w, ?_, Below.refl _ _, nilrep⟩
        rw [hvx, hm]; exact nilcase c
      | cons y ys =>
        have hm0 : 0 < m := by rw [hm]; simp
        obtain ⟨v', w', hr, h2, h3, h4⟩ := run_append_blk (P := P) w (ty := o.type) (c := c) hund i1 i4 (by rw [i2, hs]) i3 hzc hp hown (by rw [hm]; exact hnl) hnc (hnr.oneCell hnl hp) hm0 (by rw [hm]; exact hml) (by rw [hm]; exact hbytes) (Nat.le_refl _)
        have hbel : Below w.heap.size w w' := (Below.refl _ _).grown h3 (Nat.le_refl _) (fun k hk => by simp [Value.ownBlock] at hk)
        refine ⟨v', w', by rw [hvx]; exact hr, hbel, [] ++ news, by rw [Nat.zero_add, hm] at h2; exact h2, ?_, fun b hb hDb => ?_⟩
        · rw [List.nil_append]; exact hnr.mono (fun b hb => hbel.block b (hI.dlt b hb)) (fun _ h => h)
        · rcases h4 b hb with h5 | ⟨h5, _⟩
          · simp [blk] at h5
          · have := hI.dlt b hDb; omega
  obtain ⟨v', w', hr, hbel, hrr⟩ := key
  have hrun : (execOp a.eval o).run P w = .ok (.value v') w' := by
    simp only [execOp, ho, resolve, invoke, builtin, Sem.run_bind, Sem.run_pure, Result.andThen_ok, List.map_toArray, List.map_cons, List.map_nil, hv0, hr]
  refine wpIn_of (by rw [ho]; intro c hc; cases hc) ?_
  unfold Oper.wp
  rw [hrun]
  obtain ⟨φ', hI'⟩ := hI.bind hbel (fun _ h => h) (fun _ h => .inl h) hrr o.dst hd
  exact hK _ _ _ _ hI'
theorem D_append_nil {t e sz : Nat} {x0 x : Operand} {ti ei : TyI} {ys : List (List PV)} (hT : TabOK P T) (hg : guardT ops s o = true) (ho : o.op = .call { callee := .builtin .append, args := #[x0, x], argTypes := #[t, t] }) (hd : dstB nt o.dst = true)
    (ht : T t = some ti) (hk : ti.kind = .slice e) (he : T e = some ei) (hpos : Nat.blt 0 ei.size = true) (hzl : Nat.beq ei.zero.length ei.size = true) (hx0 : s.ev x0 = some .nils) (hsz : Nat.beq sz ei.size = true)
    (hy : s.srcS x = some ys) (hyl : ∀ y ∈ ys, y.length = sz) (hmax : ys.length ≤ 1099511627776) (hby : Nat.ble ei.bytes 128 = true) :
    StepOK P nt ops o s ⟨some (.arr s.nxt), true, [], []⟩ ((s.newObj (.arr e sz ys)).putO o.dst (some (.arr s.nxt))) := by
  refine StepOK.mkE hg (by cases hd : o.dst <;> rfl) (by cases hd : o.dst <;> exact Nat.le_succ _) (fun id hid _ => ?_) fun fr s1 s2 h1 h2 h3 h4 h5 h6 h7 => ?_
  · have : ((s.newObj (.arr e sz ys)).putO o.dst (some (.arr s.nxt))).obj id = (s.newObj (.arr e sz ys)).obj id := by cases hd : o.dst <;> rfl
    rw [this, ASt.obj_newObj, if_neg (by omega)]
  · have hys : s1.srcS x = some ys := by unfold ASt.srcS; rw [ev_agree h1 (by simp [ho, Op.operands, Call.operands])]; exact hy
    have h8 := op_append_nil1 (s := s1) hT ho hd ht hk he hpos hzl (by rw [ev_agree h1 (by simp [ho, Op.operands, Call.operands])]; exact hx0) hsz (srcS_src hys) hyl hmax hby
    refine h8.ext (fun t => ?_) (fun id => ?_) ?_
    · show look s2.env t = look _ t
      rw [h5, ← h2]; cases hd : o.dst <;> rfl
    · have q1 : ((s.newObj (.arr e sz ys)).putO o.dst (some (.arr s.nxt))).obj id = (s.newObj (.arr e sz ys)).obj id := by cases hd : o.dst <;> rfl
      have q2 : ((s1.newObj (.arr e sz ys)).putO o.dst (some (.arr s1.nxt))).obj id = (s1.newObj (.arr e sz ys)).obj id := by cases hd : o.dst <;> rfl
      rw [h7, q1, q2, ASt.obj_newObj, ASt.obj_newObj, h2]
      by_cases hid : id ∈ fr
      · rw [if_pos hid, if_neg (by have := (h3 id hid).1; omega)]
      · rw [if_neg hid, h4 id hid]
    · rw [h6]; cases hd : o.dst <;> simp [ASt.putO, ASt.put, ASt.newObj, h2]
end
end Go.Abs
namespace Go.Abs
set_option linter.unusedVariables false
theorem win1_iff {d : Drum} {b : Batch} {n : Int} : inS (winP1 d b) n ↔ 0 ≤ smoothI d b ∧ smoothI d b ≤ n ∧ n ≤ thinI d b := by
  unfold winP1
  split
  · simp only [inS]; constructor <;> intro h <;> omega
  · simp only [inS]; constructor <;> intro h <;> omega
def sureB (d : Drum) (b : Batch) (h : Nat) : Bool := decide ((boundsI d b h).rough.high ≤ b.goal) && decide ((boundsI d b h).thick.low ≥ b.least)
theorem sure_iff {d : Drum} (hd : DrumP d) (hne : filledL d ≠ []) {b : Batch} (hb : BatchP3 b) {h : Nat} (hh : h ≤ d.hours.toNat) : sureB d b h = true ↔ inS (winP1 d b) h := by
  rw [win1_iff]
  simp only [sureB, Bool.and_eq_true, decide_eq_true_eq]
  rw [smooth_spec hd hne hb hh, thin_spec hd hne hb hh]
  constructor
  · rintro ⟨⟨h1, h2⟩, h3⟩; exact ⟨h1, h2, h3⟩
  · rintro ⟨h1, h2, h3⟩; exact ⟨⟨h1, h2⟩, h3⟩
theorem all_iff {d : Drum} {n : Int} : inS (allW d) n ↔ (0 ≤ n ∧ n ≤ 12) ∧ ∀ b ∈ d.batches, inS (winP1 d b) n := by
  unfold allW
  rw [pick_iff]
  refine and_congr_right fun _ => ?_
  simp only [winP, List.getElem?_map, Option.map_eq_some_iff]
  constructor
  · intro h b hb
    obtain ⟨i, hi⟩ := List.mem_iff_getElem?.1 hb
    exact h i _ ⟨b, hi, rfl⟩ trivial
  · rintro h i s ⟨b, hb, rfl⟩ _
    exact h b (List.mem_of_getElem? hb)
theorem all_sure {d : Drum} (hd : DrumP d) (hne : filledL d ≠ []) {h : Nat} (hh : h ≤ d.hours.toNat) : inS (allW d) h ↔ ∀ b ∈ d.batches, sureB d b h = true := by
  rw [all_iff]
  have := hd.h1
  constructor
  · rintro ⟨_, h2⟩ b hb; exact (sure_iff hd hne (hd.batch b hb) hh).2 (h2 b hb)
  · intro h2; exact ⟨by omega, fun b hb => (sure_iff hd hne (hd.batch b hb) hh).1 (h2 b hb)⟩
theorem all_bd {d : Drum} (hd : DrumP d) {n : Int} (hn : inS (allW d) n) : 0 ≤ n ∧ n ≤ d.hours := by
  obtain ⟨⟨h1, h2⟩, h3⟩ := all_iff.1 hn
  obtain ⟨b, hb⟩ : ∃ b, b ∈ d.batches := by
    have := hd.b0
    match h : d.batches with
    | [] => rw [h] at this; simp at this
    | b :: _ => exact ⟨b, by simp⟩
  have h4 := win1_iff.1 (h3 b hb)
  have h5 := thin_bd d b
  have := hd.h0
  omega
end Go.Abs
namespace Go.Abs
set_option linter.unusedVariables false
def moreD (d : Drum) (r : List Strip) (known : Int) : Drum := { d with strips := d.strips ++ r, known := known }
section
variable {d : Drum} {r : List Strip} {known : Int} {a : Acid}
theorem more_fwd : ∀ i, (fwdS d a i).low ≤ (fwdS (moreD d r known) a i).low ∧ (fwdS (moreD d r known) a i).high ≤ (fwdS d a i).high
  | 0 => by
    simp only [fwdS, moreD, stripped_append]
    exact stripped_low _ _ _
  | i + 1 => by
    have ih := more_fwd i
    have h1 : (afterS a (d.adds.getD (i + 1) 0) (fwdS d a i)).low ≤ (afterS a (d.adds.getD (i + 1) 0) (fwdS (moreD d r known) a i)).low ∧ (afterS a (d.adds.getD (i + 1) 0) (fwdS (moreD d r known) a i)).high ≤ (afterS a (d.adds.getD (i + 1) 0) (fwdS d a i)).high := by
      simp only [afterS]; omega
    have h2 := stripped_mono (l := d.strips) (i := i + 1) h1.1 h1.2
    have h3 := stripped_low r (i + 1) (stripped d.strips (i + 1) (afterS a (d.adds.getD (i + 1) 0) (fwdS (moreD d r known) a i)))
    have e : fwdS (moreD d r known) a (i + 1) = stripped r (i + 1) (stripped d.strips (i + 1) (afterS a (d.adds.getD (i + 1) 0) (fwdS (moreD d r known) a i))) := by
      rw [← stripped_append]; rfl
    rw [e]
    simp only [fwdS]
    omega
theorem more_may (h : mayB (moreD d r known) a = true) : mayB d a = true :=
  mayB_iff.2 fun i hi => by
    have h1 := mayB_iff.1 h i hi
    have h2 := more_fwd (d := d) (r := r) (known := known) (a := a) i
    omega
theorem more_bwd (ha : AcidP a) : ∀ k, (bwdS d a k).low ≤ (bwdS (moreD d r known) a k).low ∧ (bwdS (moreD d r known) a k).high ≤ (bwdS d a k).high
  | 0 => more_fwd _
  | k + 1 => by
    have ih := more_bwd ha k
    have h1 := more_fwd (d := d) (r := r) (known := known) (a := a) (d.hours.toNat - 1 - (k + 1))
    have := ha.f0
    simp only [bwdS]
    simp only [common, beforeS]
    have e1 : (moreD d r known).hours = d.hours := rfl
    have e2 : (moreD d r known).adds = d.adds := rfl
    rw [e1, e2]
    split <;> split <;> omega
theorem more_strong (ha : AcidP a) (i : Nat) : (strongS d a i).low ≤ (strongS (moreD d r known) a i).low ∧ (strongS (moreD d r known) a i).high ≤ (strongS d a i).high := more_bwd ha _
theorem more_filled (hk : ∀ i, hasI known i = true → hasI d.known i = true) {p : Acid × Nat} (hp : p ∈ filledL (moreD d r known)) : p ∈ filledL d := by
  obtain ⟨h1, h2, h3⟩ := filled_mem.1 hp
  exact filled_mem.2 ⟨h1, hk _ h2, more_may h3⟩
theorem more_state (hd : DrumP d) (hx : DrumP (moreD d r known)) (hk : ∀ i, hasI known i = true → hasI d.known i = true) {p : Acid × Nat} (hp : p ∈ filledL (moreD d r known)) {b : Batch} (hb : BatchP3 b) {h : Nat} (hh : h ≤ d.hours.toNat) :
    (hardS d b h p).rough ≤ (hardS (moreD d r known) b h p).rough ∧ (hardS d b h p).thick ≤ (hardS (moreD d r known) b h p).thick ∧ (weakS (moreD d r known) b h p).rough ≤ (weakS d b h p).rough ∧ (weakS (moreD d r known) b h p).thick ≤ (weakS d b h p).thick := by
  have ha := filled_acid hx hp
  have hm := (filled_mem.1 hp).2.2
  have hp' := more_filled hk hp
  have hm' := (filled_mem.1 hp').2.2
  have g1 : (hardS d b h p).rough ≤ (hardS (moreD d r known) b h p).rough ∧ (hardS d b h p).thick ≤ (hardS (moreD d r known) b h p).thick := by
    refine state_mono hb (by rw [ends_len]; exact hh) (by rw [ends_len]; exact hh) fun i hi => ?_
    have h1 := more_strong (d := d) (r := r) (known := known) ha i
    have h2 := strong_bd hx ha hm (i := i) (show i < d.hours.toNat by omega)
    have h3 := ends_get (d := moreD d r known) (a := p.1) (high := true) (i := i) (show i < d.hours.toNat by omega)
    have h4 := ends_get (d := d) (a := p.1) (high := true) (i := i) (by omega)
    rw [h3, h4]
    simp only [if_true]; omega
  have g2 : (weakS (moreD d r known) b h p).rough ≤ (weakS d b h p).rough ∧ (weakS (moreD d r known) b h p).thick ≤ (weakS d b h p).thick := by
    refine state_mono hb (by rw [ends_len]; exact hh) (by rw [ends_len]; exact hh) fun i hi => ?_
    have h1 := more_strong (d := d) (r := r) (known := known) ha i
    have h2 := strong_bd hd ha hm' (i := i) (show i < d.hours.toNat by omega)
    have h3 := ends_get (d := moreD d r known) (a := p.1) (high := false) (i := i) (show i < d.hours.toNat by omega)
    have h4 := ends_get (d := d) (a := p.1) (high := false) (i := i) (by omega)
    rw [h3, h4]
    simp only [Bool.false_eq_true, if_false]; omega
  exact ⟨g1.1, g1.2, g2.1, g2.2⟩
theorem more_bounds (hd : DrumP d) (hx : DrumP (moreD d r known)) (hk : ∀ i, hasI known i = true → hasI d.known i = true) (hne : filledL (moreD d r known) ≠ []) {b : Batch} (hb : BatchP3 b) {h : Nat} (hh : h ≤ d.hours.toNat) :
    (boundsI (moreD d r known) b h).rough.high ≤ (boundsI d b h).rough.high ∧ (boundsI d b h).thick.low ≤ (boundsI (moreD d r known) b h).thick.low := by
  have h1 := hull_mono (l := filledL d) (l' := filledL (moreD d r known)) (f := fun p : Acid × Nat => (⟨(hardS d b h p).rough, (weakS d b h p).rough⟩ : Span)) (g := fun p : Acid × Nat => (⟨(hardS (moreD d r known) b h p).rough, (weakS (moreD d r known) b h p).rough⟩ : Span)) hne fun p hp => by
    have := more_state hd hx hk hp hb hh
    exact ⟨more_filled hk hp, this.1, this.2.2.1⟩
  have h2 := hull_mono (l := filledL d) (l' := filledL (moreD d r known)) (f := fun p : Acid × Nat => (⟨(hardS d b h p).thick, (weakS d b h p).thick⟩ : Span)) (g := fun p : Acid × Nat => (⟨(hardS (moreD d r known) b h p).thick, (weakS (moreD d r known) b h p).thick⟩ : Span)) hne fun p hp => by
    have := more_state hd hx hk hp hb hh
    exact ⟨more_filled hk hp, this.2.1, this.2.2.2⟩
  exact ⟨h1.2, h2.1⟩
theorem more_window (hd : DrumP d) (hx : DrumP (moreD d r known)) (hk : ∀ i, hasI known i = true → hasI d.known i = true) (hne : filledL (moreD d r known) ≠ []) {n : Int} (hn : inS (allW d) n) : inS (allW (moreD d r known)) n := by
  have hb := all_bd hd hn
  obtain ⟨h, rfl⟩ : ∃ h : Nat, n = h := ⟨n.toNat, by omega⟩
  have hh : h ≤ d.hours.toNat := by omega
  have hne' : filledL d ≠ [] := fun e => by
    obtain ⟨p, hp⟩ : ∃ p, p ∈ filledL (moreD d r known) := by
      match he : filledL (moreD d r known) with
      | [] => exact absurd he hne
      | p :: _ => exact ⟨p, by simp⟩
    have := more_filled hk hp
    rw [e] at this; cases this
  rw [all_sure hd hne' hh] at hn
  rw [all_sure hx hne hh]
  intro b hb'
  have h1 := hn b hb'
  have h2 := more_bounds hd hx hk hne (hd.batch b hb') hh
  simp only [sureB, Bool.and_eq_true, decide_eq_true_eq] at h1 ⊢
  omega
end
theorem open_mono {s t : Span} (h : ∀ n, inS s n → inS t n) (ho : openS s = true) : openS t = true ∧ t.low ≤ s.low ∧ s.high ≤ t.high := by
  have ho' := ho
  simp only [openS, decide_eq_true_eq] at ho
  have h1 := h s.low ⟨Int.le_refl _, ho⟩
  have h2 := h s.high ⟨ho, Int.le_refl _⟩
  simp only [inS, openS, decide_eq_true_eq] at *
  omega
end Go.Abs
namespace Go.Abs
open Go.Proofs
set_option linter.unusedVariables false
set_option linter.unusedSimpArgs false
set_option maxRecDepth 100000
def windowE (d : Drum) : Span × Int := if errE d true = 0 then (if openS (allW d) then (allW d, 0) else (⟨0, 0⟩, 5)) else (⟨0, 0⟩, errE d true)
set_option maxHeartbeats 4000000 in
theorem f55 (d : Drum) (hd : drumOK d) : ACalls Tryz.prog 55 [eDrum d] (fun r => r = .tup [eS (windowE d).1, vi (windowE d).2]) := by
  have k84 := f84 d true hd
  refine ACalls.of_body hT Tryz.func55 rfl (by kernel_rfl) rfl ?_
  by_cases he : errE d true = 0
  · obtain ⟨hP, _, hne, ha⟩ := asked_ok he
    rw [ha] at k84
    have k84 : ACalls Tryz.prog 84 [eDrum d, .bool true] (fun r => r = .tup [.sl ((filledL d).map (eFilled d)), vi 0]) := k84
    have hbl := hP.b1
    have hwl : (winP d).length ≤ 5 := by rw [winP_len]; exact hbl
    have h1 := shl_small hbl
    (repeat' (first | refine stq ?_ | (refine AL_do2 rfl ?_; first | refine ⟨_, op_call1 rfl rfl rfl rfl (k84), nrmA rfl ?_⟩) | (with_reducible refine AL_id ?_); (fail_if_success (refine AL_glit rfl rfl rfl (by first | exact .inl (by with_reducible rfl) | exact .inr (by with_reducible rfl)) ?_)); first | refine AL_gdec rfl rfl rfl (fun hg => ?_) (fun hg => ?_) | refine AL_gnot rfl rfl rfl (fun hg => ?_) (fun hg => ?_) | refine AL_gcases rfl rfl rfl (fun hg => ?_) (fun hg => ?_)))
    refine AL_doS rfl (op_callXs (objs := []) (n := 0) [] [] [] (fun av => f98 d hP hne) rfl rfl rfl rfl (by (repeat' (first | exact trivial | refine And.intro ?_ ?_)); all_goals (first | rfl | decide)) rfl (by (repeat' (first | exact trivial | refine And.intro ?_ ?_)); all_goals (first | rfl | decide)) rfl trivial (by simp) (fun av sf h => trivial)) ?_
    rintro s' ⟨av, sf, ⟨l, rfl⟩, rfl⟩
    have k100 := f100 l (winP d) hwl
    rw [winP_len] at k100
    have k99 := f99 l (winP d) (allB d.batches.length) (by omega)
    have k102 := f102 l (winP d) (allB d.batches.length) (by omega)
    rw [of_all hP] at k99 k102
    rw [windowE, if_pos he]
    cases q : openS (allW d) with
    | false =>
      rw [q] at k99
      (repeat (refine stq ?_))
      (repeat (first | refine DG_next (D_callMemo rfl rfl rfl rfl (fun s1 => (by (repeat' (first | exact trivial | refine And.intro ?_ ?_)); all_goals (first | rfl | decide))) rfl rfl k100) ?_ | refine DG_next (D_callMemo rfl rfl rfl rfl (fun s1 => (by (repeat' (first | exact trivial | refine And.intro ?_ ?_)); all_goals (first | rfl | decide))) rfl rfl k99) ?_ | refine sdq ?_))
      refine DG_end hM (by kernel_rfl) ?_
      (repeat (refine stq ?_))
      exact ⟨_, _, rfl, rfl, rfl⟩
    | true =>
      rw [q] at k99
      (repeat (refine stq ?_))
      (repeat (first | refine DG_next (D_callMemo rfl rfl rfl rfl (fun s1 => (by (repeat' (first | exact trivial | refine And.intro ?_ ?_)); all_goals (first | rfl | decide))) rfl rfl k100) ?_ | refine DG_next (D_callMemo rfl rfl rfl rfl (fun s1 => (by (repeat' (first | exact trivial | refine And.intro ?_ ?_)); all_goals (first | rfl | decide))) rfl rfl k99) ?_ | refine sdq ?_))
      refine DG_end hM (by kernel_rfl) ?_
      (repeat (refine stq ?_))
      (repeat (first | refine DG_next (D_callMemo rfl rfl rfl rfl (fun s1 => (by (repeat' (first | exact trivial | refine And.intro ?_ ?_)); all_goals (first | rfl | decide))) rfl rfl k100) ?_ | refine sdq ?_))
      refine DG_end hM (by kernel_rfl) ?_
      (repeat (refine stq ?_))
      refine AL_doS rfl (op_callXs (objs := [(0, memoO (memoF (winP d)) l)]) (n := 1) [(0, 2)] [0] [] (fun av => k102) rfl rfl rfl rfl (by (repeat' (first | exact trivial | refine And.intro ?_ ?_)); all_goals (first | rfl | decide)) rfl (by (repeat' (first | exact trivial | refine And.intro ?_ ?_)); all_goals (first | rfl | decide)) rfl trivial (by simp) (fun av sf h => by subst h; exact ⟨.inr ⟨_, _, _, _, _, rfl, rfl⟩, trivial⟩)) ?_
      rintro s' ⟨av2, sf, rfl, rfl⟩
      (repeat (refine stq ?_))
      exact ⟨_, _, rfl, rfl, rfl⟩
  · rw [asked_err he] at k84
    have k84 : ACalls Tryz.prog 84 [eDrum d, .bool true] (fun r => r = .tup [.sl [], vi (errE d true)]) := k84
    (repeat' (first | refine stq ?_ | (refine AL_do2 rfl ?_; first | refine ⟨_, op_call1 rfl rfl rfl rfl (k84), nrmA rfl ?_⟩) | (with_reducible refine AL_id ?_); (fail_if_success (refine AL_glit rfl rfl rfl (by first | exact .inl (by with_reducible rfl) | exact .inr (by with_reducible rfl)) ?_)); first | refine AL_gdec rfl rfl rfl (fun hg => ?_) (fun hg => ?_) | refine AL_gnot rfl rfl rfl (fun hg => ?_) (fun hg => ?_) | refine AL_gcases rfl rfl rfl (fun hg => ?_) (fun hg => ?_)))
    refine AW_if rfl (fun hc => ?_) (fun hc => absurd (by omega) hc)
    (repeat (refine stq ?_))
    exact ⟨_, _, rfl, rfl, by rw [windowE, if_neg he]; rfl⟩
end Go.Abs
