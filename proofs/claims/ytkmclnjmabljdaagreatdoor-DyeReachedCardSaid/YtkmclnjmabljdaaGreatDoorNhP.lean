/- Sorters: what trays prove, plain laws. -/
import Derived.Test.YtkmclnjmabljdaaGreatDoorNeW
import Derived.Test.YtkmclnjmabljdaaGreatDoorNdJ
import Derived.Test.YtkmclnjmabljdaaGreatDoorNdG
set_option linter.unusedVariables false
set_option linter.unusedSimpArgs false
namespace Go.Abs
open Go.Proofs
set_option linter.unusedVariables false
set_option linter.unusedSimpArgs false
set_option maxRecDepth 100000

theorem spanOf_snoc {l : List Int} {x : Int} : spanOf (l ++ [x]) = if l = [] then ⟨x, x⟩ else ⟨min (spanOf l).low x, max (spanOf l).high x⟩ := by
  cases l with
  | nil => rfl
  | cons y l => simp [spanOf, List.foldl_append]
theorem spanOf_le : ∀ {l : List Int}, l ≠ [] → (spanOf l).low ≤ (spanOf l).high := by
  intro l hl
  rcases spanOf_hull l with ⟨h, _⟩ | ⟨h1, h2, h3⟩
  · exact absurd h hl
  · exact (h3 _ h1).2
/-- The looks of a button in some truths. -/
def colI (F : List (List Int × Int)) (i : Nat) : List Int := F.map fun y => y.1.getD i 0
def eyesI (F : List (List Int × Int)) : List Int := F.map fun y : List Int × Int => y.2
def hullsI (n : Nat) (F : List (List Int × Int)) : List Span := (List.range n).map fun i => spanOf (colI F i)
theorem hulls_len (n : Nat) (F : List (List Int × Int)) : (hullsI n F).length = n := by simp [hullsI]
theorem hulls_get {n i : Nat} {F : List (List Int × Int)} (h : i < n) : (hullsI n F)[i]? = some (spanOf (colI F i)) := by simp [hullsI, h]
theorem fold_hulls {n : Nat} : ∀ {F : List (List Int × Int)}, F ≠ [] → (∀ y ∈ F, y.1.length = n) → F.foldl provedStep (List.replicate n ⟨1, 0⟩, ⟨1, 0⟩) = (hullsI n F, spanOf (eyesI F)) := by
  intro F
  refine snocInd (p := fun F => F ≠ [] → (∀ y ∈ F, y.1.length = n) → F.foldl provedStep (List.replicate n ⟨1, 0⟩, ⟨1, 0⟩) = (hullsI n F, spanOf (eyesI F))) (fun h => absurd rfl h) (fun F y ih _ hl => ?_) F
  have hy : y.1.length = n := hl y (by simp)
  rw [List.foldl_append, List.foldl_cons, List.foldl_nil]
  by_cases hF : F = []
  · subst hF
    simp only [List.foldl_nil, provedStep, List.nil_append, Prod.mk.injEq]
    refine ⟨List.ext_getElem? fun i => ?_, ?_⟩
    · rcases Nat.lt_or_ge i n with hi | hi
      · rw [hulls_get hi, List.getElem?_zipWith]
        have h1 : y.1[i]? = some y.1[i] := by simp [hy, hi]
        simp [hi, h1, colI, spanOf, widerI, List.getD, hy]
      · rw [List.getElem?_eq_none (by simp [hy]; omega), List.getElem?_eq_none (by simp [hulls_len]; omega)]
    · simp [eyesI, spanOf, widerI]
  · rw [ih hF fun z hz => hl z (by simp [hz])]
    simp only [provedStep, Prod.mk.injEq]
    have hc : ∀ i, colI F i ≠ [] := fun i => by simp [colI, hF]
    refine ⟨List.ext_getElem? fun i => ?_, ?_⟩
    · rcases Nat.lt_or_ge i n with hi | hi
      · rw [hulls_get hi, List.getElem?_zipWith, hulls_get hi]
        have h1 : y.1[i]? = some y.1[i] := by simp [hy, hi]
        have e1 : colI (F ++ [y]) i = colI F i ++ [y.1.getD i 0] := by simp [colI]
        have := spanOf_le (hc i)
        rw [e1, spanOf_snoc, if_neg (hc i), h1]
        simp only [widerI, if_neg (show ¬ (spanOf (colI F i)).low > (spanOf (colI F i)).high by omega), List.getD, h1, Option.getD_some]
      · rw [List.getElem?_eq_none (by simp [hy, hulls_len]; omega), List.getElem?_eq_none (by simp [hulls_len]; omega)]
    · have he : eyesI F ≠ [] := by simp [eyesI, hF]
      have := spanOf_le he
      have e1 : eyesI (F ++ [y]) = eyesI F ++ [y.2] := by simp [eyesI]
      rw [e1, spanOf_snoc, if_neg he]
      simp only [widerI, if_neg (show ¬ (spanOf (eyesI F)).low > (spanOf (eyesI F)).high by omega)]
/-- The truths in which the trays come so. -/
def sameI (s : Sorter) (trays : List Int) (G : List (List Int × Int)) : List (List Int × Int) := G.filter fun y => decide (layI s.tire y.1 y.2 = trays)
theorem proved_hulls {s : Sorter} {trays : List Int} (hs : SorterP s) (h : sameI s trays (truthsI s) ≠ []) : provedI s trays = (hullsI s.looks.length (sameI s trays (truthsI s)), spanOf (eyesI (sameI s trays (truthsI s)))) := by
  unfold provedI provedF
  exact fold_hulls h fun y hy => (truthsI_mem hs (List.mem_filter.1 hy).1).1
theorem proved_none {s : Sorter} {trays : List Int} (h : sameI s trays (truthsI s) = []) : provedI s trays = (List.replicate s.looks.length ⟨1, 0⟩, ⟨1, 0⟩) := by
  unfold provedI provedF
  unfold sameI at h
  rw [h]; rfl
/-- The truths in the reference's order. -/
def truthsR (s : Sorter) : List (List Int × Int) := (rangeI s.eye.low s.eye.high).flatMap fun e => (listsI s.looks).map fun l => (l, e)
theorem truthsR_mem {s : Sorter} {y : List Int × Int} : y ∈ truthsR s ↔ y ∈ truthsI s := by
  simp only [truthsR, truthsI, List.mem_flatMap, List.mem_map, listsI_eq]
  constructor
  · rintro ⟨e, he, l, hl, rfl⟩; exact ⟨l, hl, e, he, rfl⟩
  · rintro ⟨l, hl, e, he, rfl⟩; exact ⟨e, he, l, hl, rfl⟩
theorem same_mem {s : Sorter} {trays : List Int} {y : List Int × Int} : y ∈ sameI s trays (truthsR s) ↔ y ∈ sameI s trays (truthsI s) := by
  simp only [sameI, List.mem_filter, truthsR_mem]
theorem hulls_congr {n : Nat} {F G : List (List Int × Int)} (h : ∀ y, y ∈ F ↔ y ∈ G) : hullsI n F = hullsI n G ∧ spanOf (eyesI F) = spanOf (eyesI G) := by
  constructor
  · unfold hullsI
    refine List.map_congr_left fun i _ => hull_unique (l := colI F i) (m := colI G i) (fun x => ?_) (spanOf_hull _) (spanOf_hull _)
    simp only [colI, List.mem_map, h]
  · refine hull_unique (fun x => ?_) (spanOf_hull _) (spanOf_hull _)
    simp only [eyesI, List.mem_map, h]
/-- What the reference tells. -/
def provesL (s : Sorter) (trays : List Int) : List Span × Span × Bool := (hullsI s.looks.length (sameI s trays (truthsR s)), spanOf (eyesI (sameI s trays (truthsR s))), decide (sameI s trays (truthsR s) ≠ []))
theorem proves_eq {s : Sorter} {trays : List Int} (hs : SorterP s) (hok : provesOK s trays = true) : provesE s trays = if (provesL s trays).2.2 then ((provesL s trays).1, (provesL s trays).2.1, 0) else ([], ⟨0, 0⟩, 7) := by
  unfold provesE
  rw [if_pos hok]
  have hc := hulls_congr (n := s.looks.length) (fun y => same_mem (s := s) (trays := trays) (y := y))
  by_cases h : sameI s trays (truthsI s) = []
  · have h' : sameI s trays (truthsR s) = [] := by
      rw [List.eq_nil_iff_forall_not_mem]; intro y hy
      have := same_mem.1 hy; rw [h] at this; cases this
    rw [proved_none h]
    simp [provesL, h']
  · have h' : sameI s trays (truthsR s) ≠ [] := by
      intro h'; apply h
      rw [List.eq_nil_iff_forall_not_mem]; intro y hy
      have := same_mem.2 hy; rw [h'] at this; cases this
    have he : eyesI (sameI s trays (truthsI s)) ≠ [] := by simp [eyesI, h]
    have := spanOf_le he
    rw [proved_hulls hs h, if_neg (by dsimp only; omega)]
    simp [provesL, h', hc.1, hc.2]
/-- The word for two buttons. -/
def togetherL (s : Sorter) (a b : Int) : Int := wordR (cntR ((truthsR s).map (sameTray s a b))) ((truthsR s).length : Nat)
theorem word_any {α : Type} (p : α → Bool) : ∀ (L : List α), L ≠ [] → wordR (cntR (L.map p)) (L.length : Nat) = wordI (L.any p) (L.any fun x => !p x) := by
  intro L hne
  have h1 : cntR (L.map p) = L.length ↔ (L.any fun x => !p x) = false := by
    unfold cntR
    rw [Int.natCast_inj]
    have : L.length = (L.map p).length := by simp
    rw [this, List.countP_eq_length, List.any_eq_false]
    simp
  have h2 : cntR (L.map p) = 0 ↔ L.any p = false := by
    unfold cntR
    rw [show (0 : Int) = ((0 : Nat) : Int) by rfl, Int.natCast_inj, List.countP_eq_zero, List.any_eq_false]
    simp
  unfold wordR wordI
  by_cases h : cntR (L.map p) = L.length
  · rw [if_pos h, h1.1 h]; rfl
  · rw [if_neg h]
    have : (L.any fun x => !p x) = true := by
      cases hh : (L.any fun x => !p x) with
      | true => rfl
      | false => exact absurd (h1.2 hh) h
    rw [this]
    by_cases h' : cntR (L.map p) = 0
    · rw [if_pos h', h2.1 h']; rfl
    · rw [if_neg h']
      have : L.any p = true := by
        cases hh : L.any p with
        | true => rfl
        | false => exact absurd (h2.2 hh) h'
      rw [this]; rfl
theorem truthsR_ne {s : Sorter} (hs : SorterP s) : truthsR s ≠ [] := by
  have he := hs.eye
  have h1 : (lowsI s.looks, s.eye.low) ∈ truthsR s := by
    rw [truthsR_mem]
    refine List.mem_flatMap.2 ⟨_, numsL_mem.2 (?_ : inS (lowsI s.looks) s.looks), List.mem_map.2 ⟨_, rangeI_mem.2 ⟨Int.le_refl _, he.2.1⟩, rfl⟩⟩
    have hl := hs.looks
    have key : ∀ l : List Span, (∀ x ∈ l, x.low ≤ x.high) → inS (lowsI l) l := fun l => by
      induction l with
      | nil => intro _; exact trivial
      | cons x l ih => intro h; exact ⟨Int.le_refl _, h x (by simp), ih fun y hy => h y (by simp [hy])⟩
    exact key _ fun x hx => by have := hl x hx; omega
  exact List.ne_nil_of_mem h1
theorem together_eq {s : Sorter} {a b : Int} (hs : SorterP s) : togetherL s a b = wordI ((truthsI s).any (sameTray s a b)) ((truthsI s).any fun x => !sameTray s a b x) := by
  unfold togetherL
  rw [word_any _ _ (truthsR_ne hs)]
  have hany : ∀ p : List Int × Int → Bool, (truthsR s).any p = (truthsI s).any p := fun p => by
    rw [Bool.eq_iff_iff, List.any_eq_true, List.any_eq_true]
    constructor <;> rintro ⟨y, hy, h⟩
    · exact ⟨y, truthsR_mem.1 hy, h⟩
    · exact ⟨y, truthsR_mem.2 hy, h⟩
  rw [hany, hany]
end Go.Abs
