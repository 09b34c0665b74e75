/- The reference: all lists, hours and takes that count. -/
import Derived.Test.YtkmclnjmabljdaaGreatDoorNeQ
import Derived.Test.YtkmclnjmabljdaaGreatDoorNeA
import Derived.Test.YtkmclnjmabljdaaGreatDoorNdF
import Derived.Test.YtkmclnjmabljdaaGreatDoorNcG
set_option linter.unusedVariables false
set_option linter.unusedSimpArgs false
namespace Go.Abs
open Go.Proofs
set_option linter.unusedVariables false
set_option linter.unusedSimpArgs false
set_option maxRecDepth 100000

def listStep (out : List (List Int)) (s : Span) : List (List Int) := out.flatMap fun x => (rangeI s.low s.high).map fun n => x ++ [n]
def listsI (l : List Span) : List (List Int) := l.foldl listStep [[]]
theorem listsI_succ {l : List Span} {k : Nat} {s : Span} (h : l[k]? = some s) : listsI (l.take (k + 1)) = listStep (listsI (l.take k)) s := by
  unfold listsI; rw [List.take_add_one, h]; simp
theorem foldl_listStep : ∀ (l : List Span) (acc : List (List Int)), l.foldl listStep acc = acc.flatMap fun x => (numsL l).map fun y => x ++ y
  | [], acc => by
    simp only [List.foldl_nil, numsL, List.map_cons, List.map_nil, List.append_nil]
    induction acc with
    | nil => rfl
    | cons a acc ih => rw [List.flatMap_cons, ← ih]; rfl
  | s :: l, acc => by
    rw [List.foldl_cons, foldl_listStep l]
    simp only [listStep, numsL, List.flatMap_assoc, List.map_flatMap, List.flatMap_map, List.map_map]
    congr 1; funext x
    congr 1; funext n
    congr 1; funext y
    simp
theorem listsI_eq (l : List Span) : listsI l = numsL l := by
  unfold listsI
  rw [foldl_listStep]
  simp
theorem listStep_len (c : Nat) (out : List (List Int)) (s : Span) (h : s.high - s.low + 1 ≤ c) : (listStep out s).length ≤ out.length * c := by
  have h1 : (listStep out s).length = out.length * (s.high - s.low + 1).toNat := by
    unfold listStep
    rw [flatMap_const_len (c := (s.high - s.low + 1).toNat) (fun x => by simp [rangeI])]
  rw [h1]
  exact Nat.mul_le_mul_left _ (by omega)
theorem listsI_len (c : Nat) : ∀ (l : List Span), (∀ s ∈ l, s.high - s.low + 1 ≤ c) → (listsI l).length ≤ c ^ l.length := by
  intro l
  induction l using snocInd with
  | h0 => intro _; simp [listsI]
  | h1 l s ih =>
    intro h
    have h1 := ih fun y hy => h y (by simp [hy])
    have h2 : listsI (l ++ [s]) = listStep (listsI l) s := by unfold listsI; simp
    rw [h2, List.length_append, List.length_singleton, Nat.pow_succ]
    exact Nat.le_trans (listStep_len c _ s (h s (by simp))) (Nat.mul_le_mul_right _ h1)
theorem range_get {lo hi : Int} {i : Nat} (h : i < (hi - lo + 1).toNat) : (rangeI lo hi)[i]? = some (lo + i) := by
  simp [rangeI, h]
theorem range_len (lo hi : Int) : (rangeI lo hi).length = (hi - lo + 1).toNat := by simp [rangeI]
theorem listsI_mem {l : List Span} {x : List Int} (h : x ∈ listsI l) : x.length = l.length := numsL_len l x (by rw [← listsI_eq]; exact h)
abbrev lst146 (L : List (List Int)) : AObj := .arr 47 1 (L.map eIntsC)
set_option maxHeartbeats 4000000 in
theorem f146 (l : List Span) (hl : l.length ≤ 1000) (hb : ∀ s ∈ l, -100000 ≤ s.low ∧ s.low ≤ 100000 ∧ -100000 ≤ s.high ∧ s.high ≤ 100000) (hc : ∀ k, (listsI (l.take k)).length ≤ 1000000) : ACalls Tryz.prog 146 [eSpans l] (fun r => r = .pv (eRows (listsI l))) := by
  refine ACalls.of_body hT Tryz.func146 rfl (by kernel_rfl) rfl ?_
  (repeat' (first | (refine AL_do2 rfl ⟨_, op_buildSlice_p hT rfl rfl rfl rfl rfl rfl rfl rfl rfl, ?_⟩) | refine stp ?_ | refine AL_gdec rfl rfl rfl (fun hg => ?_) (fun hg => ?_) | refine AL_gnot rfl rfl rfl (fun hg => ?_) (fun hg => ?_) | refine AL_gcases rfl rfl rfl (fun hg => ?_) (fun hg => ?_)))
  refine AW_loopC (fun k : Nat => k ≤ l.length) (fun k => mkSt [(0, .pv (eSpans l)), (3, .pv (eRows (listsI (l.take k)))), (4, .pv (vi k))] [] 1) (fun k => l.length - k) 0 (Nat.zero_le _) ?_ ?_
  · (refine Le.mk ?_ ?_; all_goals (repeat' (first | exact trivial | refine sle ?_ | refine ⟨?_, rfl, ?_⟩ | refine ⟨?_, by decide, rfl, ?_⟩ | fail)))
  · intro k hk
    (repeat (refine stp ?_))
    refine AW_if rfl (fun hcc => ?_) (fun hcc => ?_)
    · have hk' : k < l.length := by omega
      obtain ⟨s, hs⟩ : ∃ s, l[k]? = some s := ⟨l[k], by simp [hk']⟩
      have e1 := get_map eSpan hs
      have hbs := hb s (List.mem_of_getElem? hs)
      have hO := hc k
      have hO1 := hc (k + 1)
      have hOm : ∀ x ∈ listsI (l.take k), x.length ≤ 1000 := fun x hx => by have := listsI_mem hx; simp at this; omega
      have hstep := listsI_succ hs
      rw [hstep] at hO1
      generalize listsI (l.take k) = O at hO hO1 hOm hstep ⊢
      have hpre : ∀ j, (listStep (O.take j) s).length ≤ 1000000 := fun j => by
        have h2 : listStep O s = listStep (O.take j) s ++ listStep (O.drop j) s := by unfold listStep; rw [← List.flatMap_append, List.take_append_drop]
        rw [h2, List.length_append] at hO1; omega
      (repeat (refine stp ?_))
      refine AW_own_nil (e := 47) (sz := 1) (t := 5) rfl rfl ?_
      refine AW_loopC (fun j : Nat => j ≤ O.length) (fun j => mkSt [(0, .pv (eSpans l)), (3, .pv (eRows O)), (4, .pv (vi k)), (5, .arr 0), (6, .pv (vi j))] [(0, lst146 (listStep (O.take j) s))] 1) (fun j => O.length - j) 0 (Nat.zero_le _) ?_ ?_
      · (refine Le.mkR [(0, 1)] ?_ ?_ rfl; all_goals (repeat' (first | exact trivial | refine sle ?_ | refine ⟨?_, rfl, ?_⟩ | refine ⟨?_, by decide, rfl, ?_⟩ | fail)))
      · intro j hj
        (repeat (refine stp ?_))
        refine AW_if rfl (fun hcc => ?_) (fun hcc => ?_)
        · have hj' : j < O.length := by omega
          obtain ⟨x, hx⟩ : ∃ x, O[j]? = some x := ⟨O[j], by simp [hj']⟩
          have e2 := get_map eIntsC hx
          have hxl := hOm x (List.mem_of_getElem? hx)
          have hsn : listStep (O.take (j + 1)) s = listStep (O.take j) s ++ (rangeI s.low s.high).map fun n => x ++ [n] := by
            unfold listStep; rw [List.take_add_one, hx]; simp
          have hpj := hpre j
          have hrl := range_len s.low s.high
          (repeat (refine stp ?_))
          refine AW_loopC (fun i : Nat => i ≤ (s.high - s.low + 1).toNat) (fun i => mkSt [(0, .pv (eSpans l)), (3, .pv (eRows O)), (4, .pv (vi k)), (5, .arr 0), (6, .pv (vi j)), (7, .pv (vi (s.low + i)))]
            [(0, lst146 (listStep (O.take j) s ++ ((rangeI s.low s.high).take i).map fun n => x ++ [n]))] 1) (fun i => (s.high - s.low + 1).toNat - i) 0 (Nat.zero_le _) ?_ ?_
          · (refine Le.mk ?_ ?_; all_goals (repeat' (first | exact trivial | refine sle ?_ | refine ⟨?_, rfl, ?_⟩ | refine ⟨?_, by decide, rfl, ?_⟩ | fail)))
            · show some (FV.pv (vi s.low)) = some (FV.pv (vi (s.low + ((0 : Nat) : Int)))); simp
            · show some (lst146 (listStep (O.take j) s)) = some (lst146 (listStep (O.take j) s ++ ((rangeI s.low s.high).take 0).map fun n => x ++ [n])); simp
          · intro i hi
            have hLl : (listStep (O.take j) s ++ ((rangeI s.low s.high).take i).map fun n => x ++ [n]).length ≤ 2000000 := by
              simp only [List.length_append, List.length_map, List.length_take, hrl]; omega
            generalize hL : (listStep (O.take j) s ++ ((rangeI s.low s.high).take i).map fun n => x ++ [n]) = L at hLl ⊢
            (repeat (refine stp ?_))
            refine AW_if rfl (fun hcc => ?_) (fun hcc => ?_)
            · have hi' : i < (s.high - s.low + 1).toNat := by omega
              (repeat (refine stp ?_))
              refine AL_do2 rfl ⟨_, op_append_nil (e := 3) (sz := 1) (ys := x.map eInt) hT rfl rfl rfl rfl rfl rfl rfl rfl rfl rfl (by intro y hy; obtain ⟨_, _, rfl⟩ := List.mem_map.1 hy; rfl) (by simp only [List.length_map]; omega) rfl, ?_⟩
              (repeat (refine stp ?_))
              refine AL_pure (t := 43) rfl rfl ?_
              (repeat (refine stp ?_))
              refine ⟨i + 1, hi', by omega, ?_⟩
              (refine Le.mkR [(0, 6)] ?_ ?_ rfl; all_goals (repeat' (first | exact trivial | refine sle ?_ | refine ⟨?_, rfl, ?_⟩ | refine ⟨?_, by decide, rfl, ?_⟩ | fail)))
              · show some (FV.pv (vi (s.low + i + 1))) = some (FV.pv (vi (s.low + ((i + 1 : Nat) : Int)))); rw [show s.low + (i : Int) + 1 = s.low + ((i + 1 : Nat) : Int) by omega]
              · show some (AObj.arr 47 1 (L.map eIntsC ++ [[.sl (x.map eInt ++ [[vi (s.low + i)]])]])) = some (lst146 _)
                rw [List.take_add_one, range_get hi', List.map_append, ← List.append_assoc, hL]; simp [eIntsC, eInts, eInt]
            · have hi' : i = (s.high - s.low + 1).toNat := by omega
              have ht : (rangeI s.low s.high).take (s.high - s.low + 1).toNat = rangeI s.low s.high := List.take_of_length_le (by omega)
              rw [hi', ht, ← hsn] at hL
              subst hL
              (repeat (refine stp ?_))
              refine ⟨j + 1, hj', by omega, ?_⟩
              (refine Le.mk ?_ ?_; all_goals (repeat' (first | exact trivial | refine sle ?_ | refine ⟨?_, rfl, ?_⟩ | refine ⟨?_, by decide, rfl, ?_⟩ | fail)))
        · have hj' : j = O.length := by omega
          subst hj'
          rw [List.take_length]
          refine AW_pure (t := 5) rfl rfl ?_
          (repeat (refine stp ?_))
          refine ⟨k + 1, hk', by omega, ?_⟩
          (refine Le.mk ?_ ?_; all_goals (repeat' (first | exact trivial | refine sle ?_ | refine ⟨?_, rfl, ?_⟩ | refine ⟨?_, by decide, rfl, ?_⟩ | fail)))
          rw [hstep]; rfl
    · have hk' : k = l.length := by omega
      subst hk'
      (repeat (refine stp ?_))
      exact ⟨_, _, rfl, rfl, by simp⟩

def ownI (l : List Bath) (dye : Int) : List Span := l.map fun b => if b.dye = dye then b.hours else ⟨0, 0⟩
theorem f213 (l : List Bath) (dye : Int) (hl : l.length ≤ 1000) : ACalls Tryz.prog 213 [eBaths l, vi dye] (fun r => r = .own 37 2 ((ownI l dye).map eSpan)) := by
  refine ACalls.of_body hT Tryz.func213 rfl (by kernel_rfl) rfl ?_
  (repeat' (first | refine stp ?_ | (refine AL_do2 rfl ?_; first | refine ⟨_, op_call1 rfl rfl rfl rfl (f110 l hl), ?_⟩) | refine AL_gdec rfl rfl rfl (fun hg => ?_) (fun hg => ?_) | refine AL_gnot rfl rfl rfl (fun hg => ?_) (fun hg => ?_) | refine AL_gcases rfl rfl rfl (fun hg => ?_) (fun hg => ?_)))
  refine AW_loopC (fun k : Nat => k ≤ l.length) (fun k => mkSt [(0, .pv (eBaths l)), (1, .pv (vi dye)), (5, .arr 0), (6, .pv (vi k))] [(0, .arr 37 2 ((ownI (l.take k) dye ++ hoursI (l.drop k)).map eSpan))] 1) (fun k => l.length - k) 0 (Nat.zero_le _) ?_ ?_
  · (refine Le.mk ?_ ?_; all_goals (repeat' (first | exact trivial | refine sle ?_ | refine ⟨?_, rfl, ?_⟩ | refine ⟨?_, by decide, rfl, ?_⟩ | fail)))
  · intro k hk
    (repeat (refine stp ?_))
    refine AW_if rfl (fun hc => ?_) (fun hc => ?_)
    · have hk' : k < l.length := by omega
      obtain ⟨b, hb⟩ : ∃ b, l[k]? = some b := ⟨l[k], by simp [hk']⟩
      have e1 := get_map eBath hb
      have hbe : l[k] = b := (List.getElem?_eq_some_iff.1 hb).2
      have hlen : (ownI (l.take k) dye).length = k := by simp [ownI]; omega
      have hcur : ((ownI (l.take k) dye ++ hoursI (l.drop k)).map eSpan)[k]? = some (eSpan b.hours) := by
        rw [List.getElem?_map, List.getElem?_append_right (by omega), hlen, Nat.sub_self, List.drop_eq_getElem_cons hk', hbe]; rfl
      have htot : (ownI (l.take k) dye ++ hoursI (l.drop k)).length = l.length := by simp [ownI, hoursI]; omega
      have hset : ∀ u : Span, ((ownI (l.take k) dye ++ hoursI (l.drop k)).map eSpan).set k (eSpan u) = (ownI (l.take k) dye ++ u :: hoursI (l.drop (k + 1))).map eSpan := fun u => by
        rw [← List.map_set, List.set_append_right _ _ (by omega), hlen, Nat.sub_self, List.drop_eq_getElem_cons hk']; rfl
      have hsn : ownI (l.take (k + 1)) dye = ownI (l.take k) dye ++ [if b.dye = dye then b.hours else ⟨0, 0⟩] := by
        unfold ownI; rw [List.take_add_one, hb]; simp
      (repeat (refine stp ?_))
      refine AW_cond rfl (fun hc2 => ?_) (fun hc2 => ?_)
      · have hne : ¬ b.dye = dye := by simpa using hc2
        (repeat (refine stp ?_))
        refine AL_do2 rfl ⟨_, op_indexAddr_arr hT rfl rfl rfl rfl rfl rfl rfl rfl (by omega) (by simp only [List.length_map]; omega) rfl, ?_⟩
        (repeat (refine stp ?_))
        refine AL_do2 rfl ⟨_, op_store_aptr (el := eSpan b.hours) hT rfl rfl rfl rfl rfl (by simpa using hcur) rfl rfl rfl rfl, ?_⟩
        (repeat (refine stp ?_))
        refine ⟨k + 1, hk', by omega, ?_⟩
        (refine Le.mk ?_ ?_; all_goals (repeat' (first | exact trivial | refine sle ?_ | refine ⟨?_, rfl, ?_⟩ | refine ⟨?_, by decide, rfl, ?_⟩ | fail)))
        rw [hsn, if_neg hne, List.append_assoc, List.singleton_append, ← hset]; rfl
      · have he : b.dye = dye := by simpa using hc2
        (repeat (refine stp ?_))
        refine ⟨k + 1, hk', by omega, ?_⟩
        (refine Le.mk ?_ ?_; all_goals (repeat' (first | exact trivial | refine sle ?_ | refine ⟨?_, rfl, ?_⟩ | refine ⟨?_, by decide, rfl, ?_⟩ | fail)))
        rw [hsn, if_pos he, List.append_assoc, List.singleton_append, List.drop_eq_getElem_cons hk', hbe]; rfl
    · have hk' : k = l.length := by omega
      subst hk'
      (repeat (refine stp ?_))
      exact ⟨_, _, rfl, rfl, by simp [hoursI]⟩

def metB (all : List Bath) (dye t : Int) : Bool := all.any fun b => decide (b.dye = dye) && decide (b.temper = t)
def usedI (all : List Bath) (dye : Int) : List Span → Int → List Span
  | [], _ => []
  | s :: l, t => (if metB all dye t then s else ⟨s.low, s.low⟩) :: usedI all dye l (t + 1)
theorem usedI_len (all : List Bath) (dye : Int) : ∀ (l : List Span) (t : Int), (usedI all dye l t).length = l.length
  | [], _ => rfl
  | s :: l, t => by simp [usedI, usedI_len all dye l]
theorem usedI_succ (all : List Bath) (dye : Int) : ∀ (l : List Span) (t : Int) (k : Nat) (s : Span), l[k]? = some s → usedI all dye (l.take (k + 1)) t = usedI all dye (l.take k) t ++ [if metB all dye (t + k) then s else ⟨s.low, s.low⟩]
  | [], _, _, _, h => by simp at h
  | s0 :: l, t, 0, s, h => by simp at h; subst h; simp [usedI]
  | s0 :: l, t, k + 1, s, h => by
    have := usedI_succ all dye l (t + 1) k s (by simpa using h)
    simp only [List.take_succ_cons, usedI, this, List.cons_append]
    rw [show t + 1 + (k : Int) = t + ((k + 1 : Nat) : Int) by omega]
set_option maxHeartbeats 4000000 in
theorem f212 (h : List Dye) (dye : Int) (a b : List Bath) (d : Dye) (hd : h[dye.toNat]? = some d) (h0 : 0 ≤ dye) (htl : d.takes.length ≤ 1000) (ha : a.length ≤ 1000) (hb : b.length ≤ 1000) :
    ACalls Tryz.prog 212 [eHouse h, vi dye, eBaths a, eBaths b] (fun r => r = .own 37 2 ((usedI (a ++ b) dye d.takes 0).map eSpan)) := by
  have e0 := get_map_i eDye hd
  refine ACalls.of_body hT Tryz.func212 rfl (by kernel_rfl) rfl ?_
  (repeat (refine stp ?_))
  refine AL_do2 rfl ⟨_, op_append_nil (e := 37) (sz := 2) (ys := d.takes.map eSpan) hT rfl rfl rfl rfl rfl rfl rfl rfl rfl rfl (by intro y hy; obtain ⟨_, _, rfl⟩ := List.mem_map.1 hy; rfl) (by simp only [List.length_map]; omega) rfl, ?_⟩
  (repeat (refine stp ?_))
  refine AL_do2 rfl ⟨_, op_append_nil (e := 154) (sz := 4) (ys := a.map eBath) hT rfl rfl rfl rfl rfl rfl rfl rfl rfl rfl (by intro y hy; obtain ⟨_, _, rfl⟩ := List.mem_map.1 hy; rfl) (by simp only [List.length_map]; omega) rfl, ?_⟩
  (repeat (refine stp ?_))
  refine AW_pure (t := 10) rfl rfl ?_
  rw [← List.map_append]
  have hall : (a ++ b).length ≤ 2000 := by simp; omega
  generalize a ++ b = all at hall ⊢
  generalize d.takes = tk at htl ⊢
  refine AW_loopC (fun k : Nat => k ≤ tk.length) (fun k => mkSt [(1, .pv (vi dye)), (9, .arr 0), (10, .pv (eBaths all)), (11, .pv (vi k))] [(0, .arr 37 2 ((usedI all dye (tk.take k) 0 ++ tk.drop k).map eSpan))] 1) (fun k => tk.length - k) 0 (Nat.zero_le _) ?_ ?_
  · (refine Le.mkR [(0, 2)] ?_ ?_ rfl; all_goals (repeat' (first | exact trivial | refine sle ?_ | refine ⟨?_, rfl, ?_⟩ | refine ⟨?_, by decide, rfl, ?_⟩ | fail)))
  · intro k hk
    have hlen : (usedI all dye (tk.take k) 0).length = k := by rw [usedI_len]; simp; omega
    have htot : (usedI all dye (tk.take k) 0 ++ tk.drop k).length = tk.length := by rw [List.length_append, hlen]; simp; omega
    have hset : ∀ (hk' : k < tk.length) (u : Span), ((usedI all dye (tk.take k) 0 ++ tk.drop k).map eSpan).set k (eSpan u) = (usedI all dye (tk.take k) 0 ++ u :: tk.drop (k + 1)).map eSpan := fun hk' u => by
      rw [← List.map_set, List.set_append_right _ _ (by omega), hlen, Nat.sub_self, List.drop_eq_getElem_cons hk']; rfl
    have hcur : ∀ s, tk[k]? = some s → ((usedI all dye (tk.take k) 0 ++ tk.drop k).map eSpan)[k]? = some (eSpan s) := fun s hs => by
      have hk' := (List.getElem?_eq_some_iff.1 hs).1
      rw [List.getElem?_map, List.getElem?_append_right (by omega), hlen, Nat.sub_self, List.drop_eq_getElem_cons hk', (List.getElem?_eq_some_iff.1 hs).2]; rfl
    (repeat (refine stp ?_))
    refine AW_if rfl (fun hc => ?_) (fun hc => ?_)
    · have hk' : k < tk.length := by omega
      obtain ⟨s, hs⟩ : ∃ s, tk[k]? = some s := ⟨tk[k], by simp [hk']⟩
      have hse : tk[k] = s := (List.getElem?_eq_some_iff.1 hs).2
      have hcu := hcur s hs
      have hsn := usedI_succ all dye tk 0 k s hs
      rw [Int.zero_add] at hsn
      (repeat (refine stp ?_))
      refine AW_loopC (fun j : Nat => j ≤ all.length) (fun j => mkSt [(1, .pv (vi dye)), (9, .arr 0), (10, .pv (eBaths all)), (11, .pv (vi k)), (12, .pv (.bool (metB (all.take j) dye k))), (13, .pv (vi j))] [(0, .arr 37 2 ((usedI all dye (tk.take k) 0 ++ tk.drop k).map eSpan))] 1) (fun j => all.length - j) 0 (Nat.zero_le _) ?_ ?_
      · (refine Le.mk ?_ ?_; all_goals (repeat' (first | exact trivial | refine sle ?_ | refine ⟨?_, rfl, ?_⟩ | refine ⟨?_, by decide, rfl, ?_⟩ | fail)))
      · intro j hj
        (repeat (refine stp ?_))
        refine AW_if rfl (fun hc => ?_) (fun hc => ?_)
        · have hj' : j < all.length := by omega
          obtain ⟨b, hb⟩ : ∃ b, all[j]? = some b := ⟨all[j], by simp [hj']⟩
          have e1 := get_map eBath hb
          have hm : metB (all.take (j + 1)) dye k = (metB (all.take j) dye k || (decide (b.dye = dye) && decide (b.temper = k))) := by
            unfold metB; rw [List.take_add_one, hb]; simp
          (repeat' (first | refine AL_skip rfl rfl ?_ | refine stp ?_ | refine AL_gdec rfl rfl rfl (fun hg => ?_) (fun hg => ?_) | refine AL_gnot rfl rfl rfl (fun hg => ?_) (fun hg => ?_) | refine AL_gcases rfl rfl rfl (fun hg => ?_) (fun hg => ?_)))
          all_goals
            refine ⟨j + 1, hj', by omega, ?_⟩
            (refine Le.mk ?_ ?_; all_goals (repeat' (first | exact trivial | refine sle ?_ | refine ⟨?_, rfl, ?_⟩ | refine ⟨?_, by decide, rfl, ?_⟩ | fail)))
            rw [hm]
            simp_all
            try rfl
        · have hj' : j = all.length := by omega
          rw [hj', List.take_length]
          (repeat (refine stp ?_))
          refine AW_cond rfl (fun hc2 => ?_) (fun hc2 => ?_)
          · have hmf : metB all dye k = false := by simpa using hc2
            rw [hmf] at hsn
            (repeat (refine stp ?_))
            refine AL_do2 rfl ⟨_, op_indexAddr_arr hT rfl rfl rfl rfl rfl rfl rfl rfl (by omega) (by simp only [List.length_map]; omega) rfl, ?_⟩
            refine AL_step hT rfl ?_
            refine AL_do2 rfl ⟨_, op_load_aptr (el := eSpan s) hT rfl rfl rfl rfl rfl (by simpa using hcu) rfl, ?_⟩
            refine AL_do2 rfl ⟨_, op_indexAddr_arr hT rfl rfl rfl rfl rfl rfl rfl rfl (by omega) (by simp only [List.length_map]; omega) rfl, ?_⟩
            refine AL_step hT rfl ?_
            refine AL_do2 rfl ⟨_, op_store_aptr (el := eSpan s) hT rfl rfl rfl rfl rfl (by simpa using hcu) rfl rfl rfl rfl, ?_⟩
            (repeat (refine stp ?_))
            refine ⟨k + 1, hk', by omega, ?_⟩
            (refine Le.mk ?_ ?_; all_goals (repeat' (first | exact trivial | refine sle ?_ | refine ⟨?_, rfl, ?_⟩ | refine ⟨?_, by decide, rfl, ?_⟩ | fail)))
            show some (AObj.arr 37 2 (((usedI all dye (tk.take k) 0 ++ tk.drop k).map eSpan).set k (eSpan ⟨s.low, s.low⟩))) = some (AObj.arr 37 2 ((usedI all dye (tk.take (k + 1)) 0 ++ tk.drop (k + 1)).map eSpan))
            rw [hsn, hset hk', List.append_assoc]; rfl
          · have hmt : metB all dye k = true := by simpa using hc2
            rw [hmt] at hsn
            (repeat (refine stp ?_))
            refine ⟨k + 1, hk', by omega, ?_⟩
            (refine Le.mk ?_ ?_; all_goals (repeat' (first | exact trivial | refine sle ?_ | refine ⟨?_, rfl, ?_⟩ | refine ⟨?_, by decide, rfl, ?_⟩ | fail)))
            show some (AObj.arr 37 2 ((usedI all dye (tk.take k) 0 ++ tk.drop k).map eSpan)) = some (AObj.arr 37 2 ((usedI all dye (tk.take (k + 1)) 0 ++ tk.drop (k + 1)).map eSpan))
            rw [hsn, List.append_assoc, List.drop_eq_getElem_cons hk', hse]; rfl
    · have hk' : k = tk.length := by omega
      subst hk'
      (repeat (refine stp ?_))
      exact ⟨_, _, rfl, rfl, by simp⟩
end Go.Abs
