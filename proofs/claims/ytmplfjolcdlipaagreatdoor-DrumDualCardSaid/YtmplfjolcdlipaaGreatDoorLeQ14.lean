/- Sortings, and batches that are apart, as the reference has them. -/
import Derived.Test.YtmplfjolcdlipaaGreatDoorLdQ14
import Derived.Test.YtmplfjolcdlipaaGreatDoorDrM
import Derived.Test.YtmplfjolcdlipaaGreatDoorDrL
import Derived.Test.YtmplfjolcdlipaaGreatDoorLaQ14
import Derived.Test.YtmplfjolcdlipaaGreatDoorNcAbsSLQ14
import Derived.Test.YtmplfjolcdlipaaGreatDoorXQ14
import Derived.Test.YtmplfjolcdlipaaGreatDoorDrJ
set_option linter.unusedVariables false
set_option linter.unusedSimpArgs false
namespace Go.Abs
open Go.Proofs
set_option linter.unusedVariables false
set_option linter.unusedSimpArgs false
set_option maxRecDepth 100000
theorem runs_take {l : List Int} {k : Nat} {x : Int} (h : l[k]? = some x) : runsI (l.take (k + 1)) = max (runsI (l.take k)) (x + 1) := by
  rw [List.take_add_one, h]
  exact runs_append _ _
theorem f53 (l : List Int) (hl : l.length ≤ 1000) (hb : ∀ x ∈ l, -1000 ≤ x ∧ x ≤ 1000) : ACalls Tryz.prog 53 [eInts l] (fun r => r = .pv (vi (runsI l))) := by
  refine ACalls.of_body hT Tryz.func53 rfl (by kernel_rfl) rfl ?_
  (repeat (refine stq ?_))
  refine AW_loopC (fun k : Nat => k ≤ l.length) (fun k => mkSt [(0, .pv (eInts l)), (3, .pv (vi (runsI (l.take k)))), (4, .pv (vi k))] [] 0) (fun k => l.length - k) 0 (Nat.zero_le _) ?_ ?_
  · (refine Le.mk ?_ ?_; all_goals (repeat' (first | exact trivial | refine sle ?_ | refine ⟨?_, rfl, ?_⟩ | refine ⟨?_, by decide, rfl, ?_⟩ | fail)))
  · intro k hk
    (repeat (refine stq ?_))
    refine AW_if rfl (fun hc => ?_) (fun hc => ?_)
    · have hk' : k < l.length := by omega
      obtain ⟨x, hx⟩ : ∃ x, l[k]? = some x := ⟨l[k], by simp [hk']⟩
      have e1 := get_map eInt hx
      have hxb := hb x (List.mem_of_getElem? hx)
      have hs := runs_take hx
      generalize runsI (l.take k) = m at *
      (repeat (refine stq ?_))
      refine ⟨k + 1, hk', by omega, ?_⟩
      rw [hs]
      (refine Le.mk ?_ ?_; all_goals (repeat' (first | exact trivial | refine sle ?_ | refine ⟨?_, rfl, ?_⟩ | refine ⟨?_, by decide, rfl, ?_⟩ | fail)))
    · have hk' : k = l.length := by omega
      subst hk'
      rw [List.take_length]
      (repeat (refine stq ?_))
      exact ⟨_, _, rfl, rfl, rfl⟩
def numB (d : Drum) (l : List Int) : Bool := l.all (fun x => inB x 0 (d.batches.length - 1)) && decide (l.length = d.batches.length)
theorem num_fine (d : Drum) (l : List Int) : numB d l = fineS d l := by
  unfold numB fineS
  rw [Bool.and_comm]
  congr 1
  induction l with
  | nil => rfl
  | cons x l ih => simp only [List.all_cons, List.any_cons, Bool.not_or, ih, badNo, Bool.not_not]
theorem f47 (d : Drum) (l : List Int) (hl : l.length ≤ 9223372036854775807) (hb : d.batches.length ≤ 1000) : ACalls Tryz.prog 47 [eDrum d, eInts l] (fun r => r = .pv (.bool (numB d l))) := by
  refine ACalls.of_body hT Tryz.func47 rfl (by kernel_rfl) rfl ?_
  (repeat (refine stq ?_))
  refine AW_loopC (fun k : Nat => k ≤ l.length ∧ (l.take k).all (fun x => inB x 0 (d.batches.length - 1)) = true) (fun k => mkSt [(1, .pv (eInts l)), (2, .box 0 0), (5, .pv (vi k))] [(0, .box ((eDrumC d).map FV.pv))] 1) (fun k => l.length - k) 0 ⟨Nat.zero_le _, by simp⟩ ?_ ?_
  · (refine Le.mk ?_ ?_; all_goals (repeat' (first | exact trivial | refine sle ?_ | refine ⟨?_, rfl, ?_⟩ | refine ⟨?_, by decide, rfl, ?_⟩ | fail)))
  · rintro k ⟨hk, hall⟩
    (repeat (refine stq ?_))
    refine AW_if rfl (fun hc => ?_) (fun hc => ?_)
    · have hk' : k < l.length := by omega
      obtain ⟨x, hx⟩ : ∃ x, l[k]? = some x := ⟨l[k], by simp [hk']⟩
      have e1 := get_map eInt hx
      have k103 := f103 x 0 (d.batches.length - 1)
      have hn : (l.take (k + 1)).all (fun x => inB x 0 (d.batches.length - 1)) = ((l.take k).all (fun x => inB x 0 (d.batches.length - 1)) && inB x 0 (d.batches.length - 1)) := by
        rw [List.take_add_one, hx, List.all_append]; simp
      cases hb : inB x 0 (d.batches.length - 1) with
      | false =>
        rw [hb] at k103
        (repeat (refine stq ?_))
        (repeat (first | refine sdq ?_ | refine DG_next (D_call rfl rfl rfl rfl rfl (k103)) ?_))
        refine DG_end hM (by kernel_rfl) ?_
        (repeat (refine stq ?_))
        exact ⟨_, _, rfl, rfl, by
          have : l.all (fun x => inB x 0 (d.batches.length - 1)) = false := List.all_eq_false.2 ⟨x, List.mem_of_getElem? hx, by rw [hb]; decide⟩
          unfold numB; rw [this]; rfl⟩
      | true =>
        rw [hb] at k103
        (repeat (refine stq ?_))
        (repeat (first | refine sdq ?_ | refine DG_next (D_call rfl rfl rfl rfl rfl (k103)) ?_))
        refine DG_end hM (by kernel_rfl) ?_
        (repeat (refine stq ?_))
        refine ⟨k + 1, ⟨hk', by rw [hn, hall, hb]; rfl⟩, by omega, ?_⟩
        (refine Le.mk ?_ ?_; all_goals (repeat' (first | exact trivial | refine sle ?_ | refine ⟨?_, rfl, ?_⟩ | refine ⟨?_, by decide, rfl, ?_⟩ | fail)))
    · have hk' : k = l.length := by omega
      subst hk'
      rw [List.take_length] at hall
      (repeat (refine stq ?_))
      exact ⟨_, _, rfl, rfl, by
        unfold numB; rw [hall]
        by_cases h : l.length = d.batches.length
        · rw [decide_eq_true h, decide_eq_true (by omega)]; rfl
        · rw [decide_eq_false h, decide_eq_false (by omega)]; rfl⟩
def sortsR1 (W : List Span) (l : List Int) (i : Nat) : Bool := decide (l.getD i 0 ≤ runsI (l.take i)) && openS (commonR W l (l.getD i 0))
def sortsR (W : List Span) (l : List Int) : Bool := (List.range l.length).all (sortsR1 W l)
theorem all_range_succ {k : Nat} {p : Nat → Bool} : (List.range (k + 1)).all p = ((List.range k).all p && p k) := by
  rw [List.range_succ, List.all_append]; simp
end Go.Abs
namespace Go.Abs
open Go.Proofs
set_option linter.unusedVariables false
set_option linter.unusedSimpArgs false
set_option maxRecDepth 100000
def bfsOK : Bool := (List.range 6).all fun i => decide ((bfsI i).length ≤ 60) && (bfsI i).all fun l => decide (l.length = i) && l.all fun x => decide (0 ≤ x) && decide (x < i)
theorem bfs_ok : bfsOK = true := by decide +kernel
theorem bfs_bd {i : Nat} (hi : i ≤ 5) : (bfsI i).length ≤ 60 ∧ ∀ l ∈ bfsI i, l.length = i ∧ ∀ x ∈ l, 0 ≤ x ∧ x < (i : Int) := by
  have := List.all_eq_true.1 bfs_ok i (List.mem_range.2 (by omega))
  simp only [Bool.and_eq_true, decide_eq_true_eq, List.all_eq_true] at this
  exact ⟨this.1, fun l hl => this.2 l hl⟩
theorem best_succ {α : Type} (b : α → α → Bool) (l : List α) (x : α) : bestL b (l ++ [x]) = match bestL b l with | none => some x | some o => some (if b x o then x else o) := by
  cases l with
  | nil => rfl
  | cons y l => simp only [List.cons_append, bestL, List.foldl_append, List.foldl_cons, List.foldl_nil]
end Go.Abs
namespace Go.Abs
open Go.Proofs
set_option linter.unusedVariables false
set_option linter.unusedSimpArgs false
set_option maxRecDepth 100000
theorem rgs_iff (l : List Int) : rgsGo 0 l = true ↔ ∀ i, i < l.length → l.getD i 0 ≤ runsI (l.take i) := by
  induction h : l.length generalizing l with
  | zero => rw [List.length_eq_zero_iff] at h; subst h; simp [rgsGo]
  | succ n ih =>
    obtain ⟨r, x, rfl⟩ : ∃ r x, l = r ++ [x] := ⟨l.dropLast, l.getLast (by intro e; rw [e] at h; cases h), (List.dropLast_concat_getLast _).symm⟩
    have hr : r.length = n := by simpa using h
    rw [rgs_append, Bool.and_eq_true, ih r hr, decide_eq_true_eq]
    constructor
    · rintro ⟨h1, h2⟩ i hi
      by_cases hin : i < n
      · have := h1 i (by omega)
        rw [List.getD_eq_getElem?_getD, List.getElem?_append_left (by omega), ← List.getD_eq_getElem?_getD, List.take_append_of_le_length (by omega)]
        exact this
      · have : i = r.length := by omega
        subst this
        have e1 : (r ++ [x]).getD r.length 0 = x := by simp
        have e2 : (r ++ [x]).take r.length = r := by simp
        rw [e1, e2]; exact h2
    · intro h1
      refine ⟨fun i hi => ?_, ?_⟩
      · have := h1 i (by omega)
        rw [List.getD_eq_getElem?_getD, List.getElem?_append_left (by omega), ← List.getD_eq_getElem?_getD, List.take_append_of_le_length (by omega)] at this
        exact this
      · have := h1 r.length (by omega)
        have e1 : (r ++ [x]).getD r.length 0 = x := by simp
        have e2 : (r ++ [x]).take r.length = r := by simp
        rw [e1, e2] at this; exact this
theorem runs_hit : ∀ (l : List Int), rgsGo 0 l = true → (∀ x ∈ l, 0 ≤ x) → ∀ r : Nat, (r : Int) < runsI l → (r : Int) ∈ l := by
  intro l
  induction h : l.length generalizing l with
  | zero => rw [List.length_eq_zero_iff] at h; subst h; intro _ _ r hr; simp [runsI] at hr; omega
  | succ n ih =>
    obtain ⟨q, x, rfl⟩ : ∃ r x, l = r ++ [x] := ⟨l.dropLast, l.getLast (by intro e; rw [e] at h; cases h), (List.dropLast_concat_getLast _).symm⟩
    have hq : q.length = n := by simpa using h
    intro hg h0 r hr
    rw [rgs_append, Bool.and_eq_true, decide_eq_true_eq] at hg
    rw [runs_append] at hr
    have hx : x ≤ runsI q := hg.2
    by_cases hr1 : (r : Int) < runsI q
    · exact List.mem_append.2 (.inl (ih q hq hg.1 (fun y hy => h0 y (by simp [hy])) r hr1))
    · have : (r : Int) = x := by omega
      rw [this]; simp
theorem sortsR_eq {W : List Span} {l : List Int} (h0 : ∀ x ∈ l, 0 ≤ x) : sortsR W l = sortsB W l := by
  rw [Bool.eq_iff_iff]
  unfold sortsR sortsB
  simp only [List.all_eq_true, List.mem_range, Bool.and_eq_true, sortsR1, decide_eq_true_eq]
  have hrun : ∀ r : Int, l.length ≠ 0 → openS (commonR W l r) = runB W l r := fun r hl => by
    have : comP l r = fun i : Nat => decide (l[i]? = some r) := by funext i; simp [comP, hl]
    unfold commonR runB
    rw [this]
  constructor
  · intro h
    refine ⟨(rgs_iff l).2 fun i hi => (h i hi).1, fun r hr => ?_⟩
    have hg := (rgs_iff l).2 fun i hi => (h i hi).1
    have hm := runs_hit l hg h0 r (by omega)
    obtain ⟨i, hi⟩ := List.mem_iff_getElem?.1 hm
    have hil := (List.getElem?_eq_some_iff.1 hi).1
    have := (h i hil).2
    rw [List.getD_eq_getElem?_getD, hi] at this
    rw [← hrun _ (by omega)]
    exact this
  · rintro ⟨h1, h2⟩ i hi
    refine ⟨(rgs_iff l).1 h1 i hi, ?_⟩
    obtain ⟨x, hx⟩ : ∃ x, l[i]? = some x := ⟨l[i], by simp [hi]⟩
    have gx : l.getD i 0 = x := by rw [List.getD_eq_getElem?_getD, hx]; rfl
    have hxm := List.mem_of_getElem? hx
    have := h0 x hxm
    have hlt := runs_lt hxm
    rw [gx, hrun _ (by omega)]
    have := h2 x.toNat (by omega)
    rwa [show ((x.toNat : Nat) : Int) = x by omega] at this
end Go.Abs
namespace Go.Abs
open Go.Proofs
set_option linter.unusedVariables false
set_option linter.unusedSimpArgs false
set_option maxRecDepth 100000
theorem winR_bd {d : Drum} (hP : DrumP d) {s : Span} (hs : s ∈ winR d) {n : Int} (hn : inS s n) : 0 ≤ n ∧ n ≤ 12 := by
  obtain ⟨b, hb, rfl⟩ := List.mem_map.1 hs
  have h1 := win1_iff.1 (win1_same.1 hn)
  have h2 := thin_bd d b
  have := hP.h1
  omega
theorem sortsB_same (d : Drum) (l : List Int) : sortsB (winR d) l = sortsB (winP d) l := by
  unfold sortsB
  congr 2
  funext r
  exact (win_open d _).1
theorem shl_bits : ((List.range 5).all fun i => (List.range 5).all fun j => bitI (shlR .i64 1 (i : Int)) j == decide (j = i)) = true := by decide +kernel
theorem shl_bit {i j : Nat} (hi : i < 5) (hj : j < 5) : bitI (shlR .i64 1 i) j = decide (j = i) := by
  have := List.all_eq_true.1 (List.all_eq_true.1 shl_bits i (List.mem_range.2 hi)) j (List.mem_range.2 hj)
  simpa using this
theorem whole_same {d : Drum} (hP : DrumP d) : (winR d).all openS = eachB (winP d) := by
  have hb1 := hP.b1
  rw [Bool.eq_iff_iff]
  unfold eachB
  simp only [List.all_eq_true, List.mem_range]
  have key : ∀ (i : Nat) (s : Span), (winR d)[i]? = some s → openS (ofB (winP d) (shlR .i64 1 i)) = openS s := fun i s hs => by
    have hil := (List.getElem?_eq_some_iff.1 hs).1
    rw [winR_len] at hil
    unfold ofB
    rw [← (win_open d _).1, Bool.eq_iff_iff, open_iff, open_iff]
    constructor
    · rintro ⟨n, hn⟩
      exact ⟨n, (pick_iff.1 hn).2 i s hs (by rw [shl_bit (by omega) (by omega)]; simp)⟩
    · rintro ⟨n, hn⟩
      refine ⟨n, pick_iff.2 ⟨winR_bd hP (List.mem_of_getElem? hs) hn, fun j u hj hp => ?_⟩⟩
      have hjl := (List.getElem?_eq_some_iff.1 hj).1
      rw [winR_len] at hjl
      rw [shl_bit (by omega) (by omega)] at hp
      have := of_decide_eq_true hp
      subst this
      rw [hs] at hj; cases hj; exact hn
  constructor
  · intro h i hi
    rw [winP_len] at hi
    obtain ⟨s, hs⟩ : ∃ s, (winR d)[i]? = some s := ⟨(winR d)[i]'(by rw [winR_len]; exact hi), by simp⟩
    rw [key i s hs]; exact h s (List.mem_of_getElem? hs)
  · intro h s hs
    obtain ⟨i, hi⟩ := List.mem_iff_getElem?.1 hs
    have hil := (List.getElem?_eq_some_iff.1 hi).1
    rw [winR_len] at hil
    rw [← key i s hi]; exact h i (by rw [winP_len]; exact hil)
theorem sort_some {d : Drum} (hP : DrumP d) (he : eachB (winP d) = true) : (bfsI (winR d).length).filter (sortsR (winR d)) ≠ [] := by
  rw [← whole_same hP] at he
  have hst : stabs (winR d) ((winR d).map fun s => s.low) := by
    refine ⟨fun p hp => ?_, fun s hs => ?_⟩
    · obtain ⟨s, hs, rfl⟩ := List.mem_map.1 hp
      have := List.all_eq_true.1 he s hs
      simp only [openS, decide_eq_true_eq] at this
      exact winR_bd hP hs ⟨Int.le_refl _, this⟩
    · have := List.all_eq_true.1 he s hs
      simp only [openS, decide_eq_true_eq] at this
      exact ⟨s.low, List.mem_map.2 ⟨s, hs, rfl⟩, Int.le_refl _, this⟩
  obtain ⟨l, hl, hsl, _⟩ := stab_sorts hst
  rw [← bfs_level] at hl
  have h5 : (winR d).length ≤ 5 := by rw [winR_len]; exact hP.b1
  intro e
  have : l ∈ (bfsI (winR d).length).filter (sortsR (winR d)) := List.mem_filter.2 ⟨hl, by rw [sortsR_eq fun x hx => (((bfs_bd h5).2 l hl).2 x hx).1]; exact hsl⟩
  rw [e] at this; cases this
end Go.Abs
namespace Go.Abs
open Go.Proofs
set_option linter.unusedVariables false
set_option linter.unusedSimpArgs false
set_option maxRecDepth 100000
theorem f44y {d : Drum} {l : List Int} (hd : drumOK d) (hl : l.length ≤ 1000) (hb : d.batches.length ≤ 1000) (he : errE d (fineS d l) = 0) : ACalls Tryz.prog 44 [eDrum d, eInts l] (fun r => r = .tup [.bool (sortsP (winP d) l), vi 0]) := by
  have k := f44 d l hd hl hb
  rw [sortsE, if_pos he] at k
  exact k
theorem f45y {d : Drum} (hd : drumOK d) (he : errE d true = 0) (hw : eachB (winP d) = true) : ACalls Tryz.prog 45 [eDrum d] (fun r => r = .tup [eInts (sortI (winP d)), vi (runsI (sortI (winP d))), vi 0]) := by
  have k := f45 d hd
  rw [sortRE, if_pos he, if_pos hw] at k
  exact k
theorem f45n {d : Drum} (hd : drumOK d) (he : errE d true = 0) (hw : eachB (winP d) = false) : ACalls Tryz.prog 45 [eDrum d] (fun r => r = .tup [eInts [], vi 0, vi 5]) := by
  have k := f45 d hd
  rw [sortRE, if_pos he, hw] at k
  exact k
theorem f45e {d : Drum} (hd : drumOK d) (he : errE d true ≠ 0) : ACalls Tryz.prog 45 [eDrum d] (fun r => r = .tup [eInts [], vi 0, vi (errE d true)]) := by
  have k := f45 d hd
  rw [sortRE, if_neg he] at k
  exact k
theorem f46y {d : Drum} (hd : drumOK d) (he : errE d true = 0) (hw : eachB (winP d) = true) : ACalls Tryz.prog 46 [eDrum d] (fun r => r = .tup [eInts (longestI (winP d)), vi 0]) := by
  have k := f46 d hd
  rw [apartE, if_pos he, if_pos hw] at k
  exact k
theorem f46n {d : Drum} (hd : drumOK d) (he : errE d true = 0) (hw : eachB (winP d) = false) : ACalls Tryz.prog 46 [eDrum d] (fun r => r = .tup [eInts [], vi 5]) := by
  have k := f46 d hd
  rw [apartE, if_pos he, hw] at k
  exact k
theorem f46e {d : Drum} (hd : drumOK d) (he : errE d true ≠ 0) : ACalls Tryz.prog 46 [eDrum d] (fun r => r = .tup [eInts [], vi (errE d true)]) := by
  have k := f46 d hd
  rw [apartE, if_neg he] at k
  exact k
end Go.Abs
