/- Lemmas. -/
import Derived.Test.YtmplfjolcdlipaaGreatDoorNcA
import Derived.Test.YtmplfjolcdlipaaGreatDoorNcB
import Derived.Test.YtmplfjolcdlipaaGreatDoorNcC
import Derived.Test.YtmplfjolcdlipaaGreatDoorNcD
import Derived.Test.YtmplfjolcdlipaaGreatDoorNcE
import Derived.Test.YtmplfjolcdlipaaGreatDoorNcF
import Derived.Test.YtmplfjolcdlipaaGreatDoorNcG
import Derived.Test.YtmplfjolcdlipaaGreatDoorNcH
import Derived.Test.YtmplfjolcdlipaaGreatDoorDrA
import Derived.Test.YtmplfjolcdlipaaGreatDoorDrB
import Derived.Test.YtmplfjolcdlipaaGreatDoorDrC
import Derived.Test.YtmplfjolcdlipaaGreatDoorFA
import Derived.Test.YtmplfjolcdlipaaGreatDoorNcI
import Derived.Test.YtmplfjolcdlipaaGreatDoorNcJ
import Derived.Test.YtmplfjolcdlipaaGreatDoorNcK
import Derived.Test.YtmplfjolcdlipaaGreatDoorSh
import Derived.Test.YtmplfjolcdlipaaGreatDoorDrO
import Derived.Test.YtmplfjolcdlipaaGreatDoorDrD
import Derived.Test.YtmplfjolcdlipaaGreatDoorDrE
import Derived.Test.YtmplfjolcdlipaaGreatDoorDrF
import Derived.Test.YtmplfjolcdlipaaGreatDoorDrP
import Derived.Test.YtmplfjolcdlipaaGreatDoorDrQ
import Derived.Test.YtmplfjolcdlipaaGreatDoorDrR
import Derived.Test.YtmplfjolcdlipaaGreatDoorDrS
import Derived.Test.YtmplfjolcdlipaaGreatDoorDrU
import Derived.Test.YtmplfjolcdlipaaGreatDoorDrG
import Derived.Test.YtmplfjolcdlipaaGreatDoorDrV
import Derived.Test.YtmplfjolcdlipaaGreatDoorDrH
import Derived.Test.YtmplfjolcdlipaaGreatDoorDrI
import Derived.Test.YtmplfjolcdlipaaGreatDoorDrJ
import Derived.Test.YtmplfjolcdlipaaGreatDoorDrK
import Derived.Test.YtmplfjolcdlipaaGreatDoorDrL
import Derived.Test.YtmplfjolcdlipaaGreatDoorDrM
import Derived.Test.YtmplfjolcdlipaaGreatDoorDrN
import Derived.Test.YtmplfjolcdlipaaGreatDoorDrW
import Derived.Test.YtmplfjolcdlipaaGreatDoorDrBK
import Derived.Test.YtmplfjolcdlipaaGreatDoorDrBJ
import Derived.Test.YtmplfjolcdlipaaGreatDoorDrBL
set_option linter.unusedVariables false
set_option linter.unusedSimpArgs false
namespace Go.Abs
open Go.RowKit Go.ChangeShapes
set_option linter.unusedVariables false
section
variable {H : Type} {enc : TypeId × Value → H} {P : Program} {W : World}
theorem cells_slice {t el : TypeId} {v : Value} {r : Reach} {b : Nat} (ht : P.underlying t = some (.slice el)) (h : Value.okWide P W r b t v) : v.cells = #[v] := by
  cases v <;> first | rfl | (simp [Value.okWide, ht, Cell.okWide, Cell.ok] at h)
end
end Go.Abs
namespace Go.Abs
set_option linter.unusedVariables false
theorem span_ext {s t : Span} (h : ∀ n, inS s n ↔ inS t n) : openS s = openS t ∧ (openS s = true → s = t) := by
  have e : openS s = openS t := by
    rw [Bool.eq_iff_iff, open_iff, open_iff]
    exact ⟨fun ⟨n, hn⟩ => ⟨n, (h n).1 hn⟩, fun ⟨n, hn⟩ => ⟨n, (h n).2 hn⟩⟩
  refine ⟨e, fun ho => ?_⟩
  have ho' := ho
  rw [e] at ho'
  simp only [openS, decide_eq_true_eq] at ho ho'
  have h1 := (h s.low).1 ⟨Int.le_refl _, ho⟩
  have h2 := (h s.high).1 ⟨ho, Int.le_refl _⟩
  have h3 := (h t.low).2 ⟨Int.le_refl _, ho'⟩
  have h4 := (h t.high).2 ⟨ho', Int.le_refl _⟩
  simp only [inS] at *
  cases s; cases t
  simp only [Span.mk.injEq] at *
  omega
theorem all_iff {d : Drum} {n : Int} : inS (allW d) n ↔ (0 ≤ n ∧ n ≤ 12) ∧ ∀ b ∈ d.batches, inS (winP1 d b) n := by
  unfold allW
  rw [pick_iff]
  refine and_congr_right fun _ => ?_
  simp only [winP, List.getElem?_map, Option.map_eq_some_iff]
  constructor
  · intro h b hb
    obtain ⟨i, hi⟩ := List.mem_iff_getElem?.1 hb
    exact h i _ ⟨b, hi, rfl⟩ trivial
  · rintro h i s ⟨b, hb, rfl⟩ _
    exact h b (List.mem_of_getElem? hb)
end Go.Abs
namespace Go.Abs
set_option linter.unusedVariables false
theorem lists_mem (below : Nat) : ∀ (m fr : Nat) (l : List Int), l ∈ listsI below m fr ↔ l.length = m ∧ l.Pairwise (· < ·) ∧ ∀ x ∈ l, (fr : Int) ≤ x ∧ x < (below : Int)
  | 0, fr, l => by
    simp only [listsI, List.mem_singleton]
    constructor
    · rintro rfl; simp
    · rintro ⟨h, _⟩; exact List.length_eq_zero_iff.1 h
  | m + 1, fr, l => by
    simp only [listsI, List.mem_flatMap, List.mem_range'_1, List.mem_map]
    constructor
    · rintro ⟨n, hn, r, hr, rfl⟩
      obtain ⟨h1, h2, h3⟩ := (lists_mem below m (n + 1) r).1 hr
      refine ⟨by simp [h1], List.pairwise_cons.2 ⟨fun x hx => by have := (h3 x hx).1; omega, h2⟩, fun x hx => ?_⟩
      rcases List.mem_cons.1 hx with rfl | hx
      · omega
      · have := h3 x hx; omega
    · rintro ⟨h1, h2, h3⟩
      match l, h1, h2, h3 with
      | x :: r, h1, h2, h3 =>
        have hx := h3 x (by simp)
        rw [List.pairwise_cons] at h2
        refine ⟨x.toNat, by omega, r, (lists_mem below m (x.toNat + 1) r).2 ⟨by simpa using h1, h2.2, fun y hy => ?_⟩, ?_⟩
        · have := h2.1 y hy; have := h3 y (by simp [hy]); omega
        · rw [show ((x.toNat : Nat) : Int) = x by omega]
theorem orderN_mem {n : Nat} {l : List Int} : l ∈ orderN n ↔ l.length ≤ n ∧ l.Pairwise (· < ·) ∧ ∀ x ∈ l, 0 ≤ x ∧ x < (n : Int) := by
  simp only [orderN, List.mem_flatMap, List.mem_range, lists_mem]
  constructor
  · rintro ⟨k, hk, h1, h2, h3⟩; exact ⟨by omega, h2, h3⟩
  · rintro ⟨h1, h2, h3⟩; exact ⟨l.length, by omega, rfl, h2, h3⟩
end Go.Abs
namespace Go.Abs
open Go.Proofs
set_option linter.unusedVariables false
set_option linter.unusedSimpArgs false
set_option maxRecDepth 100000
def windowE (d : Drum) : Span × Int := if errE d true = 0 then (if openS (allW d) then (allW d, 0) else (⟨0, 0⟩, 5)) else (⟨0, 0⟩, errE d true)
set_option maxHeartbeats 4000000 in
theorem f55 (d : Drum) (hd : drumOK d) : ACalls Tryz.prog 55 [eDrum d] (fun r => r = .tup [eS (windowE d).1, vi (windowE d).2]) := by
  have k84 := f84 d true hd
  refine ACalls.of_body hT Tryz.func55 rfl (by kernel_rfl) rfl ?_
  by_cases he : errE d true = 0
  · obtain ⟨hP, _, hne, ha⟩ := asked_ok he
    rw [ha] at k84
    have k84 : ACalls Tryz.prog 84 [eDrum d, .bool true] (fun r => r = .tup [.sl ((filledL d).map (eFilled d)), vi 0]) := k84
    have hbl := hP.b1
    have hwl : (winP d).length ≤ 5 := by rw [winP_len]; exact hbl
    have h1 := shl_small hbl
    (repeat' (first | refine stq ?_ | (refine AL_do2 rfl ?_; first | refine ⟨_, op_call1 rfl rfl rfl rfl (k84), nrmA rfl ?_⟩) | (with_reducible refine AL_id ?_); (fail_if_success (refine AL_glit rfl rfl rfl (by first | exact .inl (by with_reducible rfl) | exact .inr (by with_reducible rfl)) ?_)); first | refine AL_gdec rfl rfl rfl (fun hg => ?_) (fun hg => ?_) | refine AL_gnot rfl rfl rfl (fun hg => ?_) (fun hg => ?_) | refine AL_gcases rfl rfl rfl (fun hg => ?_) (fun hg => ?_)))
    refine AL_doS rfl (op_callXs (objs := []) (n := 0) [] [] [] (fun av => f98 d hP hne) rfl rfl rfl rfl (by (repeat' (first | exact trivial | refine And.intro ?_ ?_)); all_goals (first | rfl | decide)) rfl (by (repeat' (first | exact trivial | refine And.intro ?_ ?_)); all_goals (first | rfl | decide)) rfl trivial (by simp) (fun av sf h => trivial)) ?_
    rintro s' ⟨av, sf, ⟨l, rfl⟩, rfl⟩
    have k100 := f100 l (winP d) hwl
    rw [winP_len] at k100
    have k99 := f99 l (winP d) (allB d.batches.length) (by omega)
    have k102 := f102 l (winP d) (allB d.batches.length) (by omega)
    rw [of_all hP] at k99 k102
    rw [windowE, if_pos he]
    cases q : openS (allW d) with
    | false =>
      rw [q] at k99
      (repeat (refine stq ?_))
      (repeat (first | refine DG_next (D_callMemo rfl rfl rfl rfl (fun s1 => (by (repeat' (first | exact trivial | refine And.intro ?_ ?_)); all_goals (first | rfl | decide))) rfl rfl k100) ?_ | refine DG_next (D_callMemo rfl rfl rfl rfl (fun s1 => (by (repeat' (first | exact trivial | refine And.intro ?_ ?_)); all_goals (first | rfl | decide))) rfl rfl k99) ?_ | refine sdq ?_))
      refine DG_end hM (by kernel_rfl) ?_
      (repeat (refine stq ?_))
      exact ⟨_, _, rfl, rfl, rfl⟩
    | true =>
      rw [q] at k99
      (repeat (refine stq ?_))
      (repeat (first | refine DG_next (D_callMemo rfl rfl rfl rfl (fun s1 => (by (repeat' (first | exact trivial | refine And.intro ?_ ?_)); all_goals (first | rfl | decide))) rfl rfl k100) ?_ | refine DG_next (D_callMemo rfl rfl rfl rfl (fun s1 => (by (repeat' (first | exact trivial | refine And.intro ?_ ?_)); all_goals (first | rfl | decide))) rfl rfl k99) ?_ | refine sdq ?_))
      refine DG_end hM (by kernel_rfl) ?_
      (repeat (refine stq ?_))
      (repeat (first | refine DG_next (D_callMemo rfl rfl rfl rfl (fun s1 => (by (repeat' (first | exact trivial | refine And.intro ?_ ?_)); all_goals (first | rfl | decide))) rfl rfl k100) ?_ | refine sdq ?_))
      refine DG_end hM (by kernel_rfl) ?_
      (repeat (refine stq ?_))
      refine AL_doS rfl (op_callXs (objs := [(0, memoO (memoF (winP d)) l)]) (n := 1) [(0, 2)] [0] [] (fun av => k102) rfl rfl rfl rfl (by (repeat' (first | exact trivial | refine And.intro ?_ ?_)); all_goals (first | rfl | decide)) rfl (by (repeat' (first | exact trivial | refine And.intro ?_ ?_)); all_goals (first | rfl | decide)) rfl trivial (by simp) (fun av sf h => by subst h; exact ⟨.inr ⟨_, _, _, _, _, rfl, rfl⟩, trivial⟩)) ?_
      rintro s' ⟨av2, sf, rfl, rfl⟩
      (repeat (refine stq ?_))
      exact ⟨_, _, rfl, rfl, rfl⟩
  · rw [asked_err he] at k84
    have k84 : ACalls Tryz.prog 84 [eDrum d, .bool true] (fun r => r = .tup [.sl [], vi (errE d true)]) := k84
    (repeat' (first | refine stq ?_ | (refine AL_do2 rfl ?_; first | refine ⟨_, op_call1 rfl rfl rfl rfl (k84), nrmA rfl ?_⟩) | (with_reducible refine AL_id ?_); (fail_if_success (refine AL_glit rfl rfl rfl (by first | exact .inl (by with_reducible rfl) | exact .inr (by with_reducible rfl)) ?_)); first | refine AL_gdec rfl rfl rfl (fun hg => ?_) (fun hg => ?_) | refine AL_gnot rfl rfl rfl (fun hg => ?_) (fun hg => ?_) | refine AL_gcases rfl rfl rfl (fun hg => ?_) (fun hg => ?_)))
    refine AW_if rfl (fun hc => ?_) (fun hc => absurd (by omega) hc)
    (repeat (refine stq ?_))
    exact ⟨_, _, rfl, rfl, by rw [windowE, if_neg he]; rfl⟩
end Go.Abs
