/- The strengths of the hours, as the reference has them. -/
import Derived.Test.YtmplfjolcdlipaaGreatDoorDrBL
import Derived.Test.YtmplfjolcdlipaaGreatDoorDrG
import Derived.Test.YtmplfjolcdlipaaGreatDoorXQ9
import Derived.Test.YtmplfjolcdlipaaGreatDoorDrF
import Derived.Test.YtmplfjolcdlipaaGreatDoorDrC
set_option linter.unusedVariables false
set_option linter.unusedSimpArgs false
namespace Go.Abs
open Go.Proofs
set_option linter.unusedVariables false
set_option linter.unusedSimpArgs false
set_option maxRecDepth 100000
theorem could_get {d : Drum} {k : Nat} {p : Acid × Nat} (h : (filledL d)[k]? = some p) : (couldL d)[k]? = some (p.2 : Int) := by
  unfold couldL; rw [List.getElem?_map, h]; rfl
def hK (d : Drum) (k i : Nat) : Span := hullL ((hourL d i).take k)
end Go.Abs
namespace Go.Abs
open Go.Proofs
set_option linter.unusedVariables false
set_option linter.unusedSimpArgs false
set_option maxRecDepth 100000
end Go.Abs
namespace Go.Abs
open Go.Proofs
set_option linter.unusedVariables false
set_option linter.unusedSimpArgs false
set_option maxRecDepth 100000
theorem eaten_bd {t : List Int} {p : Int} (ht : bdU 1400 t) (hp : 0 ≤ p ∧ p ≤ 100) (h : Nat) : 0 ≤ eaten t p h ∧ eaten t p h ≤ 2000 * h := by
  have h1 := sumI_bdU (eatL_bd (h := h) ht hp)
  have h2 : (eatL t p h).length ≤ h := by simp [eatL]; omega
  unfold eaten
  unfold eatL at h1 h2
  omega
set_option maxHeartbeats 4000000 in
theorem f140 (b : Batch) (hb : BatchP3 b) (t : List Int) (h : Nat) (hl : h ≤ t.length) (hh : h ≤ 12) (ht : bdU 1400 t) : ACalls Tryz.prog 140 [.agg (eBatch b), eInts t, vi h] (fun r => r = .pv (.agg (eState (stateI b t h)))) := by
  have hp0 := hb.p0; have hp1 := hb.p1; have he0 := hb.e0; have he1 := hb.e1
  have hr0 := hb.r0; have hr1 := hb.r1; have ht0 := hb.t0; have ht1 := hb.t1
  refine ACalls.of_body hT Tryz.func140 rfl (by kernel_rfl) rfl ?_
  (repeat (refine stq ?_))
  (repeat (refine sdq ?_))
  refine DG_end hM (by kernel_rfl) ?_
  (repeat (refine stq ?_))
  refine AW_loopC (fun k : Nat => k ≤ h) (fun k => mkSt [(1, .pv (eInts t)), (2, .pv (vi h)), (3, .box 0 0), (6, .box 1 0), (7, .pv (vi (b.rough - eaten t b.polish k))), (8, .pv (vi (b.thick - eaten t b.eat k))), (9, .pv (vi k))] [(0, .box ((eBatch b).map FV.pv)), (1, .box [.pv (vi 0), .pv (vi 0)])] 2) (fun k => h - k) 0 (Nat.zero_le _) ?_ ?_
  · (refine Le.mk ?_ ?_; all_goals (repeat' (first | exact trivial | refine sle ?_ | refine ⟨?_, rfl, ?_⟩ | refine ⟨?_, by decide, rfl, ?_⟩ | fail)))
    · show some (FV.pv (vi b.rough)) = some (FV.pv (vi (b.rough - eaten t b.polish 0)))
      rw [show eaten t b.polish 0 = 0 from rfl, Int.sub_zero]
    · show some (FV.pv (vi b.thick)) = some (FV.pv (vi (b.thick - eaten t b.eat 0)))
      rw [show eaten t b.eat 0 = 0 from rfl, Int.sub_zero]
  · intro k hk
    (repeat (refine stq ?_))
    refine AW_if rfl (fun hc => ?_) (fun hc => ?_)
    · have hk' : k < h := by omega
      obtain ⟨x, hx⟩ : ∃ x, t[k]? = some x := ⟨t[k]'(by omega), by simp⟩
      have e1 := get_map eInt hx
      have gx : t.getD k 0 = x := by rw [List.getD_eq_getElem?_getD, hx]; rfl
      have hxb := ht x (List.mem_of_getElem? hx)
      have q1 := eat_bd hxb.1 hxb.2 hp0 hp1
      have q2 := eat_bd hxb.1 hxb.2 he0 he1
      have m1 : -9223372036854775808 ≤ x * b.polish ∧ x * b.polish ≤ 9223372036854775807 := by omega
      have m2 : -9223372036854775808 ≤ x * b.eat ∧ x * b.eat ≤ 9223372036854775807 := by omega
      have w1 : IntKind.i64.wrap ((x * b.polish).tdiv 100) = eatI x b.polish := wrap_small (show -1000000 ≤ eatI x b.polish ∧ eatI x b.polish ≤ 1000000 by omega)
      have w2 : IntKind.i64.wrap ((x * b.eat).tdiv 100) = eatI x b.eat := wrap_small (show -1000000 ≤ eatI x b.eat ∧ eatI x b.eat ≤ 1000000 by omega)
      have s1 := eaten_succ (t := t) (h := k) (by omega) b.polish
      have s2 := eaten_succ (t := t) (h := k) (by omega) b.eat
      rw [gx] at s1 s2
      have u1 := eaten_bd (p := b.polish) ht ⟨hp0, hp1⟩ k
      have u2 := eaten_bd (p := b.eat) ht ⟨he0, he1⟩ k
      generalize eaten t b.polish k = u at *
      generalize eaten t b.eat k = v at *
      (repeat (refine stq ?_))
      (repeat (first | refine DG_next (D_quo rfl rfl rfl rfl rfl (by decide) w1) ?_ | refine DG_next (D_quo rfl rfl rfl rfl rfl (by decide) w2) ?_ | refine sdq ?_))
      refine DG_end hM (by kernel_rfl) ?_
      (repeat (refine stq ?_))
      refine ⟨k + 1, hk', by omega, ?_⟩
      rw [s1, s2]
      (refine Le.mk ?_ ?_; all_goals (repeat' (first | exact trivial | refine sle ?_ | refine ⟨?_, rfl, ?_⟩ | refine ⟨?_, by decide, rfl, ?_⟩ | fail)))
      · exact congrArg (fun z => some (FV.pv (vi z))) (by omega)
      · exact congrArg (fun z => some (FV.pv (vi z))) (by omega)
    · have hk' : k = h := by omega
      subst hk'
      rw [state_def]
      generalize eaten t b.polish k = u at *
      generalize eaten t b.eat k = v at *
      (repeat (refine stq ?_))
      exact ⟨_, _, rfl, rfl, rfl⟩
def endI (high : Bool) (s : Span) : Int := if high then s.high else s.low
theorem f69 (l : List Span) (high : Bool) (hl : l.length ≤ 1000) : ACalls Tryz.prog 69 [eSpans l, .bool high] (fun r => r = .pv (eInts (endsL l high))) := by
  refine ACalls.of_body hT Tryz.func69 rfl (by kernel_rfl) rfl ?_
  (repeat (refine stq ?_))
  refine AW_own_nil (e := 3) (sz := 1) (t := 5) rfl rfl ?_
  (repeat (refine stq ?_))
  refine AW_loopC (fun k : Nat => k ≤ l.length) (fun k => mkSt [(0, .pv (eSpans l)), (1, .pv (.bool high)), (5, .arr 0), (6, .pv (vi k))] [(0, .arr 3 1 (((l.take k).map (endI high)).map eInt))] 1) (fun k => l.length - k) 0 (Nat.zero_le _) ?_ ?_
  · (refine Le.mk ?_ ?_; all_goals (repeat' (first | exact trivial | refine sle ?_ | refine ⟨?_, rfl, ?_⟩ | refine ⟨?_, by decide, rfl, ?_⟩ | fail)))
  · intro k hk
    (repeat (refine stq ?_))
    refine AW_if rfl (fun hc => ?_) (fun hc => ?_)
    · have hk' : k < l.length := by omega
      obtain ⟨x, hx⟩ : ∃ x, l[k]? = some x := ⟨l[k], by simp [hk']⟩
      have e1 := get_map eSpan hx
      have hsn : (l.take (k + 1)).map (endI high) = (l.take k).map (endI high) ++ [endI high x] := map_take_succ _ hx
      have htl : ((l.take k).map (endI high)).length ≤ 1000 := by simp; omega
      generalize (l.take k).map (endI high) = u at *
      cases high
      all_goals
        (repeat (refine stq ?_))
        refine ⟨k + 1, hk', by omega, ?_⟩
        rw [hsn]
        (refine Le.mkR [(0, 2)] ?_ ?_ rfl; all_goals (repeat' (first | exact trivial | refine sle ?_ | refine ⟨?_, rfl, ?_⟩ | refine ⟨?_, by decide, rfl, ?_⟩ | fail)))
        rw [List.map_append]; rfl
    · have hk' : k = l.length := by omega
      subst hk'
      rw [List.take_length]
      refine AW_pure (t := 5) rfl rfl ?_
      (repeat (refine stq ?_))
      exact ⟨_, _, rfl, rfl, rfl⟩
set_option maxHeartbeats 8000000 in
theorem f94 (d : Drum) (hP : DrumP d) (n : Nat) (b : Batch) (hbx : d.batches[n]? = some b) (h : Nat) (hh : h ≤ d.hours.toNat) : ACalls Tryz.prog 94 [eDrum d, vi n, vi h] (fun r => r = .pv (.agg (eBounds (boundsI d b h)))) := by
  have hfl := filled_len hP
  have h12 := hP.h1
  have hbl := hP.b1
  have hcl := could_len d
  have k79 := f79 d hP
  have hnb : n < d.batches.length := (List.getElem?_eq_some_iff.1 hbx).1
  have e1 := get_map eBatch hbx
  have hb := hP.batch b (List.mem_of_getElem? hbx)
  refine ACalls.of_body hT Tryz.func94 rfl (by kernel_rfl) rfl ?_
  (repeat' (first | refine stq ?_ | (refine AL_do2 rfl ?_; first | refine ⟨_, op_call1 rfl rfl rfl rfl (k79), nrmA rfl ?_⟩) | (with_reducible refine AL_id ?_); (fail_if_success (refine AL_glit rfl rfl rfl (by first | exact .inl (by with_reducible rfl) | exact .inr (by with_reducible rfl)) ?_)); first | refine AL_gdec rfl rfl rfl (fun hg => ?_) (fun hg => ?_) | refine AL_gnot rfl rfl rfl (fun hg => ?_) (fun hg => ?_) | refine AL_gcases rfl rfl rfl (fun hg => ?_) (fun hg => ?_)))
  refine AW_loopC (fun k : Nat => k ≤ (filledL d).length) (fun k => mkSt [(1, .pv (vi n)), (2, .pv (vi h)), (3, .box 0 0), (6, .box 1 0), (7, .box 2 0), (8, .pv (eInts (couldL d))), (9, .pv (vi k))]
    [(0, .box ((eDrumC d).map FV.pv)), (1, .box (boC ⟨0, 0⟩ ⟨0, 0⟩)), (2, .box (boC (hullL (rL d b h k)) (hullL (tL d b h k))))] 3) (fun k => (filledL d).length - k) 0 (Nat.zero_le _) ?_ ?_
  · (refine Le.mk ?_ ?_; all_goals (repeat' (first | exact trivial | refine sle ?_ | refine ⟨?_, rfl, ?_⟩ | refine ⟨?_, by decide, rfl, ?_⟩ | fail)))
  · intro k hk
    (repeat (refine stq ?_))
    refine AW_if rfl (fun hc => ?_) (fun hc => ?_)
    · have hk' : k < (filledL d).length := by omega
      obtain ⟨p, hp⟩ : ∃ p, (filledL d)[k]? = some p := ⟨(filledL d)[k], by simp [hk']⟩
      have e2 := get_map eInt (could_get hp)
      have hpm := List.mem_of_getElem? hp
      have hpf := filled_mem.1 hpm
      have k90 := f90 d hP p.2 p.1 hpf.1
      rw [show mayI d p.2 p.1 = true by unfold mayI; rw [hpf.2.1, hpf.2.2]; rfl, if_pos rfl] at k90
      have hsl := strongL_len d p.1
      have kef := f69 (strongL d p.1) false (by omega)
      have ket := f69 (strongL d p.1) true (by omega)
      have kw : ACalls Tryz.prog 140 [.agg (eBatch b), eInts (endsL (strongL d p.1) false), vi h] (fun r => r = .pv (.agg (eState (weakS d b h p)))) := f140 b hb _ h (by rw [ends_len]; exact hh) (by omega) (ends_bdU hP hpm false)
      have kh : ACalls Tryz.prog 140 [.agg (eBatch b), eInts (endsL (strongL d p.1) true), vi h] (fun r => r = .pv (.agg (eState (hardS d b h p)))) := f140 b hb _ h (by rw [ends_len]; exact hh) (by omega) (ends_bdU hP hpm true)
      have sr : rL d b h (k + 1) = rL d b h k ++ [roughS d b h p] := map_take_succ _ hp
      have st : tL d b h (k + 1) = tL d b h k ++ [thickS d b h p] := map_take_succ _ hp
      have lr : (rL d b h k).length = k := by simp [rL]; omega
      have lt : (tL d b h k).length = k := by simp [tL]; omega
      have hR : hullL (rL d b h (k + 1)) = hull2 (if k = 0 then roughS d b h p else hullL (rL d b h k)) (roughS d b h p) := by
        rw [sr, hull_snoc]
        by_cases h0 : k = 0
        · rw [if_pos h0, if_pos (List.length_eq_zero_iff.1 (by omega)), hull2_self]
        · rw [if_neg h0, if_neg (fun e => h0 (by rw [← lr, e]; rfl))]
      have hT2 : hullL (tL d b h (k + 1)) = hull2 (if k = 0 then thickS d b h p else hullL (tL d b h k)) (thickS d b h p) := by
        rw [st, hull_snoc]
        by_cases h0 : k = 0
        · rw [if_pos h0, if_pos (List.length_eq_zero_iff.1 (by omega)), hull2_self]
        · rw [if_neg h0, if_neg (fun e => h0 (by rw [← lt, e]; rfl))]
      have eR : roughS d b h p = ⟨(hardS d b h p).rough, (weakS d b h p).rough⟩ := rfl
      have eT : thickS d b h p = ⟨(hardS d b h p).thick, (weakS d b h p).thick⟩ := rfl
      rw [eR] at hR
      rw [eT] at hT2
      generalize hullL (rL d b h k) = R at *
      generalize hullL (tL d b h k) = T at *
      generalize weakS d b h p = w at *
      generalize hardS d b h p = g at *
      generalize endsL (strongL d p.1) false = F at *
      generalize endsL (strongL d p.1) true = G at *
      generalize strongL d p.1 = S at *
      refine AW_res ?_
      refine AW_res ?_
      (repeat (refine stq ?_))
      (repeat (first | refine sdq ?_ | refine DG_next (D_call_tup rfl rfl rfl rfl rfl (k90)) ?_))
      refine DG_end hM (by kernel_rfl) ?_
      (repeat (refine stq ?_))
      (repeat (first | refine DG_next (D_alloc (F := 3) hT rfl rfl rfl rfl rfl) ?_ | refine DG_next (D_alloc (F := 4) hT rfl rfl rfl rfl rfl) ?_ | refine sdq ?_ | refine DG_next (D_call rfl rfl rfl rfl rfl (kef)) ?_ | refine DG_next (D_call rfl rfl rfl rfl rfl (ket)) ?_ | refine DG_next (D_call rfl rfl rfl rfl rfl (kw)) ?_ | refine DG_next (D_call rfl rfl rfl rfl rfl (kh)) ?_))
      refine DG_end hM (by kernel_rfl) ?_
      (repeat (refine stq ?_))
      refine AW_mid (mkSt [(1, .pv (vi n)), (2, .pv (vi h)), (3, .box 0 0), (6, .box 1 0), (7, .box 2 0), (8, .pv (eInts (couldL d))), (9, .pv (vi k)), (12, .box 3 0), (13, .box 4 0)]
        [(0, .box ((eDrumC d).map FV.pv)), (1, .box (boC ⟨0, 0⟩ ⟨0, 0⟩)), (2, .box (boC (if k = 0 then ⟨g.rough, w.rough⟩ else R) (if k = 0 then ⟨g.thick, w.thick⟩ else T))), (3, .box [.pv (vi w.rough), .pv (vi w.thick)]), (4, .box [.pv (vi g.rough), .pv (vi g.thick)])] 5) ?_ ?_
      · refine AW_if rfl (fun h0 => ?_) (fun h0 => ?_)
        · have h0' : k = 0 := by omega
          rw [if_pos h0', if_pos h0']
          (repeat (refine stq ?_))
          (refine Le.mk ?_ ?_; all_goals (repeat' (first | exact trivial | refine sle ?_ | refine ⟨?_, rfl, ?_⟩ | refine ⟨?_, by decide, rfl, ?_⟩ | fail)))
        · have h0' : ¬ k = 0 := by omega
          rw [if_neg h0', if_neg h0']
          (repeat (refine stq ?_))
          (refine Le.mk ?_ ?_; all_goals (repeat' (first | exact trivial | refine sle ?_ | refine ⟨?_, rfl, ?_⟩ | refine ⟨?_, by decide, rfl, ?_⟩ | fail)))
      · generalize (if k = 0 then (⟨g.rough, w.rough⟩ : Span) else R) = R' at *
        generalize (if k = 0 then (⟨g.thick, w.thick⟩ : Span) else T) = T' at *
        (repeat (refine stq ?_))
        refine ⟨k + 1, hk', by omega, ?_⟩
        rw [hR, hT2]
        (refine Le.mk ?_ ?_; all_goals (repeat' (first | exact trivial | refine sle ?_ | refine ⟨?_, rfl, ?_⟩ | refine ⟨?_, by decide, rfl, ?_⟩ | fail)))
    · have hk' : k = (filledL d).length := by omega
      subst hk'
      have eb : boundsI d b h = ⟨hullL (rL d b h (filledL d).length), hullL (tL d b h (filledL d).length)⟩ := by
        unfold rL tL; rw [List.take_length]; rfl
      rw [eb]
      (repeat (refine stq ?_))
      exact ⟨_, _, rfl, rfl, rfl⟩
end Go.Abs
namespace Go.Abs
open Go.Proofs
set_option linter.unusedVariables false
set_option linter.unusedSimpArgs false
set_option maxRecDepth 100000
set_option maxHeartbeats 4000000 in
theorem f33 (d : Drum) (hP : DrumP d) (n : Nat) (b : Batch) (hbx : d.batches[n]? = some b) : ACalls Tryz.prog 33 [eDrum d, vi n] (fun r => r = .pv (vi (smoothI d b))) := by
  obtain ⟨m, hm⟩ : ∃ m : Nat, d.hours = m := ⟨d.hours.toNat, by have := hP.h0; omega⟩
  have hmm : d.hours.toNat = m := by omega
  have h12 := hP.h1
  have hbl := hP.b1
  have hnb : n < d.batches.length := (List.getElem?_eq_some_iff.1 hbx).1
  have e1 := get_map eBatch hbx
  refine ACalls.of_body hT Tryz.func33 rfl (by kernel_rfl) rfl ?_
  (repeat (refine stq ?_))
  refine AW_loopC (fun h : Nat => h ≤ m + 1 ∧ ∀ j, j < h → decide ((boundsI d b j).rough.high ≤ b.goal) = false) (fun h => mkSt [(1, .pv (vi n)), (2, .box 0 0), (5, .pv (vi h))] [(0, .box ((eDrumC d).map FV.pv))] 1) (fun h => m + 1 - h) 0 ⟨Nat.zero_le _, fun j h => by omega⟩ ?_ ?_
  · (refine Le.mk ?_ ?_; all_goals (repeat' (first | exact trivial | refine sle ?_ | refine ⟨?_, rfl, ?_⟩ | refine ⟨?_, by decide, rfl, ?_⟩ | fail)))
  · rintro h ⟨hh, hall⟩
    (repeat (refine stq ?_))
    refine AW_if rfl (fun hc => ?_) (fun hc => ?_)
    · have hlt : h < m + 1 := by omega
      have k94 := f94 d hP n b hbx h (by omega)
      have hall' : (boundsI d b h).rough.high ≤ b.goal → smoothI d b = h := fun hq => by
        unfold smoothI
        rw [hmm]
        exact first_at hall (by simpa using hq) hlt
      have next : ¬ (boundsI d b h).rough.high ≤ b.goal → ∀ j, j < h + 1 → decide ((boundsI d b j).rough.high ≤ b.goal) = false := fun hq j hj => by
        by_cases hjh : j = h
        · rw [hjh]; simpa using hq
        · exact hall j (by omega)
      generalize boundsI d b h = B at *
      (repeat (refine stq ?_))
      (repeat (first | refine sdq ?_ | refine DG_next (D_call rfl rfl rfl rfl rfl (k94)) ?_))
      refine DG_end hM (by kernel_rfl) ?_
      (repeat (refine stq ?_))
      refine AW_if rfl (fun hc2 => ?_) (fun hc2 => ?_)
      · (repeat (refine stq ?_))
        exact ⟨_, _, rfl, rfl, by rw [hall' hc2]⟩
      · (repeat (refine stq ?_))
        refine ⟨h + 1, ⟨hlt, next hc2⟩, by omega, ?_⟩
        (refine Le.mk ?_ ?_; all_goals (repeat' (first | exact trivial | refine sle ?_ | refine ⟨?_, rfl, ?_⟩ | refine ⟨?_, by decide, rfl, ?_⟩ | fail)))
    · have hhm : h = m + 1 := by omega
      (repeat (refine stq ?_))
      exact ⟨_, _, rfl, rfl, by
        have : smoothI d b = -1 := by unfold smoothI; rw [hmm]; exact first_none (by rw [← hhm]; exact hall)
        rw [this]⟩
set_option maxHeartbeats 4000000 in
theorem f34 (d : Drum) (hP : DrumP d) (n : Nat) (b : Batch) (hbx : d.batches[n]? = some b) : ACalls Tryz.prog 34 [eDrum d, vi n] (fun r => r = .pv (vi (thinI d b))) := by
  obtain ⟨m, hm⟩ : ∃ m : Nat, d.hours = m := ⟨d.hours.toNat, by have := hP.h0; omega⟩
  have hmm : d.hours.toNat = m := by omega
  have h12 := hP.h1
  have hbl := hP.b1
  have hnb : n < d.batches.length := (List.getElem?_eq_some_iff.1 hbx).1
  have e1 := get_map eBatch hbx
  refine ACalls.of_body hT Tryz.func34 rfl (by kernel_rfl) rfl ?_
  (repeat (refine stq ?_))
  refine AW_loopC (fun h : Nat => h ≤ m + 1 ∧ ∀ j, h ≤ j → j < m + 1 → decide ((boundsI d b j).thick.low ≥ b.least) = false) (fun h => mkSt [(1, .pv (vi n)), (2, .box 0 0), (5, .pv (vi ((h : Int) - 1)))] [(0, .box ((eDrumC d).map FV.pv))] 1) (fun h => h) (m + 1) ⟨Nat.le_refl _, fun j h1 h2 => by omega⟩ ?_ ?_
  · (refine Le.mk ?_ ?_; all_goals (repeat' (first | exact trivial | refine sle ?_ | refine ⟨?_, rfl, ?_⟩ | refine ⟨?_, by decide, rfl, ?_⟩ | fail)))
    exact congrArg some (congrArg FV.pv (congrArg vi (by omega)))
  · rintro h ⟨hh, hall⟩
    (repeat (refine stq ?_))
    refine AW_if rfl (fun hc => ?_) (fun hc => ?_)
    · obtain ⟨j, rfl⟩ : ∃ j, h = j + 1 := ⟨h - 1, by omega⟩
      have k94 : ACalls Tryz.prog 94 [eDrum d, vi n, vi (((j + 1 : Nat) : Int) - 1)] (fun r => r = .pv (.agg (eBounds (boundsI d b j)))) := by
        rw [show ((j + 1 : Nat) : Int) - 1 = (j : Int) by omega]
        exact f94 d hP n b hbx j (by omega)
      have hall' : (boundsI d b j).thick.low ≥ b.least → thinI d b = j := fun hq => by
        unfold thinI
        rw [hmm]
        exact last_at (fun i h1 h2 => hall i (by omega) h2) (by simpa using hq) (by omega)
      have next : ¬ (boundsI d b j).thick.low ≥ b.least → ∀ i, j ≤ i → i < m + 1 → decide ((boundsI d b i).thick.low ≥ b.least) = false := fun hq i h1 h2 => by
        by_cases hij : i = j
        · rw [hij]; simpa using hq
        · exact hall i (by omega) h2
      generalize boundsI d b j = B at *
      (repeat (refine stq ?_))
      (repeat (first | refine sdq ?_ | refine DG_next (D_call rfl rfl rfl rfl rfl (k94)) ?_))
      refine DG_end hM (by kernel_rfl) ?_
      (repeat (refine stq ?_))
      refine AW_if rfl (fun hc2 => ?_) (fun hc2 => ?_)
      · (repeat (refine stq ?_))
        exact ⟨_, _, rfl, rfl, by rw [hall' hc2]; exact congrArg RV.pv (congrArg vi (by omega))⟩
      · (repeat (refine stq ?_))
        refine ⟨j, ⟨by omega, next hc2⟩, by omega, ?_⟩
        (refine Le.mk ?_ ?_; all_goals (repeat' (first | exact trivial | refine sle ?_ | refine ⟨?_, rfl, ?_⟩ | refine ⟨?_, by decide, rfl, ?_⟩ | fail)))
        exact congrArg some (congrArg FV.pv (congrArg vi (by omega)))
    · have h0 : h = 0 := by omega
      subst h0
      (repeat (refine stq ?_))
      exact ⟨_, _, rfl, rfl, by
        have : thinI d b = -1 := by unfold thinI; rw [hmm]; exact last_none (fun j hj => hall j (Nat.zero_le _) hj)
        rw [this]⟩
end Go.Abs
namespace Go.Abs
open Go.Proofs
set_option linter.unusedVariables false
set_option linter.unusedSimpArgs false
set_option maxRecDepth 100000
end Go.Abs
namespace Go.Abs
open Go.Proofs
set_option linter.unusedVariables false
set_option linter.unusedSimpArgs false
set_option maxRecDepth 100000
theorem f23' (d : Drum) : ACalls Tryz.prog 23 [eDrum d] (fun r => r = .pv (.bool (shortB d))) := by
  refine ACalls.of_body hT Tryz.func23 rfl (by kernel_rfl) rfl ?_
  (repeat' (first | refine stq ?_ | (with_reducible refine AL_id ?_); (fail_if_success (refine AL_glit rfl rfl rfl (by first | exact .inl (by with_reducible rfl) | exact .inr (by with_reducible rfl)) ?_)); first | refine AL_gdec rfl rfl rfl (fun hg => ?_) (fun hg => ?_) | refine AL_gnot rfl rfl rfl (fun hg => ?_) (fun hg => ?_) | refine AL_gcases rfl rfl rfl (fun hg => ?_) (fun hg => ?_)))
  all_goals exact ⟨_, _, rfl, rfl, congrArg (fun b => RV.pv (PV.bool b)) (by unfold shortB; rw [Bool.eq_iff_iff]; simp only [Bool.and_eq_true, decide_eq_true_eq, Bool.false_eq_true, false_iff]; omega)⟩
theorem short_ok {d : Drum} (h : shortB d = true) : drumOK d := by
  simp only [shortB, Bool.and_eq_true, decide_eq_true_eq] at h
  exact ⟨by omega, by omega, by omega, by omega⟩
theorem spans_same (l : List Span) (h : l.length ≤ 1000) : ACalls Tryz.prog 28 [eSpans l, eSpans l] (fun r => r = .pv (.bool true)) := same_of (f28 l l h) rfl
end Go.Abs
namespace Go.Abs
open Go.Proofs
set_option linter.unusedVariables false
set_option linter.unusedSimpArgs false
set_option maxRecDepth 100000
theorem ints_same (l : List Int) (h : l.length ≤ 1000) : ACalls Tryz.prog 52 [eInts l, eInts l] (fun r => r = .pv (.bool true)) := by
  have k := f52 l l h
  rw [decide_eq_true rfl] at k
  exact k
end Go.Abs
