/- The reference: all differences of two looks. -/
import Derived.Test.YtkmclnjmabljdaaGreatDoorNeT
set_option linter.unusedVariables false
set_option linter.unusedSimpArgs false
namespace Go.Abs
open Go.Proofs
set_option linter.unusedVariables false
set_option linter.unusedSimpArgs false
set_option maxRecDepth 100000

def diffStepR (d : Dye) (i w : Int) (a b : List Bath) (out : List Int) : List Int := insAll [] (out.flatMap fun n => (eachR d i a b).map fun m => n + w * m)
def diffGo (a b : List Bath) : List Dye → List Int → Int → List Int → List Int
  | d :: h, w :: ws, i, out => diffGo a b h ws (i + 1) (diffStepR d i w a b out)
  | _, _, _, out => out
def diffsR (h : List Dye) (lamp : List Int) (a b : List Bath) : List Int := diffGo a b h lamp 0 [0]
theorem diffGo_succ (a b : List Bath) : ∀ (h : List Dye) (ws : List Int) (i : Int) (out : List Int) (k : Nat) (d : Dye) (w : Int), h[k]? = some d → ws[k]? = some w →
    diffGo a b (h.take (k + 1)) ws i out = diffStepR d (i + k) w a b (diffGo a b (h.take k) ws i out)
  | [], _, _, _, _, _, _, h, _ => by simp at h
  | _ :: _, [], _, _, _, _, _, _, h => by simp at h
  | d0 :: h, w0 :: ws, i, out, 0, d, w, hk, hw => by simp at hk hw; subst hk; subst hw; cases h <;> cases ws <;> simp [diffGo]
  | d0 :: h, w0 :: ws, i, out, k + 1, d, w, hk, hw => by
    have := diffGo_succ a b h ws (i + 1) (diffStepR d0 i w0 a b out) k d w (by simpa using hk) (by simpa using hw)
    simp only [List.take_succ_cons, diffGo, this]
    rw [show i + 1 + (k : Int) = i + ((k + 1 : Nat) : Int) by omega]
theorem bdK_insAll {c : Int} {l : List Int} (h : bdK c l) : bdK c (insAll [] l) := fun x hx => by
  rw [insAll_mem] at hx
  rcases hx with hx | hx
  · cases hx
  · exact h x hx
theorem mulW_bd {w m : Int} (hw : -9 ≤ w ∧ w ≤ 9) (hm : -100 ≤ m ∧ m ≤ 100) : -900 ≤ w * m ∧ w * m ≤ 900 := by
  obtain ⟨n, rfl⟩ : ∃ n : Int, w = n - 9 := ⟨w + 9, by omega⟩
  have h0 : 0 ≤ n ∧ n ≤ 18 := by omega
  have h1 : (n - 9) * m = n * m - 9 * m := by rw [Int.sub_mul]
  have h2 : n * (-100) ≤ n * m := Int.mul_le_mul_of_nonneg_left hm.1 h0.1
  have h3 : n * m ≤ n * 100 := Int.mul_le_mul_of_nonneg_left hm.2 h0.1
  have h4 : n * (m + 100) ≤ 18 * (m + 100) := Int.mul_le_mul_of_nonneg_right h0.2 (by omega)
  have h5 : n * (100 - m) ≤ 18 * (100 - m) := Int.mul_le_mul_of_nonneg_right h0.2 (by omega)
  rw [Int.mul_add] at h4
  rw [Int.mul_sub] at h5
  omega
theorem eachR_bd {h : List Dye} {dye : Int} {a b : List Bath} {d : Dye} (hd : d ∈ h) (hh : HouseP h) (ha : BatchP h a) (hb : BatchP h b) : bdK 100 (eachR d dye a b) := by
  have hdm := hh.2.2 d hd
  have hour : ∀ {l}, BatchP h l → ∀ b ∈ l, 0 ≤ b.hours.low ∧ b.hours.low ≤ b.hours.high ∧ b.hours.high ≤ 12 := fun hl b hb => by have := hl.2 b hb; unfold BathP at this; omega
  refine bdK_insAll (bdK_flatMap fun t ht => bdK_flatMap fun x hx => fun n hn => ?_)
  obtain ⟨y, hy, rfl⟩ := List.mem_map.1 hn
  have st := lists_small ht (used_bd hdm.2.2.2)
  have q1 := depthI_bd (l := a) (dye := dye) ⟨hdm.2.1, hdm.2.2.1⟩ st (lists_small hx fun s hs => by have := own_bd (hour ha) s hs; omega)
  have q2 := depthI_bd (l := b) (dye := dye) ⟨hdm.2.1, hdm.2.2.1⟩ st (lists_small hy fun s hs => by have := own_bd (hour hb) s hs; omega)
  omega
theorem step_bd {c : Int} {out E : List Int} {w : Int} (ho : bdK c out) (hE : bdK 100 E) (hw : -9 ≤ w ∧ w ≤ 9) : bdK (c + 900) (out.flatMap fun n => E.map fun m => n + w * m) := fun x hx => by
  obtain ⟨n, hn, hx⟩ := List.mem_flatMap.1 hx
  obtain ⟨m, hm, rfl⟩ := List.mem_map.1 hx
  have := ho n hn
  have := mulW_bd hw (hE m hm)
  omega
theorem diffGo_bd {h0 : List Dye} {a b : List Bath} (hh : HouseP h0) (ha : BatchP h0 a) (hb : BatchP h0 b) : ∀ (h : List Dye) (ws : List Int) (i : Int) (out : List Int) (c : Int), (∀ d ∈ h, d ∈ h0) → (∀ w ∈ ws, -9 ≤ w ∧ w ≤ 9) → bdK c out → 0 ≤ c → bdK (c + 900 * h.length) (diffGo a b h ws i out)
  | [], ws, i, out, c, _, _, ho, _ => by simpa [diffGo] using ho
  | d :: h, [], i, out, c, _, _, ho, hc => by
    intro x hx
    have := ho x (by simpa [diffGo] using hx)
    have h1 : (0 : Int) ≤ ((d :: h).length : Int) := by omega
    omega
  | d :: h, w :: ws, i, out, c, hd, hw, ho, hc => by
    have := diffGo_bd hh ha hb h ws (i + 1) (diffStepR d i w a b out) (c + 900) (fun d hd' => hd d (by simp [hd'])) (fun w hw' => hw w (by simp [hw'])) (bdK_insAll (step_bd ho (eachR_bd (hd d (by simp)) hh ha hb) (hw w (by simp)))) (by omega)
    intro x hx
    have := this x (by simpa [diffGo] using hx)
    simp only [List.length_cons, Int.natCast_add, Int.natCast_one]; omega
theorem diffGo_nodup (a b : List Bath) : ∀ (h : List Dye) (ws : List Int) (i : Int) (out : List Int), out.Nodup → (diffGo a b h ws i out).Nodup
  | [], _, _, _, h => by simpa [diffGo] using h
  | _ :: _, [], _, _, h => by simpa [diffGo] using h
  | d :: h, w :: ws, i, out, _ => by
    rw [diffGo]
    exact diffGo_nodup a b h ws (i + 1) _ (insAll_nodup _ List.nodup_nil)
theorem nd_len {c : Nat} {l : List Int} (hn : l.Nodup) (h : bdK c l) : l.length ≤ 2 * c + 1 := nodup_len (2 * c + 1) (-c) l hn fun x hx => by have := h x hx; omega
abbrev dfO (h : List Dye) (lamp : List Int) (nx : List Int) : List (Nat × AObj) := [(0, .box [.pv (.sl (h.map eDye))]), (1, .box [.pv (eInts lamp)]), (2, .arr 4 1 (metL 12001 6000 nx)), (3, .arr 3 1 (nx.map eInt))]
abbrev dfE (a b : List Bath) (O E : List Int) (k i : Nat) : List (Nat × FV) := [(2, .pv (eBaths a)), (3, .pv (eBaths b)), (4, .box 0 0), (5, .box 1 0), (9, .pv (eInts O)), (10, .pv (vi k)), (11, .pv (eInts E)), (12, .arr 2), (13, .arr 3), (14, .pv (vi i))]
set_option maxHeartbeats 8000000 in
theorem f120 (h : List Dye) (lamp : List Int) (a b : List Bath) (hh : HouseP h) (hL : LampP h lamp) (ha : BatchP h a) (hb : BatchP h b) : ACalls Tryz.prog 120 [eHouse h, eLamp lamp, eBaths a, eBaths b] (fun r => r = .pv (eInts (diffsR h lamp a b))) := by
  have hh3 := hh.1
  have hll := hL.1
  unfold diffsR
  refine ACalls.of_body hT Tryz.func120 rfl (by kernel_rfl) rfl ?_
  (repeat' (first | (refine AL_do2 rfl ⟨_, op_buildSlice_p hT rfl rfl rfl rfl rfl rfl rfl rfl rfl, ?_⟩) | refine stp ?_ | refine AL_gdec rfl rfl rfl (fun hg => ?_) (fun hg => ?_) | refine AL_gnot rfl rfl rfl (fun hg => ?_) (fun hg => ?_) | refine AL_gcases rfl rfl rfl (fun hg => ?_) (fun hg => ?_)))
  refine AW_loopC (fun k : Nat => k ≤ h.length) (fun k => mkSt [(2, .pv (eBaths a)), (3, .pv (eBaths b)), (4, .box 0 0), (5, .box 1 0), (9, .pv (eInts (diffGo a b (h.take k) lamp 0 [0]))), (10, .pv (vi k))] [(0, .box [.pv (.sl (h.map eDye))]), (1, .box [.pv (eInts lamp)])] 2) (fun k => h.length - k) 0 (Nat.zero_le _) ?_ ?_
  · (refine Le.mk ?_ ?_; all_goals (repeat' (first | exact trivial | refine sle ?_ | refine ⟨?_, rfl, ?_⟩ | refine ⟨?_, by decide, rfl, ?_⟩ | fail)))
  · intro k hk
    (repeat (refine stp ?_))
    refine AW_if rfl (fun hc => ?_) (fun hc => ?_)
    · have hk' : k < h.length := by omega
      obtain ⟨d, hd⟩ : ∃ d, h[k]? = some d := ⟨h[k], by simp [hk']⟩
      obtain ⟨w, hw⟩ : ∃ w, lamp[k]? = some w := ⟨lamp[k]'(by omega), by simp⟩
      have e1 := get_map eInt hw
      have hwb := hL.2 w (List.mem_of_getElem? hw)
      have hdm := List.mem_of_getElem? hd
      have hsn := diffGo_succ a b h lamp 0 [0] k d w hd hw
      rw [Int.zero_add] at hsn
      have hO : bdK 3000 (diffGo a b (h.take k) lamp 0 [0]) := fun x hx => by
        have := diffGo_bd hh ha hb (h.take k) lamp 0 [0] 0 (fun d hd => List.mem_of_mem_take hd) hL.2 (by simp [bdK]) (Int.le_refl _) x hx
        have h1 : ((h.take k).length : Int) ≤ 3 := by simp; omega
        omega
      have hOl : (diffGo a b (h.take k) lamp 0 [0]).length ≤ 2 * 3000 + 1 := nd_len (c := 3000) (diffGo_nodup a b _ _ _ _ (by simp)) hO
      have hE := eachR_bd (dye := k) hdm hh ha hb
      have hEl : (eachR d k a b).length ≤ 2 * 100 + 1 := nd_len (c := 100) (insAll_nodup _ List.nodup_nil) hE
      have kE := (f174 h k a b d (by simpa using hd) (by omega) hh ha hb).pure
      change ACalls Tryz.prog 174 [eHouse h, vi k, eBaths a, eBaths b] (fun r => r = .pv (eInts (eachR d k a b))) at kE
      unfold diffStepR at hsn
      generalize diffGo a b (h.take k) lamp 0 [0] = O at hsn hO hOl ⊢
      generalize eachR d k a b = E at hsn hE hEl kE ⊢
      (repeat (refine stp ?_))
      refine AL_do2 rfl ⟨_, op_call1 rfl rfl rfl rfl (kE), ?_⟩
      (repeat (refine stp ?_))
      refine AL_do2 rfl ⟨_, op_makeSlice (n := 12001) (zp := [.bool false]) hT rfl rfl rfl rfl rfl rfl rfl rfl rfl rfl (by omega) rfl, ?_⟩
      rw [metL_nil 12001 6000]
      (repeat (refine stp ?_))
      refine AW_own_nil (e := 3) (sz := 1) (t := 13) rfl rfl ?_
      refine AW_loopC (fun i : Nat => i ≤ O.length) (fun i => mkSt (dfE a b O E k i) (dfO h lamp (insAll [] ((O.take i).flatMap fun n => E.map fun m => n + w * m))) 4) (fun i => O.length - i) 0 (Nat.zero_le _) ?_ ?_
      · (refine Le.mk ?_ ?_; all_goals (repeat' (first | exact trivial | refine sle ?_ | refine ⟨?_, rfl, ?_⟩ | refine ⟨?_, by decide, rfl, ?_⟩ | fail)))
      · intro i hi
        (repeat (refine stp ?_))
        refine AW_if rfl (fun hc => ?_) (fun hc => ?_)
        · have hi' : i < O.length := by omega
          obtain ⟨n, hn⟩ : ∃ n, O[i]? = some n := ⟨O[i], by simp [hi']⟩
          have e2 := get_map eInt hn
          have hnb := hO n (List.mem_of_getElem? hn)
          have hsn2 : (O.take (i + 1)).flatMap (fun n => E.map fun m => n + w * m) = ((O.take i).flatMap fun n => E.map fun m => n + w * m) ++ E.map fun m => n + w * m := flatMap_take_succ hn
          have bP : bdK 5000 ((O.take i).flatMap fun n => E.map fun m => n + w * m) := fun x hx => by
            have := step_bd (fun y hy => hO y (List.mem_of_mem_take hy)) hE hwb x hx; omega
          generalize (O.take i).flatMap (fun n => E.map fun m => n + w * m) = P1 at hsn2 bP ⊢
          (repeat (refine stp ?_))
          refine AW_loopC (fun j : Nat => j ≤ E.length) (fun j => mkSt (dfE a b O E k i ++ [(15, .pv (vi j))]) (dfO h lamp (insAll [] (P1 ++ (E.take j).map fun m => n + w * m))) 4) (fun j => E.length - j) 0 (Nat.zero_le _) ?_ ?_
          · (refine Le.mk ?_ ?_; all_goals (repeat' (first | exact trivial | refine sle ?_ | refine ⟨?_, rfl, ?_⟩ | refine ⟨?_, by decide, rfl, ?_⟩ | fail)))
            · show some (AObj.arr 4 1 (metL 12001 6000 (insAll [] P1))) = some (AObj.arr 4 1 (metL 12001 6000 (insAll [] (P1 ++ (E.take 0).map fun m => n + w * m)))); simp
            · show some (AObj.arr 3 1 ((insAll [] P1).map eInt)) = some (AObj.arr 3 1 ((insAll [] (P1 ++ (E.take 0).map fun m => n + w * m)).map eInt)); simp
          · intro j hj
            (repeat (refine stp ?_))
            refine AW_if rfl (fun hc => ?_) (fun hc => ?_)
            · have hj' : j < E.length := by omega
              obtain ⟨m, hm⟩ : ∃ m, E[j]? = some m := ⟨E[j], by simp [hj']⟩
              have e3 := get_map eInt hm
              have hmb := mulW_bd hwb (hE m (List.mem_of_getElem? hm))
              have hmul : -9223372036854775808 ≤ w * m ∧ w * m ≤ 9223372036854775807 := by omega
              have hsn3 : insAll [] (P1 ++ (E.take (j + 1)).map fun m => n + w * m) = insK (insAll [] (P1 ++ (E.take j).map fun m => n + w * m)) (n + w * m) := by
                rw [map_take_succ _ hm, ← List.append_assoc, insAll_snoc]
              have hnl : (insAll [] (P1 ++ (E.take j).map fun m => n + w * m)).length ≤ 2 * 5000 + 1 := insAll_len (c := 5000) (bdK_append bP fun x hx => by
                obtain ⟨y, hy, rfl⟩ := List.mem_map.1 hx
                have := mulW_bd hwb (hE y (List.mem_of_mem_take hy))
                omega)
              generalize insAll [] (P1 ++ (E.take j).map fun m => n + w * m) = nx at hsn3 hnl ⊢
              (repeat (refine stp ?_))
              (repeat (refine sdr ?_))
              refine DG_end hM (by kernel_rfl) ?_
              generalize hq : n + w * m = q at hsn3 ⊢
              have hqb : -5000 ≤ q ∧ q ≤ 5000 := by omega
              have hml := metL_len 12001 6000 nx
              have hmg := metL_get (S := 12001) (off := 6000) (n := q) (nx := nx) (by omega) (by omega)
              have hms := metL_set (S := 12001) (off := 6000) (n := q) (nx := nx) (by omega)
              (repeat (refine stp ?_))
              refine AL_do2 rfl ⟨_, op_indexAddr_arr hT rfl rfl rfl rfl rfl rfl rfl rfl (by omega) (by rw [hml]; omega) rfl, ?_⟩
              refine AL_do2 rfl ⟨_, op_load_aptr (el := [.bool (decide (q ∈ nx))]) hT rfl rfl rfl rfl rfl hmg rfl, ?_⟩
              (repeat (refine stp ?_))
              refine AW_cond rfl (fun hc2 => ?_) (fun hc2 => ?_)
              · have hnm : ¬ q ∈ nx := by simpa using hc2
                have hik : insK nx q = nx ++ [q] := by unfold insK; rw [if_neg hnm]
                (repeat (refine stp ?_))
                refine AL_do2 rfl ⟨_, op_indexAddr_arr hT rfl rfl rfl rfl rfl rfl rfl rfl (by omega) (by rw [hml]; omega) rfl, ?_⟩
                refine AL_do2 rfl ⟨_, op_store_aptr (el := [.bool (decide (q ∈ nx))]) hT rfl rfl rfl rfl rfl hmg rfl rfl rfl rfl, ?_⟩
                (repeat (refine stp ?_))
                refine ⟨j + 1, hj', by omega, ?_⟩
                (refine Le.mkR [(3, 5)] ?_ ?_ rfl; all_goals (repeat' (first | exact trivial | refine sle ?_ | refine ⟨?_, rfl, ?_⟩ | refine ⟨?_, by decide, rfl, ?_⟩ | fail)))
                · show some (AObj.arr 4 1 ((metL 12001 6000 nx).set (q + 6000).toNat [.bool true])) = some (AObj.arr 4 1 (metL 12001 6000 (insAll [] (P1 ++ (E.take (j + 1)).map fun m => n + w * m))))
                  rw [hsn3, hik, hms]
                · show some (AObj.arr 3 1 (nx.map eInt ++ [[vi q]])) = some (AObj.arr 3 1 ((insAll [] (P1 ++ (E.take (j + 1)).map fun m => n + w * m)).map eInt))
                  rw [hsn3, hik, List.map_append]; rfl
              · have hmm : q ∈ nx := by simpa using hc2
                have hik : insK nx q = nx := by unfold insK; rw [if_pos hmm]
                (repeat (refine stp ?_))
                refine ⟨j + 1, hj', by omega, ?_⟩
                (refine Le.mk ?_ ?_; all_goals (repeat' (first | exact trivial | refine sle ?_ | refine ⟨?_, rfl, ?_⟩ | refine ⟨?_, by decide, rfl, ?_⟩ | fail)))
                · show some (AObj.arr 4 1 (metL 12001 6000 nx)) = some (AObj.arr 4 1 (metL 12001 6000 (insAll [] (P1 ++ (E.take (j + 1)).map fun m => n + w * m)))); rw [hsn3, hik]
                · show some (AObj.arr 3 1 (nx.map eInt)) = some (AObj.arr 3 1 ((insAll [] (P1 ++ (E.take (j + 1)).map fun m => n + w * m)).map eInt)); rw [hsn3, hik]
            · have hj' : j = E.length := by omega
              subst hj'
              rw [List.take_length]
              (repeat (refine stp ?_))
              refine ⟨i + 1, hi', by omega, ?_⟩
              (refine Le.mk ?_ ?_; all_goals (repeat' (first | exact trivial | refine sle ?_ | refine ⟨?_, rfl, ?_⟩ | refine ⟨?_, by decide, rfl, ?_⟩ | fail)))
              · rw [hsn2]; rfl
              · rw [hsn2]; rfl
        · have hi' : i = O.length := by omega
          subst hi'
          rw [List.take_length, ← hsn]
          refine AW_pure (t := 13) rfl rfl ?_
          (repeat (refine stp ?_))
          refine ⟨k + 1, hk', by omega, ?_⟩
          (refine Le.mk ?_ ?_; all_goals (repeat' (first | exact trivial | refine sle ?_ | refine ⟨?_, rfl, ?_⟩ | refine ⟨?_, by decide, rfl, ?_⟩ | fail)))
    · have hk' : k = h.length := by omega
      subst hk'
      (repeat (refine stp ?_))
      exact ⟨_, _, rfl, rfl, by simp⟩
end Go.Abs
