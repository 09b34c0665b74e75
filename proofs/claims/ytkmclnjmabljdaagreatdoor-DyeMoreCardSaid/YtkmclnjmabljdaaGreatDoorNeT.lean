/- The reference: the differences that a dye can make; all differences. -/
import Derived.Test.YtkmclnjmabljdaaGreatDoorNeS
import Derived.Test.YtkmclnjmabljdaaGreatDoorNdF
set_option linter.unusedVariables false
set_option linter.unusedSimpArgs false
namespace Go.Abs
open Go.Proofs
set_option linter.unusedVariables false
set_option linter.unusedSimpArgs false
set_option maxRecDepth 100000

/-- Which numbers were met, as a list of truth values. -/
def metL (S : Nat) (off : Int) (nx : List Int) : List (List PV) := (List.range S).map fun (m : Nat) => [PV.bool (decide ((m : Int) - off ∈ nx))]
theorem metL_len (S : Nat) (off : Int) (nx : List Int) : (metL S off nx).length = S := by simp [metL]
theorem metL_nil (S : Nat) (off : Int) : List.replicate S [PV.bool false] = metL S off [] := by
  apply List.ext_getElem?
  intro i
  by_cases h : i < S
  · simp [metL, h]
  · simp [metL, h]
theorem metL_get {S : Nat} {off n : Int} {nx : List Int} (h0 : 0 ≤ n + off) (h1 : (n + off).toNat < S) : (metL S off nx)[(n + off).toNat]? = some [.bool (decide (n ∈ nx))] := by
  have h2 : max (n + off) 0 - off = n := by omega
  simp [metL, h1, h2]
theorem metL_set {S : Nat} {off n : Int} {nx : List Int} (h0 : 0 ≤ n + off) : (metL S off nx).set (n + off).toNat [.bool true] = metL S off (nx ++ [n]) := by
  apply List.ext_getElem?
  intro i
  rw [List.getElem?_set]
  by_cases hi : (n + off).toNat = i
  · subst hi
    have h2 : max (n + off) 0 - off = n := by omega
    by_cases h : (n + off).toNat < S
    · simp [metL, h, h2]
    · simp [metL, h]
  · have h3 : ¬ (i : Int) - off = n := by omega
    by_cases h : i < S
    · simp [metL, h, hi, h3]
    · simp [metL, h, hi]

/-- What the reference goes through for a dye: all pairs, for all takes. -/
def diffR (d : Dye) (dye : Int) (a b : List Bath) (t : List Int) (x : List Int) (Y : List (List Int)) : List Int := Y.map fun y => depthI d dye t a x - depthI d dye t b y
def candI (d : Dye) (dye : Int) (a b : List Bath) (T X Y : List (List Int)) : List Int := T.flatMap fun t => X.flatMap fun x => diffR d dye a b t x Y
def takesR (d : Dye) (dye : Int) (a b : List Bath) : List (List Int) := listsI (usedI (a ++ b) dye d.takes 0)
def hoursR (l : List Bath) (dye : Int) : List (List Int) := listsI (ownI l dye)
def eachR (d : Dye) (dye : Int) (a b : List Bath) : List Int := insAll [] (candI d dye a b (takesR d dye a b) (hoursR a dye) (hoursR b dye))
theorem flatMap_take_succ {α β : Type} {f : α → List β} {l : List α} {k : Nat} {x : α} (h : l[k]? = some x) : (l.take (k + 1)).flatMap f = (l.take k).flatMap f ++ f x := by
  rw [List.take_add_one, h]; simp
theorem insAll_append (ks l m : List Int) : insAll ks (l ++ m) = insAll (insAll ks l) m := by simp [insAll]
theorem used_bd {all : List Bath} {dye : Int} : ∀ {l : List Span} {t : Int}, (∀ s ∈ l, 0 ≤ s.low ∧ s.low ≤ s.high ∧ s.high ≤ 20) → ∀ s ∈ usedI all dye l t, 0 ≤ s.low ∧ s.low ≤ s.high ∧ s.high ≤ 20
  | [], _, _, s, h => by simp [usedI] at h
  | s0 :: l, t, hl, s, h => by
    simp only [usedI, List.mem_cons] at h
    have h0 := hl s0 (by simp)
    rcases h with h | h
    · split at h <;> subst h
      · exact h0
      · exact ⟨h0.1, Int.le_refl _, by show s0.low ≤ 20; omega⟩
    · exact used_bd (fun u hu => hl u (by simp [hu])) s h
theorem own_bd {l : List Bath} {dye : Int} (hl : ∀ b ∈ l, 0 ≤ b.hours.low ∧ b.hours.low ≤ b.hours.high ∧ b.hours.high ≤ 12) : ∀ s ∈ ownI l dye, 0 ≤ s.low ∧ s.low ≤ s.high ∧ s.high ≤ 12 := by
  intro s hs
  obtain ⟨b, hb, rfl⟩ := List.mem_map.1 hs
  have := hl b hb
  split
  · exact this
  · exact ⟨by decide, by decide, by decide⟩
theorem lists_small {l : List Span} {x : List Int} (hx : x ∈ listsI l) (hs : ∀ s ∈ l, 0 ≤ s.low ∧ s.low ≤ s.high ∧ s.high ≤ 20) : small x := numsL_small (by rw [← listsI_eq]; exact hx) hs
theorem depthI_bd {d : Dye} {dye : Int} {takes hours : List Int} {l : List Bath} (hf : 0 ≤ d.full ∧ d.full ≤ 100) (ht : small takes) (hh : small hours) : 0 ≤ depthI d dye takes l hours ∧ depthI d dye takes l hours ≤ 100 := by
  have := sumI_nonneg (prods_nonneg dye takes ht l hours hh)
  unfold depthI; omega
theorem lists_len {l : List Span} (h3 : l.length ≤ 4) (hs : ∀ s ∈ l, 0 ≤ s.low ∧ s.low ≤ s.high ∧ s.high ≤ 20) (k : Nat) : (listsI (l.take k)).length ≤ 1000000 := by
  have h1 := listsI_len 21 (l.take k) fun s h => by have := hs s (List.mem_of_mem_take h); omega
  have h2 : 21 ^ (l.take k).length ≤ 21 ^ 4 := Nat.pow_le_pow_right (by decide) (by simp; omega)
  have h4 : 21 ^ 4 = 194481 := by decide
  omega
theorem nodup_len : ∀ (n : Nat) (lo : Int) (l : List Int), l.Nodup → (∀ x ∈ l, lo ≤ x ∧ x < lo + n) → l.length ≤ n
  | 0, lo, l, _, hb => by
    cases l with
    | nil => exact Nat.le_refl _
    | cons x l => have := hb x (by simp); omega
  | n + 1, lo, l, hn, hb => by
    have h1 := nodup_len n lo (l.filter fun x => !(x == lo + n)) (hn.filter _) fun x hx => by
      simp only [List.mem_filter, Bool.not_eq_true', beq_eq_false_iff_ne] at hx
      have := hb x hx.1; omega
    have h2 : l.length = l.countP (fun x => x == lo + n) + l.countP (fun x => !(x == lo + n)) := by
      rw [List.length_eq_countP_add_countP (fun x => x == lo + n)]
      congr 1
      apply List.countP_congr
      intro x _; simp
    have h3 : l.countP (fun x => x == lo + n) ≤ 1 := List.nodup_iff_count.1 hn (lo + n)
    rw [← List.countP_eq_length_filter] at h1
    omega
theorem insAll_len {c : Nat} {l : List Int} (h : bdK c l) : (insAll [] l).length ≤ 2 * c + 1 := by
  refine nodup_len (2 * c + 1) (-c) _ (insAll_nodup l List.nodup_nil) fun x hx => ?_
  rw [insAll_mem] at hx
  rcases hx with hx | hx
  · cases hx
  · have := h x hx; omega
theorem bdK_append {c : Int} {l m : List Int} (h1 : bdK c l) (h2 : bdK c m) : bdK c (l ++ m) := fun x hx => by
  rcases List.mem_append.1 hx with h | h
  · exact h1 x h
  · exact h2 x h
theorem bdK_flatMap {α : Type} {c : Int} {f : α → List Int} {l : List α} (h : ∀ x ∈ l, bdK c (f x)) : bdK c (l.flatMap f) := fun n hn => by
  obtain ⟨x, hx, hn⟩ := List.mem_flatMap.1 hn
  exact h x hx n hn
abbrev eachO (h : List Dye) (nx : List Int) : List (Nat × AObj) := [(0, .box [.pv (.sl (h.map eDye))]), (1, .arr 4 1 (metL 201 100 nx)), (2, .arr 3 1 (nx.map eInt))]
abbrev eachE (dye : Int) (a b : List Bath) (T X Y : List (List Int)) (i : Nat) : List (Nat × FV) := [(1, .pv (vi dye)), (2, .pv (eBaths a)), (3, .pv (eBaths b)), (4, .box 0 0), (9, .pv (eRows T)), (10, .pv (eRows X)), (11, .pv (eRows Y)), (12, .arr 1), (13, .arr 2), (14, .pv (vi i))]
set_option maxHeartbeats 8000000 in
theorem f174 (h : List Dye) (dye : Int) (a b : List Bath) (d : Dye) (hd : h[dye.toNat]? = some d) (h0 : 0 ≤ dye) (hh : HouseP h) (ha : BatchP h a) (hb : BatchP h b) :
    ACalls Tryz.prog 174 [eHouse h, vi dye, eBaths a, eBaths b] (fun r => r = .own 3 1 ((eachR d dye a b).map eInt)) := by
  have hdm := hh.2.2 d (List.mem_of_getElem? hd)
  have ha1 := ha.1
  have hb1 := hb.1
  have hour : ∀ {l}, BatchP h l → ∀ b ∈ l, 0 ≤ b.hours.low ∧ b.hours.low ≤ b.hours.high ∧ b.hours.high ≤ 12 := fun hl b hb => by have := hl.2 b hb; unfold BathP at this; omega
  have huse := used_bd (all := a ++ b) (dye := dye) (t := 0) hdm.2.2.2
  have hoa := own_bd (dye := dye) (hour ha)
  have hob := own_bd (dye := dye) (hour hb)
  have hoa' : ∀ s ∈ ownI a dye, 0 ≤ s.low ∧ s.low ≤ s.high ∧ s.high ≤ 20 := fun s hs => by have := hoa s hs; omega
  have hob' : ∀ s ∈ ownI b dye, 0 ≤ s.low ∧ s.low ≤ s.high ∧ s.high ≤ 20 := fun s hs => by have := hob s hs; omega
  have hul : (usedI (a ++ b) dye d.takes 0).length ≤ 4 := by rw [usedI_len]; omega
  have hal : (ownI a dye).length ≤ 4 := by simp [ownI]; omega
  have hbl : (ownI b dye).length ≤ 4 := by simp [ownI]; omega
  have kT := f146 (usedI (a ++ b) dye d.takes 0) (by omega) (fun s hs => by have := huse s hs; omega) (lists_len hul huse)
  have kX := f146 (ownI a dye) (by omega) (fun s hs => by have := hoa s hs; omega) (lists_len hal hoa')
  have kY := f146 (ownI b dye) (by omega) (fun s hs => by have := hob s hs; omega) (lists_len hbl hob')
  have sT : ∀ x ∈ takesR d dye a b, small x := fun x hx => lists_small hx huse
  have sX : ∀ x ∈ hoursR a dye, small x := fun x hx => lists_small hx hoa'
  have sY : ∀ x ∈ hoursR b dye, small x := fun x hx => lists_small hx hob'
  have lT : (takesR d dye a b).length ≤ 1000000 := by have := lists_len hul huse 1000; rw [List.take_of_length_le (by omega)] at this; exact this
  have lX : (hoursR a dye).length ≤ 1000000 := by have := lists_len hal hoa' 1000; rw [List.take_of_length_le (by omega)] at this; exact this
  have lY : (hoursR b dye).length ≤ 1000000 := by have := lists_len hbl hob' 1000; rw [List.take_of_length_le (by omega)] at this; exact this
  have nT : ∀ x ∈ takesR d dye a b, x.length = 3 := fun x hx => by have := listsI_mem hx; rw [usedI_len] at this; omega
  have nX : ∀ x ∈ hoursR a dye, a.length ≤ x.length := fun x hx => by have := listsI_mem hx; simp [ownI] at this; omega
  have nY : ∀ x ∈ hoursR b dye, b.length ≤ x.length := fun x hx => by have := listsI_mem hx; simp [ownI] at this; omega
  have tmp : ∀ {l}, BatchP h l → ∀ (t : List Int), t.length = 3 → ∀ b ∈ l, b.dye = dye → 0 ≤ b.temper ∧ b.temper.toNat < t.length := fun hl t ht b hb _ => by have := hl.2 b hb; unfold BathP at this; omega
  have uT := (f212 h dye a b d hd h0 (by omega) (by omega) (by omega)).pure
  have uX := (f213 a dye (by omega)).pure
  have uY := (f213 b dye (by omega)).pure
  change ACalls Tryz.prog 146 [.sl ((usedI (a ++ b) dye d.takes 0).map eSpan)] (fun r => r = .pv (eRows (takesR d dye a b))) at kT
  change ACalls Tryz.prog 146 [.sl ((ownI a dye).map eSpan)] (fun r => r = .pv (eRows (hoursR a dye))) at kX
  change ACalls Tryz.prog 146 [.sl ((ownI b dye).map eSpan)] (fun r => r = .pv (eRows (hoursR b dye))) at kY
  have hall : ∀ t ∈ takesR d dye a b, ∀ x ∈ hoursR a dye, bdK 100 (diffR d dye a b t x (hoursR b dye)) := fun t ht x hx n hn => by
    obtain ⟨y, hy, rfl⟩ := List.mem_map.1 hn
    have q1 := depthI_bd (l := a) (dye := dye) ⟨hdm.2.1, hdm.2.2.1⟩ (sT t ht) (sX x hx)
    have q2 := depthI_bd (l := b) (dye := dye) ⟨hdm.2.1, hdm.2.2.1⟩ (sT t ht) (sY y hy)
    omega
  unfold eachR
  generalize takesR d dye a b = T at kT sT lT nT hall ⊢
  generalize hoursR a dye = X at kX sX lX nX hall ⊢
  generalize hoursR b dye = Y at kY sY lY nY hall ⊢
  refine ACalls.of_body hT Tryz.func174 rfl (by kernel_rfl) rfl ?_
  (repeat (refine stp ?_))
  refine AL_do2 rfl ⟨_, op_call1 rfl rfl rfl rfl (uT), ?_⟩
  refine AL_do2 rfl ⟨_, op_call1 rfl rfl rfl rfl (kT), ?_⟩
  (repeat (refine stp ?_))
  refine AL_do2 rfl ⟨_, op_call1 rfl rfl rfl rfl (uX), ?_⟩
  refine AL_do2 rfl ⟨_, op_call1 rfl rfl rfl rfl (kX), ?_⟩
  (repeat (refine stp ?_))
  refine AL_do2 rfl ⟨_, op_call1 rfl rfl rfl rfl (uY), ?_⟩
  refine AL_do2 rfl ⟨_, op_call1 rfl rfl rfl rfl (kY), ?_⟩
  (repeat (refine stp ?_))
  refine AL_do2 rfl ⟨_, op_makeSlice (n := 201) (zp := [.bool false]) hT rfl rfl rfl rfl rfl rfl rfl rfl rfl rfl (by omega) rfl, ?_⟩
  rw [metL_nil 201 100]
  (repeat (refine stp ?_))
  refine AW_own_nil (e := 3) (sz := 1) (t := 13) rfl rfl ?_
  refine AW_loopC (fun i : Nat => i ≤ T.length) (fun i => mkSt (eachE dye a b T X Y i) (eachO h (insAll [] (candI d dye a b (T.take i) X Y))) 3) (fun i => T.length - i) 0 (Nat.zero_le _) ?_ ?_
  · (refine Le.mk ?_ ?_; all_goals (repeat' (first | exact trivial | refine sle ?_ | refine ⟨?_, rfl, ?_⟩ | refine ⟨?_, by decide, rfl, ?_⟩ | fail)))
  · intro i hi
    (repeat (refine stp ?_))
    refine AW_if rfl (fun hc => ?_) (fun hc => ?_)
    · have hi' : i < T.length := by omega
      obtain ⟨t, ht⟩ : ∃ t, T[i]? = some t := ⟨T[i], by simp [hi']⟩
      have htm := List.mem_of_getElem? ht
      have e1 := get_map eIntsC ht
      have hsn : candI d dye a b (T.take (i + 1)) X Y = candI d dye a b (T.take i) X Y ++ X.flatMap fun x => diffR d dye a b t x Y := flatMap_take_succ ht
      have bP1 : bdK 100 (candI d dye a b (T.take i) X Y) := bdK_flatMap fun t ht => bdK_flatMap fun x hx => hall t (List.mem_of_mem_take ht) x hx
      generalize candI d dye a b (T.take i) X Y = P1 at bP1 hsn ⊢
      (repeat (refine stp ?_))
      refine AW_loopC (fun j : Nat => j ≤ X.length) (fun j => mkSt (eachE dye a b T X Y i ++ [(15, .pv (vi j))]) (eachO h (insAll [] (P1 ++ (X.take j).flatMap fun x => diffR d dye a b t x Y))) 3) (fun j => X.length - j) 0 (Nat.zero_le _) ?_ ?_
      · (refine Le.mk ?_ ?_; all_goals (repeat' (first | exact trivial | refine sle ?_ | refine ⟨?_, rfl, ?_⟩ | refine ⟨?_, by decide, rfl, ?_⟩ | fail)))
        · show some (AObj.arr 4 1 (metL 201 100 (insAll [] P1))) = some (AObj.arr 4 1 (metL 201 100 (insAll [] (P1 ++ (X.take 0).flatMap fun x => diffR d dye a b t x Y)))); simp
        · show some (AObj.arr 3 1 ((insAll [] P1).map eInt)) = some (AObj.arr 3 1 ((insAll [] (P1 ++ (X.take 0).flatMap fun x => diffR d dye a b t x Y)).map eInt)); simp
      · intro j hj
        (repeat (refine stp ?_))
        refine AW_if rfl (fun hc => ?_) (fun hc => ?_)
        · have hj' : j < X.length := by omega
          obtain ⟨x, hx⟩ : ∃ x, X[j]? = some x := ⟨X[j], by simp [hj']⟩
          have hxm := List.mem_of_getElem? hx
          have e2 := get_map eIntsC hx
          have hsn2 : P1 ++ (X.take (j + 1)).flatMap (fun x => diffR d dye a b t x Y) = (P1 ++ (X.take j).flatMap fun x => diffR d dye a b t x Y) ++ diffR d dye a b t x Y := by rw [flatMap_take_succ hx, List.append_assoc]
          have bP2 : bdK 100 (P1 ++ (X.take j).flatMap fun x => diffR d dye a b t x Y) := bdK_append bP1 (bdK_flatMap fun x hx => hall t htm x (List.mem_of_mem_take hx))
          generalize (P1 ++ (X.take j).flatMap fun x => diffR d dye a b t x Y) = P2 at bP2 hsn2 ⊢
          have kA := f111 h dye t a x d hd h0 (nX x hxm) (by omega) (tmp ha t (nT t htm)) (sX x hxm) (sT t htm)
          have bA := depthI_bd (l := a) (dye := dye) ⟨hdm.2.1, hdm.2.2.1⟩ (sT t htm) (sX x hxm)
          (repeat (refine stp ?_))
          refine AW_loopC (fun k : Nat => k ≤ Y.length) (fun k => mkSt (eachE dye a b T X Y i ++ [(15, .pv (vi j)), (16, .pv (vi k))]) (eachO h (insAll [] (P2 ++ diffR d dye a b t x (Y.take k)))) 3) (fun k => Y.length - k) 0 (Nat.zero_le _) ?_ ?_
          · (refine Le.mk ?_ ?_; all_goals (repeat' (first | exact trivial | refine sle ?_ | refine ⟨?_, rfl, ?_⟩ | refine ⟨?_, by decide, rfl, ?_⟩ | fail)))
            · show some (AObj.arr 4 1 (metL 201 100 (insAll [] P2))) = some (AObj.arr 4 1 (metL 201 100 (insAll [] (P2 ++ diffR d dye a b t x (Y.take 0))))); simp [diffR]
            · show some (AObj.arr 3 1 ((insAll [] P2).map eInt)) = some (AObj.arr 3 1 ((insAll [] (P2 ++ diffR d dye a b t x (Y.take 0))).map eInt)); simp [diffR]
          · intro k hk
            (repeat (refine stp ?_))
            refine AW_if rfl (fun hc => ?_) (fun hc => ?_)
            · have hk' : k < Y.length := by omega
              obtain ⟨y, hy⟩ : ∃ y, Y[k]? = some y := ⟨Y[k], by simp [hk']⟩
              have hym := List.mem_of_getElem? hy
              have e3 := get_map eIntsC hy
              have kB := f111 h dye t b y d hd h0 (nY y hym) (by omega) (tmp hb t (nT t htm)) (sY y hym) (sT t htm)
              have bB := depthI_bd (l := b) (dye := dye) ⟨hdm.2.1, hdm.2.2.1⟩ (sT t htm) (sY y hym)
              have hsn3 : insAll [] (P2 ++ diffR d dye a b t x (Y.take (k + 1))) = insK (insAll [] (P2 ++ diffR d dye a b t x (Y.take k))) (depthI d dye t a x - depthI d dye t b y) := by
                have : diffR d dye a b t x (Y.take (k + 1)) = diffR d dye a b t x (Y.take k) ++ [depthI d dye t a x - depthI d dye t b y] := by
                  unfold diffR; rw [List.take_add_one, hy]; simp
                rw [this, ← List.append_assoc, insAll_snoc]
              have hnl : (insAll [] (P2 ++ diffR d dye a b t x (Y.take k))).length ≤ 2 * 100 + 1 := insAll_len (c := 100) (bdK_append bP2 fun n hn => hall t htm x hxm n (by
                obtain ⟨z, hz, rfl⟩ := List.mem_map.1 hn
                exact List.mem_map.2 ⟨z, List.mem_of_mem_take hz, rfl⟩))
              generalize insAll [] (P2 ++ diffR d dye a b t x (Y.take k)) = nx at hsn3 hnl ⊢
              (repeat (refine stp ?_))
              (repeat (first | refine sdr ?_ | refine DG_next (D_call rfl rfl rfl rfl rfl (kA)) ?_ | refine DG_next (D_call rfl rfl rfl rfl rfl (kB)) ?_))
              refine DG_end hM (by kernel_rfl) ?_
              generalize hA : depthI d dye t a x = dA at bA hsn3 ⊢
              generalize hB : depthI d dye t b y = dB at bB hsn3 ⊢
              have hml := metL_len 201 100 nx
              have hmg := metL_get (S := 201) (off := 100) (n := dA - dB) (nx := nx) (by omega) (by omega)
              have hms := metL_set (S := 201) (off := 100) (n := dA - dB) (nx := nx) (by omega)
              (repeat (refine stp ?_))
              refine AL_do2 rfl ⟨_, op_indexAddr_arr hT rfl rfl rfl rfl rfl rfl rfl rfl (by omega) (by rw [hml]; omega) rfl, ?_⟩
              refine AL_do2 rfl ⟨_, op_load_aptr (el := [.bool (decide (dA - dB ∈ nx))]) hT rfl rfl rfl rfl rfl hmg rfl, ?_⟩
              (repeat (refine stp ?_))
              refine AW_cond rfl (fun hc2 => ?_) (fun hc2 => ?_)
              · have hnm : ¬ dA - dB ∈ nx := by simpa using hc2
                have hik : insK nx (dA - dB) = nx ++ [dA - dB] := by unfold insK; rw [if_neg hnm]
                (repeat (refine stp ?_))
                refine AL_do2 rfl ⟨_, op_indexAddr_arr hT rfl rfl rfl rfl rfl rfl rfl rfl (by omega) (by rw [hml]; omega) rfl, ?_⟩
                refine AL_do2 rfl ⟨_, op_store_aptr (el := [.bool (decide (dA - dB ∈ nx))]) hT rfl rfl rfl rfl rfl hmg rfl rfl rfl rfl, ?_⟩
                (repeat (refine stp ?_))
                refine ⟨k + 1, hk', by omega, ?_⟩
                (refine Le.mkR [(2, 4)] ?_ ?_ rfl; all_goals (repeat' (first | exact trivial | refine sle ?_ | refine ⟨?_, rfl, ?_⟩ | refine ⟨?_, by decide, rfl, ?_⟩ | fail)))
                · show some (AObj.arr 4 1 ((metL 201 100 nx).set (dA - dB + 100).toNat [.bool true])) = some (AObj.arr 4 1 (metL 201 100 (insAll [] (P2 ++ diffR d dye a b t x (Y.take (k + 1))))))
                  rw [hsn3, hik, hms]
                · show some (AObj.arr 3 1 (nx.map eInt ++ [[vi (dA - dB)]])) = some (AObj.arr 3 1 ((insAll [] (P2 ++ diffR d dye a b t x (Y.take (k + 1)))).map eInt))
                  rw [hsn3, hik, List.map_append]; rfl
              · have hmm : dA - dB ∈ nx := by simpa using hc2
                have hik : insK nx (dA - dB) = nx := by unfold insK; rw [if_pos hmm]
                (repeat (refine stp ?_))
                refine ⟨k + 1, hk', by omega, ?_⟩
                (refine Le.mk ?_ ?_; all_goals (repeat' (first | exact trivial | refine sle ?_ | refine ⟨?_, rfl, ?_⟩ | refine ⟨?_, by decide, rfl, ?_⟩ | fail)))
                · show some (AObj.arr 4 1 (metL 201 100 nx)) = some (AObj.arr 4 1 (metL 201 100 (insAll [] (P2 ++ diffR d dye a b t x (Y.take (k + 1)))))); rw [hsn3, hik]
                · show some (AObj.arr 3 1 (nx.map eInt)) = some (AObj.arr 3 1 ((insAll [] (P2 ++ diffR d dye a b t x (Y.take (k + 1)))).map eInt)); rw [hsn3, hik]
            · have hk' : k = Y.length := by omega
              subst hk'
              rw [List.take_length]
              (repeat (refine stp ?_))
              refine ⟨j + 1, hj', by omega, ?_⟩
              (refine Le.mk ?_ ?_; all_goals (repeat' (first | exact trivial | refine sle ?_ | refine ⟨?_, rfl, ?_⟩ | refine ⟨?_, by decide, rfl, ?_⟩ | fail)))
              · rw [hsn2]; rfl
              · rw [hsn2]; rfl
        · have hj' : j = X.length := by omega
          subst hj'
          rw [List.take_length]
          (repeat (refine stp ?_))
          refine ⟨i + 1, hi', by omega, ?_⟩
          (refine Le.mk ?_ ?_; all_goals (repeat' (first | exact trivial | refine sle ?_ | refine ⟨?_, rfl, ?_⟩ | refine ⟨?_, by decide, rfl, ?_⟩ | fail)))
          · rw [hsn]; rfl
          · rw [hsn]; rfl
    · have hi' : i = T.length := by omega
      subst hi'
      (repeat (refine stp ?_))
      exact ⟨_, _, rfl, rfl, by simp⟩
end Go.Abs
