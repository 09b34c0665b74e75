/- Lemmas. -/
import Derived.Test.YtmplfjolcdlipaaGreatDoorNcA
import Derived.Test.YtmplfjolcdlipaaGreatDoorNcB
import Derived.Test.YtmplfjolcdlipaaGreatDoorNcC
import Derived.Test.YtmplfjolcdlipaaGreatDoorNcD
import Derived.Test.YtmplfjolcdlipaaGreatDoorNcE
import Derived.Test.YtmplfjolcdlipaaGreatDoorNcF
import Derived.Test.YtmplfjolcdlipaaGreatDoorNcG
import Derived.Test.YtmplfjolcdlipaaGreatDoorNcH
import Derived.Test.YtmplfjolcdlipaaGreatDoorDrA
import Derived.Test.YtmplfjolcdlipaaGreatDoorDrB
import Derived.Test.YtmplfjolcdlipaaGreatDoorDrC
import Derived.Test.YtmplfjolcdlipaaGreatDoorFA
import Derived.Test.YtmplfjolcdlipaaGreatDoorNcI
import Derived.Test.YtmplfjolcdlipaaGreatDoorNcJ
import Derived.Test.YtmplfjolcdlipaaGreatDoorNcK
import Derived.Test.YtmplfjolcdlipaaGreatDoorSh
import Derived.Test.YtmplfjolcdlipaaGreatDoorDrO
import Derived.Test.YtmplfjolcdlipaaGreatDoorDrD
import Derived.Test.YtmplfjolcdlipaaGreatDoorDrE
import Derived.Test.YtmplfjolcdlipaaGreatDoorDrF
import Derived.Test.YtmplfjolcdlipaaGreatDoorDrP
import Derived.Test.YtmplfjolcdlipaaGreatDoorDrQ
import Derived.Test.YtmplfjolcdlipaaGreatDoorDrR
import Derived.Test.YtmplfjolcdlipaaGreatDoorDrS
import Derived.Test.YtmplfjolcdlipaaGreatDoorDrU
import Derived.Test.YtmplfjolcdlipaaGreatDoorDrG
import Derived.Test.YtmplfjolcdlipaaGreatDoorDrV
import Derived.Test.YtmplfjolcdlipaaGreatDoorDrH
import Derived.Test.YtmplfjolcdlipaaGreatDoorDrI
import Derived.Test.YtmplfjolcdlipaaGreatDoorDrJ
import Derived.Test.YtmplfjolcdlipaaGreatDoorDrK
import Derived.Test.YtmplfjolcdlipaaGreatDoorDrL
import Derived.Test.YtmplfjolcdlipaaGreatDoorDrM
import Derived.Test.YtmplfjolcdlipaaGreatDoorDrN
import Derived.Test.YtmplfjolcdlipaaGreatDoorDrW
import Derived.Test.YtmplfjolcdlipaaGreatDoorDrBK
import Derived.Test.YtmplfjolcdlipaaGreatDoorDrBJ
import Derived.Test.YtmplfjolcdlipaaGreatDoorDrBL
set_option linter.unusedVariables false
set_option linter.unusedSimpArgs false
namespace Go.Abs
set_option linter.unusedVariables false
theorem stripped_strip {l : List Strip} {i : Nat} {s : Strip} (hs : s ∈ l) (hi : s.hour = (i : Int)) : ∀ (x : Span), s.seen - s.off ≤ (stripped l i x).low ∧ (stripped l i x).high ≤ s.seen + s.off := by
  induction l with
  | nil => cases hs
  | cons t l ih =>
    intro x
    rcases List.mem_cons.1 hs with rfl | hs
    · have := stripped_low l i (common x (stripSpan s))
      simp only [stripped, List.foldl_cons, hi, if_true] at this ⊢
      simp only [common, stripSpan] at this ⊢
      omega
    · exact ih hs _
theorem stripped_in {l : List Strip} {i : Nat} {n : Int} : ∀ {x : Span}, x.low ≤ n → n ≤ x.high → (∀ s ∈ l, s.hour = (i : Int) → s.seen - s.off ≤ n ∧ n ≤ s.seen + s.off) → (stripped l i x).low ≤ n ∧ n ≤ (stripped l i x).high := by
  induction l with
  | nil => intro x h1 h2 _; exact ⟨h1, h2⟩
  | cons s l ih =>
    intro x h1 h2 hs
    simp only [stripped, List.foldl_cons]
    have h3 := hs s (by simp)
    refine ih ?_ ?_ (fun t ht => hs t (by simp [ht]))
    · split
      · have := h3 (by assumption); simp only [common, stripSpan]; omega
      · exact h1
    · split
      · have := h3 (by assumption); simp only [common, stripSpan]; omega
      · exact h2
section
variable {d : Drum} {a : Acid}
def stepsB (d : Drum) (a : Acid) (t : List Int) (i : Nat) : Bool :=
  let s := if i = 0 then initS a (d.adds.getD 0 0) else afterS a (d.adds.getD i 0) ⟨t.getD (i - 1) 0, t.getD (i - 1) 0⟩
  inB (t.getD i 0) s.low s.high
def truesB (d : Drum) (a : Acid) (t : List Int) : Bool := (List.range d.hours.toNat).all (stepsB d a t) && d.strips.all (seenB t)
theorem steps_iff {t : List Int} : truesB d a t = true ↔ (∀ i, i < d.hours.toNat → stepsB d a t i = true) ∧ ∀ s ∈ d.strips, seenB t s = true := by
  simp [truesB, List.all_eq_true]
theorem seen_hour (hd : DrumP d) {t : List Int} (hs : ∀ s ∈ d.strips, seenB t s = true) (i : Nat) : ∀ s ∈ d.strips, s.hour = (i : Int) → s.seen - s.off ≤ t.getD i 0 ∧ t.getD i 0 ≤ s.seen + s.off := fun s h1 h2 => by
  have := hs s h1
  simp only [seenB, inB, Bool.and_eq_true, decide_eq_true_eq] at this
  rw [h2] at this
  exact this
theorem true_fwd (hd : DrumP d) (ha : AcidP a) {t : List Int} (ht : truesB d a t = true) : ∀ i, i < d.hours.toNat → (fwdS d a i).low ≤ t.getD i 0 ∧ t.getD i 0 ≤ (fwdS d a i).high
  | 0, hi => by
    obtain ⟨h1, h2⟩ := steps_iff.1 ht
    have h3 := h1 0 hi
    simp only [stepsB, if_true, inB, Bool.and_eq_true, decide_eq_true_eq] at h3
    simp only [fwdS]
    exact stripped_in h3.1 h3.2 (seen_hour hd h2 0)
  | i + 1, hi => by
    obtain ⟨h1, h2⟩ := steps_iff.1 ht
    have ih := true_fwd hd ha ht i (by omega)
    have h3 := h1 (i + 1) hi
    simp only [stepsB, Nat.add_one_ne_zero, if_false, inB, Bool.and_eq_true, decide_eq_true_eq, Nat.add_sub_cancel, afterS] at h3
    simp only [fwdS]
    refine stripped_in ?_ ?_ (seen_hour hd h2 (i + 1)) <;> simp only [afterS] <;> omega
theorem true_may (hd : DrumP d) (ha : AcidP a) {t : List Int} (ht : truesB d a t = true) : mayB d a = true :=
  mayB_iff.2 fun i hi => by have := true_fwd hd ha ht i hi; omega
end
end Go.Abs
namespace Go.Abs
def eTruth (acid : Int) (t : List Int) : PV := .agg [vi acid, eInts t]
end Go.Abs
namespace Go.Abs
open Go.Proofs Go.RowKit
set_option linter.unusedVariables false
set_option maxRecDepth 100000
section
variable {H : Type} {enc : TypeId × Value → H} {W : World}
theorem rd80 : RdC enc Tryz.prog W 80 (fun t : Int × List Int => [vi t.1, eInts t.2]) :=
  RdC.map (t := 80) (fun x : Int × List Int × Unit => (x.1, x.2.1)) (fun x => by rfl) (RdC.strct (fs := [(3, 0), (23, 1)]) (by kernel_rfl) (by kernel_rfl) (RdF.cons 1 rd3 (by kernel_rfl) (by decide +kernel) (RdF.cons 1 rd23 (by kernel_rfl) (by decide +kernel) (RdF.nil (by kernel_rfl)))))
end
end Go.Abs
namespace Go.Abs
open Go.RowKit
set_option linter.unusedVariables false
section
variable {P : Program} {T : Nat → Option TyI} {nt : Nat} {s : ASt} {o : Oper} {ops : Array Oper}
theorem op_append_nil1 {t e sz : Nat} {x0 x : Operand} {ti ei : TyI} {ys : List (List PV)} (hT : TabOK P T) (ho : o.op = .call { callee := .builtin .append, args := #[x0, x], argTypes := #[t, t] }) (hd : dstB nt o.dst = true)
    (ht : T t = some ti) (hk : ti.kind = .slice e) (he : T e = some ei) (hpos : Nat.blt 0 ei.size = true) (hzl : Nat.beq ei.zero.length ei.size = true) (hx0 : s.ev x0 = some .nils) (hsz : Nat.beq sz ei.size = true)
    (hy : s.srcOf x = some ys) (hyl : ∀ y ∈ ys, y.length = sz) (hmax : ys.length ≤ 1099511627776) (hby : Nat.ble ei.bytes 128 = true) :
    OpTo P nt o s ((s.newObj (.arr e sz ys)).putO o.dst (some (.arr s.nxt))) := by
  intro ro W0 D0 D φ a w hI K Q hK
  have hs : sz = ei.size := Nat.eq_of_beq_eq_true hsz
  have hp : 0 < sz := by rw [hs]; simpa using hpos
  have hzl' := Nat.eq_of_beq_eq_true hzl
  have hby' := Nat.le_of_ble_eq_true hby
  obtain ⟨info, z, i1, i2, i3, i4, i5⟩ := (hT.ty he).info
  have hund := (hT.ty ht).slice hk
  obtain ⟨ad, m, c, hvx, hm, hsrc⟩ := hI.src hy hyl hp
  have hv0 : a.eval x0 = .slice none 0 0 := by
    have := (hI.ev hx0).2
    generalize a.eval x0 = v at this
    cases this; rfl
  have hzc : z.cells.size = sz := by
    have := (zrepL_ok i5).1
    simp at this; omega
  have hbytes : (0 + ys.length) * ei.bytes ≤ 140737488355328 := by
    rw [Nat.zero_add]
    have := Nat.mul_le_mul hmax hby'
    omega
  have hml : 0 + ys.length ≤ maxLen := by simp only [maxLen]; omega
  have hown : w.ownsRow w.heap.size e sz (.slice none 0 0) 0 [] := World.ownsRow_nil _ _ _ _
  have key : ∃ v' w', (Builtin.append_ #[t, t] o.type #[.slice none 0 0, a.eval x]).run P w = .ok v' w' ∧ Below w.heap.size w w' ∧ RRep w.heap.size w' D v' (.own e sz ys) := by
    have nilcase : ∀ c', (Builtin.append_ #[t, t] o.type #[.slice none 0 0, .slice ad 0 c']).run P w = .ok (.slice none 0 0) w := fun c' => run_append_zero w hund i1 none ad 0 0 c' (Nat.le_refl _)
    have nilrep : RRep w.heap.size w D (.slice none 0 0) (.own e sz []) := ⟨[], hown, ⟨by simp, by simp⟩, fun b hb => by simp [blk] at hb⟩
    rcases hsrc with rfl | ⟨b, news, rfl, hnl, hnc, hnr⟩
    · refine ⟨_, w, ?_, Below.refl _ _, nilrep⟩
      rw [hvx, hm]; exact nilcase c
    · cases ys with
      | nil =>
        refine ⟨_, w, ?_, Below.refl _ _, nilrep⟩
        rw [hvx, hm]; exact nilcase c
      | cons y ys =>
        have hm0 : 0 < m := by rw [hm]; simp
        obtain ⟨v', w', hr, h2, h3, h4⟩ := run_append_blk (P := P) w (ty := o.type) (c := c) hund i1 i4 (by rw [i2, hs]) i3 hzc hp hown (by rw [hm]; exact hnl) hnc (hnr.oneCell hnl hp) hm0 (by rw [hm]; exact hml) (by rw [hm]; exact hbytes) (Nat.le_refl _)
        have hbel : Below w.heap.size w w' := (Below.refl _ _).grown h3 (Nat.le_refl _) (fun k hk => by simp [Value.ownBlock] at hk)
        refine ⟨v', w', by rw [hvx]; exact hr, hbel, [] ++ news, by rw [Nat.zero_add, hm] at h2; exact h2, ?_, fun b hb hDb => ?_⟩
        · rw [List.nil_append]; exact hnr.mono (fun b hb => hbel.block b (hI.dlt b hb)) (fun _ h => h)
        · rcases h4 b hb with h5 | ⟨h5, _⟩
          · simp [blk] at h5
          · have := hI.dlt b hDb; omega
  obtain ⟨v', w', hr, hbel, hrr⟩ := key
  have hrun : (execOp a.eval o).run P w = .ok (.value v') w' := by
    simp only [execOp, ho, resolve, invoke, builtin, Sem.run_bind, Sem.run_pure, Result.andThen_ok, List.map_toArray, List.map_cons, List.map_nil, hv0, hr]
  refine wpIn_of (by rw [ho]; intro c hc; cases hc) ?_
  unfold Oper.wp
  rw [hrun]
  obtain ⟨φ', hI'⟩ := hI.bind hbel (fun _ h => h) (fun _ h => .inl h) hrr o.dst hd
  exact hK _ _ _ _ hI'
end
end Go.Abs
namespace Go.Abs
open Go.Proofs
set_option linter.unusedVariables false
set_option linter.unusedSimpArgs false
set_option maxRecDepth 100000
theorem f134 (d : Drum) (acid : Int) (t : List Int) (hd : d.acids.length ≤ 1000) (ht : t.length ≤ 1000) : ACalls Tryz.prog 134 [eDrum d, eTruth acid t] (fun r => r = .pv (.bool (sizedB d acid t))) := by
  refine ACalls.of_body hT Tryz.func134 rfl (by kernel_rfl) rfl ?_
  (repeat' (first | refine stq ?_ | (refine AL_do2 rfl ?_; first | refine ⟨_, op_call1 rfl rfl rfl rfl (f87 acid 0 (d.acids.length - 1)), nrmA rfl ?_⟩) | (with_reducible refine AL_id ?_); (fail_if_success (refine AL_glit rfl rfl rfl (by first | exact .inl (by with_reducible rfl) | exact .inr (by with_reducible rfl)) ?_)); first | refine AL_gdec rfl rfl rfl (fun hg => ?_) (fun hg => ?_) | refine AL_gnot rfl rfl rfl (fun hg => ?_) (fun hg => ?_) | refine AL_gcases rfl rfl rfl (fun hg => ?_) (fun hg => ?_)))
  all_goals exact ⟨_, _, rfl, rfl, by simp_all [sizedB]; try omega⟩
end Go.Abs
namespace Go.Abs
open Go.Proofs
set_option linter.unusedVariables false
set_option linter.unusedSimpArgs false
set_option maxRecDepth 100000
theorem steps_bd {d : Drum} {a : Acid} (hd : DrumP d) (ha : AcidP a) {t : List Int} : ∀ k, (∀ i, i ≤ k → stepsB d a t i = true) → 0 ≤ t.getD k 0 ∧ t.getD k 0 ≤ 100 * (k + 2)
  | 0, h => by
    have h1 := h 0 (Nat.le_refl _)
    have := ha.s0; have := ha.s2
    have := add_bd hd 0
    simp only [stepsB, if_true, inB, Bool.and_eq_true, decide_eq_true_eq, initS] at h1
    omega
  | k + 1, h => by
    have h1 := h (k + 1) (Nat.le_refl _)
    have ih := steps_bd hd ha k fun i hi => h i (by omega)
    have := ha.f0; have := ha.f1
    have := add_bd hd (k + 1)
    simp only [stepsB, Nat.add_one_ne_zero, if_false, inB, Bool.and_eq_true, decide_eq_true_eq, Nat.add_sub_cancel, afterS] at h1
    omega
abbrev fiO (d : Drum) (n : Nat) (t : List Int) (a : Acid) : List (Nat × AObj) := [(0, .box ((eDrumC d).map FV.pv)), (1, .box [.pv (vi n), .pv (eInts t)]), (2, .box ((eAcid a).map FV.pv))]
set_option maxHeartbeats 4000000 in
theorem f135 (d : Drum) (a : Acid) (acid : Int) (t : List Int) (hd : DrumP d) (h0 : 0 ≤ acid) (hac : d.acids[acid.toNat]? = some a) (ht : (t.length : Int) = d.hours) : ACalls Tryz.prog 135 [eDrum d, eTruth acid t] (fun r => r = .pv (.bool (bitI d.known acid.toNat && truesB d a t))) := by
  obtain ⟨n, rfl⟩ : ∃ n : Nat, acid = n := ⟨acid.toNat, by omega⟩
  simp only [Int.toNat_natCast] at hac ⊢
  have ha := hd.acid a (List.mem_of_getElem? hac)
  have h12 := hd.h1
  have hal := hd.al
  have k145 := f145 d.known n
  have e1 := get_map eAcid hac
  have k95 := c95 d.strips 169 [.ptr [vi n, eInts t]] (fun s => !seenB t s) (by have := hd.sl; omega) (fun s hs => f169 n t d.hours s (hd.strip s hs) h12 ht)
  rw [any_not'] at k95
  refine ACalls.of_body hT Tryz.func135 rfl (by kernel_rfl) rfl ?_
  cases q : bitI d.known n with
  | false =>
    rw [q] at k145
    (repeat' (first | refine stq ?_ | (refine AL_do2 rfl ?_; first | refine ⟨_, op_call1 rfl rfl rfl rfl (k145), nrmA rfl ?_⟩) | (with_reducible refine AL_id ?_); (fail_if_success (refine AL_glit rfl rfl rfl (by first | exact .inl (by with_reducible rfl) | exact .inr (by with_reducible rfl)) ?_)); first | refine AL_gdec rfl rfl rfl (fun hg => ?_) (fun hg => ?_) | refine AL_gnot rfl rfl rfl (fun hg => ?_) (fun hg => ?_) | refine AL_gcases rfl rfl rfl (fun hg => ?_) (fun hg => ?_)))
    exact ⟨_, _, rfl, rfl, rfl⟩
  | true =>
    rw [q] at k145
    (repeat' (first | refine stq ?_ | (refine AL_do2 rfl ?_; first | refine ⟨_, op_call1 rfl rfl rfl rfl (k145), nrmA rfl ?_⟩) | (with_reducible refine AL_id ?_); (fail_if_success (refine AL_glit rfl rfl rfl (by first | exact .inl (by with_reducible rfl) | exact .inr (by with_reducible rfl)) ?_)); first | refine AL_gdec rfl rfl rfl (fun hg => ?_) (fun hg => ?_) | refine AL_gnot rfl rfl rfl (fun hg => ?_) (fun hg => ?_) | refine AL_gcases rfl rfl rfl (fun hg => ?_) (fun hg => ?_)))
    refine AW_loopC (fun k : Nat => k ≤ t.length ∧ ∀ i, i < k → stepsB d a t i = true) (fun k => mkSt [(2, .box 0 0), (3, .box 1 0), (5, .box 2 0), (24, .pv (eInts t)), (25, .pv (vi t.length)), (26, .pv (vi k))] (fiO d n t a) 3) (fun k => t.length - k) 0 ⟨Nat.zero_le _, by simp⟩ ?_ ?_
    · (refine Le.mk ?_ ?_; all_goals (repeat' (first | exact trivial | refine sle ?_ | refine ⟨?_, rfl, ?_⟩ | refine ⟨?_, by decide, rfl, ?_⟩ | fail)))
    · rintro k ⟨hk, hall⟩
      (repeat (refine stq ?_))
      refine AW_if rfl (fun hc => ?_) (fun hc => ?_)
      · have hk' : k < t.length := by omega
        obtain ⟨x, hx⟩ : ∃ x, t[k]? = some x := ⟨t[k], by simp [hk']⟩
        obtain ⟨y, hy⟩ : ∃ y, d.adds[k]? = some y := ⟨d.adds[k]'(by omega), by simp⟩
        have e2 := get_map eInt hx
        have e3 := get_map eInt hy
        have hyb := hd.add y (List.mem_of_getElem? hy)
        have := ha.s0; have := ha.s1; have := ha.s2; have := ha.f0; have := ha.f1; have := ha.f2
        have gx : t.getD k 0 = x := by rw [List.getD_eq_getElem?_getD, hx]; rfl
        have gy : d.adds.getD k 0 = y := by rw [List.getD_eq_getElem?_getD, hy]; rfl
        have fall : stepsB d a t k = false → truesB d a t = false := fun h => by
          cases hb : truesB d a t with
          | false => rfl
          | true => have := (steps_iff.1 hb).1 k (by omega); rw [h] at this; cases this
        have next : stepsB d a t k = true → ∀ i, i < k + 1 → stepsB d a t i = true := fun h i hi => by
          by_cases hik : i = k
          · rw [hik]; exact h
          · exact hall i (by omega)
        by_cases hk0 : k = 0
        · subst hk0
          have es : stepsB d a t 0 = inB x (a.strength.low + y) (a.strength.high + y) := by
            simp only [stepsB, if_true, gx, gy, initS]
          have k87 := f87 x (a.strength.low + y) (a.strength.high + y)
          cases hb : inB x (a.strength.low + y) (a.strength.high + y) with
          | false =>
            rw [hb] at k87 es
            (repeat (refine stq ?_))
            (repeat (refine sdq ?_))
            refine DG_end hM (by kernel_rfl) ?_
            (repeat (refine stq ?_))
            (repeat (first | refine sdq ?_ | refine DG_next (D_call rfl rfl rfl rfl rfl (k87)) ?_))
            refine DG_end hM (by kernel_rfl) ?_
            (repeat (refine stq ?_))
            exact ⟨_, _, rfl, rfl, by rw [fall es]; rfl⟩
          | true =>
            rw [hb] at k87 es
            (repeat (refine stq ?_))
            (repeat (refine sdq ?_))
            refine DG_end hM (by kernel_rfl) ?_
            (repeat (refine stq ?_))
            (repeat (first | refine sdq ?_ | refine DG_next (D_call rfl rfl rfl rfl rfl (k87)) ?_))
            refine DG_end hM (by kernel_rfl) ?_
            (repeat (refine stq ?_))
            refine ⟨0 + 1, ⟨hk', next es⟩, by omega, ?_⟩
            (refine Le.mk ?_ ?_; all_goals (repeat' (first | exact trivial | refine sle ?_ | refine ⟨?_, rfl, ?_⟩ | refine ⟨?_, by decide, rfl, ?_⟩ | fail)))
        · obtain ⟨z, hz⟩ : ∃ z, t[k - 1]? = some z := ⟨t[k - 1]'(by omega), by simp⟩
          have gz : t.getD (k - 1) 0 = z := by rw [List.getD_eq_getElem?_getD, hz]; rfl
          have e4 : (t.map eInt)[((k : Int) - 1).toNat]? = some (eInt z) := by
            rw [show ((k : Int) - 1).toNat = k - 1 by omega]; exact get_map eInt hz
          have hzb := steps_bd hd ha (t := t) (k - 1) (fun i hi => hall i (by omega))
          rw [gz] at hzb
          have es : stepsB d a t k = inB x (max 0 (z - a.fall.high) + y) (max 0 (z - a.fall.low) + y) := by
            simp only [stepsB, if_neg hk0, gx, gy, gz, afterS]
          have k87 := f87 x (max 0 (z - a.fall.high) + y) (max 0 (z - a.fall.low) + y)
          have hm1 : (0 : Int) ≤ max 0 (z - a.fall.high) ∧ max 0 (z - a.fall.high) ≤ 10000 := by omega
          have hm2 : (0 : Int) ≤ max 0 (z - a.fall.low) ∧ max 0 (z - a.fall.low) ≤ 10000 := by omega
          cases hb : inB x (max 0 (z - a.fall.high) + y) (max 0 (z - a.fall.low) + y) with
          | false =>
            rw [hb] at k87 es
            (repeat (refine stq ?_))
            (repeat (refine sdq ?_))
            refine DG_end hM (by kernel_rfl) ?_
            (repeat (refine stq ?_))
            refine AW_if rfl (fun _ => ?_) (fun hc => by omega)
            (repeat (refine stq ?_))
            (repeat (refine sdq ?_))
            refine DG_end hM (by kernel_rfl) ?_
            (repeat (refine stq ?_))
            (repeat (first | refine sdq ?_ | refine DG_next (D_call rfl rfl rfl rfl rfl (k87)) ?_))
            refine DG_end hM (by kernel_rfl) ?_
            (repeat (refine stq ?_))
            exact ⟨_, _, rfl, rfl, by rw [fall es]; rfl⟩
          | true =>
            rw [hb] at k87 es
            (repeat (refine stq ?_))
            (repeat (refine sdq ?_))
            refine DG_end hM (by kernel_rfl) ?_
            (repeat (refine stq ?_))
            refine AW_if rfl (fun _ => ?_) (fun hc => by omega)
            (repeat (refine stq ?_))
            (repeat (refine sdq ?_))
            refine DG_end hM (by kernel_rfl) ?_
            (repeat (refine stq ?_))
            (repeat (first | refine sdq ?_ | refine DG_next (D_call rfl rfl rfl rfl rfl (k87)) ?_))
            refine DG_end hM (by kernel_rfl) ?_
            (repeat (refine stq ?_))
            refine ⟨k + 1, ⟨hk', next es⟩, by omega, ?_⟩
            (refine Le.mk ?_ ?_; all_goals (repeat' (first | exact trivial | refine sle ?_ | refine ⟨?_, rfl, ?_⟩ | refine ⟨?_, by decide, rfl, ?_⟩ | fail)))
      · have hk' : k = t.length := by omega
        subst hk'
        (repeat' (first | refine stq ?_ | (refine AL_do2 rfl ?_; first | refine ⟨_, op_callB rfl rfl rfl rfl (k95) rfl, nrmA rfl ?_⟩ | refine ⟨_, op_call1 rfl rfl rfl rfl (k95), nrmA rfl ?_⟩) | (with_reducible refine AL_id ?_); (fail_if_success (refine AL_glit rfl rfl rfl (by first | exact .inl (by with_reducible rfl) | exact .inr (by with_reducible rfl)) ?_)); first | refine AL_gdec rfl rfl rfl (fun hg => ?_) (fun hg => ?_) | refine AL_gnot rfl rfl rfl (fun hg => ?_) (fun hg => ?_) | refine AL_gcases rfl rfl rfl (fun hg => ?_) (fun hg => ?_)))
        exact ⟨_, _, rfl, rfl, by
          have : truesB d a t = d.strips.all (seenB t) := by
            unfold truesB
            rw [show ((List.range d.hours.toNat).all (stepsB d a t)) = true from List.all_eq_true.2 fun i hi => hall i (by have := List.mem_range.1 hi; omega)]
            rfl
          rw [this]; simp⟩
def fitsB (d : Drum) (acid : Int) (t : List Int) : Bool := bitI d.known acid.toNat && truesB d (d.acids.getD acid.toNat ⟨⟨0, 0⟩, ⟨0, 0⟩⟩) t
def fitsE (d : Drum) (acid : Int) (t : List Int) : Bool × Int := if drumB d && sizedB d acid t then (fitsB d acid t, 0) else (false, 2)
theorem sized_of {d : Drum} {acid : Int} {t : List Int} (h : sizedB d acid t = true) : 0 ≤ acid ∧ d.acids[acid.toNat]? = some (d.acids.getD acid.toNat ⟨⟨0, 0⟩, ⟨0, 0⟩⟩) ∧ (t.length : Int) = d.hours := by
  simp only [sizedB, inB, Bool.and_eq_true, decide_eq_true_eq] at h
  refine ⟨h.1.1, ?_, h.2⟩
  have : acid.toNat < d.acids.length := by omega
  rw [List.getD_eq_getElem?_getD]; simp [this]
theorem f64 (d : Drum) (acid : Int) (t : List Int) (hd : drumOK d) (ht : t.length ≤ 1000) : ACalls Tryz.prog 64 [eDrum d, eTruth acid t] (fun r => r = .tup [.bool (fitsE d acid t).1, vi (fitsE d acid t).2]) := by
  have k104 := f104 d hd
  have k134 := f134 d acid t hd.1 ht
  refine ACalls.of_body hT Tryz.func64 rfl (by kernel_rfl) rfl ?_
  cases q1 : drumB d with
  | false =>
    rw [q1] at k104
    (repeat' (first | refine stq ?_ | (refine AL_do2 rfl ?_; first | refine ⟨_, op_call1 rfl rfl rfl rfl (k104), nrmA rfl ?_⟩ | refine ⟨_, op_call1 rfl rfl rfl rfl (k134), nrmA rfl ?_⟩) | (with_reducible refine AL_id ?_); (fail_if_success (refine AL_glit rfl rfl rfl (by first | exact .inl (by with_reducible rfl) | exact .inr (by with_reducible rfl)) ?_)); first | refine AL_gdec rfl rfl rfl (fun hg => ?_) (fun hg => ?_) | refine AL_gnot rfl rfl rfl (fun hg => ?_) (fun hg => ?_) | refine AL_gcases rfl rfl rfl (fun hg => ?_) (fun hg => ?_)))
    exact ⟨_, _, rfl, rfl, by simp [fitsE, q1]⟩
  | true =>
    rw [q1] at k104
    cases q2 : sizedB d acid t with
    | false =>
      rw [q2] at k134
      (repeat' (first | refine stq ?_ | (refine AL_do2 rfl ?_; first | refine ⟨_, op_call1 rfl rfl rfl rfl (k104), nrmA rfl ?_⟩ | refine ⟨_, op_call1 rfl rfl rfl rfl (k134), nrmA rfl ?_⟩) | (with_reducible refine AL_id ?_); (fail_if_success (refine AL_glit rfl rfl rfl (by first | exact .inl (by with_reducible rfl) | exact .inr (by with_reducible rfl)) ?_)); first | refine AL_gdec rfl rfl rfl (fun hg => ?_) (fun hg => ?_) | refine AL_gnot rfl rfl rfl (fun hg => ?_) (fun hg => ?_) | refine AL_gcases rfl rfl rfl (fun hg => ?_) (fun hg => ?_)))
      exact ⟨_, _, rfl, rfl, by simp [fitsE, q1, q2]⟩
    | true =>
      rw [q2] at k134
      obtain ⟨h0, hac, hl⟩ := sized_of q2
      have k135 := f135 d _ acid t (drumP_of.1 q1) h0 hac hl
      (repeat' (first | refine stq ?_ | (refine AL_do2 rfl ?_; first | refine ⟨_, op_call1 rfl rfl rfl rfl (k104), nrmA rfl ?_⟩ | refine ⟨_, op_call1 rfl rfl rfl rfl (k134), nrmA rfl ?_⟩ | refine ⟨_, op_call1 rfl rfl rfl rfl (k135), nrmA rfl ?_⟩) | (with_reducible refine AL_id ?_); (fail_if_success (refine AL_glit rfl rfl rfl (by first | exact .inl (by with_reducible rfl) | exact .inr (by with_reducible rfl)) ?_)); first | refine AL_gdec rfl rfl rfl (fun hg => ?_) (fun hg => ?_) | refine AL_gnot rfl rfl rfl (fun hg => ?_) (fun hg => ?_) | refine AL_gcases rfl rfl rfl (fun hg => ?_) (fun hg => ?_)))
      exact ⟨_, _, rfl, rfl, by simp [fitsE, q1, q2, fitsB]⟩
end Go.Abs
namespace Go.Abs
set_option linter.unusedVariables false
def moreD (d : Drum) (r : List Strip) (known : Int) : Drum := { d with strips := d.strips ++ r, known := known }
section
variable {d : Drum} {r : List Strip} {known : Int} {a : Acid}
theorem more_fwd : ∀ i, (fwdS d a i).low ≤ (fwdS (moreD d r known) a i).low ∧ (fwdS (moreD d r known) a i).high ≤ (fwdS d a i).high
  | 0 => by
    simp only [fwdS, moreD, stripped_append]
    exact stripped_low _ _ _
  | i + 1 => by
    have ih := more_fwd i
    have h1 : (afterS a (d.adds.getD (i + 1) 0) (fwdS d a i)).low ≤ (afterS a (d.adds.getD (i + 1) 0) (fwdS (moreD d r known) a i)).low ∧ (afterS a (d.adds.getD (i + 1) 0) (fwdS (moreD d r known) a i)).high ≤ (afterS a (d.adds.getD (i + 1) 0) (fwdS d a i)).high := by
      simp only [afterS]; omega
    have h2 := stripped_mono (l := d.strips) (i := i + 1) h1.1 h1.2
    have h3 := stripped_low r (i + 1) (stripped d.strips (i + 1) (afterS a (d.adds.getD (i + 1) 0) (fwdS (moreD d r known) a i)))
    have e : fwdS (moreD d r known) a (i + 1) = stripped r (i + 1) (stripped d.strips (i + 1) (afterS a (d.adds.getD (i + 1) 0) (fwdS (moreD d r known) a i))) := by
      rw [← stripped_append]; rfl
    rw [e]
    simp only [fwdS]
    omega
theorem more_may (h : mayB (moreD d r known) a = true) : mayB d a = true :=
  mayB_iff.2 fun i hi => by
    have h1 := mayB_iff.1 h i hi
    have h2 := more_fwd (d := d) (r := r) (known := known) (a := a) i
    omega
theorem more_bwd (ha : AcidP a) : ∀ k, (bwdS d a k).low ≤ (bwdS (moreD d r known) a k).low ∧ (bwdS (moreD d r known) a k).high ≤ (bwdS d a k).high
  | 0 => more_fwd _
  | k + 1 => by
    have ih := more_bwd ha k
    have h1 := more_fwd (d := d) (r := r) (known := known) (a := a) (d.hours.toNat - 1 - (k + 1))
    have := ha.f0
    simp only [bwdS]
    simp only [common, beforeS]
    have e1 : (moreD d r known).hours = d.hours := rfl
    have e2 : (moreD d r known).adds = d.adds := rfl
    rw [e1, e2]
    split <;> split <;> omega
theorem more_strong (ha : AcidP a) (i : Nat) : (strongS d a i).low ≤ (strongS (moreD d r known) a i).low ∧ (strongS (moreD d r known) a i).high ≤ (strongS d a i).high := more_bwd ha _
end
theorem strip_fwd {d : Drum} {s : Strip} (hs : s ∈ d.strips) (h0 : 0 ≤ s.hour) (a : Acid) : s.seen - s.off ≤ (fwdS d a s.hour.toNat).low ∧ (fwdS d a s.hour.toNat).high ≤ s.seen + s.off := by
  have hh : s.hour = (s.hour.toNat : Int) := by omega
  generalize s.hour.toNat = i at *
  cases i with
  | zero => simp only [fwdS]; exact stripped_strip hs hh _
  | succ i => simp only [fwdS]; exact stripped_strip hs hh _
theorem filled_sub {d : Drum} {r : List Strip} {known : Int} (hk : ∀ i, hasI known i = true → hasI d.known i = true) : List.Sublist (filledL (moreD d r known)) (filledL d) := by
  unfold filledL
  have : (moreD d r known).acids = d.acids := rfl
  rw [this]
  have key : ∀ (l : List (Acid × Nat)) (p q : Acid × Nat → Bool), (∀ x, p x = true → q x = true) → (l.filter p).Sublist (l.filter q) := by
    intro l p q h
    induction l with
    | nil => exact List.Sublist.refl _
    | cons x l ih =>
      by_cases hp : p x = true
      · rw [List.filter_cons_of_pos hp, List.filter_cons_of_pos (h x hp)]
        exact List.cons_sublist_cons.2 ih
      · rw [List.filter_cons_of_neg hp]
        by_cases hq : q x = true
        · rw [List.filter_cons_of_pos hq]; exact List.Sublist.cons _ ih
        · rw [List.filter_cons_of_neg hq]; exact ih
  refine key _ _ _ fun p hp => ?_
  simp only [Bool.and_eq_true] at hp ⊢
  exact ⟨hk _ hp.1, more_may hp.2⟩
theorem tells_one {d : Drum} (hd : DrumP d) {s : Strip} (hs : StripP d.hours s) (ht : tellsB d s.off s.hour.toNat = true) (hx : DrumP (moreD d [s] d.known)) : (filledL (moreD d [s] d.known)).length ≤ 1 := by
  match he : filledL (moreD d [s] d.known) with
  | [] => simp
  | [p] => simp
  | p :: q :: l =>
    exfalso
    have hsub := filled_sub (d := d) (r := [s]) (known := d.known) fun _ h => h
    rw [he] at hsub
    have hp : p ∈ filledL (moreD d [s] d.known) := by rw [he]; simp
    have hq : q ∈ filledL (moreD d [s] d.known) := by rw [he]; simp
    have hpq : [p, q].Sublist (filledL d) := (List.cons_sublist_cons.2 (List.cons_sublist_cons.2 (List.nil_sublist l))).trans hsub
    have far : farB d s.off s.hour.toNat q p = true := by
      have key : ∀ {l : List (Acid × Nat)}, [p, q].Sublist l → pairsB (farB d s.off s.hour.toNat) l = true → farB d s.off s.hour.toNat q p = true := by
        intro l
        induction l with
        | nil => intro h; cases h
        | cons z l ih =>
          intro h hb
          simp only [pairsB, Bool.and_eq_true, List.all_eq_true] at hb
          cases h with
          | cons _ h => exact ih h hb.1
          | cons_cons _ h => exact hb.2 q (h.subset (by simp))
      exact key hpq ht
    have hap := filled_acid hx hp
    have haq := filled_acid hx hq
    have hi : s.hour.toNat < (moreD d [s] d.known).hours.toNat := by have := hs.h0; have := hs.h1; show s.hour.toNat < d.hours.toNat; omega
    have p1 := strong_ok' hx hap (filled_mem.1 hp).2.2 hi
    have q1 := strong_ok' hx haq (filled_mem.1 hq).2.2 hi
    have p2 := strip_fwd (d := moreD d [s] d.known) (s := s) (by simp [moreD]) hs.h0 p.1
    have q2 := strip_fwd (d := moreD d [s] d.known) (s := s) (by simp [moreD]) hs.h0 q.1
    have p3 := more_strong (d := d) (r := [s]) (known := d.known) hap s.hour.toNat
    have q3 := more_strong (d := d) (r := [s]) (known := d.known) haq s.hour.toNat
    simp only [farB, Bool.not_eq_true', Bool.and_eq_false_iff, decide_eq_false_iff_not] at far
    omega
end Go.Abs
