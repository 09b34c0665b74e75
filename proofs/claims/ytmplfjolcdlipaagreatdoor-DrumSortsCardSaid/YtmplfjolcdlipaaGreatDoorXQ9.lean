/- Lemmas. -/
import Derived.Test.YtmplfjolcdlipaaGreatDoorNcA
import Derived.Test.YtmplfjolcdlipaaGreatDoorNcB
import Derived.Test.YtmplfjolcdlipaaGreatDoorNcC
import Derived.Test.YtmplfjolcdlipaaGreatDoorNcD
import Derived.Test.YtmplfjolcdlipaaGreatDoorNcE
import Derived.Test.YtmplfjolcdlipaaGreatDoorNcF
import Derived.Test.YtmplfjolcdlipaaGreatDoorNcG
import Derived.Test.YtmplfjolcdlipaaGreatDoorNcH
import Derived.Test.YtmplfjolcdlipaaGreatDoorDrA
import Derived.Test.YtmplfjolcdlipaaGreatDoorDrB
import Derived.Test.YtmplfjolcdlipaaGreatDoorDrC
import Derived.Test.YtmplfjolcdlipaaGreatDoorFA
import Derived.Test.YtmplfjolcdlipaaGreatDoorNcI
import Derived.Test.YtmplfjolcdlipaaGreatDoorNcJ
import Derived.Test.YtmplfjolcdlipaaGreatDoorNcK
import Derived.Test.YtmplfjolcdlipaaGreatDoorSh
import Derived.Test.YtmplfjolcdlipaaGreatDoorDrO
import Derived.Test.YtmplfjolcdlipaaGreatDoorDrD
import Derived.Test.YtmplfjolcdlipaaGreatDoorDrE
import Derived.Test.YtmplfjolcdlipaaGreatDoorDrF
import Derived.Test.YtmplfjolcdlipaaGreatDoorDrP
import Derived.Test.YtmplfjolcdlipaaGreatDoorDrQ
import Derived.Test.YtmplfjolcdlipaaGreatDoorDrR
import Derived.Test.YtmplfjolcdlipaaGreatDoorDrS
import Derived.Test.YtmplfjolcdlipaaGreatDoorDrU
import Derived.Test.YtmplfjolcdlipaaGreatDoorDrG
import Derived.Test.YtmplfjolcdlipaaGreatDoorDrV
import Derived.Test.YtmplfjolcdlipaaGreatDoorDrH
import Derived.Test.YtmplfjolcdlipaaGreatDoorDrI
import Derived.Test.YtmplfjolcdlipaaGreatDoorDrJ
import Derived.Test.YtmplfjolcdlipaaGreatDoorDrK
import Derived.Test.YtmplfjolcdlipaaGreatDoorDrL
import Derived.Test.YtmplfjolcdlipaaGreatDoorDrM
import Derived.Test.YtmplfjolcdlipaaGreatDoorDrN
import Derived.Test.YtmplfjolcdlipaaGreatDoorDrW
import Derived.Test.YtmplfjolcdlipaaGreatDoorDrBK
import Derived.Test.YtmplfjolcdlipaaGreatDoorDrBJ
import Derived.Test.YtmplfjolcdlipaaGreatDoorDrBL
set_option linter.unusedVariables false
set_option linter.unusedSimpArgs false
namespace Go.Abs
open Go.RowKit
set_option linter.unusedVariables false
section
variable {P : Program} {T : Nat → Option TyI} {nt : Nat} {s : ASt} {o : Oper} {ops : Array Oper} {rest : List Oper} {Q : Exit → ASt → Prop}
theorem AW_res {c : Code} (h : AW P nt c Q (s.newObj .res)) : AW P nt c Q s := by
  intro ro W0 D0 D φ a w hr hI
  refine h ro W0 D0 D (addH φ s.nxt (.bool false)) a w hr ?_
  exact hI.new (Below.refl _ _) (fun _ h => h) (fun _ h => .inl h) .res (.bool false) rfl (addH_new _ _ _) (by intro b hb; simp [blk] at hb)
theorem FRep.noRes {w : World} {D : Nat → Prop} {φ : Nat → Value} {F : Nat} (hF : φ F = .bool false) {ρ : Nat → Nat} (hρ : ∀ n, n ≠ F → ρ n = n) {v : Value} {x : FV} (h : FRep w D φ v x) : x.ren ρ = x := by
  induction h with
  | pv v p h => rfl
  | box id off b h => simp only [FV.ren]; rw [hρ id (by rintro rfl; rw [hF] at h; cases h)]
  | nils => rfl
  | arr id n c a h => simp only [FV.ren]; rw [hρ id (by rintro rfl; rw [hF] at h; cases h)]
  | aptr id sz i off g n c h => simp only [FV.ren]; rw [hρ id (by rintro rfl; rw [hF] at h; cases h)]
  | mp id r h => simp only [FV.ren]; rw [hρ id (by rintro rfl; rw [hF] at h; cases h)]
  | yld id l h => simp only [FV.ren]; rw [hρ id (by rintro rfl; rw [hF] at h; cases h)]
  | sub id sz lo n g m c h hc => simp only [FV.ren]; rw [hρ id (by rintro rfl; rw [hF] at h; cases h)]
  | fn f vs cs hl hr ih =>
    simp only [FV.ren, FV.renL_eq]
    congr 1
    refine List.ext_getElem? fun j => ?_
    rw [List.getElem?_map]
    cases hj : cs[j]? with
    | none => rfl
    | some y => have hv : j < vs.size := by rw [hl]; exact (List.getElem?_eq_some_iff.1 hj).1
                exact congrArg some (ih j vs[j] y (by simp [hv]) hj)
  | agg vs cs hl hr ih =>
    simp only [FV.ren, FV.renL_eq]
    congr 1
    refine List.ext_getElem? fun j => ?_
    rw [List.getElem?_map]
    cases hj : cs[j]? with
    | none => rfl
    | some y => have hv : j < vs.size := by rw [hl]; exact (List.getElem?_eq_some_iff.1 hj).1
                exact congrArg some (ih j vs[j] y (by simp [hv]) hj)
  | tup vs cs hl hr ih =>
    simp only [FV.ren, FV.renL_eq]
    congr 1
    refine List.ext_getElem? fun j => ?_
    rw [List.getElem?_map]
    cases hj : cs[j]? with
    | none => rfl
    | some y => have hv : j < vs.size := by rw [hl]; exact (List.getElem?_eq_some_iff.1 hj).1
                exact congrArg some (ih j vs[j] y (by simp [hv]) hj)
theorem op_alloc_res {t F : Nat} {i : TyI} (hT : TabOK P T) (ho : o.op = .alloc t) (hd : dstB nt o.dst = true) (ht : T t = some i) (hF : s.obj F = some .res) : OpTo P nt o s ((s.setObj F (some (.box i.zero))).putO o.dst (some (.box F 0))) := by
  intro ro W0 D0 D φ a w hI K Q hK
  refine op_alloc hT ho hd ht ro W0 D0 D φ a w hI K Q fun D' φ' a' w' hI' => ?_
  have hFφ : φ F = .bool false := (hI.objs F .res hF).2.2
  have hFn : F < s.nxt := (hI.objs F .res hF).1
  let ρ : Nat → Nat := fun n => if n = F then s.nxt else n
  have hρ : ∀ n, n ≠ F → ρ n = n := fun n hn => if_neg hn
  have hρF : ρ F = s.nxt := if_pos rfl
  obtain ⟨z1, z2, z3⟩ := zrepL_ok (hT.ty ht).info.choose_spec.choose_spec.2.2.2.2
  have hzr : FV.renL ρ i.zero = i.zero := by
    rw [FV.renL_eq]
    refine List.ext_getElem? fun j => ?_
    rw [List.getElem?_map]
    cases hj : i.zero[j]? with
    | none => rfl
    | some y =>
      have hlt : j < (hT.ty ht).info.choose_spec.choose.cells.toList.length := by rw [z1]; exact (List.getElem?_eq_some_iff.1 hj).1
      exact congrArg some (((z3 j _ y (List.getElem?_eq_some_iff.2 ⟨hlt, rfl⟩) hj).2 w D φ).noRes hFφ hρ)
  have hle : LeR ρ ((s.newObj (.box i.zero)).putO o.dst (some (.box s.nxt 0))) ((s.setObj F (some (.box i.zero))).putO o.dst (some (.box F 0))) := by
    have hn1 : ((s.setObj F (some (.box i.zero))).putO o.dst (some (.box F 0))).nxt = s.nxt := by cases o.dst <;> rfl
    have ho1 : ∀ id, ((s.setObj F (some (.box i.zero))).putO o.dst (some (.box F 0))).obj id = (s.setObj F (some (.box i.zero))).obj id := by intro id; cases o.dst <;> rfl
    have ho2 : ∀ id, ((s.newObj (.box i.zero)).putO o.dst (some (.box s.nxt 0))).obj id = (s.newObj (.box i.zero)).obj id := by intro id; cases o.dst <;> rfl
    refine ⟨fun tt x hx => ?_, fun id ob hob => ?_, fun id1 ob1 id2 ob2 h1 h2 he => ?_⟩
    · rw [hn1]
      have old : s.get tt = some x → s.get tt = some (x.ren ρ) ∧ x.lt s.nxt = true := fun h => by
        obtain ⟨g1, v, _, g3⟩ := hI.env tt x h
        exact ⟨by rw [g3.noRes hFφ hρ]; exact h, g1⟩
      cases hdd : o.dst with
      | none => rw [hdd] at hx; exact old hx
      | some d =>
        rw [hdd] at hx
        simp only [ASt.putO, ASt.get_put] at hx ⊢
        by_cases hdt : d = tt
        · rw [if_pos hdt] at hx ⊢
          cases hx
          exact ⟨by simp [FV.ren, hρF], by simp [FV.lt]; exact hFn⟩
        · rw [if_neg hdt] at hx ⊢; exact old hx
    · rw [hn1, ho2]
      rw [ho1, ASt.obj_setObj] at hob
      rw [ASt.obj_newObj]
      by_cases hid : F = id
      · subst hid
        rw [if_pos rfl] at hob
        cases hob
        rw [hρF, if_pos rfl]
        refine ⟨by simp only [AObj.ren, hzr], hFn, ?_⟩
        exact z2 s.nxt
      · rw [if_neg hid] at hob
        obtain ⟨g1, g2, g3⟩ := hI.objs id ob hob
        rw [hρ id (fun e => hid e.symm), if_neg (by omega)]
        refine ⟨?_, g1, g2⟩
        rw [hob]
        congr 1
        cases ob with
        | box cs =>
          obtain ⟨b, vs, e, h1, h2, h3, h4⟩ := g3
          simp only [AObj.ren, FV.renL_eq]
          congr 1
          refine List.ext_getElem? fun j => ?_
          rw [List.getElem?_map]
          cases hj : cs[j]? with
          | none => rfl
          | some y =>
            have hlt : j < vs.size := by rw [h3]; exact (List.getElem?_eq_some_iff.1 hj).1
            exact (congrArg some ((h4 j vs[j] y (by simp [hlt]) hj).2.noRes hFφ hρ)).symm
        | anc v x => exact congrArg (AObj.anc v) (FRep.noRes hFφ hρ g3).symm
        | _ => rfl
    · rw [ho1, ASt.obj_setObj] at h1 h2
      have lt1 : id1 < s.nxt := by
        by_cases h : F = id1
        · omega
        · rw [if_neg h] at h1; exact (hI.objs id1 ob1 h1).1
      have lt2 : id2 < s.nxt := by
        by_cases h : F = id2
        · omega
        · rw [if_neg h] at h2; exact (hI.objs id2 ob2 h2).1
      simp only [ρ] at he
      split at he <;> split at he <;> omega
  obtain ⟨φ2, hI2⟩ := Le.inv ⟨ρ, hle⟩ hI'
  exact hK D' φ2 a' w' hI2
theorem D_alloc {t F : Nat} {i : TyI} (hT : TabOK P T) (hg : guardT ops s o = true) (ho : o.op = .alloc t) (hd : dstB nt o.dst = true) (ht : T t = some i) (hF : s.obj F = some .res) :
    StepOK P nt ops o s ⟨some (.box F 0), false, [], [F]⟩ ((s.setObj F (some (.box i.zero))).putO o.dst (some (.box F 0))) := by
  have hb : ((s.setObj F (some (.box i.zero))).putO o.dst (some (.box F 0))).obj F = some (.box i.zero) := by
    have : ((s.setObj F (some (.box i.zero))).putO o.dst (some (.box F 0))).obj F = (s.setObj F (some (.box i.zero))).obj F := by cases o.dst <;> rfl
    rw [this, ASt.obj_setObj, if_pos rfl]
  refine StepOK.mkL hg (by cases hd : o.dst <;> rfl) (by cases hd : o.dst <;> rfl) (by simp only [List.map_cons, List.map_nil, hb]; cases hd : o.dst <;> rfl) fun s1 h1 h2 => ?_
  have h8 := op_alloc_res (s := s1) hT ho hd ht (by rw [h2 F (by simp)]; exact hF)
  refine h8.ext (fun t => ?_) (fun id => ?_) ?_
  · cases hd : o.dst <;> rfl
  · simp only [List.map_cons, List.map_nil, hb]; cases hd : o.dst <;> rfl
  · cases hd : o.dst <;> rfl
end
end Go.Abs
namespace Go.Abs
open Go.RowKit Go.ChangeShapes
set_option linter.unusedVariables false
section
variable {H : Type} {enc : TypeId × Value → H} {P : Program} {W : World}
theorem cells_slice {t el : TypeId} {v : Value} {r : Reach} {b : Nat} (ht : P.underlying t = some (.slice el)) (h : Value.okWide P W r b t v) : v.cells = #[v] := by
  cases v <;> first | rfl | (simp [Value.okWide, ht, Cell.okWide, Cell.ok] at h)
end
end Go.Abs
namespace Go.Abs
set_option linter.unusedVariables false
def eaten (t : List Int) (p : Int) (h : Nat) : Int := sumI ((t.take h).map fun n => eatI n p)
theorem eaten_succ {t : List Int} {h : Nat} (hh : h < t.length) (p : Int) : eaten t p (h + 1) = eaten t p h + eatI (t.getD h 0) p := by
  unfold eaten
  rw [List.take_add_one, List.map_append, sumI_append, List.getD_eq_getElem?_getD]
  simp [hh, sumI]
theorem state_def (b : Batch) (t : List Int) (h : Nat) : stateI b t h = ⟨max 0 (b.rough - eaten t b.polish h), max 0 (b.thick - eaten t b.eat h)⟩ := rfl
section
variable {d : Drum}
theorem thin_bd (d : Drum) (b : Batch) : -1 ≤ thinI d b ∧ thinI d b ≤ d.hours.toNat := by
  unfold thinI
  rcases lastI_spec (fun h => decide ((boundsI d b h).thick.low ≥ b.least)) (d.hours.toNat + 1) with ⟨h1, h2⟩ | ⟨n, h1, h2, h3, h4⟩ <;> rw [h1] <;> omega
end
end Go.Abs
namespace Go.Abs
open Go.RowKit
set_option linter.unusedVariables false
section
variable {P : Program} {T : Nat → Option TyI} {nt : Nat} {s : ASt} {o : Oper} {ops : Array Oper}
theorem op_append_nil1 {t e sz : Nat} {x0 x : Operand} {ti ei : TyI} {ys : List (List PV)} (hT : TabOK P T) (ho : o.op = .call { callee := .builtin .append, args := #[x0, x], argTypes := #[t, t] }) (hd : dstB nt o.dst = true)
    (ht : T t = some ti) (hk : ti.kind = .slice e) (he : T e = some ei) (hpos : Nat.blt 0 ei.size = true) (hzl : Nat.beq ei.zero.length ei.size = true) (hx0 : s.ev x0 = some .nils) (hsz : Nat.beq sz ei.size = true)
    (hy : s.srcOf x = some ys) (hyl : ∀ y ∈ ys, y.length = sz) (hmax : ys.length ≤ 1099511627776) (hby : Nat.ble ei.bytes 128 = true) :
    OpTo P nt o s ((s.newObj (.arr e sz ys)).putO o.dst (some (.arr s.nxt))) := by
  intro ro W0 D0 D φ a w hI K Q hK
  have hs : sz = ei.size := Nat.eq_of_beq_eq_true hsz
  have hp : 0 < sz := by rw [hs]; simpa using hpos
  have hzl' := Nat.eq_of_beq_eq_true hzl
  have hby' := Nat.le_of_ble_eq_true hby
  obtain ⟨info, z, i1, i2, i3, i4, i5⟩ := (hT.ty he).info
  have hund := (hT.ty ht).slice hk
  obtain ⟨ad, m, c, hvx, hm, hsrc⟩ := hI.src hy hyl hp
  have hv0 : a.eval x0 = .slice none 0 0 := by
    have := (hI.ev hx0).2
    generalize a.eval x0 = v at this
    cases this; rfl
  have hzc : z.cells.size = sz := by
    have := (zrepL_ok i5).1
    simp at this; omega
  have hbytes : (0 + ys.length) * ei.bytes ≤ 140737488355328 := by
    rw [Nat.zero_add]
    have := Nat.mul_le_mul hmax hby'
    omega
  have hml : 0 + ys.length ≤ maxLen := by simp only [maxLen]; omega
  have hown : w.ownsRow w.heap.size e sz (.slice none 0 0) 0 [] := World.ownsRow_nil _ _ _ _
  have key : ∃ v' w', (Builtin.append_ #[t, t] o.type #[.slice none 0 0, a.eval x]).run P w = .ok v' w' ∧ Below w.heap.size w w' ∧ RRep w.heap.size w' D v' (.own e sz ys) := by
    have nilcase : ∀ c', (Builtin.append_ #[t, t] o.type #[.slice none 0 0, .slice ad 0 c']).run P w = .ok (.slice none 0 0) w := fun c' => run_append_zero w hund i1 none ad 0 0 c' (Nat.le_refl _)
    have nilrep : RRep w.heap.size w D (.slice none 0 0) (.own e sz []) := ⟨[], hown, ⟨by simp, by simp⟩, fun b hb => by simp [blk] at hb⟩
    rcases hsrc with rfl | ⟨b, news, rfl, hnl, hnc, hnr⟩
    · refine ⟨_, w, ?_, Below.refl _ _, nilrep⟩
      rw [hvx, hm]; exact nilcase c
    · cases ys with
      | nil =>
        refine ⟨_, w, ?_, Below.refl _ _, nilrep⟩
        rw [hvx, hm]; exact nilcase c
      | cons y ys =>
        have hm0 : 0 < m := by rw [hm]; simp
        obtain ⟨v', w', hr, h2, h3, h4⟩ := run_append_blk (P := P) w (ty := o.type) (c := c) hund i1 i4 (by rw [i2, hs]) i3 hzc hp hown (by rw [hm]; exact hnl) hnc (hnr.oneCell hnl hp) hm0 (by rw [hm]; exact hml) (by rw [hm]; exact hbytes) (Nat.le_refl _)
        have hbel : Below w.heap.size w w' := (Below.refl _ _).grown h3 (Nat.le_refl _) (fun k hk => by simp [Value.ownBlock] at hk)
        refine ⟨v', w', by rw [hvx]; exact hr, hbel, [] ++ news, by rw [Nat.zero_add, hm] at h2; exact h2, ?_, fun b hb hDb => ?_⟩
        · rw [List.nil_append]; exact hnr.mono (fun b hb => hbel.block b (hI.dlt b hb)) (fun _ h => h)
        · rcases h4 b hb with h5 | ⟨h5, _⟩
          · simp [blk] at h5
          · have := hI.dlt b hDb; omega
  obtain ⟨v', w', hr, hbel, hrr⟩ := key
  have hrun : (execOp a.eval o).run P w = .ok (.value v') w' := by
    simp only [execOp, ho, resolve, invoke, builtin, Sem.run_bind, Sem.run_pure, Result.andThen_ok, List.map_toArray, List.map_cons, List.map_nil, hv0, hr]
  refine wpIn_of (by rw [ho]; intro c hc; cases hc) ?_
  unfold Oper.wp
  rw [hrun]
  obtain ⟨φ', hI'⟩ := hI.bind hbel (fun _ h => h) (fun _ h => .inl h) hrr o.dst hd
  exact hK _ _ _ _ hI'
end
end Go.Abs
namespace Go.Abs
open Go.RowKit
set_option linter.unusedVariables false
section
variable {P : Program} {T : Nat → Option TyI} {nt : Nat} {s : ASt} {o : Oper} {ops : Array Oper}
theorem equal_bool {t : Nat} {b c : Bool} (hu : P.underlying t = some .bool) (w : World) : (Op.equal t (.bool b) (.bool c)).run P w = .ok (b == c) w := by
  show (Op.equalIn (_ + 1) t (.bool b) (.bool c)).run P w = _
  rw [Op.equalIn]
  simp [underlying, hu]
theorem op_neqB {t t' : TypeId} {x y : Operand} {ti : TyI} {b c : Bool} (hT : TabOK P T) (ht : T t = some ti) (hk : ti.kind = .bool) (ho : o.op = .binOp .neq t x y t') (hd : dstB nt o.dst = true)
    (hx : s.ev x = some (.pv (.bool b))) (hy : s.ev y = some (.pv (.bool c))) : OpTo P nt o s (s.putO o.dst (some (.pv (.bool (b != c))))) :=
  OpTo.value hd fun W0 D0 D φ a w hI => ⟨.bool (b != c), by
    simp [execOp, ho, hI.ev_bool hx, hI.ev_bool hy, eqGuard, binOp, equal_bool ((hT.ty ht).bool hk)]; cases b <;> cases c <;> rfl, fun x' h => by cases h; exact ⟨rfl, .pv _ _ (.bool _)⟩⟩
section
variable {Q : Exit → ASt → Prop} {c : Code} {rest : List Oper} {b i id e sz : Nat} {fs : List FV} {es : List (List PV)}
end
end
end Go.Abs
namespace Go.Abs
set_option linter.unusedVariables false
def winR1 (d : Drum) (b : Batch) : Span := if smoothI d b < 0 ∨ thinI d b < 0 ∨ smoothI d b > thinI d b then ⟨1, 0⟩ else ⟨smoothI d b, thinI d b⟩
def winR (d : Drum) : List Span := d.batches.map (winR1 d)
theorem span_ext {s t : Span} (h : ∀ n, inS s n ↔ inS t n) : openS s = openS t ∧ (openS s = true → s = t) := by
  have e : openS s = openS t := by
    rw [Bool.eq_iff_iff, open_iff, open_iff]
    exact ⟨fun ⟨n, hn⟩ => ⟨n, (h n).1 hn⟩, fun ⟨n, hn⟩ => ⟨n, (h n).2 hn⟩⟩
  refine ⟨e, fun ho => ?_⟩
  have ho' := ho
  rw [e] at ho'
  simp only [openS, decide_eq_true_eq] at ho ho'
  have h1 := (h s.low).1 ⟨Int.le_refl _, ho⟩
  have h2 := (h s.high).1 ⟨ho, Int.le_refl _⟩
  have h3 := (h t.low).2 ⟨Int.le_refl _, ho'⟩
  have h4 := (h t.high).2 ⟨ho', Int.le_refl _⟩
  simp only [inS] at *
  cases s; cases t
  simp only [Span.mk.injEq] at *
  omega
theorem win1_iff {d : Drum} {b : Batch} {n : Int} : inS (winP1 d b) n ↔ 0 ≤ smoothI d b ∧ smoothI d b ≤ n ∧ n ≤ thinI d b := by
  unfold winP1
  split
  · simp only [inS]; constructor <;> intro h <;> omega
  · simp only [inS]; constructor <;> intro h <;> omega
theorem win1_same {d : Drum} {b : Batch} {n : Int} : inS (winR1 d b) n ↔ inS (winP1 d b) n := by
  rw [win1_iff]
  unfold winR1
  split
  · simp only [inS]; constructor <;> intro h <;> omega
  · simp only [inS]; constructor <;> intro h <;> omega
theorem win_same {d : Drum} {p : Nat → Bool} {n : Int} : inS (meetL (pick (winR d) p)) n ↔ inS (meetL (pick (winP d) p)) n := by
  rw [pick_iff, pick_iff]
  refine and_congr_right fun _ => ?_
  simp only [winR, winP, List.getElem?_map, Option.map_eq_some_iff]
  constructor
  · rintro h i s ⟨b, hb, rfl⟩ hp; exact win1_same.1 (h i _ ⟨b, hb, rfl⟩ hp)
  · rintro h i s ⟨b, hb, rfl⟩ hp; exact win1_same.2 (h i _ ⟨b, hb, rfl⟩ hp)
theorem win_open (d : Drum) (p : Nat → Bool) : openS (meetL (pick (winR d) p)) = openS (meetL (pick (winP d) p)) ∧ (openS (meetL (pick (winP d) p)) = true → meetL (pick (winR d) p) = meetL (pick (winP d) p)) := by
  have h := span_ext (s := meetL (pick (winR d) p)) (t := meetL (pick (winP d) p)) fun n => win_same
  exact ⟨h.1, fun ho => h.2 (by rw [h.1]; exact ho)⟩
end Go.Abs
namespace Go.Abs
set_option linter.unusedVariables false
def stepL (all : List (List Int)) : List (List Int) := all.flatMap fun l => (List.range ((runsI l).toNat + 1)).map fun m : Nat => l ++ [(m : Int)]
def bfsI : Nat → List (List Int)
  | 0 => [[]]
  | k + 1 => stepL (bfsI k)
def iterL : Nat → List (List Int) → List (List Int)
  | 0, a => a
  | k + 1, a => iterL k (stepL a)
theorem iter_flat : ∀ (k : Nat) (a : List (List Int)), iterL k a = a.flatMap (levelI k)
  | 0, a => by simp [iterL, levelI, List.flatMap_singleton']
  | k + 1, a => by
    rw [iterL, iter_flat k, stepL, List.flatMap_assoc]
    congr 1
    funext l
    rw [List.flatMap_map]; rfl
theorem iter_succ : ∀ (k : Nat) (a : List (List Int)), iterL (k + 1) a = stepL (iterL k a)
  | 0, a => rfl
  | k + 1, a => by rw [iterL, iter_succ k (stepL a)]; rfl
theorem bfs_level (k : Nat) : bfsI k = levelI k [] := by
  have : bfsI k = iterL k [[]] := by
    induction k with
    | zero => rfl
    | succ k ih => rw [bfsI, ih, iter_succ]
  rw [this, iter_flat]; simp
end Go.Abs
namespace Go.Abs
set_option linter.unusedVariables false
theorem lists_mem (below : Nat) : ∀ (m fr : Nat) (l : List Int), l ∈ listsI below m fr ↔ l.length = m ∧ l.Pairwise (· < ·) ∧ ∀ x ∈ l, (fr : Int) ≤ x ∧ x < (below : Int)
  | 0, fr, l => by
    simp only [listsI, List.mem_singleton]
    constructor
    · rintro rfl; simp
    · rintro ⟨h, _⟩; exact List.length_eq_zero_iff.1 h
  | m + 1, fr, l => by
    simp only [listsI, List.mem_flatMap, List.mem_range'_1, List.mem_map]
    constructor
    · rintro ⟨n, hn, r, hr, rfl⟩
      obtain ⟨h1, h2, h3⟩ := (lists_mem below m (n + 1) r).1 hr
      refine ⟨by simp [h1], List.pairwise_cons.2 ⟨fun x hx => by have := (h3 x hx).1; omega, h2⟩, fun x hx => ?_⟩
      rcases List.mem_cons.1 hx with rfl | hx
      · omega
      · have := h3 x hx; omega
    · rintro ⟨h1, h2, h3⟩
      match l, h1, h2, h3 with
      | x :: r, h1, h2, h3 =>
        have hx := h3 x (by simp)
        rw [List.pairwise_cons] at h2
        refine ⟨x.toNat, by omega, r, (lists_mem below m (x.toNat + 1) r).2 ⟨by simpa using h1, h2.2, fun y hy => ?_⟩, ?_⟩
        · have := h2.1 y hy; have := h3 y (by simp [hy]); omega
        · rw [show ((x.toNat : Nat) : Int) = x by omega]
theorem orderN_mem {n : Nat} {l : List Int} : l ∈ orderN n ↔ l.length ≤ n ∧ l.Pairwise (· < ·) ∧ ∀ x ∈ l, 0 ≤ x ∧ x < (n : Int) := by
  simp only [orderN, List.mem_flatMap, List.mem_range, lists_mem]
  constructor
  · rintro ⟨k, hk, h1, h2, h3⟩; exact ⟨by omega, h2, h3⟩
  · rintro ⟨h1, h2, h3⟩; exact ⟨l.length, by omega, rfl, h2, h3⟩
theorem orderA_mem {n : Nat} {l : List Int} : l ∈ orderA n ↔ l ∈ orderN n := by
  simp only [orderA, orderN, List.mem_flatMap, List.mem_reverse]
end Go.Abs
namespace Go.Abs
open Go.RowKit
set_option linter.unusedVariables false
section
variable {P : Program} {T : Nat → Option TyI} {nt : Nat} {s : ASt} {o : Oper} {ops : Array Oper}
theorem evB_mapO {s : ASt} : ∀ {l : List Operand} {ys : List FV} {ps : List PV}, evL s l = some ys → mapO (s.pvOf true 5) ys = some ps → mapO s.evB l = some ps
  | [], ys, ps, h, hp => by simp only [evL, Option.some.injEq] at h; subst h; exact hp
  | x :: l, ys, ps, h, hp => by
    unfold evL at h
    split at h
    · rename_i y ys' h1 h2
      cases h
      unfold mapO at hp
      split at hp
      · rename_i q qs q1 q2
        cases hp
        have := evB_mapO h2 q2
        unfold mapO
        rw [this]
        have : s.evB x = some q := by unfold ASt.evB; rw [h1]; exact q1
        rw [this]
      · cases hp
    · cases h
theorem D_callB {g id : Nat} {ob : AObj} {args : Array Operand} {ts : Array TypeId} {ys : List FV} {ps : List PV} {p : PV} (hg : guardT ops s o = true) (ho : o.op = .call { callee := .value (.func g), args, argTypes := ts }) (hd : dstB nt o.dst = true) (ha : evL s args.toList = some ys)
    (hob : s.obj id = some ob) (hx : ∀ s1 : ASt, s1.obj id = some ob → mapO (s1.pvOf true 5) ys = some ps) (hc : ACalls P g ps (fun r => r = .pv p)) (hfl : (RV.pv p).flat = true) : StepOK P nt ops o s ⟨some (.pv p), false, [id], []⟩ (s.putO o.dst (some (.pv p))) :=
  StepOK.mkP hg fun s1 h1 h2 => op_callB (r := .pv p) (g := g) (caps := []) (ps := ps) ho hd rfl
    (evB_mapO (by rw [evL_agree fun x hx => ev_agree h1 (by simp [ho, Op.operands, Call.operands]; right; simpa using hx)]; exact ha) (hx s1 (by rw [h2 id (by simp)]; exact hob))) (by rw [List.append_nil]; exact hc) hfl
end
end Go.Abs
namespace Go.Abs
open Go.Proofs
set_option linter.unusedVariables false
set_option linter.unusedSimpArgs false
set_option maxRecDepth 100000
theorem f116 (d : Drum) (n : Int) (hb : d.batches.length ≤ 1000) : ACalls Tryz.prog 116 [vi n, .ptr (eDrumC d)] (fun r => r = .pv (.bool (!inB n 0 (d.batches.length - 1)))) := by
  have k87 := f87 n 0 (d.batches.length - 1)
  refine ACalls.of_body hT Tryz.func116 rfl (by kernel_rfl) rfl ?_
  (repeat' (first | refine stq ?_ | (refine AL_do2 rfl ?_; first | refine ⟨_, op_call1 rfl rfl rfl rfl (k87), nrmA rfl ?_⟩) | (with_reducible refine AL_id ?_); (fail_if_success (refine AL_glit rfl rfl rfl (by first | exact .inl (by with_reducible rfl) | exact .inr (by with_reducible rfl)) ?_)); first | refine AL_gdec rfl rfl rfl (fun hg => ?_) (fun hg => ?_) | refine AL_gnot rfl rfl rfl (fun hg => ?_) (fun hg => ?_) | refine AL_gcases rfl rfl rfl (fun hg => ?_) (fun hg => ?_)))
  exact ⟨_, _, rfl, rfl, rfl⟩
def badNo (d : Drum) (n : Int) : Bool := !inB n 0 (d.batches.length - 1)
def fineS (d : Drum) (l : List Int) : Bool := decide (l.length = d.batches.length) && !l.any (badNo d)
theorem lent27 (d : Drum) (l : List Int) (s1 : ASt) (h : s1.obj 0 = some (.box ((eDrumC d).map FV.pv))) : mapO (s1.pvOf true 5) [.pv (eInts l), .fn 116 [.box 0 0]] = some [eInts l, .fn 116 [.ptr (eDrumC d)]] := by
  simp only [mapO, ASt.pvOf, h, eDrumC, List.map_cons, List.map_nil, List.drop_zero]
def sortsE (d : Drum) (l : List Int) : Bool × Int := if errE d (fineS d l) = 0 then (sortsP (winP d) l, 0) else (false, errE d (fineS d l))
set_option maxHeartbeats 4000000 in
theorem f44 (d : Drum) (l : List Int) (hd : drumOK d) (hl : l.length ≤ 1000) (hb : d.batches.length ≤ 1000) : ACalls Tryz.prog 44 [eDrum d, eInts l] (fun r => r = .tup [.bool (sortsE d l).1, vi (sortsE d l).2]) := by
  have k84 := f84 d (fineS d l) hd
  have k115 := c115 l 116 [.ptr (eDrumC d)] (badNo d) hl (fun x _ => f116 d x hb)
  refine ACalls.of_body hT Tryz.func44 rfl (by kernel_rfl) rfl ?_
  by_cases he : errE d (fineS d l) = 0
  · obtain ⟨hP, hfine, hne, ha⟩ := asked_ok he
    rw [ha] at k84
    have hfine' := hfine
    unfold fineS at hfine'
    simp only [Bool.and_eq_true, decide_eq_true_eq, Bool.not_eq_true'] at hfine'
    obtain ⟨hlen, hany⟩ := hfine'
    have hbl := hP.b1
    have h0 : ∀ x ∈ l, 0 ≤ x := fun x hx => by
      have := List.any_eq_false.1 hany x hx
      unfold badNo inB at this
      simp at this
      omega
    rw [hfine] at k84
    have k84 : ACalls Tryz.prog 84 [eDrum d, .bool true] (fun r => r = .tup [.sl ((filledL d).map (eFilled d)), vi 0]) := k84
    rw [hany] at k115
    (repeat (refine stq ?_))
    (repeat' (first | refine DG_next (StepOK.skipU rfl rfl) ?_ | refine DG_next (D_callB (id := 0) (ob := .box ((eDrumC d).map FV.pv)) (ys := [.pv (eInts l), .fn 116 [.box 0 0]]) rfl rfl rfl rfl rfl (lent27 d l) k115 rfl) ?_ | ((refine DG_cmp hT rfl (fun hg => ?_) (fun hg => ?_)) <;> (try (exfalso; omega))) | refine DG_next (D_shl rfl rfl rfl rfl rfl (by omega)) ?_ | refine DG_next (D_shr rfl rfl rfl rfl rfl (by omega)) ?_ | refine sdq ?_ | refine DG_next (D_call_tup rfl rfl rfl rfl rfl (k84)) ?_))
    refine DG_end hM (by kernel_rfl) ?_
    (repeat (refine stq ?_))
    refine AL_doS rfl (op_callXs (objs := []) (n := 0) [] [] [] (fun av => f98 d hP hne) rfl rfl rfl rfl (by (repeat' (first | exact trivial | refine And.intro ?_ ?_)); all_goals (first | rfl | decide)) rfl (by (repeat' (first | exact trivial | refine And.intro ?_ ?_)); all_goals (first | rfl | decide)) rfl trivial (by simp) (fun av sf h => trivial)) ?_
    rintro s' ⟨av, sf, ⟨m, rfl⟩, rfl⟩
    have k117 := f117 m (winP d) l (by rw [winP_len]; omega) (by omega) h0
    (repeat (refine stq ?_))
    refine AL_doS rfl (op_callXs (objs := [(0, memoO (memoF (winP d)) m)]) (n := 1) [(0, 1)] [0] [] (fun av => k117) rfl rfl rfl rfl (by (repeat' (first | exact trivial | refine And.intro ?_ ?_)); all_goals (first | rfl | decide)) rfl (by (repeat' (first | exact trivial | refine And.intro ?_ ?_)); all_goals (first | rfl | decide)) rfl trivial (by simp) (fun av sf h => by subst h; exact ⟨.inr ⟨_, _, _, _, _, rfl, rfl⟩, trivial⟩)) ?_
    rintro s' ⟨av2, sf, rfl, rfl⟩
    (repeat (refine stq ?_))
    exact ⟨_, _, rfl, rfl, by unfold sortsE; rw [if_pos he]⟩
  · rw [asked_err he] at k84
    by_cases hlen : (l.length : Int) = d.batches.length
    · have hf : fineS d l = !l.any (badNo d) := by unfold fineS; rw [decide_eq_true (by omega)]; rfl
      rw [hf] at k84 he
      have k84 : ACalls Tryz.prog 84 [eDrum d, .bool (!l.any (badNo d))] (fun r => r = .tup [.sl [], vi (errE d (!l.any (badNo d)))]) := k84
      (repeat (refine stq ?_))
      (repeat' (first | refine DG_next (StepOK.skipU rfl rfl) ?_ | refine DG_next (D_callB (id := 0) (ob := .box ((eDrumC d).map FV.pv)) (ys := [.pv (eInts l), .fn 116 [.box 0 0]]) rfl rfl rfl rfl rfl (lent27 d l) k115 rfl) ?_ | ((refine DG_cmp hT rfl (fun hg => ?_) (fun hg => ?_)) <;> (try (exfalso; omega))) | refine DG_next (D_shl rfl rfl rfl rfl rfl (by omega)) ?_ | refine DG_next (D_shr rfl rfl rfl rfl rfl (by omega)) ?_ | refine sdq ?_ | refine DG_next (D_call_tup rfl rfl rfl rfl rfl (k84)) ?_))
      refine DG_end hM (by kernel_rfl) ?_
      (repeat (refine stq ?_))
      refine AW_if rfl (fun hc => ?_) (fun hc => absurd (by omega) hc)
      (repeat (refine stq ?_))
      exact ⟨_, _, rfl, rfl, by unfold sortsE; rw [hf, if_neg he]⟩
    · have hf : fineS d l = false := by unfold fineS; rw [decide_eq_false (by omega)]; rfl
      rw [hf] at k84 he
      have k84 : ACalls Tryz.prog 84 [eDrum d, .bool false] (fun r => r = .tup [.sl [], vi (errE d false)]) := k84
      (repeat (refine stq ?_))
      (repeat' (first | refine DG_next (StepOK.skipU rfl rfl) ?_ | ((refine DG_cmp hT rfl (fun hg => ?_) (fun hg => ?_)) <;> (try (exfalso; omega))) | refine DG_next (D_shl rfl rfl rfl rfl rfl (by omega)) ?_ | refine DG_next (D_shr rfl rfl rfl rfl rfl (by omega)) ?_ | refine sdq ?_ | refine DG_next (D_call_tup rfl rfl rfl rfl rfl (k84)) ?_))
      refine DG_end hM (by kernel_rfl) ?_
      (repeat (refine stq ?_))
      refine AW_if rfl (fun hc => ?_) (fun hc => absurd (by omega) hc)
      (repeat (refine stq ?_))
      exact ⟨_, _, rfl, rfl, by unfold sortsE; rw [hf, if_neg he]⟩
end Go.Abs
