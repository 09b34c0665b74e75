/- Lemmas. -/
import Derived.Test.YtmplfjolcdlipaaGreatDoorNcA
import Derived.Test.YtmplfjolcdlipaaGreatDoorNcB
import Derived.Test.YtmplfjolcdlipaaGreatDoorNcC
import Derived.Test.YtmplfjolcdlipaaGreatDoorNcD
import Derived.Test.YtmplfjolcdlipaaGreatDoorNcE
import Derived.Test.YtmplfjolcdlipaaGreatDoorNcF
import Derived.Test.YtmplfjolcdlipaaGreatDoorNcG
import Derived.Test.YtmplfjolcdlipaaGreatDoorNcH
import Derived.Test.YtmplfjolcdlipaaGreatDoorDrA
import Derived.Test.YtmplfjolcdlipaaGreatDoorDrB
import Derived.Test.YtmplfjolcdlipaaGreatDoorDrC
import Derived.Test.YtmplfjolcdlipaaGreatDoorFA
import Derived.Test.YtmplfjolcdlipaaGreatDoorNcI
import Derived.Test.YtmplfjolcdlipaaGreatDoorNcJ
import Derived.Test.YtmplfjolcdlipaaGreatDoorNcK
import Derived.Test.YtmplfjolcdlipaaGreatDoorSh
import Derived.Test.YtmplfjolcdlipaaGreatDoorDrO
import Derived.Test.YtmplfjolcdlipaaGreatDoorDrD
import Derived.Test.YtmplfjolcdlipaaGreatDoorDrE
import Derived.Test.YtmplfjolcdlipaaGreatDoorDrF
import Derived.Test.YtmplfjolcdlipaaGreatDoorDrP
import Derived.Test.YtmplfjolcdlipaaGreatDoorDrQ
import Derived.Test.YtmplfjolcdlipaaGreatDoorDrR
import Derived.Test.YtmplfjolcdlipaaGreatDoorDrS
import Derived.Test.YtmplfjolcdlipaaGreatDoorDrU
import Derived.Test.YtmplfjolcdlipaaGreatDoorDrG
import Derived.Test.YtmplfjolcdlipaaGreatDoorDrV
import Derived.Test.YtmplfjolcdlipaaGreatDoorDrH
import Derived.Test.YtmplfjolcdlipaaGreatDoorDrI
import Derived.Test.YtmplfjolcdlipaaGreatDoorDrJ
import Derived.Test.YtmplfjolcdlipaaGreatDoorDrK
import Derived.Test.YtmplfjolcdlipaaGreatDoorDrL
import Derived.Test.YtmplfjolcdlipaaGreatDoorDrM
import Derived.Test.YtmplfjolcdlipaaGreatDoorDrN
import Derived.Test.YtmplfjolcdlipaaGreatDoorDrW
import Derived.Test.YtmplfjolcdlipaaGreatDoorDrBK
import Derived.Test.YtmplfjolcdlipaaGreatDoorDrBJ
import Derived.Test.YtmplfjolcdlipaaGreatDoorDrBL
set_option linter.unusedVariables false
set_option linter.unusedSimpArgs false
namespace Go.Abs
open Go.RowKit
set_option linter.unusedVariables false
section
variable {P : Program} {T : Nat → Option TyI} {nt : Nat} {s : ASt} {o : Oper} {ops : Array Oper} {rest : List Oper} {Q : Exit → ASt → Prop}
theorem AW_res {c : Code} (h : AW P nt c Q (s.newObj .res)) : AW P nt c Q s := by
  intro ro W0 D0 D φ a w hr hI
  refine h ro W0 D0 D (addH φ s.nxt (.bool false)) a w hr ?_
  exact hI.new (Below.refl _ _) (fun _ h => h) (fun _ h => .inl h) .res (.bool false) rfl (addH_new _ _ _) (by intro b hb; simp [blk] at hb)
theorem FRep.noRes {w : World} {D : Nat → Prop} {φ : Nat → Value} {F : Nat} (hF : φ F = .bool false) {ρ : Nat → Nat} (hρ : ∀ n, n ≠ F → ρ n = n) {v : Value} {x : FV} (h : FRep w D φ v x) : x.ren ρ = x := by
  induction h with
  | pv v p h => rfl
  | box id off b h => simp only [FV.ren]; rw [hρ id (by rintro rfl; rw [hF] at h; cases h)]
  | nils => rfl
  | arr id n c a h => simp only [FV.ren]; rw [hρ id (by rintro rfl; rw [hF] at h; cases h)]
  | aptr id sz i off g n c h => simp only [FV.ren]; rw [hρ id (by rintro rfl; rw [hF] at h; cases h)]
  | mp id r h => simp only [FV.ren]; rw [hρ id (by rintro rfl; rw [hF] at h; cases h)]
  | yld id l h => simp only [FV.ren]; rw [hρ id (by rintro rfl; rw [hF] at h; cases h)]
  | sub id sz lo n g m c h hc => simp only [FV.ren]; rw [hρ id (by rintro rfl; rw [hF] at h; cases h)]
  | fn f vs cs hl hr ih =>
    simp only [FV.ren, FV.renL_eq]
    congr 1
    refine List.ext_getElem? fun j => ?_
    rw [List.getElem?_map]
    cases hj : cs[j]? with
    | none => rfl
    | some y => have hv : j < vs.size := by rw [hl]; exact (List.getElem?_eq_some_iff.1 hj).1
                exact congrArg some (ih j vs[j] y (by simp [hv]) hj)
  | agg vs cs hl hr ih =>
    simp only [FV.ren, FV.renL_eq]
    congr 1
    refine List.ext_getElem? fun j => ?_
    rw [List.getElem?_map]
    cases hj : cs[j]? with
    | none => rfl
    | some y => have hv : j < vs.size := by rw [hl]; exact (List.getElem?_eq_some_iff.1 hj).1
                exact congrArg some (ih j vs[j] y (by simp [hv]) hj)
  | tup vs cs hl hr ih =>
    simp only [FV.ren, FV.renL_eq]
    congr 1
    refine List.ext_getElem? fun j => ?_
    rw [List.getElem?_map]
    cases hj : cs[j]? with
    | none => rfl
    | some y => have hv : j < vs.size := by rw [hl]; exact (List.getElem?_eq_some_iff.1 hj).1
                exact congrArg some (ih j vs[j] y (by simp [hv]) hj)
theorem op_alloc_res {t F : Nat} {i : TyI} (hT : TabOK P T) (ho : o.op = .alloc t) (hd : dstB nt o.dst = true) (ht : T t = some i) (hF : s.obj F = some .res) : OpTo P nt o s ((s.setObj F (some (.box i.zero))).putO o.dst (some (.box F 0))) := by
  intro ro W0 D0 D φ a w hI K Q hK
  refine op_alloc hT ho hd ht ro W0 D0 D φ a w hI K Q fun D' φ' a' w' hI' => ?_
  have hFφ : φ F = .bool false := (hI.objs F .res hF).2.2
  have hFn : F < s.nxt := (hI.objs F .res hF).1
  let ρ : Nat → Nat := fun n => if n = F then s.nxt else n
  have hρ : ∀ n, n ≠ F → ρ n = n := fun n hn => if_neg hn
  have hρF : ρ F = s.nxt := if_pos rfl
  obtain ⟨z1, z2, z3⟩ := zrepL_ok (hT.ty ht).info.choose_spec.choose_spec.2.2.2.2
  have hzr : FV.renL ρ i.zero = i.zero := by
    rw [FV.renL_eq]
    refine List.ext_getElem? fun j => ?_
    rw [List.getElem?_map]
    cases hj : i.zero[j]? with
    | none => rfl
    | some y =>
      have hlt : j < (hT.ty ht).info.choose_spec.choose.cells.toList.length := by rw [z1]; exact (List.getElem?_eq_some_iff.1 hj).1
      exact congrArg some (((z3 j _ y (List.getElem?_eq_some_iff.2 ⟨hlt, rfl⟩) hj).2 w D φ).noRes hFφ hρ)
  have hle : LeR ρ ((s.newObj (.box i.zero)).putO o.dst (some (.box s.nxt 0))) ((s.setObj F (some (.box i.zero))).putO o.dst (some (.box F 0))) := by
    have hn1 : ((s.setObj F (some (.box i.zero))).putO o.dst (some (.box F 0))).nxt = s.nxt := by cases o.dst <;> rfl
    have ho1 : ∀ id, ((s.setObj F (some (.box i.zero))).putO o.dst (some (.box F 0))).obj id = (s.setObj F (some (.box i.zero))).obj id := by intro id; cases o.dst <;> rfl
    have ho2 : ∀ id, ((s.newObj (.box i.zero)).putO o.dst (some (.box s.nxt 0))).obj id = (s.newObj (.box i.zero)).obj id := by intro id; cases o.dst <;> rfl
    refine ⟨fun tt x hx => ?_, fun id ob hob => ?_, fun id1 ob1 id2 ob2 h1 h2 he => ?_⟩
    · rw [hn1]
      have old : s.get tt = some x → s.get tt = some (x.ren ρ) ∧ x.lt s.nxt = true := fun h => by
        obtain ⟨g1, v, _, g3⟩ := hI.env tt x h
        exact ⟨by rw [g3.noRes hFφ hρ]; exact h, g1⟩
      cases hdd : o.dst with
      | none => rw [hdd] at hx; exact old hx
      | some d =>
        rw [hdd] at hx
        simp only [ASt.putO, ASt.get_put] at hx ⊢
        by_cases hdt : d = tt
        · rw [if_pos hdt] at hx ⊢
          cases hx
          exact ⟨by simp [FV.ren, hρF], by simp [FV.lt]; exact hFn⟩
        · rw [if_neg hdt] at hx ⊢; exact old hx
    · rw [hn1, ho2]
      rw [ho1, ASt.obj_setObj] at hob
      rw [ASt.obj_newObj]
      by_cases hid : F = id
      · subst hid
        rw [if_pos rfl] at hob
        cases hob
        rw [hρF, if_pos rfl]
        refine ⟨by simp only [AObj.ren, hzr], hFn, ?_⟩
        exact z2 s.nxt
      · rw [if_neg hid] at hob
        obtain ⟨g1, g2, g3⟩ := hI.objs id ob hob
        rw [hρ id (fun e => hid e.symm), if_neg (by omega)]
        refine ⟨?_, g1, g2⟩
        rw [hob]
        congr 1
        cases ob with
        | box cs =>
          obtain ⟨b, vs, e, h1, h2, h3, h4⟩ := g3
          simp only [AObj.ren, FV.renL_eq]
          congr 1
          refine List.ext_getElem? fun j => ?_
          rw [List.getElem?_map]
          cases hj : cs[j]? with
          | none => rfl
          | some y =>
            have hlt : j < vs.size := by rw [h3]; exact (List.getElem?_eq_some_iff.1 hj).1
            exact (congrArg some ((h4 j vs[j] y (by simp [hlt]) hj).2.noRes hFφ hρ)).symm
        | anc v x => exact congrArg (AObj.anc v) (FRep.noRes hFφ hρ g3).symm
        | _ => rfl
    · rw [ho1, ASt.obj_setObj] at h1 h2
      have lt1 : id1 < s.nxt := by
        by_cases h : F = id1
        · omega
        · rw [if_neg h] at h1; exact (hI.objs id1 ob1 h1).1
      have lt2 : id2 < s.nxt := by
        by_cases h : F = id2
        · omega
        · rw [if_neg h] at h2; exact (hI.objs id2 ob2 h2).1
      simp only [ρ] at he
      split at he <;> split at he <;> omega
  obtain ⟨φ2, hI2⟩ := Le.inv ⟨ρ, hle⟩ hI'
  exact hK D' φ2 a' w' hI2
theorem D_alloc {t F : Nat} {i : TyI} (hT : TabOK P T) (hg : guardT ops s o = true) (ho : o.op = .alloc t) (hd : dstB nt o.dst = true) (ht : T t = some i) (hF : s.obj F = some .res) :
    StepOK P nt ops o s ⟨some (.box F 0), false, [], [F]⟩ ((s.setObj F (some (.box i.zero))).putO o.dst (some (.box F 0))) := by
  have hb : ((s.setObj F (some (.box i.zero))).putO o.dst (some (.box F 0))).obj F = some (.box i.zero) := by
    have : ((s.setObj F (some (.box i.zero))).putO o.dst (some (.box F 0))).obj F = (s.setObj F (some (.box i.zero))).obj F := by cases o.dst <;> rfl
    rw [this, ASt.obj_setObj, if_pos rfl]
  refine StepOK.mkL hg (by cases hd : o.dst <;> rfl) (by cases hd : o.dst <;> rfl) (by simp only [List.map_cons, List.map_nil, hb]; cases hd : o.dst <;> rfl) fun s1 h1 h2 => ?_
  have h8 := op_alloc_res (s := s1) hT ho hd ht (by rw [h2 F (by simp)]; exact hF)
  refine h8.ext (fun t => ?_) (fun id => ?_) ?_
  · cases hd : o.dst <;> rfl
  · simp only [List.map_cons, List.map_nil, hb]; cases hd : o.dst <;> rfl
  · cases hd : o.dst <;> rfl
end
end Go.Abs
namespace Go.Abs
set_option linter.unusedVariables false
def eaten (t : List Int) (p : Int) (h : Nat) : Int := sumI ((t.take h).map fun n => eatI n p)
theorem eaten_succ {t : List Int} {h : Nat} (hh : h < t.length) (p : Int) : eaten t p (h + 1) = eaten t p h + eatI (t.getD h 0) p := by
  unfold eaten
  rw [List.take_add_one, List.map_append, sumI_append, List.getD_eq_getElem?_getD]
  simp [hh, sumI]
theorem state_def (b : Batch) (t : List Int) (h : Nat) : stateI b t h = ⟨max 0 (b.rough - eaten t b.polish h), max 0 (b.thick - eaten t b.eat h)⟩ := rfl
section
variable {d : Drum}
end
end Go.Abs
namespace Go.Abs
open Go.RowKit
set_option linter.unusedVariables false
section
variable {P : Program} {T : Nat → Option TyI} {nt : Nat} {s : ASt} {o : Oper} {ops : Array Oper}
theorem op_append_nil1 {t e sz : Nat} {x0 x : Operand} {ti ei : TyI} {ys : List (List PV)} (hT : TabOK P T) (ho : o.op = .call { callee := .builtin .append, args := #[x0, x], argTypes := #[t, t] }) (hd : dstB nt o.dst = true)
    (ht : T t = some ti) (hk : ti.kind = .slice e) (he : T e = some ei) (hpos : Nat.blt 0 ei.size = true) (hzl : Nat.beq ei.zero.length ei.size = true) (hx0 : s.ev x0 = some .nils) (hsz : Nat.beq sz ei.size = true)
    (hy : s.srcOf x = some ys) (hyl : ∀ y ∈ ys, y.length = sz) (hmax : ys.length ≤ 1099511627776) (hby : Nat.ble ei.bytes 128 = true) :
    OpTo P nt o s ((s.newObj (.arr e sz ys)).putO o.dst (some (.arr s.nxt))) := by
  intro ro W0 D0 D φ a w hI K Q hK
  have hs : sz = ei.size := Nat.eq_of_beq_eq_true hsz
  have hp : 0 < sz := by rw [hs]; simpa using hpos
  have hzl' := Nat.eq_of_beq_eq_true hzl
  have hby' := Nat.le_of_ble_eq_true hby
  obtain ⟨info, z, i1, i2, i3, i4, i5⟩ := (hT.ty he).info
  have hund := (hT.ty ht).slice hk
  obtain ⟨ad, m, c, hvx, hm, hsrc⟩ := hI.src hy hyl hp
  have hv0 : a.eval x0 = .slice none 0 0 := by
    have := (hI.ev hx0).2
    generalize a.eval x0 = v at this
    cases this; rfl
  have hzc : z.cells.size = sz := by
    have := (zrepL_ok i5).1
    simp at this; omega
  have hbytes : (0 + ys.length) * ei.bytes ≤ 140737488355328 := by
    rw [Nat.zero_add]
    have := Nat.mul_le_mul hmax hby'
    omega
  have hml : 0 + ys.length ≤ maxLen := by simp only [maxLen]; omega
  have hown : w.ownsRow w.heap.size e sz (.slice none 0 0) 0 [] := World.ownsRow_nil _ _ _ _
  have key : ∃ v' w', (Builtin.append_ #[t, t] o.type #[.slice none 0 0, a.eval x]).run P w = .ok v' w' ∧ Below w.heap.size w w' ∧ RRep w.heap.size w' D v' (.own e sz ys) := by
    have nilcase : ∀ c', (Builtin.append_ #[t, t] o.type #[.slice none 0 0, .slice ad 0 c']).run P w = .ok (.slice none 0 0) w := fun c' => run_append_zero w hund i1 none ad 0 0 c' (Nat.le_refl _)
    have nilrep : RRep w.heap.size w D (.slice none 0 0) (.own e sz []) := ⟨[], hown, ⟨by simp, by simp⟩, fun b hb => by simp [blk] at hb⟩
    rcases hsrc with rfl | ⟨b, news, rfl, hnl, hnc, hnr⟩
    · refine ⟨_, w, ?_, Below.refl _ _, nilrep⟩
      rw [hvx, hm]; exact nilcase c
    · cases ys with
      | nil =>
        refine ⟨_, w, ?_, Below.refl _ _, nilrep⟩
        rw [hvx, hm]; exact nilcase c
      | cons y ys =>
        have hm0 : 0 < m := by rw [hm]; simp
        obtain ⟨v', w', hr, h2, h3, h4⟩ := run_append_blk (P := P) w (ty := o.type) (c := c) hund i1 i4 (by rw [i2, hs]) i3 hzc hp hown (by rw [hm]; exact hnl) hnc (hnr.oneCell hnl hp) hm0 (by rw [hm]; exact hml) (by rw [hm]; exact hbytes) (Nat.le_refl _)
        have hbel : Below w.heap.size w w' := (Below.refl _ _).grown h3 (Nat.le_refl _) (fun k hk => by simp [Value.ownBlock] at hk)
        refine ⟨v', w', by rw [hvx]; exact hr, hbel, [] ++ news, by rw [Nat.zero_add, hm] at h2; exact h2, ?_, fun b hb hDb => ?_⟩
        · rw [List.nil_append]; exact hnr.mono (fun b hb => hbel.block b (hI.dlt b hb)) (fun _ h => h)
        · rcases h4 b hb with h5 | ⟨h5, _⟩
          · simp [blk] at h5
          · have := hI.dlt b hDb; omega
  obtain ⟨v', w', hr, hbel, hrr⟩ := key
  have hrun : (execOp a.eval o).run P w = .ok (.value v') w' := by
    simp only [execOp, ho, resolve, invoke, builtin, Sem.run_bind, Sem.run_pure, Result.andThen_ok, List.map_toArray, List.map_cons, List.map_nil, hv0, hr]
  refine wpIn_of (by rw [ho]; intro c hc; cases hc) ?_
  unfold Oper.wp
  rw [hrun]
  obtain ⟨φ', hI'⟩ := hI.bind hbel (fun _ h => h) (fun _ h => .inl h) hrr o.dst hd
  exact hK _ _ _ _ hI'
end
end Go.Abs
namespace Go.Abs
set_option linter.unusedVariables false
def winR1 (d : Drum) (b : Batch) : Span := if smoothI d b < 0 ∨ thinI d b < 0 ∨ smoothI d b > thinI d b then ⟨1, 0⟩ else ⟨smoothI d b, thinI d b⟩
def winR (d : Drum) : List Span := d.batches.map (winR1 d)
theorem win1_iff {d : Drum} {b : Batch} {n : Int} : inS (winP1 d b) n ↔ 0 ≤ smoothI d b ∧ smoothI d b ≤ n ∧ n ≤ thinI d b := by
  unfold winP1
  split
  · simp only [inS]; constructor <;> intro h <;> omega
  · simp only [inS]; constructor <;> intro h <;> omega
theorem win1_same {d : Drum} {b : Batch} {n : Int} : inS (winR1 d b) n ↔ inS (winP1 d b) n := by
  rw [win1_iff]
  unfold winR1
  split
  · simp only [inS]; constructor <;> intro h <;> omega
  · simp only [inS]; constructor <;> intro h <;> omega
theorem win_same {d : Drum} {p : Nat → Bool} {n : Int} : inS (meetL (pick (winR d) p)) n ↔ inS (meetL (pick (winP d) p)) n := by
  rw [pick_iff, pick_iff]
  refine and_congr_right fun _ => ?_
  simp only [winR, winP, List.getElem?_map, Option.map_eq_some_iff]
  constructor
  · rintro h i s ⟨b, hb, rfl⟩ hp; exact win1_same.1 (h i _ ⟨b, hb, rfl⟩ hp)
  · rintro h i s ⟨b, hb, rfl⟩ hp; exact win1_same.2 (h i _ ⟨b, hb, rfl⟩ hp)
end Go.Abs
namespace Go.Abs
set_option linter.unusedVariables false
theorem lists_mem (below : Nat) : ∀ (m fr : Nat) (l : List Int), l ∈ listsI below m fr ↔ l.length = m ∧ l.Pairwise (· < ·) ∧ ∀ x ∈ l, (fr : Int) ≤ x ∧ x < (below : Int)
  | 0, fr, l => by
    simp only [listsI, List.mem_singleton]
    constructor
    · rintro rfl; simp
    · rintro ⟨h, _⟩; exact List.length_eq_zero_iff.1 h
  | m + 1, fr, l => by
    simp only [listsI, List.mem_flatMap, List.mem_range'_1, List.mem_map]
    constructor
    · rintro ⟨n, hn, r, hr, rfl⟩
      obtain ⟨h1, h2, h3⟩ := (lists_mem below m (n + 1) r).1 hr
      refine ⟨by simp [h1], List.pairwise_cons.2 ⟨fun x hx => by have := (h3 x hx).1; omega, h2⟩, fun x hx => ?_⟩
      rcases List.mem_cons.1 hx with rfl | hx
      · omega
      · have := h3 x hx; omega
    · rintro ⟨h1, h2, h3⟩
      match l, h1, h2, h3 with
      | x :: r, h1, h2, h3 =>
        have hx := h3 x (by simp)
        rw [List.pairwise_cons] at h2
        refine ⟨x.toNat, by omega, r, (lists_mem below m (x.toNat + 1) r).2 ⟨by simpa using h1, h2.2, fun y hy => ?_⟩, ?_⟩
        · have := h2.1 y hy; have := h3 y (by simp [hy]); omega
        · rw [show ((x.toNat : Nat) : Int) = x by omega]
end Go.Abs
