/- An append to a nil slice, once more: one handle; in drawn regions too. -/
import Derived.Test.YtkmclnjmabljdaaGreatDoorNcG
set_option linter.unusedVariables false
set_option linter.unusedSimpArgs false
namespace Go.Abs
open Go.RowKit
set_option linter.unusedVariables false
section
variable {P : Program} {T : Nat → Option TyI} {nt : Nat} {s : ASt} {o : Oper} {ops : Array Oper}

theorem op_append_nil1 {t e sz : Nat} {x0 x : Operand} {ti ei : TyI} {ys : List (List PV)} (hT : TabOK P T) (ho : o.op = .call { callee := .builtin .append, args := #[x0, x], argTypes := #[t, t] }) (hd : dstB nt o.dst = true)
    (ht : T t = some ti) (hk : ti.kind = .slice e) (he : T e = some ei) (hpos : Nat.blt 0 ei.size = true) (hzl : Nat.beq ei.zero.length ei.size = true) (hx0 : s.ev x0 = some .nils) (hsz : Nat.beq sz ei.size = true)
    (hy : s.srcOf x = some ys) (hyl : ∀ y ∈ ys, y.length = sz) (hmax : ys.length ≤ 1099511627776) (hby : Nat.ble ei.bytes 128 = true) :
    OpTo P nt o s ((s.newObj (.arr e sz ys)).putO o.dst (some (.arr s.nxt))) := by
  intro ro W0 D0 D φ a w hI K Q hK
  have hs : sz = ei.size := Nat.eq_of_beq_eq_true hsz
  have hp : 0 < sz := by rw [hs]; simpa using hpos
  have hzl' := Nat.eq_of_beq_eq_true hzl
  have hby' := Nat.le_of_ble_eq_true hby
  obtain ⟨info, z, i1, i2, i3, i4, i5⟩ := (hT.ty he).info
  have hund := (hT.ty ht).slice hk
  obtain ⟨ad, m, c, hvx, hm, hsrc⟩ := hI.src hy hyl hp
  have hv0 : a.eval x0 = .slice none 0 0 := by
    have := (hI.ev hx0).2
    generalize a.eval x0 = v at this
    cases this; rfl
  have hzc : z.cells.size = sz := by
    have := (zrepL_ok i5).1
    simp at this; omega
  have hbytes : (0 + ys.length) * ei.bytes ≤ 140737488355328 := by
    rw [Nat.zero_add]
    have := Nat.mul_le_mul hmax hby'
    omega
  have hml : 0 + ys.length ≤ maxLen := by simp only [maxLen]; omega
  have hown : w.ownsRow w.heap.size e sz (.slice none 0 0) 0 [] := World.ownsRow_nil _ _ _ _
  have key : ∃ v' w', (Builtin.append_ #[t, t] o.type #[.slice none 0 0, a.eval x]).run P w = .ok v' w' ∧ Below w.heap.size w w' ∧ RRep w.heap.size w' D v' (.own e sz ys) := by
    have nilcase : ∀ c', (Builtin.append_ #[t, t] o.type #[.slice none 0 0, .slice ad 0 c']).run P w = .ok (.slice none 0 0) w := fun c' => run_append_zero w hund i1 none ad 0 0 c' (Nat.le_refl _)
    have nilrep : RRep w.heap.size w D (.slice none 0 0) (.own e sz []) := ⟨[], hown, ⟨by simp, by simp⟩, fun b hb => by simp [blk] at hb⟩
    rcases hsrc with rfl | ⟨b, news, rfl, hnl, hnc, hnr⟩
    · refine ⟨_, w, ?_, Below.refl _ _, nilrep⟩
      rw [hvx, hm]; exact nilcase c
    · cases ys with
      | nil =>
        refine ⟨_, w, ?_, Below.refl _ _, nilrep⟩
        rw [hvx, hm]; exact nilcase c
      | cons y ys =>
        have hm0 : 0 < m := by rw [hm]; simp
        obtain ⟨v', w', hr, h2, h3, h4⟩ := run_append_blk (P := P) w (ty := o.type) (c := c) hund i1 i4 (by rw [i2, hs]) i3 hzc hp hown (by rw [hm]; exact hnl) hnc (hnr.oneCell hnl hp) hm0 (by rw [hm]; exact hml) (by rw [hm]; exact hbytes) (Nat.le_refl _)
        have hbel : Below w.heap.size w w' := (Below.refl _ _).grown h3 (Nat.le_refl _) (fun k hk => by simp [Value.ownBlock] at hk)
        refine ⟨v', w', by rw [hvx]; exact hr, hbel, [] ++ news, by rw [Nat.zero_add, hm] at h2; exact h2, ?_, fun b hb hDb => ?_⟩
        · rw [List.nil_append]; exact hnr.mono (fun b hb => hbel.block b (hI.dlt b hb)) (fun _ h => h)
        · rcases h4 b hb with h5 | ⟨h5, _⟩
          · simp [blk] at h5
          · have := hI.dlt b hDb; omega
  obtain ⟨v', w', hr, hbel, hrr⟩ := key
  have hrun : (execOp a.eval o).run P w = .ok (.value v') w' := by
    simp only [execOp, ho, resolve, invoke, builtin, Sem.run_bind, Sem.run_pure, Result.andThen_ok, List.map_toArray, List.map_cons, List.map_nil, hv0, hr]
  refine wpIn_of (by rw [ho]; intro c hc; cases hc) ?_
  unfold Oper.wp
  rw [hrun]
  obtain ⟨φ', hI'⟩ := hI.bind hbel (fun _ h => h) (fun _ h => .inl h) hrr o.dst hd
  exact hK _ _ _ _ hI'
theorem D_append_nil {t e sz : Nat} {x0 x : Operand} {ti ei : TyI} {ys : List (List PV)} (hT : TabOK P T) (hg : guardT ops s o = true) (ho : o.op = .call { callee := .builtin .append, args := #[x0, x], argTypes := #[t, t] }) (hd : dstB nt o.dst = true)
    (ht : T t = some ti) (hk : ti.kind = .slice e) (he : T e = some ei) (hpos : Nat.blt 0 ei.size = true) (hzl : Nat.beq ei.zero.length ei.size = true) (hx0 : s.ev x0 = some .nils) (hsz : Nat.beq sz ei.size = true)
    (hy : s.srcS x = some ys) (hyl : ∀ y ∈ ys, y.length = sz) (hmax : ys.length ≤ 1099511627776) (hby : Nat.ble ei.bytes 128 = true) :
    StepOK P nt ops o s ⟨some (.arr s.nxt), true, [], []⟩ ((s.newObj (.arr e sz ys)).putO o.dst (some (.arr s.nxt))) := by
  refine StepOK.mkE hg (by cases hd : o.dst <;> rfl) (by cases hd : o.dst <;> exact Nat.le_succ _) (fun id hid _ => ?_) fun fr s1 s2 h1 h2 h3 h4 h5 h6 h7 => ?_
  · have : ((s.newObj (.arr e sz ys)).putO o.dst (some (.arr s.nxt))).obj id = (s.newObj (.arr e sz ys)).obj id := by cases hd : o.dst <;> rfl
    rw [this, ASt.obj_newObj, if_neg (by omega)]
  · have hys : s1.srcS x = some ys := by unfold ASt.srcS; rw [ev_agree h1 (by simp [ho, Op.operands, Call.operands])]; exact hy
    have h8 := op_append_nil1 (s := s1) hT ho hd ht hk he hpos hzl (by rw [ev_agree h1 (by simp [ho, Op.operands, Call.operands])]; exact hx0) hsz (srcS_src hys) hyl hmax hby
    refine h8.ext (fun t => ?_) (fun id => ?_) ?_
    · show look s2.env t = look _ t
      rw [h5, ← h2]; cases hd : o.dst <;> rfl
    · have q1 : ((s.newObj (.arr e sz ys)).putO o.dst (some (.arr s.nxt))).obj id = (s.newObj (.arr e sz ys)).obj id := by cases hd : o.dst <;> rfl
      have q2 : ((s1.newObj (.arr e sz ys)).putO o.dst (some (.arr s1.nxt))).obj id = (s1.newObj (.arr e sz ys)).obj id := by cases hd : o.dst <;> rfl
      rw [h7, q1, q2, ASt.obj_newObj, ASt.obj_newObj, h2]
      by_cases hid : id ∈ fr
      · rw [if_pos hid, if_neg (by have := (h3 id hid).1; omega)]
      · rw [if_neg hid, h4 id hid]
    · rw [h6]; cases hd : o.dst <;> simp [ASt.putO, ASt.put, ASt.newObj, h2]
end
end Go.Abs
