/- Truth values compared; slices of the function's own that a variable holds. -/
import Derived.Test.YtkmclnjmabljdaaGreatDoorNcG
import Derived.Test.YtkmclnjmabljdaaGreatDoorNcAbsAF
set_option linter.unusedVariables false
set_option linter.unusedSimpArgs false
namespace Go.Abs
open Go.RowKit
set_option linter.unusedVariables false
section
variable {P : Program} {T : Nat → Option TyI} {nt : Nat} {s : ASt} {o : Oper} {ops : Array Oper}
theorem equal_bool {t : Nat} {b c : Bool} (hu : P.underlying t = some .bool) (w : World) : (Op.equal t (.bool b) (.bool c)).run P w = .ok (b == c) w := by
  show (Op.equalIn (_ + 1) t (.bool b) (.bool c)).run P w = _
  rw [Op.equalIn]
  simp [underlying, hu]
theorem op_eqlB {t t' : TypeId} {x y : Operand} {ti : TyI} {b c : Bool} (hT : TabOK P T) (ht : T t = some ti) (hk : ti.kind = .bool) (ho : o.op = .binOp .eql t x y t') (hd : dstB nt o.dst = true)
    (hx : s.ev x = some (.pv (.bool b))) (hy : s.ev y = some (.pv (.bool c))) : OpTo P nt o s (s.putO o.dst (some (.pv (.bool (b == c))))) :=
  OpTo.value hd fun W0 D0 D φ a w hI => ⟨.bool (b == c), by
    simp [execOp, ho, hI.ev_bool hx, hI.ev_bool hy, eqGuard, binOp, equal_bool ((hT.ty ht).bool hk)], fun x' h => by cases h; exact ⟨rfl, .pv _ _ (.bool _)⟩⟩
theorem op_neqB {t t' : TypeId} {x y : Operand} {ti : TyI} {b c : Bool} (hT : TabOK P T) (ht : T t = some ti) (hk : ti.kind = .bool) (ho : o.op = .binOp .neq t x y t') (hd : dstB nt o.dst = true)
    (hx : s.ev x = some (.pv (.bool b))) (hy : s.ev y = some (.pv (.bool c))) : OpTo P nt o s (s.putO o.dst (some (.pv (.bool (b != c))))) :=
  OpTo.value hd fun W0 D0 D φ a w hI => ⟨.bool (b != c), by
    simp [execOp, ho, hI.ev_bool hx, hI.ev_bool hy, eqGuard, binOp, equal_bool ((hT.ty ht).bool hk)]; cases b <;> cases c <;> rfl, fun x' h => by cases h; exact ⟨rfl, .pv _ _ (.bool _)⟩⟩
theorem D_eqlB {t t' : TypeId} {x y : Operand} {ti : TyI} {b c : Bool} (hT : TabOK P T) (ht : T t = some ti) (hk : ti.kind = .bool) (hg : guardT ops s o = true) (ho : o.op = .binOp .eql t x y t') (hd : dstB nt o.dst = true)
    (hx : s.ev x = some (.pv (.bool b))) (hy : s.ev y = some (.pv (.bool c))) : StepOK P nt ops o s ⟨some (.pv (.bool (b == c))), false, [], []⟩ (s.putO o.dst (some (.pv (.bool (b == c))))) :=
  StepOK.mkP hg fun s1 h1 _ => op_eqlB hT ht hk ho hd (by rw [ev_agree h1 (by simp [ho, Op.operands])]; exact hx) (by rw [ev_agree h1 (by simp [ho, Op.operands])]; exact hy)
theorem D_neqB {t t' : TypeId} {x y : Operand} {ti : TyI} {b c : Bool} (hT : TabOK P T) (ht : T t = some ti) (hk : ti.kind = .bool) (hg : guardT ops s o = true) (ho : o.op = .binOp .neq t x y t') (hd : dstB nt o.dst = true)
    (hx : s.ev x = some (.pv (.bool b))) (hy : s.ev y = some (.pv (.bool c))) : StepOK P nt ops o s ⟨some (.pv (.bool (b != c))), false, [], []⟩ (s.putO o.dst (some (.pv (.bool (b != c))))) :=
  StepOK.mkP hg fun s1 h1 _ => op_neqB hT ht hk ho hd (by rw [ev_agree h1 (by simp [ho, Op.operands])]; exact hx) (by rw [ev_agree h1 (by simp [ho, Op.operands])]; exact hy)
theorem D_len_arr {t e e' id sz : Nat} {x : Operand} {ti : TyI} {es : List (List PV)} {n : Int} (hT : TabOK P T) (hg : guardT ops s o = true) (ho : o.op = .call { callee := .builtin .len, args := #[x], argTypes := #[t] }) (hd : dstB nt o.dst = true) (ht : T t = some ti)
    (hk : ti.kind = .slice e) (hx : s.ev x = some (.arr id)) (hob : s.obj id = some (.arr e' sz es)) (hn : (es.length : Int) = n) : StepOK P nt ops o s ⟨some (.pv (.int .i64 n)), false, [id], []⟩ (s.putO o.dst (some (.pv (.int .i64 n)))) :=
  StepOK.mkP hg fun s1 h1 h2 => op_len_sl hT ho hd ht hk (by
    have e1 : s1.ev x = some (.arr id) := by rw [ev_agree h1 (by simp [ho, Op.operands, Call.operands])]; exact hx
    have e2 : s1.obj id = some (.arr e' sz es) := by rw [h2 id (by simp)]; exact hob
    simp [ASt.evB, e1, ASt.pvOf, e2]) hn
theorem DG_boolF {id k : Nat} {opl rest : List Oper} {s s0 : ASt} {l : List DEnt} {Q : Exit → ASt → Prop} {c : Bool} (hT : TabOK P T) (hs : stepD T nt opl.toArray s o = some (s.putO o.dst (some (.pv (.bool c))), ⟨some (.pv (.bool c)), false, [], []⟩)) (hc : c = false) (h : DG P nt id opl Q s0 (k + 1) rest (s.putO o.dst (some (.pv (.bool false)))) (l ++ [⟨some (.pv (.bool false)), false, [], []⟩])) : DG P nt id opl Q s0 k (o :: rest) s l := by
  subst hc; exact DG_step hT hs h
/-- A variable is written, in a drawn region. -/
theorem D_store {t id off : Nat} {x y : Operand} {i : TyI} {cs : List FV} {fy : FV} (hT : TabOK P T) (hg : guardT ops s o = true) (ho : o.op = .store t x y) (hd : o.dst = none) (ht : T t = some i) (hx : s.ev x = some (.box id off)) (hob : s.obj id = some (.box cs))
    (hy : s.ev y = some fy) (hlf : leafL (cellsF fy) = true) (hsz : Nat.beq (cellsF fy).length i.size = true) (hfit : Nat.ble (off + (cellsF fy).length) cs.length = true) :
    StepOK P nt ops o s ⟨none, false, [], [id]⟩ ((s.setObj id (some (.box (splice cs off (cellsF fy))))).putO o.dst none) := by
  have hb : ((s.setObj id (some (.box (splice cs off (cellsF fy))))).putO o.dst none).obj id = some (.box (splice cs off (cellsF fy))) := by
    have : ((s.setObj id (some (.box (splice cs off (cellsF fy))))).putO o.dst none).obj id = (s.setObj id (some (.box (splice cs off (cellsF fy))))).obj id := by cases o.dst <;> rfl
    rw [this, ASt.obj_setObj, if_pos rfl]
  refine StepOK.mkL hg (by rw [hd]; rfl) (by rw [hd]; rfl) (by simp only [List.map_cons, List.map_nil, hb]; rw [hd]; rfl) fun s1 h1 h2 => ?_
  have h8 := op_store_box (nt := nt) (s := s1) hT ho hd ht (by rw [ev_agree h1 (by simp [ho, Op.operands])]; exact hx) (by rw [h2 id (by simp)]; exact hob) (by rw [ev_agree h1 (by simp [ho, Op.operands])]; exact hy) hlf hsz hfit
  refine h8.ext (fun t => ?_) (fun id' => ?_) ?_
  · rw [hd]; rfl
  · simp only [List.map_cons, List.map_nil, hb]; rfl
  · rw [hd]; rfl
/-- A new variable, and a variable that is written, as steps that stand in one line. -/
theorem D_allocE {t : Nat} {i : TyI} (hT : TabOK P T) (hg : guardT ops s o = true) (ho : o.op = .alloc t) (hd : dstB nt o.dst = true) (ht : T t = some i) :
    StepOK P nt ops o s ⟨some (.box s.nxt 0), true, [], []⟩ ((s.newObj (.box i.zero)).putO o.dst (some (.box s.nxt 0))) := by
  refine StepOK.mkE hg (by cases hd : o.dst <;> rfl) (by cases hd : o.dst <;> exact Nat.le_succ _) (fun id hid _ => ?_) fun fr s1 s2 h1 h2 h3 h4 h5 h6 h7 => ?_
  · have : ((s.newObj (.box i.zero)).putO o.dst (some (.box s.nxt 0))).obj id = (s.newObj (.box i.zero)).obj id := by cases hd : o.dst <;> rfl
    rw [this, ASt.obj_newObj, if_neg (by omega)]
  · have h8 := op_alloc (s := s1) hT ho hd ht
    refine h8.ext (fun t => ?_) (fun id => ?_) ?_
    · show look s2.env t = look _ t
      rw [h5, ← h2]; cases hd : o.dst <;> rfl
    · have q1 : ((s.newObj (.box i.zero)).putO o.dst (some (.box s.nxt 0))).obj id = (s.newObj (.box i.zero)).obj id := by cases hd : o.dst <;> rfl
      have q2 : ((s1.newObj (.box i.zero)).putO o.dst (some (.box s1.nxt 0))).obj id = (s1.newObj (.box i.zero)).obj id := by cases hd : o.dst <;> rfl
      rw [h7, q1, q2, ASt.obj_newObj, ASt.obj_newObj, h2]
      by_cases hid : id ∈ fr
      · rw [if_pos hid, if_neg (by have := (h3 id hid).1; omega)]
      · rw [if_neg hid, h4 id hid]
    · rw [h6]; cases hd : o.dst <;> simp [ASt.putO, ASt.put, ASt.newObj, h2]
theorem D_storeE {t id off : Nat} {x y : Operand} {i : TyI} {cs : List FV} {fy : FV} (hT : TabOK P T) (hg : guardT ops s o = true) (ho : o.op = .store t x y) (hd : o.dst = none) (ht : T t = some i) (hx : s.ev x = some (.box id off)) (hob : s.obj id = some (.box cs))
    (hy : s.ev y = some fy) (hlf : leafL (cellsF fy) = true) (hsz : Nat.beq (cellsF fy).length i.size = true) (hfit : Nat.ble (off + (cellsF fy).length) cs.length = true) :
    StepOK P nt ops o s ⟨none, true, [], [id]⟩ ((s.setObj id (some (.box (splice cs off (cellsF fy))))).putO o.dst none) := by
  refine StepOK.mkE hg (by rw [hd]; rfl) (by rw [hd]; exact Nat.le_refl _) (fun id' hid hm => ?_) fun fr s1 s2 h1 h2 h3 h4 h5 h6 h7 => ?_
  · rw [hd]
    show (s.setObj id _).obj id' = _
    rw [ASt.obj_setObj, if_neg (fun e => hm (by simp [e]))]
  · have hnf : id ∉ fr := fun hf => (h3 id hf).2 (by simp)
    have h8 := op_store_box (nt := nt) (s := s1) hT ho hd ht (by rw [ev_agree h1 (by simp [ho, Op.operands])]; exact hx) (by rw [h4 id hnf]; exact hob) (by rw [ev_agree h1 (by simp [ho, Op.operands])]; exact hy) hlf hsz hfit
    rw [hd] at h5 h6 h7
    refine h8.ext (fun t => ?_) (fun id' => ?_) ?_
    · show look s2.env t = look _ t
      rw [h5]; rfl
    · rw [h7]
      show (if id' ∈ fr then s1.obj id' else (s.setObj id _).obj id') = _
      rw [ASt.obj_setObj, ASt.obj_setObj]
      by_cases hid : id' ∈ fr
      · rw [if_pos hid, if_neg (fun e : id = id' => hnf (by rw [e]; exact hid))]
      · rw [if_neg hid, h4 id' hid]
    · rw [h6]
      show s.nxt = s1.nxt
      rw [h2]
theorem FV.ltL_set {n : Nat} {x : FV} (hx : x.lt n = true) : ∀ (cs : List FV) (i : Nat), FV.ltL n cs = true → FV.ltL n (cs.set i x) = true
  | [], _, h => h
  | c :: cs, 0, h => by simp only [FV.ltL, Bool.and_eq_true, List.set_cons_zero] at h ⊢; exact ⟨hx, h.2⟩
  | c :: cs, i + 1, h => by
    simp only [FV.ltL, Bool.and_eq_true, List.set_cons_succ] at h ⊢
    exact ⟨h.1, FV.ltL_set hx cs i h.2⟩
theorem Inv.boxSet {W0 : World} {D0 : Bas} {D : Nat → Prop} {φ : Nat → Value} {a : Act} {w : World} (hI : Inv W0 D0 nt s D φ a w) {b i : Nat} {fs : List FV} {x x' : FV} (hb : s.obj b = some (.box fs)) (hi : fs[i]? = some x) (hlt : x'.lt s.nxt = true) (hleaf : x'.leaf = true)
    (hrep : ∀ v, FRep w D φ v x → FRep w D φ v x') : Inv W0 D0 nt (s.setObj b (some (.box (fs.set i x')))) D φ a w := by
  obtain ⟨hbn, hbl, bb, vs, e, h1, h2, h3, h4⟩ := hI.objs b _ hb
  refine hI.chg b (fun j => j = b) (Below.refl _ _) (fun _ _ _ => rfl) (fun _ h => h) (fun b hb => .inl hb) (fun _ _ => rfl) (Nat.le_refl _) (fun t x hx => hx) ?_ ?_
  · intro id' ob' hne ho'
    rw [ASt.obj_setObj, if_neg (fun e => hne e.symm)] at ho'
    exact ⟨hne, ho'⟩
  · intro ob' ho'
    rw [ASt.obj_setObj, if_pos rfl] at ho'
    cases ho'
    refine ⟨hbn, FV.ltL_set hlt fs i hbl, ⟨bb, vs, e, h1, h2, by simpa using h3, fun j v y hv hy => ?_⟩, fun b' hb' => ?_⟩
    · rw [List.getElem?_set] at hy
      split at hy
      · rename_i hij
        subst hij
        split at hy
        · cases hy
          exact ⟨hleaf, hrep v (h4 i v x hv hi).2⟩
        · cases hy
      · exact h4 j v y hv hy
    · have hb2 : oblk φ b (.box fs) b' := hb'
      obtain ⟨g1, g2, g3⟩ := hI.own b _ b' hb hb2
      exact ⟨g1, g3, .inr ⟨b, _, rfl, hb, hb2⟩⟩
theorem Inv.arrBox {W0 : World} {D0 : Bas} {D : Nat → Prop} {φ : Nat → Value} {a : Act} {w : World} (hI : Inv W0 D0 nt s D φ a w) {b i id e sz : Nat} {fs : List FV} {es : List (List PV)} (hne : Nat.beq b id = false) (hb : s.obj b = some (.box fs)) (hi : fs[i]? = some (.arr id)) (hob : s.obj id = some (.arr e sz es)) :
    ∃ D', Inv W0 D0 nt ((s.setObj id (some (.fro es))).setObj b (some (.box (fs.set i (.pv (.sl es)))))) D' φ a w := by
  obtain ⟨D', hF⟩ := hI.freeze hob
  have hne' : b ≠ id := fun e => by subst e; simp at hne
  have hbF : (s.setObj id (some (.fro es))).obj b = some (.box fs) := by rw [ASt.obj_setObj, if_neg (fun e => hne' e.symm)]; exact hb
  refine ⟨D', hF.boxSet hbF hi rfl rfl fun v hv => ?_⟩
  cases hv with
  | arr id m c ad hφ =>
    have : Rep w D' (φ id) (.sl es) := (hF.objs id (.fro es) (by rw [ASt.obj_setObj, if_pos rfl])).2.2
    rw [hφ] at this
    exact .pv _ _ this
theorem Inv.nilBox {W0 : World} {D0 : Bas} {D : Nat → Prop} {φ : Nat → Value} {a : Act} {w : World} (hI : Inv W0 D0 nt s D φ a w) {b i e sz : Nat} {fs : List FV} (hb : (s.newObj (.arr e sz [])).obj b = some (.box fs)) (hi : fs[i]? = some .nils) :
    ∃ φ', Inv W0 D0 nt ((s.newObj (.arr e sz [])).setObj b (some (.box (fs.set i (.arr s.nxt))))) D φ' a w := by
  have hN : Inv W0 D0 nt (s.newObj (.arr e sz [])) D (addH φ s.nxt (.slice none 0 0)) a w := by
    refine hI.new (Below.refl _ _) (fun _ h => h) (fun _ h => .inl h) _ _ rfl ⟨[], ?_, ⟨by simp, by simp⟩⟩ (by intro b hb; simp [blk] at hb)
    rw [addH_new]; exact World.ownsRow_nil _ _ _ _
  refine ⟨_, hN.boxSet hb hi (by simp [FV.lt, ASt.newObj]) rfl fun v hv => ?_⟩
  cases hv
  exact .arr _ _ _ _ (addH_new _ _ _)
section
variable {Q : Exit → ASt → Prop} {c : Code} {rest : List Oper} {b i id e sz : Nat} {fs : List FV} {es : List (List PV)}
/-- A field of a variable that holds a slice of the function's own becomes pure data. -/
theorem AW_arrBox (i : Nat) (hne : Nat.beq b id = false) (hb : s.obj b = some (.box fs)) (hi : fs[i]? = some (.arr id)) (hob : s.obj id = some (.arr e sz es)) (h : AW P nt c Q ((s.setObj id (some (.fro es))).setObj b (some (.box (fs.set i (.pv (.sl es))))))) : AW P nt c Q s := by
  intro ro W0 D0 D φ a w hr hI
  obtain ⟨D', hI'⟩ := hI.arrBox hne hb hi hob
  exact h ro W0 D0 D' φ a w hr hI'
theorem AL_arrBox (i : Nat) (hne : Nat.beq b id = false) (hb : s.obj b = some (.box fs)) (hi : fs[i]? = some (.arr id)) (hob : s.obj id = some (.arr e sz es)) (h : AL P nt ops rest Q ((s.setObj id (some (.fro es))).setObj b (some (.box (fs.set i (.pv (.sl es))))))) : AL P nt ops rest Q s := by
  intro ro W0 D0 D φ a w hr hI
  obtain ⟨D', hI'⟩ := hI.arrBox hne hb hi hob
  exact h ro W0 D0 D' φ a w hr hI'
theorem AW_nilBox (b i e sz : Nat) (hb : (s.newObj (.arr e sz [])).obj b = some (.box fs)) (hi : fs[i]? = some .nils) (h : AW P nt c Q ((s.newObj (.arr e sz [])).setObj b (some (.box (fs.set i (.arr s.nxt)))))) : AW P nt c Q s := by
  intro ro W0 D0 D φ a w hr hI
  obtain ⟨φ', hI'⟩ := hI.nilBox hb hi
  exact h ro W0 D0 D φ' a w hr hI'
theorem AL_nilBox (b i e sz : Nat) (hb : (s.newObj (.arr e sz [])).obj b = some (.box fs)) (hi : fs[i]? = some .nils) (h : AL P nt ops rest Q ((s.newObj (.arr e sz [])).setObj b (some (.box (fs.set i (.arr s.nxt)))))) : AL P nt ops rest Q s := by
  intro ro W0 D0 D φ a w hr hI
  obtain ⟨φ', hI'⟩ := hI.nilBox hb hi
  exact h ro W0 D0 D φ' a w hr hI'
end
end
end Go.Abs
