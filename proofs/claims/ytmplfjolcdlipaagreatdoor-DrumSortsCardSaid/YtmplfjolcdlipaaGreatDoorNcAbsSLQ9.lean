/- A prefix of a pure slice in a drawn region; nil compared with nil. -/
import Derived.Test.YtmplfjolcdlipaaGreatDoorNcG
import Derived.Test.YtmplfjolcdlipaaGreatDoorXQ9
set_option linter.unusedVariables false
set_option linter.unusedSimpArgs false
namespace Go.Abs
open Go.RowKit
set_option linter.unusedVariables false
section
variable {P : Program} {T : Nat → Option TyI} {nt : Nat} {s : ASt} {o : Oper} {ops : Array Oper}
theorem D_slice_to {t e hi : Nat} {x y : Operand} {k : IntKind} {ti ei : TyI} {es : List (List PV)} (hT : TabOK P T) (hg : guardT ops s o = true) (ho : o.op = .slice t x none (some y) none) (hd : dstB nt o.dst = true) (ht : T t = some ti) (hk : ti.kind = .slice e) (he : T e = some ei)
    (hx : s.evS x = some (.sl es)) (hel : ∀ el ∈ es, el.length = ei.size) (hy : s.ev y = some (.pv (.int k (hi : Int)))) (h2 : hi ≤ es.length) :
    StepOK P nt ops o s ⟨some (.pv (.sl (es.take hi))), false, [], []⟩ (s.putO o.dst (some (.pv (.sl (es.take hi))))) :=
  StepOK.mkP hg fun s1 h1 _ => op_slice_sl (lo := 0) hT ho hd ht hk he (evS_D (by rw [evS_local h1 (by simp [ho, Op.operands])]; exact hx)) hel (.inl ⟨rfl, rfl⟩) (.inr ⟨y, k, rfl, by rw [ev_agree h1 (by simp [ho, Op.operands])]; exact hy⟩) (Nat.zero_le _) h2
theorem op_eql_nils {t e t' : Nat} {x : Operand} {ti : TyI} (hT : TabOK P T) (ho : o.op = .binOp .eql t x (.const (.slice none 0 0)) t') (hd : dstB nt o.dst = true) (ht : T t = some ti) (hk : ti.kind = .slice e)
    (hx : s.ev x = some .nils) : OpTo P nt o s (s.putO o.dst (some (.pv (.bool true)))) :=
  OpTo.value hd fun W0 D0 D φ a w hI => ⟨.bool true, by
    have hund := (hT.ty ht).slice hk
    have hv : a.eval x = .slice none 0 0 := by
      have := (hI.ev hx).2
      generalize a.eval x = v at this
      cases this; rfl
    have e1 : a.eval (.const (.slice none 0 0)) = .slice none 0 0 := rfl
    simp only [execOp, ho, hv, e1, eqGuard]
    simp [binOp, run_equal_slice_nil w t e none 0 0 hund], fun x' h => by cases h; exact ⟨rfl, .pv _ _ (.bool _)⟩⟩
end
end Go.Abs
