/- Lemmas. -/
import Derived.Test.YtmplfjolcdlipaaGreatDoorJNcA
import Derived.Test.YtmplfjolcdlipaaGreatDoorJNcB
import Derived.Test.YtmplfjolcdlipaaGreatDoorJNcC
import Derived.Test.YtmplfjolcdlipaaGreatDoorJNcD
import Derived.Test.YtmplfjolcdlipaaGreatDoorJNcE
import Derived.Test.YtmplfjolcdlipaaGreatDoorJNcF
import Derived.Test.YtmplfjolcdlipaaGreatDoorJNcG
import Derived.Test.YtmplfjolcdlipaaGreatDoorJNcH
import Derived.Test.YtmplfjolcdlipaaGreatDoorJDrA
import Derived.Test.YtmplfjolcdlipaaGreatDoorJDrB
import Derived.Test.YtmplfjolcdlipaaGreatDoorJDrC
import Derived.Test.YtmplfjolcdlipaaGreatDoorJFA
import Derived.Test.YtmplfjolcdlipaaGreatDoorJNcI
import Derived.Test.YtmplfjolcdlipaaGreatDoorJNcJ
import Derived.Test.YtmplfjolcdlipaaGreatDoorJNcK
import Derived.Test.YtmplfjolcdlipaaGreatDoorJSh
import Derived.Test.YtmplfjolcdlipaaGreatDoorJDrO
import Derived.Test.YtmplfjolcdlipaaGreatDoorJDrD
import Derived.Test.YtmplfjolcdlipaaGreatDoorJDrE
import Derived.Test.YtmplfjolcdlipaaGreatDoorJDrF
import Derived.Test.YtmplfjolcdlipaaGreatDoorJDrP
import Derived.Test.YtmplfjolcdlipaaGreatDoorJDrQ
import Derived.Test.YtmplfjolcdlipaaGreatDoorJDrR
import Derived.Test.YtmplfjolcdlipaaGreatDoorJDrS
import Derived.Test.YtmplfjolcdlipaaGreatDoorJDrU
import Derived.Test.YtmplfjolcdlipaaGreatDoorJDrG
import Derived.Test.YtmplfjolcdlipaaGreatDoorJDrV
import Derived.Test.YtmplfjolcdlipaaGreatDoorJDrH
import Derived.Test.YtmplfjolcdlipaaGreatDoorJDrI
import Derived.Test.YtmplfjolcdlipaaGreatDoorJDrJ
import Derived.Test.YtmplfjolcdlipaaGreatDoorJDrK
import Derived.Test.YtmplfjolcdlipaaGreatDoorJDrL
import Derived.Test.YtmplfjolcdlipaaGreatDoorJDrM
import Derived.Test.YtmplfjolcdlipaaGreatDoorJDrN
import Derived.Test.YtmplfjolcdlipaaGreatDoorJDrW
import Derived.Test.YtmplfjolcdlipaaGreatDoorJDrBK
import Derived.Test.YtmplfjolcdlipaaGreatDoorJDrBJ
import Derived.Test.YtmplfjolcdlipaaGreatDoorJDrBL
import Derived.Test.YtmplfjolcdlipaaGreatDoorJLa
import Derived.Test.YtmplfjolcdlipaaGreatDoorJKA
import Derived.Test.YtmplfjolcdlipaaGreatDoorJKD
set_option linter.unusedVariables false
set_option linter.unusedSimpArgs false
namespace Go.Abs
open Go.RowKit Go.ChangeShapes
set_option linter.unusedVariables false
section
variable {H : Type} {enc : TypeId × Value -> H} {P : Program} {W : World}
theorem RdC.arg {t : TypeId} {α : Type} {e : α -> List PV} {v : Value} {d : DataW H} {ps : List MemPlace} (h : RdC enc P W t e) (hv : v.cells = #[v]) (he : ∀ x,∃ p,e x = [p]) (hd : DataW.Trod enc P W 0 (fun _ => true) true t v d ps) : ∃ x p,e x = [p] /\ Rep W (fun b => b < W.heap.size) v p:= by
 obtain ⟨n,hn⟩ := hd
 obtain ⟨x,h1,h2⟩ := h _ _ _ hn
 obtain ⟨p,hp⟩ := he x
 exact ⟨x,p,hp,(h2 0 v p (by simp [hv]) (by simp [hp])).2⟩
theorem cells_str {t : TypeId} {v : Value} {r : Reach} {b : Nat} (ht : P.underlying t = some .string) (h : Value.okWide P W r b t v) : v.cells = #[v]:= by
 cases v <;> first | rfl | (simp [Value.okWide,ht,Cell.okWide,Cell.ok] at h)
end
end Go.Abs
namespace Go.Abs
open Go.RowKit
set_option linter.unusedVariables false
section
variable {P : Program} {T : Nat -> Option TyI} {nt : Nat} {s : ASt} {o : Oper} {ops : Array Oper}
theorem D_store {t id off : Nat} {x y : Operand} {i : TyI} {cs : List FV} {fy : FV} (hT : TabOK P T) (hg : guardT ops s o = true) (ho : o.op = .store t x y) (hd : o.dst = none) (ht : T t = some i) (hx : s.ev x = some (.box id off)) (hob : s.obj id = some (.box cs))
  (hy : s.ev y = some fy) (hlf : leafL (cellsF fy) = true) (hsz : Nat.beq (cellsF fy).length i.size = true) (hfit : Nat.ble (off + (cellsF fy).length) cs.length = true) :
  StepOK P nt ops o s ⟨none,false,[],[id]⟩ ((s.setObj id (some (.box (splice cs off (cellsF fy))))).putO o.dst none):= by
 have hb : ((s.setObj id (some (.box (splice cs off (cellsF fy))))).putO o.dst none).obj id = some (.box (splice cs off (cellsF fy))):= by
  have : ((s.setObj id (some (.box (splice cs off (cellsF fy))))).putO o.dst none).obj id = (s.setObj id (some (.box (splice cs off (cellsF fy))))).obj id := by cases o.dst <;> rfl
  rw [this,ASt.obj_setObj,if_pos rfl]
 refine StepOK.mkL hg (by rw [hd]; rfl) (by rw [hd]; rfl) (by simp only [List.map_cons,List.map_nil,hb]; rw [hd]; rfl) fun s1 h1 h2 => ?_
 have h8 := op_store_box (nt := nt) (s := s1) hT ho hd ht (by rw [ev_agree h1 (by simp [ho,Op.operands])]; exact hx) (by rw [h2 id (by simp)]; exact hob) (by rw [ev_agree h1 (by simp [ho,Op.operands])]; exact hy) hlf hsz hfit
 refine h8.ext (fun t => ?_) (fun id' => ?_) ?_
 ·rw [hd]; rfl
 ·simp only [List.map_cons,List.map_nil,hb]; rfl
 ·rw [hd]; rfl
section
variable {Q : Exit -> ASt -> Prop} {c : Code} {rest : List Oper} {b i id e sz : Nat} {fs : List FV} {es : List (List PV)}
end
end
end Go.Abs
