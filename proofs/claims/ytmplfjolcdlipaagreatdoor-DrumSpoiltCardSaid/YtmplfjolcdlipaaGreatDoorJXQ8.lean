/- Lemmas. -/
import Derived.Test.YtmplfjolcdlipaaGreatDoorJNcA
import Derived.Test.YtmplfjolcdlipaaGreatDoorJNcB
import Derived.Test.YtmplfjolcdlipaaGreatDoorJNcC
import Derived.Test.YtmplfjolcdlipaaGreatDoorJNcD
import Derived.Test.YtmplfjolcdlipaaGreatDoorJNcE
import Derived.Test.YtmplfjolcdlipaaGreatDoorJNcF
import Derived.Test.YtmplfjolcdlipaaGreatDoorJNcG
import Derived.Test.YtmplfjolcdlipaaGreatDoorJNcH
import Derived.Test.YtmplfjolcdlipaaGreatDoorJDrA
import Derived.Test.YtmplfjolcdlipaaGreatDoorJDrB
import Derived.Test.YtmplfjolcdlipaaGreatDoorJDrC
import Derived.Test.YtmplfjolcdlipaaGreatDoorJFA
import Derived.Test.YtmplfjolcdlipaaGreatDoorJNcI
import Derived.Test.YtmplfjolcdlipaaGreatDoorJNcJ
import Derived.Test.YtmplfjolcdlipaaGreatDoorJNcK
import Derived.Test.YtmplfjolcdlipaaGreatDoorJSh
import Derived.Test.YtmplfjolcdlipaaGreatDoorJDrO
import Derived.Test.YtmplfjolcdlipaaGreatDoorJDrD
import Derived.Test.YtmplfjolcdlipaaGreatDoorJDrE
import Derived.Test.YtmplfjolcdlipaaGreatDoorJDrF
import Derived.Test.YtmplfjolcdlipaaGreatDoorJDrP
import Derived.Test.YtmplfjolcdlipaaGreatDoorJDrQ
import Derived.Test.YtmplfjolcdlipaaGreatDoorJDrR
import Derived.Test.YtmplfjolcdlipaaGreatDoorJDrS
import Derived.Test.YtmplfjolcdlipaaGreatDoorJDrU
import Derived.Test.YtmplfjolcdlipaaGreatDoorJDrG
import Derived.Test.YtmplfjolcdlipaaGreatDoorJDrV
import Derived.Test.YtmplfjolcdlipaaGreatDoorJDrH
import Derived.Test.YtmplfjolcdlipaaGreatDoorJDrI
import Derived.Test.YtmplfjolcdlipaaGreatDoorJDrJ
import Derived.Test.YtmplfjolcdlipaaGreatDoorJDrK
import Derived.Test.YtmplfjolcdlipaaGreatDoorJDrL
import Derived.Test.YtmplfjolcdlipaaGreatDoorJDrM
import Derived.Test.YtmplfjolcdlipaaGreatDoorJDrN
import Derived.Test.YtmplfjolcdlipaaGreatDoorJDrW
import Derived.Test.YtmplfjolcdlipaaGreatDoorJDrBK
import Derived.Test.YtmplfjolcdlipaaGreatDoorJDrBJ
import Derived.Test.YtmplfjolcdlipaaGreatDoorJDrBL
import Derived.Test.YtmplfjolcdlipaaGreatDoorJLa
import Derived.Test.YtmplfjolcdlipaaGreatDoorJKA
import Derived.Test.YtmplfjolcdlipaaGreatDoorJKD
set_option linter.unusedVariables false
set_option linter.unusedSimpArgs false
namespace Go.Abs
open Go.RowKit Go.ChangeShapes
set_option linter.unusedVariables false
section
variable {H : Type} {enc : TypeId × Value -> H} {P : Program} {W : World}
theorem RdC.arg {t : TypeId} {α : Type} {e : α -> List PV} {v : Value} {d : DataW H} {ps : List MemPlace} (h : RdC enc P W t e) (hv : v.cells = #[v]) (he : ∀ x,∃ p,e x = [p]) (hd : DataW.Trod enc P W 0 (fun _ => true) true t v d ps) : ∃ x p,e x = [p] /\ Rep W (fun b => b < W.heap.size) v p:= by
 obtain ⟨n,hn⟩ := hd
 obtain ⟨x,h1,h2⟩ := h _ _ _ hn
 obtain ⟨p,hp⟩ := he x
 exact ⟨x,p,hp,(h2 0 v p (by simp [hv]) (by simp [hp])).2⟩
theorem cells_int {t : TypeId} {k : IntKind} {v : Value} {r : Reach} {b : Nat} (ht : P.underlying t = some (.int k)) (h : Value.okWide P W r b t v) : v.cells = #[v]:= by
 cases v <;> first | rfl | (simp [Value.okWide,ht,Cell.okWide,Cell.ok] at h)
end
end Go.Abs
