/- A prefix of a pure slice in a drawn region; nil compared with nil. -/
import Derived.Test.YtmplfjolcdlipaaGreatDoorJNcG
import Derived.Test.YtmplfjolcdlipaaGreatDoorJXQ7
set_option linter.unusedVariables false
set_option linter.unusedSimpArgs false
namespace Go.Abs
open Go.RowKit
set_option linter.unusedVariables false
section
variable {P : Program} {T : Nat -> Option TyI} {nt : Nat} {s : ASt} {o : Oper} {ops : Array Oper}
theorem then_mono {K K' : ASt -> Prop} {Q : Exit -> ASt -> Prop} (h : ∀ s,K s -> K' s) : ∀ e s,Then K Q e s -> Then K' Q e s := fun e s hq => by
 cases e with
 | normal => exact h s hq
 | _ => exact hq
theorem AW_mid1 {A R : Code} {Q : Exit -> ASt -> Prop} (canon : ASt) (h : AW P nt A (Then (fun s' => Le s' canon) Q) s) (hR : AW P nt R Q canon) : AW P nt (.seq A R) Q s :=
 AW_seq (AW_mono h (then_mono fun _ h => AW_le h hR))
end
end Go.Abs
