/- DyeTurned. -/
import Derived.Test.YtkmclnjmabljdaaGreatDoorKNeZ
import Derived.Test.YtkmclnjmabljdaaGreatDoorKNdA
set_option linter.unusedVariables false
set_option linter.unusedSimpArgs false
namespace Go.Abs
open Go.Proofs
set_option linter.unusedVariables false
set_option linter.unusedSimpArgs false
set_option maxRecDepth 100000
theorem DG_boolT {P : Program} {nt id k : Nat} {opl rest : List Oper} {s s0 : ASt} {o : Oper} {l : List DEnt} {Q : Exit -> ASt -> Prop} {c : Bool} (hT : TabOK P T) (hs : stepD T nt opl.toArray s o = some (s.putO o.dst (some (.pv (.bool c))),⟨some (.pv (.bool c)),false,[],[]⟩)) (hc : c = true) (h : DG P nt id opl Q s0 (k + 1) rest (s.putO o.dst (some (.pv (.bool true)))) (l ++ [⟨some (.pv (.bool true)),false,[],[]⟩])) : DG P nt id opl Q s0 k (o :: rest) s l:= by
 subst hc; exact DG_step hT hs h
end Go.Abs
