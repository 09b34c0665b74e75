/- The statements' arguments of layer 4, read. -/
import Derived.Test.YtkmclnjmabljdaaGreatDoorNcH
import Derived.Test.YtkmclnjmabljdaaGreatDoorNdA
import Derived.Test.YtkmclnjmabljdaaGreatDoorRows
import Derived.LaidMore
set_option linter.unusedVariables false
set_option linter.unusedSimpArgs false
namespace Go.Abs
open Go.Proofs Go.RowKit
set_option linter.unusedVariables false
set_option maxRecDepth 100000
section
variable {H : Type} {enc : TypeId × Value → H} {W : World}
theorem rd3 : RdC enc Tryz.prog W 3 (fun n : Int => [vi n]) := RdC.int (by kernel_rfl)
theorem rd37 : RdC enc Tryz.prog W 37 eSpan :=
  RdC.map (t := 37) (fun x : Int × Int × Unit => ⟨x.1, x.2.1⟩) (fun x => by rfl) (RdC.strct (fs := [(3, 0), (3, 1)]) (by kernel_rfl) (by kernel_rfl) (RdF.cons 1 rd3 (by kernel_rfl) (by decide +kernel) (RdF.cons 1 rd3 (by kernel_rfl) (by decide +kernel) (RdF.nil (by kernel_rfl)))))
theorem rd28 : RdC enc Tryz.prog W 28 (fun l : List Span => [eSpans l]) := RdC.sl (by kernel_rfl) (fun x => by rw [show Tryz.prog.cellsOf 37 = 2 by kernel_rfl]; rfl) rd37
theorem rd47 : RdC enc Tryz.prog W 47 (fun l : List Int => [eInts l]) := RdC.sl (e := eInt) (by kernel_rfl) (fun x => by rw [show Tryz.prog.cellsOf 3 = 1 by kernel_rfl]; rfl) rd3
theorem rd90 : RdC enc Tryz.prog W 90 eDye :=
  RdC.map (t := 90) (fun x : List Span × Int × Unit => ⟨x.1, x.2.1⟩) (fun x => by rfl) (RdC.strct (fs := [(28, 0), (3, 1)]) (by kernel_rfl) (by kernel_rfl) (RdF.cons 1 rd28 (by kernel_rfl) (by decide +kernel) (RdF.cons 1 rd3 (by kernel_rfl) (by decide +kernel) (RdF.nil (by kernel_rfl)))))
theorem rd22 : RdC enc Tryz.prog W 22 (fun l : List Dye => [.sl (l.map eDye)]) := RdC.sl (by kernel_rfl) (fun x => by rw [show Tryz.prog.cellsOf 90 = 2 by kernel_rfl]; rfl) rd90
theorem rd24 : RdC enc Tryz.prog W 24 (fun h : List Dye => [.sl (h.map eDye)]) :=
  RdC.map (t := 24) (fun x : List Dye × Unit => x.1) (fun x => by rfl) (RdC.strct (fs := [(22, 0)]) (by kernel_rfl) (by kernel_rfl) (RdF.cons 1 rd22 (by kernel_rfl) (by decide +kernel) (RdF.nil (by kernel_rfl))))
theorem rd154 : RdC enc Tryz.prog W 154 eBath :=
  RdC.map (t := 154) (fun x : Int × Int × Span × Unit => ⟨x.1, x.2.1, x.2.2.1⟩) (fun x => by rfl) (RdC.strct (fs := [(3, 0), (3, 1), (37, 2)]) (by kernel_rfl) (by kernel_rfl) (RdF.cons 1 rd3 (by kernel_rfl) (by decide +kernel) (RdF.cons 1 rd3 (by kernel_rfl) (by decide +kernel) (RdF.cons 2 rd37 (by kernel_rfl) (by decide +kernel) (RdF.nil (by kernel_rfl))))))
theorem rd25 : RdC enc Tryz.prog W 25 (fun l : List Bath => [eBaths l]) := RdC.sl (by kernel_rfl) (fun x => by rw [show Tryz.prog.cellsOf 154 = 4 by kernel_rfl]; rfl) rd154
theorem rd49 : RdC enc Tryz.prog W 49 eLampC :=
  RdC.map (t := 49) (fun x : List Int × Unit => x.1) (fun x => by rfl) (RdC.strct (fs := [(47, 0)]) (by kernel_rfl) (by kernel_rfl) (RdF.cons 1 rd47 (by kernel_rfl) (by decide +kernel) (RdF.nil (by kernel_rfl))))
theorem rd35 : RdC enc Tryz.prog W 35 (fun l : List (List Int) => [eLamps l]) := RdC.sl (by kernel_rfl) (fun x => by rw [show Tryz.prog.cellsOf 49 = 1 by kernel_rfl]; rfl) rd49
theorem rd95 : RdC enc Tryz.prog W 95 eStock :=
  RdC.map (t := 95) (fun x : List Bath × Int × Int × Unit => ⟨x.1, x.2.1, x.2.2.1⟩) (fun x => by rfl) (RdC.strct (fs := [(25, 0), (3, 1), (3, 2)]) (by kernel_rfl) (by kernel_rfl) (RdF.cons 1 rd25 (by kernel_rfl) (by decide +kernel) (RdF.cons 1 rd3 (by kernel_rfl) (by decide +kernel) (RdF.cons 1 rd3 (by kernel_rfl) (by decide +kernel) (RdF.nil (by kernel_rfl))))))
theorem rd59 : RdC enc Tryz.prog W 59 (fun l : List Stock => [eStocks l]) := RdC.sl (by kernel_rfl) (fun x => by rw [show Tryz.prog.cellsOf 95 = 3 by kernel_rfl]; rfl) rd95
theorem rd58 : RdC enc Tryz.prog W 58 (fun c : Coat => [eLamps c.lamps, vi c.eye.low, vi c.eye.high, eSpans c.old, vi c.need]) :=
  RdC.map (t := 58) (fun x : List (List Int) × Span × List Span × Int × Unit => ⟨x.1, x.2.1, x.2.2.1, x.2.2.2.1⟩) (fun x => by rfl) (RdC.strct (fs := [(35, 0), (37, 1), (28, 3), (3, 4)]) (by kernel_rfl) (by kernel_rfl) (RdF.cons 1 rd35 (by kernel_rfl) (by decide +kernel) (RdF.cons 2 rd37 (by kernel_rfl) (by decide +kernel) (RdF.cons 1 rd28 (by kernel_rfl) (by decide +kernel) (RdF.cons 1 rd3 (by kernel_rfl) (by decide +kernel) (RdF.nil (by kernel_rfl)))))))
theorem rd112 : RdC enc Tryz.prog W 112 (fun l : List (List Int) => [eRows l]) := RdC.sl (e := eIntsC) (by kernel_rfl) (fun x => by rw [show Tryz.prog.cellsOf 47 = 1 by kernel_rfl]; rfl) rd47
theorem rd114 : RdC enc Tryz.prog W 114 (fun x : List (List Int) × List Int => [eRows x.1, eInts x.2]) :=
  RdC.map (t := 114) (fun x : List (List Int) × List Int × Unit => (x.1, x.2.1)) (fun x => by rfl) (RdC.strct (fs := [(112, 0), (47, 1)]) (by kernel_rfl) (by kernel_rfl) (RdF.cons 1 rd112 (by kernel_rfl) (by decide +kernel) (RdF.cons 1 rd47 (by kernel_rfl) (by decide +kernel) (RdF.nil (by kernel_rfl)))))
theorem rd67 : RdC enc Tryz.prog W 67 (fun s : Sorter => [vi s.eye.low, vi s.eye.high, vi s.tire, eSpans s.looks]) :=
  RdC.map (t := 67) (fun x : Span × Int × List Span × Unit => ⟨x.1, x.2.1, x.2.2.1⟩) (fun x => by rfl) (RdC.strct (fs := [(37, 0), (3, 2), (28, 3)]) (by kernel_rfl) (by kernel_rfl) (RdF.cons 2 rd37 (by kernel_rfl) (by decide +kernel) (RdF.cons 1 rd3 (by kernel_rfl) (by decide +kernel) (RdF.cons 1 rd28 (by kernel_rfl) (by decide +kernel) (RdF.nil (by kernel_rfl))))))
end
end Go.Abs

/- The frame of layer 4's statements: what is laid; the witness; from a contract to the row. -/
namespace Go.Abs
open Go.Proofs Go.RowKit Go.ChangeShapes Go.Proofs.YtkmclnjmabljdaaGreatDoor
set_option linter.unusedVariables false
set_option maxRecDepth 100000

def laid3 : List (String × DataW Unit) := [("math/bits.deBruijn32tab", Rows.laid_math_bits_deBruijn32tab), ("math/bits.deBruijn64tab", Rows.laid_math_bits_deBruijn64tab), ("internal/strconv.uint64pow10", Rows.laid_internal_strconv_uint64pow10)]
theorem ownT : ownKnob Tryz.prog.godebug = none := by kernel_rfl
theorem laidOutT : laidOutB Tryz.prog = true := by kernel_rfl
theorem bool4 : Tryz.prog.underlying 4 = some .bool := by kernel_rfl
theorem door_met (os : Os) (args : Array Value) : laidMetH Tryz.prog laid3 ((World.doorLaid Tryz.prog 400 os).forCall (fun _ _ => 0) ⟨#[], args, []⟩).memory :=
  laidMetH_of_parts3 (fuel := 8) (laidMet_of_run' 8 (by kernel_rfl) (by kernel_rfl)) (by kernel_rfl) (by kernel_rfl)
theorem door_shaped (os : Os) (args : Array Value) : ((World.doorLaid Tryz.prog 400 os).forCall (fun _ _ => 0) ⟨#[], args, []⟩).Shaped Tryz.prog :=
  World.shaped_of_RefB (by kernel_rfl) (by kernel_rfl)
/-- From a contract to what the row asks. -/
theorem law_lifted {f : FuncId} {fn : Func} {s : ChangeSpec} (os : Os) (started : os.Started) {H : Type} (enc : TypeId × Value → H) (hno : Tryz.prog.inits.idxOf? f = none) (hfn : Tryz.prog.funcs[f]? = some fn) (hs : s.vars = [])
    (hres : fn.resultTypes = #[4]) (hts : ∀ t ∈ fn.params.toList, Tryz.prog.readableRec t = true ∧ t < Tryz.prog.types.size)
    (args : Array Value) (hok : Input.okWideB Tryz.prog ((World.doorLaid Tryz.prog 400 os).forCall (fun _ _ => 0) ⟨#[], args, []⟩) f ⟨#[], args, []⟩ = true)
    (hpre : s.preB enc Tryz.prog fn [] false ((World.doorLaid Tryz.prog 400 os).forCall (fun _ _ => 0) ⟨#[], args, []⟩).memory args 8 = true)
    (hsz : s.sizedB enc Tryz.prog fn false ((World.doorLaid Tryz.prog 400 os).forCall (fun _ _ => 0) ⟨#[], args, []⟩).memory args 8 = true)
    (contract : ∀ (W : World) (base : Nat) (args : Array Value) (ds : List (DataW H)) (p : List MemPlace), (∀ (j : Nat) t v, fn.params[j]? = some t → args[j]? = some v → Value.okWide Tryz.prog W .any base t v) →
      DataW.TrodAll enc Tryz.prog W 0 (fun _ => true) true fn.params.toList args.toList ds p →
      s.fn H ds = { results := [.lit (.bool true)], args := ds } ∧ ∃ ps, RepL W (fun b => b < W.heap.size) args ps ∧ ACalls Tryz.prog f ps (fun r => r = .pv (.bool true))) :
    ReturnsInHanded {} Tryz.checked os f .any (fun w args => (s.pre enc Tryz.prog fn [] false w args ∧ laidMetH Tryz.prog laid3 w) ∧ sizedMet enc Tryz.prog fn (OpenSpec.ofChange s) false w args)
      (s.post enc Tryz.prog fn false true false false) := by
  refine returnsInHanded_of_change_and (C := Tryz.checked) (X := fun w _ => laidMetH Tryz.prog laid3 w) (fun _ _ _ hh h => h.of_heap hh) ownT started hno hfn
    (ChangeSpec.witness_shaped (enc := enc) (C := Tryz.checked) (os := os) (X := fun w _ => laidMetH Tryz.prog laid3 w) false (World.doorLaid Tryz.prog 400 os) args 8 rfl (door_shaped os args) hok hpre hsz (door_met os _)) ?_
  intro W base args ds gs before hval hW _ _ hL _
  obtain ⟨p, q, hA, hV, _⟩ := id hW
  obtain ⟨hfn', ps, hR, hC⟩ := contract W base args ds p hval hA
  refine (hC.2 W (fun b => b < W.heap.size) args (fun _ h => h) hR).mono ?_
  rintro e w' ⟨v, r, D', rfl, hb, _, _, _, hr, rfl⟩
  have hv : v = .bool true := Rep.inv_bool hr
  subst hv
  exact ⟨_, rfl, law_post hs hfn' hres bool4 laidOutT hts hW hb⟩
end Go.Abs
