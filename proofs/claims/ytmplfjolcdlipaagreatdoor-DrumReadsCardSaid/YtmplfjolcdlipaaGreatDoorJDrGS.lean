/- DrumReads: whatever the input, the statement's function returns true, and the input reads as it did: the row, and the card that ties its listed variables to the program's text. -/
import Derived.Test.YtmplfjolcdlipaaGreatDoorJDrFB
import Derived.Test.YtmplfjolcdlipaaGreatDoorJNcH
import Derived.Test.YtmplfjolcdlipaaGreatDoorJDrKQQ7
import Derived.Test.YtmplfjolcdlipaaGreatDoorTie
import Derived.Test.YtmplfjolcdlipaaGreatDoorCards
import Derived.Test.YtmplfjolcdlipaaGreatDoorJXQ7
set_option linter.unusedVariables false
set_option linter.unusedSimpArgs false
namespace Go.Proofs.YtmplfjolcdlipaaGreatDoor
open Go Go.Abs Go.RowKit Go.ChangeShapes
set_option linter.unusedVariables false
set_option maxRecDepth 100000
theorem lifted7 (os : Os) (started : os.Started) (H : Type) (enc : TypeId × Value -> H) :
  ReturnsInHanded {} Tryz.checked os 7 .any (fun w args => (Rows.drumReadsSpec.pre enc Tryz.prog Tryz.f7 [] false w args /\ laidMetH Tryz.prog laid5 w) /\ sizedMet enc Tryz.prog Tryz.f7 (OpenSpec.ofChange Rows.drumReadsSpec) false w args)
   (Rows.drumReadsSpec.post enc Tryz.prog Tryz.f7 false true false false):= by
 refine law_lifted (fn := Tryz.f7) os started enc (by kernel_rfl) Tryz.func7 rfl rfl ?_ #[.string ⟨#[]⟩] (by kernel_rfl) (by kernel_rfl) (by kernel_rfl) ?_
 ·have : (Tryz.f7.params.toList.all fun t => Tryz.prog.readableRec t && decide (t < Tryz.prog.types.size)) = true := by kernel_rfl
  intro t ht
  have := List.all_eq_true.1 this t ht
  simpa using this
 ·intro W base args ds p hval hA
  have hA' : DataW.TrodAll enc Tryz.prog W 0 (fun _ => true) true [9] args.toList ds p := hA
  obtain ⟨vs,hvs⟩ : ∃ vs,args.toList = vs := ⟨_,rfl⟩
  rw [hvs] at hA'
  obtain ⟨v0,r0,d0,e0,p0,q0,rfl,rfl,rfl,h0,hA'⟩ := Go.Abs.trodAll_cons hA'
  obtain ⟨rfl,rfl,rfl⟩ := Go.Abs.trodAll_nil hA'
  have hargs : args = #[v0] := Array.ext' hvs
  subst hargs
  refine ⟨rfl,?_⟩
  have g0 : Value.okWide Tryz.prog W .any base 9 v0 := hval 0 9 v0 rfl rfl
  obtain ⟨x0,z0,hz0,y0⟩ := rd9.arg (cells_str (by kernel_rfl) g0) (fun x => ⟨_,rfl⟩) h0
  cases hz0
  exact ⟨_,repL_arr (repL_cons y0 repL_nil),f7 x0⟩
theorem cl7a : Rows.drumReadsRow.wf (OpenSpec.ofChange Rows.drumReadsSpec) = true := by kernel_rfl
theorem cl7b : (Tryz.f7.params.all (Tryz.prog.readableRec ·) && namedTie Tryz.prog Rows.drumReadsRow.named Rows.drumReadsSpec.vars) = true := by kernel_rfl
theorem cl7c : (Rows.drumReadsRow.inPlace == Tryz.prog.inPlace 7) = true := by kernel_rfl
theorem cl7d : (Rows.drumReadsRow.unfollowed == Tryz.prog.unfollowed 7) = true := by kernel_rfl
theorem cl7e : (Rows.drumReadsRow.recurses == Tryz.prog.recurses 7) = true := by kernel_rfl
theorem cl7f : (Rows.drumReadsRow.named == Tryz.prog.varsNamed 7) = true := by kernel_rfl
theorem cl7g : ((Rows.drumReadsRow.maps == (Tryz.f7.params.toList ++ Rows.drumReadsSpec.plain.varTypes Tryz.prog).any (Tryz.prog.mapsRec ·)) && (Rows.drumReadsRow.ifaces == (Tryz.f7.params.toList ++ Rows.drumReadsSpec.plain.varTypes Tryz.prog).any (Tryz.prog.ifacesRec ·)) && (Rows.drumReadsRow.mapsOut == Tryz.prog.mapsAmong Tryz.f7.resultTypes.toList) &&
   (Rows.drumReadsRow.loops == (Tryz.f7.params.toList ++ Rows.drumReadsSpec.plain.varTypes Tryz.prog).any (Tryz.prog.loopsFrom ·)) && (Rows.drumReadsRow.wideKeys == (Tryz.f7.params.toList ++ Rows.drumReadsSpec.plain.varTypes Tryz.prog ++ Tryz.f7.resultTypes.toList).any (Tryz.prog.wideKeysFrom ·))) = true := by kernel_rfl
theorem cl7h : (Rows.drumReadsSpec.vars.all (Tryz.prog.varReadable ·) && Tryz.f7.resultTypes.all (fun t => Tryz.prog.readableRec t && decide (t < Tryz.prog.types.size)) && (Rows.drumReadsRow.ifacesOut == Tryz.f7.resultTypes.toList.any (Tryz.prog.ifacesRec ·)) && (Rows.drumReadsRow.loopsOut == Tryz.f7.resultTypes.toList.any (Tryz.prog.loopsFrom ·))) = true := by kernel_rfl
theorem cl7i : ((Rows.drumReadsRow.veiled == (Tryz.f7.params.toList ++ Rows.drumReadsSpec.plain.varTypes Tryz.prog ++ Tryz.f7.resultTypes.toList).any (Tryz.prog.veiledRec ·)) && Rows.drumReadsRow.veiledFits Tryz.prog Tryz.f7.params.toList (Tryz.f7.params.toList ++ Rows.drumReadsSpec.plain.varTypes Tryz.prog ++ Tryz.f7.resultTypes.toList)) = true := by kernel_rfl
theorem joined7 : joinedFacts Tryz.prog 7 Tryz.f7 Rows.drumReadsSpec Rows.drumReadsRow = true :=
 joined_abs laidOutT pf_mapsRowed pf_stopsHeard pf_mayEnter pf_lifted pf_make pf_plainKeys pf_stops pf_knobs cl7a cl7b rfl cl7c cl7d cl7e cl7f cl7g cl7h rfl rfl rfl rfl cl7i
theorem named7 : Tryz.prog.funcNamed "nacre/nacrelaw03.DrumReads" = some 7 := by kernel_rfl
theorem holds7 : Rows.DrumReadsSaid :=
 OpenClaim.holds_of_wide 7 Tryz.f7 rfl rfl rfl rfl rfl rfl rfl ⟨rfl,rfl,rfl,rfl,rfl⟩ rfl rfl rfl rfl rfl named7 Tryz.func7 joined7
  (of_decide_eq_true (by kernel_rfl)) (by unfold Func.isWrapper; first | (rw [if_pos (by decide +kernel)]; kernel_rfl) | (rw [if_neg (by decide +kernel)]; exact ⟨rfl,rfl⟩))
  (fun os started H enc _ => lifted7 os started H enc)
theorem text7 : Rows.drumReadsRow.wfByText (OpenSpec.ofChange Rows.drumReadsSpec) = true := by kernel_rfl
theorem goes7 : false = Rows.drumReadsRow.goesBy Tryz.prog := by kernel_rfl
theorem card7 : Rows.DrumReadsCardSaid :=
 Claim7.holds_tied_plain_at .later [] [.data, .data, .data, .data, .pinned] true (true, "762f071884d5ced12558a666d0624c047b32b12b6407ccf63fd9aae0ad2441ae") true
  holds7 (fun _ h => by cases h) text7 (fun _ h => by cases h) drumReads_row_tie rfl ⟨rfl,rfl⟩ pf_main rfl
  (fun f fn hf hfn => by
   obtain rfl : f = 7 := Option.some.inj (named7.symm.trans hf) |>.symm
   obtain rfl : fn = Tryz.f7 := (Option.some.inj (Tryz.func7.symm.trans hfn)).symm
   exact ⟨pf_looks,fun j t ht => by
    have hm : t ∈ Tryz.f7.params.toList := by simpa using Array.mem_of_getElem? ht
    have hall : (Tryz.f7.params.toList.all fun u => !Tryz.prog.wantsStandIn u) = true := by kernel_rfl
    exact (show Tryz.prog.wantsStandIn t = false by simpa using List.all_eq_true.1 hall t hm)⟩)
  goes7
#print axioms card7
end Go.Proofs.YtmplfjolcdlipaaGreatDoor
