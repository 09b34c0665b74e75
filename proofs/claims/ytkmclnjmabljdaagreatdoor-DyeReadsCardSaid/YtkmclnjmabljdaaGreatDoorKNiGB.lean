/- DyeReads: whatever the input, the statement's function returns true, and the input reads as it did: the row, and the card that ties its listed variables to the program's text. -/
import Derived.Test.YtkmclnjmabljdaaGreatDoorKNiFB
import Derived.Test.YtkmclnjmabljdaaGreatDoorKNcH
import Derived.Test.YtkmclnjmabljdaaGreatDoorKNiR
import Derived.Test.YtkmclnjmabljdaaGreatDoorTie
import Derived.Test.YtkmclnjmabljdaaGreatDoorCards
set_option linter.unusedVariables false
set_option linter.unusedSimpArgs false
namespace Go.Proofs.YtkmclnjmabljdaaGreatDoor
open Go Go.Abs Go.RowKit Go.ChangeShapes
set_option linter.unusedVariables false
set_option maxRecDepth 100000
theorem lifted25 (os : Os) (started : os.Started) (H : Type) (enc : TypeId × Value -> H) :
  ReturnsInHanded {} Tryz.checked os 25 .any (fun w args => (Rows.dyeReadsSpec.pre enc Tryz.prog Tryz.f25 [] false w args /\ laidMetH Tryz.prog laid5 w) /\ sizedMet enc Tryz.prog Tryz.f25 (OpenSpec.ofChange Rows.dyeReadsSpec) false w args)
   (Rows.dyeReadsSpec.post enc Tryz.prog Tryz.f25 false true false false):= by
 refine law_lifted (fn := Tryz.f25) os started enc (by kernel_rfl) Tryz.func25 rfl rfl ?_ #[.string ⟨#[]⟩] (by kernel_rfl) (by kernel_rfl) (by kernel_rfl) ?_
 ·have : (Tryz.f25.params.toList.all fun t => Tryz.prog.readableRec t && decide (t < Tryz.prog.types.size)) = true := by kernel_rfl
  intro t ht
  have := List.all_eq_true.1 this t ht
  simpa using this
 ·intro W base args ds p hval hA
  have hA' : DataW.TrodAll enc Tryz.prog W 0 (fun _ => true) true [9] args.toList ds p := hA
  obtain ⟨vs,hvs⟩ : ∃ vs,args.toList = vs := ⟨_,rfl⟩
  rw [hvs] at hA'
  obtain ⟨v0,r0,d0,e0,p0,q0,rfl,rfl,rfl,h0,hA'⟩ := Go.Abs.trodAll_cons hA'
  obtain ⟨rfl,rfl,rfl⟩ := Go.Abs.trodAll_nil hA'
  have hargs : args = #[v0] := Array.ext' hvs
  subst hargs
  refine ⟨rfl,?_⟩
  have g0 : Value.okWide Tryz.prog W .any base 9 v0 := hval 0 9 v0 rfl rfl
  obtain ⟨x0,z0,hz0,y0⟩ := rd9.arg (cells_str (by kernel_rfl) g0) (fun x => ⟨_,rfl⟩) h0
  cases hz0
  exact ⟨_,repL_arr (repL_cons y0 repL_nil),f25 x0⟩
theorem cl25a : Rows.dyeReadsRow.wf (OpenSpec.ofChange Rows.dyeReadsSpec) = true := by kernel_rfl
theorem cl25b : (Tryz.f25.params.all (Tryz.prog.readableRec ·) && namedTie Tryz.prog Rows.dyeReadsRow.named Rows.dyeReadsSpec.vars) = true := by kernel_rfl
theorem cl25c : (Rows.dyeReadsRow.inPlace == Tryz.prog.inPlace 25) = true := by kernel_rfl
theorem cl25d : (Rows.dyeReadsRow.unfollowed == Tryz.prog.unfollowed 25) = true := by kernel_rfl
theorem cl25e : (Rows.dyeReadsRow.recurses == Tryz.prog.recurses 25) = true := by kernel_rfl
theorem cl25f : (Rows.dyeReadsRow.named == Tryz.prog.varsNamed 25) = true := by kernel_rfl
theorem cl25g : ((Rows.dyeReadsRow.maps == (Tryz.f25.params.toList ++ Rows.dyeReadsSpec.plain.varTypes Tryz.prog).any (Tryz.prog.mapsRec ·)) && (Rows.dyeReadsRow.ifaces == (Tryz.f25.params.toList ++ Rows.dyeReadsSpec.plain.varTypes Tryz.prog).any (Tryz.prog.ifacesRec ·)) && (Rows.dyeReadsRow.mapsOut == Tryz.prog.mapsAmong Tryz.f25.resultTypes.toList) &&
   (Rows.dyeReadsRow.loops == (Tryz.f25.params.toList ++ Rows.dyeReadsSpec.plain.varTypes Tryz.prog).any (Tryz.prog.loopsFrom ·)) && (Rows.dyeReadsRow.wideKeys == (Tryz.f25.params.toList ++ Rows.dyeReadsSpec.plain.varTypes Tryz.prog ++ Tryz.f25.resultTypes.toList).any (Tryz.prog.wideKeysFrom ·))) = true := by kernel_rfl
theorem cl25h : (Rows.dyeReadsSpec.vars.all (Tryz.prog.varReadable ·) && Tryz.f25.resultTypes.all (fun t => Tryz.prog.readableRec t && decide (t < Tryz.prog.types.size)) && (Rows.dyeReadsRow.ifacesOut == Tryz.f25.resultTypes.toList.any (Tryz.prog.ifacesRec ·)) && (Rows.dyeReadsRow.loopsOut == Tryz.f25.resultTypes.toList.any (Tryz.prog.loopsFrom ·))) = true := by kernel_rfl
theorem cl25i : ((Rows.dyeReadsRow.veiled == (Tryz.f25.params.toList ++ Rows.dyeReadsSpec.plain.varTypes Tryz.prog ++ Tryz.f25.resultTypes.toList).any (Tryz.prog.veiledRec ·)) && Rows.dyeReadsRow.veiledFits Tryz.prog Tryz.f25.params.toList (Tryz.f25.params.toList ++ Rows.dyeReadsSpec.plain.varTypes Tryz.prog ++ Tryz.f25.resultTypes.toList)) = true := by kernel_rfl
theorem joined25 : joinedFacts Tryz.prog 25 Tryz.f25 Rows.dyeReadsSpec Rows.dyeReadsRow = true :=
 joined_abs laidOutT pf_mapsRowed pf_stopsHeard pf_mayEnter pf_lifted pf_make pf_plainKeys pf_stops pf_knobs cl25a cl25b rfl cl25c cl25d cl25e cl25f cl25g cl25h rfl rfl rfl rfl cl25i
theorem named25 : Tryz.prog.funcNamed "nacre/nacrelaw04.DyeReads" = some 25 := by kernel_rfl
theorem holds25 : Rows.DyeReadsSaid :=
 OpenClaim.holds_of_wide 25 Tryz.f25 rfl rfl rfl rfl rfl rfl rfl ⟨rfl,rfl,rfl,rfl,rfl⟩ rfl rfl rfl rfl rfl named25 Tryz.func25 joined25
  (of_decide_eq_true (by kernel_rfl)) (by unfold Func.isWrapper; first | (rw [if_pos (by decide +kernel)]; kernel_rfl) | (rw [if_neg (by decide +kernel)]; exact ⟨rfl,rfl⟩))
  (fun os started H enc _ => lifted25 os started H enc)
theorem text25 : Rows.dyeReadsRow.wfByText (OpenSpec.ofChange Rows.dyeReadsSpec) = true := by kernel_rfl
theorem goes25 : false = Rows.dyeReadsRow.goesBy Tryz.prog := by kernel_rfl
theorem card25 : Rows.DyeReadsCardSaid :=
 Claim7.holds_tied_plain_at .later [] [.data, .data, .data, .data, .pinned] true (true, "2d786f4c48be527342a5a148c4ad2cb82cdd4fa7b6be3b273fbea74be73c3c94") true
  holds25 (fun _ h => by cases h) text25 (fun _ h => by cases h) dyeReads_row_tie rfl ⟨rfl,rfl⟩ pf_main rfl
  (fun f fn hf hfn => by
   obtain rfl : f = 25 := Option.some.inj (named25.symm.trans hf) |>.symm
   obtain rfl : fn = Tryz.f25 := (Option.some.inj (Tryz.func25.symm.trans hfn)).symm
   exact ⟨pf_looks,fun j t ht => by
    have hm : t ∈ Tryz.f25.params.toList := by simpa using Array.mem_of_getElem? ht
    have hall : (Tryz.f25.params.toList.all fun u => !Tryz.prog.wantsStandIn u) = true := by kernel_rfl
    exact (show Tryz.prog.wantsStandIn t = false by simpa using List.all_eq_true.1 hall t hm)⟩)
  goes25
#print axioms card25
end Go.Proofs.YtkmclnjmabljdaaGreatDoor
