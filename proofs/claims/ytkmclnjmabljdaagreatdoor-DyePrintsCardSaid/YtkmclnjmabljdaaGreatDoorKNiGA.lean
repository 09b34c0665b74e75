/- DyePrints: whatever the input, the statement's function returns true, and the input reads as it did: the row, and the card that ties its listed variables to the program's text. -/
import Derived.Test.YtkmclnjmabljdaaGreatDoorKNiFB
import Derived.Test.YtkmclnjmabljdaaGreatDoorKNcH
import Derived.Test.YtkmclnjmabljdaaGreatDoorKNiP
import Derived.Test.YtkmclnjmabljdaaGreatDoorTie
import Derived.Test.YtkmclnjmabljdaaGreatDoorCards
set_option linter.unusedVariables false
set_option linter.unusedSimpArgs false
namespace Go.Proofs.YtkmclnjmabljdaaGreatDoor
open Go Go.Abs Go.RowKit Go.ChangeShapes
set_option linter.unusedVariables false
set_option maxRecDepth 100000
theorem lifted24 (os : Os) (started : os.Started) (H : Type) (enc : TypeId × Value -> H) :
  ReturnsInHanded {} Tryz.checked os 24 .any (fun w args => (Rows.dyePrintsSpec.pre enc Tryz.prog Tryz.f24 [] false w args /\ laidMetH Tryz.prog laid5 w) /\ sizedMet enc Tryz.prog Tryz.f24 (OpenSpec.ofChange Rows.dyePrintsSpec) false w args)
   (Rows.dyePrintsSpec.post enc Tryz.prog Tryz.f24 false true false false):= by
 refine law_lifted (fn := Tryz.f24) os started enc (by kernel_rfl) Tryz.func24 rfl rfl ?_ #[.agg #[.slice none 0 0],.slice none 0 0] (by kernel_rfl) (by kernel_rfl) (by kernel_rfl) ?_
 ·have : (Tryz.f24.params.toList.all fun t => Tryz.prog.readableRec t && decide (t < Tryz.prog.types.size)) = true := by kernel_rfl
  intro t ht
  have := List.all_eq_true.1 this t ht
  simpa using this
 ·intro W base args ds p hval hA
  have hA' : DataW.TrodAll enc Tryz.prog W 0 (fun _ => true) true [24,59] args.toList ds p := hA
  obtain ⟨vs,hvs⟩ : ∃ vs,args.toList = vs := ⟨_,rfl⟩
  rw [hvs] at hA'
  obtain ⟨v0,r0,d0,e0,p0,q0,rfl,rfl,rfl,h0,hA'⟩ := Go.Abs.trodAll_cons hA'
  obtain ⟨v1,r1,d1,e1,p1,q1,rfl,rfl,rfl,h1,hA'⟩ := Go.Abs.trodAll_cons hA'
  obtain ⟨rfl,rfl,rfl⟩ := Go.Abs.trodAll_nil hA'
  have hargs : args = #[v0,v1] := Array.ext' hvs
  subst hargs
  refine ⟨rfl,?_⟩
  have g0 : Value.okWide Tryz.prog W .any base 24 v0 := hval 0 24 v0 rfl rfl
  obtain ⟨c0,rfl⟩ := agg_of_struct (fs := Tryz.prog.fieldsOf 24) (by kernel_rfl) g0
  obtain ⟨x0,y0⟩ := rd24.argS h0
  have g1 : Value.okWide Tryz.prog W .any base 59 v1 := hval 1 59 v1 rfl rfl
  obtain ⟨x1,z1,hz1,y1⟩ := rd59.arg (cells_slice (el := 95) (by kernel_rfl) g1) (fun x => ⟨_,rfl⟩) h1
  cases hz1
  exact ⟨_,repL_arr (repL_cons y0 (repL_cons y1 repL_nil)),f24 x0 x1⟩
theorem cl24a : Rows.dyePrintsRow.wf (OpenSpec.ofChange Rows.dyePrintsSpec) = true := by kernel_rfl
theorem cl24b : (Tryz.f24.params.all (Tryz.prog.readableRec ·) && namedTie Tryz.prog Rows.dyePrintsRow.named Rows.dyePrintsSpec.vars) = true := by kernel_rfl
theorem cl24c : (Rows.dyePrintsRow.inPlace == Tryz.prog.inPlace 24) = true := by kernel_rfl
theorem cl24d : (Rows.dyePrintsRow.unfollowed == Tryz.prog.unfollowed 24) = true := by kernel_rfl
theorem cl24e : (Rows.dyePrintsRow.recurses == Tryz.prog.recurses 24) = true := by kernel_rfl
theorem cl24f : (Rows.dyePrintsRow.named == Tryz.prog.varsNamed 24) = true := by kernel_rfl
theorem cl24g : ((Rows.dyePrintsRow.maps == (Tryz.f24.params.toList ++ Rows.dyePrintsSpec.plain.varTypes Tryz.prog).any (Tryz.prog.mapsRec ·)) && (Rows.dyePrintsRow.ifaces == (Tryz.f24.params.toList ++ Rows.dyePrintsSpec.plain.varTypes Tryz.prog).any (Tryz.prog.ifacesRec ·)) && (Rows.dyePrintsRow.mapsOut == Tryz.prog.mapsAmong Tryz.f24.resultTypes.toList) &&
   (Rows.dyePrintsRow.loops == (Tryz.f24.params.toList ++ Rows.dyePrintsSpec.plain.varTypes Tryz.prog).any (Tryz.prog.loopsFrom ·)) && (Rows.dyePrintsRow.wideKeys == (Tryz.f24.params.toList ++ Rows.dyePrintsSpec.plain.varTypes Tryz.prog ++ Tryz.f24.resultTypes.toList).any (Tryz.prog.wideKeysFrom ·))) = true := by kernel_rfl
theorem cl24h : (Rows.dyePrintsSpec.vars.all (Tryz.prog.varReadable ·) && Tryz.f24.resultTypes.all (fun t => Tryz.prog.readableRec t && decide (t < Tryz.prog.types.size)) && (Rows.dyePrintsRow.ifacesOut == Tryz.f24.resultTypes.toList.any (Tryz.prog.ifacesRec ·)) && (Rows.dyePrintsRow.loopsOut == Tryz.f24.resultTypes.toList.any (Tryz.prog.loopsFrom ·))) = true := by kernel_rfl
theorem cl24i : ((Rows.dyePrintsRow.veiled == (Tryz.f24.params.toList ++ Rows.dyePrintsSpec.plain.varTypes Tryz.prog ++ Tryz.f24.resultTypes.toList).any (Tryz.prog.veiledRec ·)) && Rows.dyePrintsRow.veiledFits Tryz.prog Tryz.f24.params.toList (Tryz.f24.params.toList ++ Rows.dyePrintsSpec.plain.varTypes Tryz.prog ++ Tryz.f24.resultTypes.toList)) = true := by kernel_rfl
theorem joined24 : joinedFacts Tryz.prog 24 Tryz.f24 Rows.dyePrintsSpec Rows.dyePrintsRow = true :=
 joined_abs laidOutT pf_mapsRowed pf_stopsHeard pf_mayEnter pf_lifted pf_make pf_plainKeys pf_stops pf_knobs cl24a cl24b rfl cl24c cl24d cl24e cl24f cl24g cl24h rfl rfl rfl rfl cl24i
theorem named24 : Tryz.prog.funcNamed "nacre/nacrelaw04.DyePrints" = some 24 := by kernel_rfl
theorem holds24 : Rows.DyePrintsSaid :=
 OpenClaim.holds_of_wide 24 Tryz.f24 rfl rfl rfl rfl rfl rfl rfl ⟨rfl,rfl,rfl,rfl,rfl⟩ rfl rfl rfl rfl rfl named24 Tryz.func24 joined24
  (of_decide_eq_true (by kernel_rfl)) (by unfold Func.isWrapper; first | (rw [if_pos (by decide +kernel)]; kernel_rfl) | (rw [if_neg (by decide +kernel)]; exact ⟨rfl,rfl⟩))
  (fun os started H enc _ => lifted24 os started H enc)
theorem text24 : Rows.dyePrintsRow.wfByText (OpenSpec.ofChange Rows.dyePrintsSpec) = true := by kernel_rfl
theorem goes24 : false = Rows.dyePrintsRow.goesBy Tryz.prog := by kernel_rfl
theorem card24 : Rows.DyePrintsCardSaid :=
 Claim7.holds_tied_plain_at .later [] [.data, .data, .data, .data, .pinned] true (true, "2d786f4c48be527342a5a148c4ad2cb82cdd4fa7b6be3b273fbea74be73c3c94") true
  holds24 (fun _ h => by cases h) text24 (fun _ h => by cases h) dyePrints_row_tie rfl ⟨rfl,rfl⟩ pf_main rfl
  (fun f fn hf hfn => by
   obtain rfl : f = 24 := Option.some.inj (named24.symm.trans hf) |>.symm
   obtain rfl : fn = Tryz.f24 := (Option.some.inj (Tryz.func24.symm.trans hfn)).symm
   exact ⟨pf_looks,fun j t ht => by
    have hm : t ∈ Tryz.f24.params.toList := by simpa using Array.mem_of_getElem? ht
    have hall : (Tryz.f24.params.toList.all fun u => !Tryz.prog.wantsStandIn u) = true := by kernel_rfl
    exact (show Tryz.prog.wantsStandIn t = false by simpa using List.all_eq_true.1 hall t hm)⟩)
  goes24
#print axioms card24
end Go.Proofs.YtkmclnjmabljdaaGreatDoor
