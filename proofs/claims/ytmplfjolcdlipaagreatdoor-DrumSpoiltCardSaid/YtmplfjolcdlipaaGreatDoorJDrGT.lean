/- DrumSpoilt: whatever the input, the statement's function returns true, and the input reads as it did: the row, and the card that ties its listed variables to the program's text. -/
import Derived.Test.YtmplfjolcdlipaaGreatDoorJDrFB
import Derived.Test.YtmplfjolcdlipaaGreatDoorJNcH
import Derived.Test.YtmplfjolcdlipaaGreatDoorJDrKTQ8
import Derived.Test.YtmplfjolcdlipaaGreatDoorTie
import Derived.Test.YtmplfjolcdlipaaGreatDoorCards
import Derived.Test.YtmplfjolcdlipaaGreatDoorJXQ8
set_option linter.unusedVariables false
set_option linter.unusedSimpArgs false
namespace Go.Proofs.YtmplfjolcdlipaaGreatDoor
open Go Go.Abs Go.RowKit Go.ChangeShapes
set_option linter.unusedVariables false
set_option maxRecDepth 100000
theorem lifted8 (os : Os) (started : os.Started) (H : Type) (enc : TypeId × Value -> H) :
  ReturnsInHanded {} Tryz.checked os 8 .any (fun w args => (Rows.drumSpoiltSpec.pre enc Tryz.prog Tryz.f8 [] false w args /\ laidMetH Tryz.prog laid5 w) /\ sizedMet enc Tryz.prog Tryz.f8 (OpenSpec.ofChange Rows.drumSpoiltSpec) false w args)
   (Rows.drumSpoiltSpec.post enc Tryz.prog Tryz.f8 false true false false):= by
 refine law_lifted (fn := Tryz.f8) os started enc (by kernel_rfl) Tryz.func8 rfl rfl ?_ #[.agg #[.slice none 0 0,.int .i64 0,.int .i64 0,.slice none 0 0,.slice none 0 0,.slice none 0 0],.int .i64 0,.int .i64 0] (by kernel_rfl) (by kernel_rfl) (by kernel_rfl) ?_
 ·have : (Tryz.f8.params.toList.all fun t => Tryz.prog.readableRec t && decide (t < Tryz.prog.types.size)) = true := by kernel_rfl
  intro t ht
  have := List.all_eq_true.1 this t ht
  simpa using this
 ·intro W base args ds p hval hA
  have hA' : DataW.TrodAll enc Tryz.prog W 0 (fun _ => true) true [27,3,3] args.toList ds p := hA
  obtain ⟨vs,hvs⟩ : ∃ vs,args.toList = vs := ⟨_,rfl⟩
  rw [hvs] at hA'
  obtain ⟨v0,r0,d0,e0,p0,q0,rfl,rfl,rfl,h0,hA'⟩ := Go.Abs.trodAll_cons hA'
  obtain ⟨v1,r1,d1,e1,p1,q1,rfl,rfl,rfl,h1,hA'⟩ := Go.Abs.trodAll_cons hA'
  obtain ⟨v2,r2,d2,e2,p2,q2,rfl,rfl,rfl,h2,hA'⟩ := Go.Abs.trodAll_cons hA'
  obtain ⟨rfl,rfl,rfl⟩ := Go.Abs.trodAll_nil hA'
  have hargs : args = #[v0,v1,v2] := Array.ext' hvs
  subst hargs
  refine ⟨rfl,?_⟩
  have g0 : Value.okWide Tryz.prog W .any base 27 v0 := hval 0 27 v0 rfl rfl
  obtain ⟨c0,rfl⟩ := agg_of_struct (fs := Tryz.prog.fieldsOf 27) (by kernel_rfl) g0
  obtain ⟨x0,y0⟩ := rd27.argS h0
  have g1 : Value.okWide Tryz.prog W .any base 3 v1 := hval 1 3 v1 rfl rfl
  obtain ⟨x1,z1,hz1,y1⟩ := rd3.arg (cells_int (k := .i64) (by kernel_rfl) g1) (fun x => ⟨_,rfl⟩) h1
  cases hz1
  have g2 : Value.okWide Tryz.prog W .any base 3 v2 := hval 2 3 v2 rfl rfl
  obtain ⟨x2,z2,hz2,y2⟩ := rd3.arg (cells_int (k := .i64) (by kernel_rfl) g2) (fun x => ⟨_,rfl⟩) h2
  cases hz2
  exact ⟨_,repL_arr (repL_cons y0 (repL_cons y1 (repL_cons y2 repL_nil))),f8 x0 x1 x2⟩
theorem cl8a : Rows.drumSpoiltRow.wf (OpenSpec.ofChange Rows.drumSpoiltSpec) = true := by kernel_rfl
theorem cl8b : (Tryz.f8.params.all (Tryz.prog.readableRec ·) && namedTie Tryz.prog Rows.drumSpoiltRow.named Rows.drumSpoiltSpec.vars) = true := by kernel_rfl
theorem cl8c : (Rows.drumSpoiltRow.inPlace == Tryz.prog.inPlace 8) = true := by kernel_rfl
theorem cl8d : (Rows.drumSpoiltRow.unfollowed == Tryz.prog.unfollowed 8) = true := by kernel_rfl
theorem cl8e : (Rows.drumSpoiltRow.recurses == Tryz.prog.recurses 8) = true := by kernel_rfl
theorem cl8f : (Rows.drumSpoiltRow.named == Tryz.prog.varsNamed 8) = true := by kernel_rfl
theorem cl8g : ((Rows.drumSpoiltRow.maps == (Tryz.f8.params.toList ++ Rows.drumSpoiltSpec.plain.varTypes Tryz.prog).any (Tryz.prog.mapsRec ·)) && (Rows.drumSpoiltRow.ifaces == (Tryz.f8.params.toList ++ Rows.drumSpoiltSpec.plain.varTypes Tryz.prog).any (Tryz.prog.ifacesRec ·)) && (Rows.drumSpoiltRow.mapsOut == Tryz.prog.mapsAmong Tryz.f8.resultTypes.toList) &&
   (Rows.drumSpoiltRow.loops == (Tryz.f8.params.toList ++ Rows.drumSpoiltSpec.plain.varTypes Tryz.prog).any (Tryz.prog.loopsFrom ·)) && (Rows.drumSpoiltRow.wideKeys == (Tryz.f8.params.toList ++ Rows.drumSpoiltSpec.plain.varTypes Tryz.prog ++ Tryz.f8.resultTypes.toList).any (Tryz.prog.wideKeysFrom ·))) = true := by kernel_rfl
theorem cl8h : (Rows.drumSpoiltSpec.vars.all (Tryz.prog.varReadable ·) && Tryz.f8.resultTypes.all (fun t => Tryz.prog.readableRec t && decide (t < Tryz.prog.types.size)) && (Rows.drumSpoiltRow.ifacesOut == Tryz.f8.resultTypes.toList.any (Tryz.prog.ifacesRec ·)) && (Rows.drumSpoiltRow.loopsOut == Tryz.f8.resultTypes.toList.any (Tryz.prog.loopsFrom ·))) = true := by kernel_rfl
theorem cl8i : ((Rows.drumSpoiltRow.veiled == (Tryz.f8.params.toList ++ Rows.drumSpoiltSpec.plain.varTypes Tryz.prog ++ Tryz.f8.resultTypes.toList).any (Tryz.prog.veiledRec ·)) && Rows.drumSpoiltRow.veiledFits Tryz.prog Tryz.f8.params.toList (Tryz.f8.params.toList ++ Rows.drumSpoiltSpec.plain.varTypes Tryz.prog ++ Tryz.f8.resultTypes.toList)) = true := by kernel_rfl
theorem joined8 : joinedFacts Tryz.prog 8 Tryz.f8 Rows.drumSpoiltSpec Rows.drumSpoiltRow = true :=
 joined_abs laidOutT pf_mapsRowed pf_stopsHeard pf_mayEnter pf_lifted pf_make pf_plainKeys pf_stops pf_knobs cl8a cl8b rfl cl8c cl8d cl8e cl8f cl8g cl8h rfl rfl rfl rfl cl8i
theorem named8 : Tryz.prog.funcNamed "nacre/nacrelaw03.DrumSpoilt" = some 8 := by kernel_rfl
theorem holds8 : Rows.DrumSpoiltSaid :=
 OpenClaim.holds_of_wide 8 Tryz.f8 rfl rfl rfl rfl rfl rfl rfl ⟨rfl,rfl,rfl,rfl,rfl⟩ rfl rfl rfl rfl rfl named8 Tryz.func8 joined8
  (of_decide_eq_true (by kernel_rfl)) (by unfold Func.isWrapper; first | (rw [if_pos (by decide +kernel)]; kernel_rfl) | (rw [if_neg (by decide +kernel)]; exact ⟨rfl,rfl⟩))
  (fun os started H enc _ => lifted8 os started H enc)
theorem text8 : Rows.drumSpoiltRow.wfByText (OpenSpec.ofChange Rows.drumSpoiltSpec) = true := by kernel_rfl
theorem goes8 : false = Rows.drumSpoiltRow.goesBy Tryz.prog := by kernel_rfl
theorem card8 : Rows.DrumSpoiltCardSaid :=
 Claim7.holds_tied_plain_at .later [] [.data, .data, .data, .data, .pinned] true (true, "762f071884d5ced12558a666d0624c047b32b12b6407ccf63fd9aae0ad2441ae") true
  holds8 (fun _ h => by cases h) text8 (fun _ h => by cases h) drumSpoilt_row_tie rfl ⟨rfl,rfl⟩ pf_main rfl
  (fun f fn hf hfn => by
   obtain rfl : f = 8 := Option.some.inj (named8.symm.trans hf) |>.symm
   obtain rfl : fn = Tryz.f8 := (Option.some.inj (Tryz.func8.symm.trans hfn)).symm
   exact ⟨pf_looks,fun j t ht => by
    have hm : t ∈ Tryz.f8.params.toList := by simpa using Array.mem_of_getElem? ht
    have hall : (Tryz.f8.params.toList.all fun u => !Tryz.prog.wantsStandIn u) = true := by kernel_rfl
    exact (show Tryz.prog.wantsStandIn t = false by simpa using List.all_eq_true.1 hall t hm)⟩)
  goes8
#print axioms card8
end Go.Proofs.YtmplfjolcdlipaaGreatDoor
