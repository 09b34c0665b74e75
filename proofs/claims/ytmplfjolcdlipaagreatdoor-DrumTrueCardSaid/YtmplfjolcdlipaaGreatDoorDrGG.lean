/- DrumTrue: whatever the input, the statement's function returns true, and the input reads as it did: the row, and the card that ties its listed variables to the program's text. -/
import Derived.Test.YtmplfjolcdlipaaGreatDoorDrFB
import Derived.Test.YtmplfjolcdlipaaGreatDoorNcH
import Derived.Test.YtmplfjolcdlipaaGreatDoorDrDJ
import Derived.Test.YtmplfjolcdlipaaGreatDoorTie
import Derived.Test.YtmplfjolcdlipaaGreatDoorCards
import Derived.Test.YtmplfjolcdlipaaGreatDoorX
set_option linter.unusedVariables false
set_option linter.unusedSimpArgs false
namespace Go.Proofs.YtmplfjolcdlipaaGreatDoor
open Go Go.Abs Go.RowKit Go.ChangeShapes
set_option linter.unusedVariables false
set_option maxRecDepth 100000
theorem lifted15 (os : Os) (started : os.Started) (H : Type) (enc : TypeId × Value → H) :
    ReturnsInHanded {} Tryz.checked os 15 .any (fun w args => (Rows.drumTrueSpec.pre enc Tryz.prog Tryz.f15 [] false w args ∧ laidMetH Tryz.prog laid5 w) ∧ sizedMet enc Tryz.prog Tryz.f15 (OpenSpec.ofChange Rows.drumTrueSpec) false w args)
      (Rows.drumTrueSpec.post enc Tryz.prog Tryz.f15 false true false false) := by
  refine law_lifted (fn := Tryz.f15) os started enc (by kernel_rfl) Tryz.func15 rfl rfl ?_ #[.agg #[.slice none 0 0, .int .i64 0, .int .i64 0, .slice none 0 0, .slice none 0 0, .slice none 0 0], .agg #[.int .i64 0, .slice none 0 0], .int .i64 0] (by kernel_rfl) (by kernel_rfl) (by kernel_rfl) ?_
  · have : (Tryz.f15.params.toList.all fun t => Tryz.prog.readableRec t && decide (t < Tryz.prog.types.size)) = true := by kernel_rfl
    intro t ht
    have := List.all_eq_true.1 this t ht
    simpa using this
  · intro W base args ds p hval hA
    have hA' : DataW.TrodAll enc Tryz.prog W 0 (fun _ => true) true [27, 80, 3] args.toList ds p := hA
    obtain ⟨vs, hvs⟩ : ∃ vs, args.toList = vs := ⟨_, rfl⟩
    rw [hvs] at hA'
    obtain ⟨v0, r0, d0, e0, p0, q0, rfl, rfl, rfl, h0, hA'⟩ := Go.Abs.trodAll_cons hA'
    obtain ⟨v1, r1, d1, e1, p1, q1, rfl, rfl, rfl, h1, hA'⟩ := Go.Abs.trodAll_cons hA'
    obtain ⟨v2, r2, d2, e2, p2, q2, rfl, rfl, rfl, h2, hA'⟩ := Go.Abs.trodAll_cons hA'
    obtain ⟨rfl, rfl, rfl⟩ := Go.Abs.trodAll_nil hA'
    have hargs : args = #[v0, v1, v2] := Array.ext' hvs
    subst hargs
    refine ⟨rfl, ?_⟩
    have g0 : Value.okWide Tryz.prog W .any base 27 v0 := hval 0 27 v0 rfl rfl
    obtain ⟨c0, rfl⟩ := agg_of_struct (fs := Tryz.prog.fieldsOf 27) (by kernel_rfl) g0
    obtain ⟨x0, y0⟩ := rd27.argS h0
    have g1 : Value.okWide Tryz.prog W .any base 80 v1 := hval 1 80 v1 rfl rfl
    obtain ⟨c1, rfl⟩ := agg_of_struct (fs := Tryz.prog.fieldsOf 80) (by kernel_rfl) g1
    obtain ⟨x1, y1⟩ := rd80.argS h1
    have g2 : Value.okWide Tryz.prog W .any base 3 v2 := hval 2 3 v2 rfl rfl
    obtain ⟨x2, z2, hz2, y2⟩ := rd3.arg (cells_int (k := .i64) (by kernel_rfl) g2) (fun x => ⟨_, rfl⟩) h2
    cases hz2
    exact ⟨_, repL_arr (repL_cons y0 (repL_cons y1 (repL_cons y2 repL_nil))), f15 x0 x1.1 x1.2 x2⟩
theorem cl15a : Rows.drumTrueRow.wf (OpenSpec.ofChange Rows.drumTrueSpec) = true := by kernel_rfl
theorem cl15b : (Tryz.f15.params.all (Tryz.prog.readableRec ·) && namedTie Tryz.prog Rows.drumTrueRow.named Rows.drumTrueSpec.vars) = true := by kernel_rfl
theorem cl15c : (Rows.drumTrueRow.inPlace == Tryz.prog.inPlace 15) = true := by kernel_rfl
theorem cl15d : (Rows.drumTrueRow.unfollowed == Tryz.prog.unfollowed 15) = true := by kernel_rfl
theorem cl15e : (Rows.drumTrueRow.recurses == Tryz.prog.recurses 15) = true := by kernel_rfl
theorem cl15f : (Rows.drumTrueRow.named == Tryz.prog.varsNamed 15) = true := by kernel_rfl
theorem cl15g : ((Rows.drumTrueRow.maps == (Tryz.f15.params.toList ++ Rows.drumTrueSpec.plain.varTypes Tryz.prog).any (Tryz.prog.mapsRec ·)) && (Rows.drumTrueRow.ifaces == (Tryz.f15.params.toList ++ Rows.drumTrueSpec.plain.varTypes Tryz.prog).any (Tryz.prog.ifacesRec ·)) && (Rows.drumTrueRow.mapsOut == Tryz.prog.mapsAmong Tryz.f15.resultTypes.toList) &&
      (Rows.drumTrueRow.loops == (Tryz.f15.params.toList ++ Rows.drumTrueSpec.plain.varTypes Tryz.prog).any (Tryz.prog.loopsFrom ·)) && (Rows.drumTrueRow.wideKeys == (Tryz.f15.params.toList ++ Rows.drumTrueSpec.plain.varTypes Tryz.prog ++ Tryz.f15.resultTypes.toList).any (Tryz.prog.wideKeysFrom ·))) = true := by kernel_rfl
theorem cl15h : (Rows.drumTrueSpec.vars.all (Tryz.prog.varReadable ·) && Tryz.f15.resultTypes.all (fun t => Tryz.prog.readableRec t && decide (t < Tryz.prog.types.size)) && (Rows.drumTrueRow.ifacesOut == Tryz.f15.resultTypes.toList.any (Tryz.prog.ifacesRec ·)) && (Rows.drumTrueRow.loopsOut == Tryz.f15.resultTypes.toList.any (Tryz.prog.loopsFrom ·))) = true := by kernel_rfl
theorem cl15i : ((Rows.drumTrueRow.veiled == (Tryz.f15.params.toList ++ Rows.drumTrueSpec.plain.varTypes Tryz.prog ++ Tryz.f15.resultTypes.toList).any (Tryz.prog.veiledRec ·)) && Rows.drumTrueRow.veiledFits Tryz.prog Tryz.f15.params.toList (Tryz.f15.params.toList ++ Rows.drumTrueSpec.plain.varTypes Tryz.prog ++ Tryz.f15.resultTypes.toList)) = true := by kernel_rfl
theorem joined15 : joinedFacts Tryz.prog 15 Tryz.f15 Rows.drumTrueSpec Rows.drumTrueRow = true :=
  joined_abs laidOutT pf_mapsRowed pf_stopsHeard pf_mayEnter pf_lifted pf_make pf_plainKeys pf_stops pf_knobs cl15a cl15b rfl cl15c cl15d cl15e cl15f cl15g cl15h rfl rfl rfl rfl cl15i
theorem named15 : Tryz.prog.funcNamed "nacre/nacrelaw03.DrumTrue" = some 15 := by kernel_rfl
theorem holds15 : Rows.DrumTrueSaid :=
  OpenClaim.holds_of_wide 15 Tryz.f15 rfl rfl rfl rfl rfl rfl rfl ⟨rfl, rfl, rfl, rfl, rfl⟩ rfl rfl rfl rfl rfl named15 Tryz.func15 joined15
    (of_decide_eq_true (by kernel_rfl)) (by unfold Func.isWrapper; first | (rw [if_pos (by decide +kernel)]; kernel_rfl) | (rw [if_neg (by decide +kernel)]; exact ⟨rfl, rfl⟩))
    (fun os started H enc _ => lifted15 os started H enc)
theorem text15 : Rows.drumTrueRow.wfByText (OpenSpec.ofChange Rows.drumTrueSpec) = true := by kernel_rfl
theorem goes15 : false = Rows.drumTrueRow.goesBy Tryz.prog := by kernel_rfl
theorem card15 : Rows.DrumTrueCardSaid :=
  Claim7.holds_tied_plain_at .later [] [.data, .data, .data, .data, .pinned] true (true, "762f071884d5ced12558a666d0624c047b32b12b6407ccf63fd9aae0ad2441ae") true
    holds15 (fun _ h => by cases h) text15 (fun _ h => by cases h) drumTrue_row_tie rfl ⟨rfl, rfl⟩ pf_main rfl
    (fun f fn hf hfn => by
      obtain rfl : f = 15 := Option.some.inj (named15.symm.trans hf) |>.symm
      obtain rfl : fn = Tryz.f15 := (Option.some.inj (Tryz.func15.symm.trans hfn)).symm
      exact ⟨pf_looks, fun j t ht => by
        have hm : t ∈ Tryz.f15.params.toList := by simpa using Array.mem_of_getElem? ht
        have hall : (Tryz.f15.params.toList.all fun u => !Tryz.prog.wantsStandIn u) = true := by kernel_rfl
        exact (show Tryz.prog.wantsStandIn t = false by simpa using List.all_eq_true.1 hall t hm)⟩)
    goes15
#print axioms card15
end Go.Proofs.YtmplfjolcdlipaaGreatDoor
