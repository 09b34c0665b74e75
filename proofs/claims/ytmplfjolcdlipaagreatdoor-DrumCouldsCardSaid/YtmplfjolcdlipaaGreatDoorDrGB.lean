/- DrumCoulds: whatever the input, the statement's function returns true, and the input reads as it did: the row, and the card that ties its listed variables to the program's text. -/
import Derived.Test.YtmplfjolcdlipaaGreatDoorDrFB
import Derived.Test.YtmplfjolcdlipaaGreatDoorNcH
import Derived.Test.YtmplfjolcdlipaaGreatDoorDrDB
import Derived.Test.YtmplfjolcdlipaaGreatDoorTie
import Derived.Test.YtmplfjolcdlipaaGreatDoorCards
import Derived.Test.YtmplfjolcdlipaaGreatDoorX
set_option linter.unusedVariables false
set_option linter.unusedSimpArgs false
namespace Go.Proofs.YtmplfjolcdlipaaGreatDoor
open Go Go.Abs Go.RowKit Go.ChangeShapes
set_option linter.unusedVariables false
set_option maxRecDepth 100000
theorem lifted20 (os : Os) (started : os.Started) (H : Type) (enc : TypeId × Value → H) :
    ReturnsInHanded {} Tryz.checked os 20 .any (fun w args => (Rows.drumCouldsSpec.pre enc Tryz.prog Tryz.f20 [] false w args ∧ laidMetH Tryz.prog laid5 w) ∧ sizedMet enc Tryz.prog Tryz.f20 (OpenSpec.ofChange Rows.drumCouldsSpec) false w args)
      (Rows.drumCouldsSpec.post enc Tryz.prog Tryz.f20 false true false false) := by
  refine law_lifted (fn := Tryz.f20) os started enc (by kernel_rfl) Tryz.func20 rfl rfl ?_ #[.agg #[.slice none 0 0, .int .i64 0, .int .i64 0, .slice none 0 0, .slice none 0 0, .slice none 0 0], .agg #[.int .i64 0, .slice none 0 0]] (by kernel_rfl) (by kernel_rfl) (by kernel_rfl) ?_
  · have : (Tryz.f20.params.toList.all fun t => Tryz.prog.readableRec t && decide (t < Tryz.prog.types.size)) = true := by kernel_rfl
    intro t ht
    have := List.all_eq_true.1 this t ht
    simpa using this
  · intro W base args ds p hval hA
    have hA' : DataW.TrodAll enc Tryz.prog W 0 (fun _ => true) true [27, 80] args.toList ds p := hA
    obtain ⟨vs, hvs⟩ : ∃ vs, args.toList = vs := ⟨_, rfl⟩
    rw [hvs] at hA'
    obtain ⟨v0, r0, d0, e0, p0, q0, rfl, rfl, rfl, h0, hA'⟩ := Go.Abs.trodAll_cons hA'
    obtain ⟨v1, r1, d1, e1, p1, q1, rfl, rfl, rfl, h1, hA'⟩ := Go.Abs.trodAll_cons hA'
    obtain ⟨rfl, rfl, rfl⟩ := Go.Abs.trodAll_nil hA'
    have hargs : args = #[v0, v1] := Array.ext' hvs
    subst hargs
    refine ⟨rfl, ?_⟩
    have g0 : Value.okWide Tryz.prog W .any base 27 v0 := hval 0 27 v0 rfl rfl
    obtain ⟨c0, rfl⟩ := agg_of_struct (fs := Tryz.prog.fieldsOf 27) (by kernel_rfl) g0
    obtain ⟨x0, y0⟩ := rd27.argS h0
    have g1 : Value.okWide Tryz.prog W .any base 80 v1 := hval 1 80 v1 rfl rfl
    obtain ⟨c1, rfl⟩ := agg_of_struct (fs := Tryz.prog.fieldsOf 80) (by kernel_rfl) g1
    obtain ⟨x1, y1⟩ := rd80.argS h1
    exact ⟨_, repL_arr (repL_cons y0 (repL_cons y1 repL_nil)), f20 x0 x1.1 x1.2⟩
theorem cl20a : Rows.drumCouldsRow.wf (OpenSpec.ofChange Rows.drumCouldsSpec) = true := by kernel_rfl
theorem cl20b : (Tryz.f20.params.all (Tryz.prog.readableRec ·) && namedTie Tryz.prog Rows.drumCouldsRow.named Rows.drumCouldsSpec.vars) = true := by kernel_rfl
theorem cl20c : (Rows.drumCouldsRow.inPlace == Tryz.prog.inPlace 20) = true := by kernel_rfl
theorem cl20d : (Rows.drumCouldsRow.unfollowed == Tryz.prog.unfollowed 20) = true := by kernel_rfl
theorem cl20e : (Rows.drumCouldsRow.recurses == Tryz.prog.recurses 20) = true := by kernel_rfl
theorem cl20f : (Rows.drumCouldsRow.named == Tryz.prog.varsNamed 20) = true := by kernel_rfl
theorem cl20g : ((Rows.drumCouldsRow.maps == (Tryz.f20.params.toList ++ Rows.drumCouldsSpec.plain.varTypes Tryz.prog).any (Tryz.prog.mapsRec ·)) && (Rows.drumCouldsRow.ifaces == (Tryz.f20.params.toList ++ Rows.drumCouldsSpec.plain.varTypes Tryz.prog).any (Tryz.prog.ifacesRec ·)) && (Rows.drumCouldsRow.mapsOut == Tryz.prog.mapsAmong Tryz.f20.resultTypes.toList) &&
      (Rows.drumCouldsRow.loops == (Tryz.f20.params.toList ++ Rows.drumCouldsSpec.plain.varTypes Tryz.prog).any (Tryz.prog.loopsFrom ·)) && (Rows.drumCouldsRow.wideKeys == (Tryz.f20.params.toList ++ Rows.drumCouldsSpec.plain.varTypes Tryz.prog ++ Tryz.f20.resultTypes.toList).any (Tryz.prog.wideKeysFrom ·))) = true := by kernel_rfl
theorem cl20h : (Rows.drumCouldsSpec.vars.all (Tryz.prog.varReadable ·) && Tryz.f20.resultTypes.all (fun t => Tryz.prog.readableRec t && decide (t < Tryz.prog.types.size)) && (Rows.drumCouldsRow.ifacesOut == Tryz.f20.resultTypes.toList.any (Tryz.prog.ifacesRec ·)) && (Rows.drumCouldsRow.loopsOut == Tryz.f20.resultTypes.toList.any (Tryz.prog.loopsFrom ·))) = true := by kernel_rfl
theorem cl20i : ((Rows.drumCouldsRow.veiled == (Tryz.f20.params.toList ++ Rows.drumCouldsSpec.plain.varTypes Tryz.prog ++ Tryz.f20.resultTypes.toList).any (Tryz.prog.veiledRec ·)) && Rows.drumCouldsRow.veiledFits Tryz.prog Tryz.f20.params.toList (Tryz.f20.params.toList ++ Rows.drumCouldsSpec.plain.varTypes Tryz.prog ++ Tryz.f20.resultTypes.toList)) = true := by kernel_rfl
theorem joined20 : joinedFacts Tryz.prog 20 Tryz.f20 Rows.drumCouldsSpec Rows.drumCouldsRow = true :=
  joined_abs laidOutT pf_mapsRowed pf_stopsHeard pf_mayEnter pf_lifted pf_make pf_plainKeys pf_stops pf_knobs cl20a cl20b rfl cl20c cl20d cl20e cl20f cl20g cl20h rfl rfl rfl rfl cl20i
theorem named20 : Tryz.prog.funcNamed "nacre/nacrelaw03.DrumCoulds" = some 20 := by kernel_rfl
theorem holds20 : Rows.DrumCouldsSaid :=
  OpenClaim.holds_of_wide 20 Tryz.f20 rfl rfl rfl rfl rfl rfl rfl ⟨rfl, rfl, rfl, rfl, rfl⟩ rfl rfl rfl rfl rfl named20 Tryz.func20 joined20
    (of_decide_eq_true (by kernel_rfl)) (by unfold Func.isWrapper; first | (rw [if_pos (by decide +kernel)]; kernel_rfl) | (rw [if_neg (by decide +kernel)]; exact ⟨rfl, rfl⟩))
    (fun os started H enc _ => lifted20 os started H enc)
theorem text20 : Rows.drumCouldsRow.wfByText (OpenSpec.ofChange Rows.drumCouldsSpec) = true := by kernel_rfl
theorem goes20 : false = Rows.drumCouldsRow.goesBy Tryz.prog := by kernel_rfl
theorem card20 : Rows.DrumCouldsCardSaid :=
  Claim7.holds_tied_plain_at .later [] [.data, .data, .data, .data, .pinned] true (true, "762f071884d5ced12558a666d0624c047b32b12b6407ccf63fd9aae0ad2441ae") true
    holds20 (fun _ h => by cases h) text20 (fun _ h => by cases h) drumCoulds_row_tie rfl ⟨rfl, rfl⟩ pf_main rfl
    (fun f fn hf hfn => by
      obtain rfl : f = 20 := Option.some.inj (named20.symm.trans hf) |>.symm
      obtain rfl : fn = Tryz.f20 := (Option.some.inj (Tryz.func20.symm.trans hfn)).symm
      exact ⟨pf_looks, fun j t ht => by
        have hm : t ∈ Tryz.f20.params.toList := by simpa using Array.mem_of_getElem? ht
        have hall : (Tryz.f20.params.toList.all fun u => !Tryz.prog.wantsStandIn u) = true := by kernel_rfl
        exact (show Tryz.prog.wantsStandIn t = false by simpa using List.all_eq_true.1 hall t hm)⟩)
    goes20
#print axioms card20
end Go.Proofs.YtmplfjolcdlipaaGreatDoor
