/- DrumPrints: whatever the input, the statement's function returns true, and the input reads as it did: the row, and the card that ties its listed variables to the program's text. -/
import Derived.Test.YtmplfjolcdlipaaGreatDoorKDrFB
import Derived.Test.YtmplfjolcdlipaaGreatDoorKNcH
import Derived.Test.YtmplfjolcdlipaaGreatDoorKKG
import Derived.Test.YtmplfjolcdlipaaGreatDoorTie
import Derived.Test.YtmplfjolcdlipaaGreatDoorCards
set_option linter.unusedVariables false
set_option linter.unusedSimpArgs false
namespace Go.Proofs.YtmplfjolcdlipaaGreatDoor
open Go Go.Abs Go.RowKit Go.ChangeShapes
set_option linter.unusedVariables false
set_option maxRecDepth 100000
theorem lifted6 (os : Os) (started : os.Started) (H : Type) (enc : TypeId × Value → H) :
    ReturnsInHanded {} Tryz.checked os 6 .any (fun w args => (Rows.drumPrintsSpec.pre enc Tryz.prog Tryz.f6 [] false w args ∧ laidMetH Tryz.prog laid5 w) ∧ sizedMet enc Tryz.prog Tryz.f6 (OpenSpec.ofChange Rows.drumPrintsSpec) false w args)
      (Rows.drumPrintsSpec.post enc Tryz.prog Tryz.f6 false true false false) := by
  refine law_lifted (fn := Tryz.f6) os started enc (by kernel_rfl) Tryz.func6 rfl rfl ?_ #[.agg #[.slice none 0 0, .int .i64 0, .int .i64 0, .slice none 0 0, .slice none 0 0, .slice none 0 0]] (by kernel_rfl) (by kernel_rfl) (by kernel_rfl) ?_
  · have : (Tryz.f6.params.toList.all fun t => Tryz.prog.readableRec t && decide (t < Tryz.prog.types.size)) = true := by kernel_rfl
    intro t ht
    have := List.all_eq_true.1 this t ht
    simpa using this
  · intro W base args ds p hval hA
    have hA' : DataW.TrodAll enc Tryz.prog W 0 (fun _ => true) true [27] args.toList ds p := hA
    obtain ⟨vs, hvs⟩ : ∃ vs, args.toList = vs := ⟨_, rfl⟩
    rw [hvs] at hA'
    obtain ⟨v0, r0, d0, e0, p0, q0, rfl, rfl, rfl, h0, hA'⟩ := Go.Abs.trodAll_cons hA'
    obtain ⟨rfl, rfl, rfl⟩ := Go.Abs.trodAll_nil hA'
    have hargs : args = #[v0] := Array.ext' hvs
    subst hargs
    refine ⟨rfl, ?_⟩
    have g0 : Value.okWide Tryz.prog W .any base 27 v0 := hval 0 27 v0 rfl rfl
    obtain ⟨c0, rfl⟩ := agg_of_struct (fs := Tryz.prog.fieldsOf 27) (by kernel_rfl) g0
    obtain ⟨x0, y0⟩ := rd27.argS h0
    exact ⟨_, repL_arr (repL_cons y0 repL_nil), f6 x0⟩
theorem cl6a : Rows.drumPrintsRow.wf (OpenSpec.ofChange Rows.drumPrintsSpec) = true := by kernel_rfl
theorem cl6b : (Tryz.f6.params.all (Tryz.prog.readableRec ·) && namedTie Tryz.prog Rows.drumPrintsRow.named Rows.drumPrintsSpec.vars) = true := by kernel_rfl
theorem cl6c : (Rows.drumPrintsRow.inPlace == Tryz.prog.inPlace 6) = true := by kernel_rfl
theorem cl6d : (Rows.drumPrintsRow.unfollowed == Tryz.prog.unfollowed 6) = true := by kernel_rfl
theorem cl6e : (Rows.drumPrintsRow.recurses == Tryz.prog.recurses 6) = true := by kernel_rfl
theorem cl6f : (Rows.drumPrintsRow.named == Tryz.prog.varsNamed 6) = true := by kernel_rfl
theorem cl6g : ((Rows.drumPrintsRow.maps == (Tryz.f6.params.toList ++ Rows.drumPrintsSpec.plain.varTypes Tryz.prog).any (Tryz.prog.mapsRec ·)) && (Rows.drumPrintsRow.ifaces == (Tryz.f6.params.toList ++ Rows.drumPrintsSpec.plain.varTypes Tryz.prog).any (Tryz.prog.ifacesRec ·)) && (Rows.drumPrintsRow.mapsOut == Tryz.prog.mapsAmong Tryz.f6.resultTypes.toList) &&
      (Rows.drumPrintsRow.loops == (Tryz.f6.params.toList ++ Rows.drumPrintsSpec.plain.varTypes Tryz.prog).any (Tryz.prog.loopsFrom ·)) && (Rows.drumPrintsRow.wideKeys == (Tryz.f6.params.toList ++ Rows.drumPrintsSpec.plain.varTypes Tryz.prog ++ Tryz.f6.resultTypes.toList).any (Tryz.prog.wideKeysFrom ·))) = true := by kernel_rfl
theorem cl6h : (Rows.drumPrintsSpec.vars.all (Tryz.prog.varReadable ·) && Tryz.f6.resultTypes.all (fun t => Tryz.prog.readableRec t && decide (t < Tryz.prog.types.size)) && (Rows.drumPrintsRow.ifacesOut == Tryz.f6.resultTypes.toList.any (Tryz.prog.ifacesRec ·)) && (Rows.drumPrintsRow.loopsOut == Tryz.f6.resultTypes.toList.any (Tryz.prog.loopsFrom ·))) = true := by kernel_rfl
theorem cl6i : ((Rows.drumPrintsRow.veiled == (Tryz.f6.params.toList ++ Rows.drumPrintsSpec.plain.varTypes Tryz.prog ++ Tryz.f6.resultTypes.toList).any (Tryz.prog.veiledRec ·)) && Rows.drumPrintsRow.veiledFits Tryz.prog Tryz.f6.params.toList (Tryz.f6.params.toList ++ Rows.drumPrintsSpec.plain.varTypes Tryz.prog ++ Tryz.f6.resultTypes.toList)) = true := by kernel_rfl
theorem joined6 : joinedFacts Tryz.prog 6 Tryz.f6 Rows.drumPrintsSpec Rows.drumPrintsRow = true :=
  joined_abs laidOutT pf_mapsRowed pf_stopsHeard pf_mayEnter pf_lifted pf_make pf_plainKeys pf_stops pf_knobs cl6a cl6b rfl cl6c cl6d cl6e cl6f cl6g cl6h rfl rfl rfl rfl cl6i
theorem named6 : Tryz.prog.funcNamed "nacre/nacrelaw03.DrumPrints" = some 6 := by kernel_rfl
theorem holds6 : Rows.DrumPrintsSaid :=
  OpenClaim.holds_of_wide 6 Tryz.f6 rfl rfl rfl rfl rfl rfl rfl ⟨rfl, rfl, rfl, rfl, rfl⟩ rfl rfl rfl rfl rfl named6 Tryz.func6 joined6
    (of_decide_eq_true (by kernel_rfl)) (by unfold Func.isWrapper; first | (rw [if_pos (by decide +kernel)]; kernel_rfl) | (rw [if_neg (by decide +kernel)]; exact ⟨rfl, rfl⟩))
    (fun os started H enc _ => lifted6 os started H enc)
theorem text6 : Rows.drumPrintsRow.wfByText (OpenSpec.ofChange Rows.drumPrintsSpec) = true := by kernel_rfl
theorem goes6 : false = Rows.drumPrintsRow.goesBy Tryz.prog := by kernel_rfl
theorem card6 : Rows.DrumPrintsCardSaid :=
  Claim7.holds_tied_plain_at .later [] [.data, .data, .data, .data, .pinned] true (true, "762f071884d5ced12558a666d0624c047b32b12b6407ccf63fd9aae0ad2441ae") true
    holds6 (fun _ h => by cases h) text6 (fun _ h => by cases h) drumPrints_row_tie rfl ⟨rfl, rfl⟩ pf_main rfl
    (fun f fn hf hfn => by
      obtain rfl : f = 6 := Option.some.inj (named6.symm.trans hf) |>.symm
      obtain rfl : fn = Tryz.f6 := (Option.some.inj (Tryz.func6.symm.trans hfn)).symm
      exact ⟨pf_looks, fun j t ht => by
        have hm : t ∈ Tryz.f6.params.toList := by simpa using Array.mem_of_getElem? ht
        have hall : (Tryz.f6.params.toList.all fun u => !Tryz.prog.wantsStandIn u) = true := by kernel_rfl
        exact (show Tryz.prog.wantsStandIn t = false by simpa using List.all_eq_true.1 hall t hm)⟩)
    goes6
#print axioms card6
end Go.Proofs.YtmplfjolcdlipaaGreatDoor
