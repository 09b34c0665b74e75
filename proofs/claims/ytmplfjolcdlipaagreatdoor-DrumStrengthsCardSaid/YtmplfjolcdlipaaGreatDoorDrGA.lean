/- DrumStrengths: whatever the input, the statement's function returns true, and the input reads as it did: the row, and the card that ties its listed variables to the program's text. -/
import Derived.Test.YtmplfjolcdlipaaGreatDoorDrFB
import Derived.Test.YtmplfjolcdlipaaGreatDoorNcH
import Derived.Test.YtmplfjolcdlipaaGreatDoorDrCA
import Derived.Test.YtmplfjolcdlipaaGreatDoorTie
import Derived.Test.YtmplfjolcdlipaaGreatDoorCards
set_option linter.unusedVariables false
set_option linter.unusedSimpArgs false
namespace Go.Proofs.YtmplfjolcdlipaaGreatDoor
open Go Go.Abs Go.RowKit Go.ChangeShapes
set_option linter.unusedVariables false
set_option maxRecDepth 100000
theorem lifted3 (os : Os) (started : os.Started) (H : Type) (enc : TypeId × Value → H) :
    ReturnsInHanded {} Tryz.checked os 3 .any (fun w args => (Rows.drumStrengthsSpec.pre enc Tryz.prog Tryz.f3 [] false w args ∧ laidMetH Tryz.prog laid5 w) ∧ sizedMet enc Tryz.prog Tryz.f3 (OpenSpec.ofChange Rows.drumStrengthsSpec) false w args)
      (Rows.drumStrengthsSpec.post enc Tryz.prog Tryz.f3 false true false false) := by
  refine law_lifted (fn := Tryz.f3) os started enc (by kernel_rfl) Tryz.func3 rfl rfl ?_ #[.agg #[.slice none 0 0, .int .i64 0, .int .i64 0, .slice none 0 0, .slice none 0 0, .slice none 0 0], .int .i64 0] (by kernel_rfl) (by kernel_rfl) (by kernel_rfl) ?_
  · have : (Tryz.f3.params.toList.all fun t => Tryz.prog.readableRec t && decide (t < Tryz.prog.types.size)) = true := by kernel_rfl
    intro t ht
    have := List.all_eq_true.1 this t ht
    simpa using this
  · intro W base args ds p hval hA
    have hA' : DataW.TrodAll enc Tryz.prog W 0 (fun _ => true) true [27, 3] args.toList ds p := hA
    obtain ⟨vs, hvs⟩ : ∃ vs, args.toList = vs := ⟨_, rfl⟩
    rw [hvs] at hA'
    obtain ⟨v0, r0, d0, e0, p0, q0, rfl, rfl, rfl, h0, hA'⟩ := Go.Abs.trodAll_cons hA'
    obtain ⟨v1, r1, d1, e1, p1, q1, rfl, rfl, rfl, h1, hA'⟩ := Go.Abs.trodAll_cons hA'
    obtain ⟨rfl, rfl, rfl⟩ := Go.Abs.trodAll_nil hA'
    have hargs : args = #[v0, v1] := Array.ext' hvs
    subst hargs
    refine ⟨rfl, ?_⟩
    have g0 : Value.okWide Tryz.prog W .any base 27 v0 := hval 0 27 v0 rfl rfl
    obtain ⟨c0, rfl⟩ := agg_of_struct (fs := Tryz.prog.fieldsOf 27) (by kernel_rfl) g0
    obtain ⟨x0, y0⟩ := rd27.argS h0
    have g1 : Value.okWide Tryz.prog W .any base 3 v1 := hval 1 3 v1 rfl rfl
    obtain ⟨x1, z1, hz1, y1⟩ := rd3.arg (cells_int (k := .i64) (by kernel_rfl) g1) (fun x => ⟨_, rfl⟩) h1
    cases hz1
    exact ⟨_, repL_arr (repL_cons y0 (repL_cons y1 repL_nil)), f3 x0 x1⟩
theorem cl3a : Rows.drumStrengthsRow.wf (OpenSpec.ofChange Rows.drumStrengthsSpec) = true := by kernel_rfl
theorem cl3b : (Tryz.f3.params.all (Tryz.prog.readableRec ·) && namedTie Tryz.prog Rows.drumStrengthsRow.named Rows.drumStrengthsSpec.vars) = true := by kernel_rfl
theorem cl3c : (Rows.drumStrengthsRow.inPlace == Tryz.prog.inPlace 3) = true := by kernel_rfl
theorem cl3d : (Rows.drumStrengthsRow.unfollowed == Tryz.prog.unfollowed 3) = true := by kernel_rfl
theorem cl3e : (Rows.drumStrengthsRow.recurses == Tryz.prog.recurses 3) = true := by kernel_rfl
theorem cl3f : (Rows.drumStrengthsRow.named == Tryz.prog.varsNamed 3) = true := by kernel_rfl
theorem cl3g : ((Rows.drumStrengthsRow.maps == (Tryz.f3.params.toList ++ Rows.drumStrengthsSpec.plain.varTypes Tryz.prog).any (Tryz.prog.mapsRec ·)) && (Rows.drumStrengthsRow.ifaces == (Tryz.f3.params.toList ++ Rows.drumStrengthsSpec.plain.varTypes Tryz.prog).any (Tryz.prog.ifacesRec ·)) && (Rows.drumStrengthsRow.mapsOut == Tryz.prog.mapsAmong Tryz.f3.resultTypes.toList) &&
      (Rows.drumStrengthsRow.loops == (Tryz.f3.params.toList ++ Rows.drumStrengthsSpec.plain.varTypes Tryz.prog).any (Tryz.prog.loopsFrom ·)) && (Rows.drumStrengthsRow.wideKeys == (Tryz.f3.params.toList ++ Rows.drumStrengthsSpec.plain.varTypes Tryz.prog ++ Tryz.f3.resultTypes.toList).any (Tryz.prog.wideKeysFrom ·))) = true := by kernel_rfl
theorem cl3h : (Rows.drumStrengthsSpec.vars.all (Tryz.prog.varReadable ·) && Tryz.f3.resultTypes.all (fun t => Tryz.prog.readableRec t && decide (t < Tryz.prog.types.size)) && (Rows.drumStrengthsRow.ifacesOut == Tryz.f3.resultTypes.toList.any (Tryz.prog.ifacesRec ·)) && (Rows.drumStrengthsRow.loopsOut == Tryz.f3.resultTypes.toList.any (Tryz.prog.loopsFrom ·))) = true := by kernel_rfl
theorem cl3i : ((Rows.drumStrengthsRow.veiled == (Tryz.f3.params.toList ++ Rows.drumStrengthsSpec.plain.varTypes Tryz.prog ++ Tryz.f3.resultTypes.toList).any (Tryz.prog.veiledRec ·)) && Rows.drumStrengthsRow.veiledFits Tryz.prog Tryz.f3.params.toList (Tryz.f3.params.toList ++ Rows.drumStrengthsSpec.plain.varTypes Tryz.prog ++ Tryz.f3.resultTypes.toList)) = true := by kernel_rfl
theorem joined3 : joinedFacts Tryz.prog 3 Tryz.f3 Rows.drumStrengthsSpec Rows.drumStrengthsRow = true :=
  joined_abs laidOutT pf_mapsRowed pf_stopsHeard pf_mayEnter pf_lifted pf_make pf_plainKeys pf_stops pf_knobs cl3a cl3b rfl cl3c cl3d cl3e cl3f cl3g cl3h rfl rfl rfl rfl cl3i
theorem named3 : Tryz.prog.funcNamed "nacre/nacrelaw03.DrumStrengths" = some 3 := by kernel_rfl
theorem holds3 : Rows.DrumStrengthsSaid :=
  OpenClaim.holds_of_wide 3 Tryz.f3 rfl rfl rfl rfl rfl rfl rfl ⟨rfl, rfl, rfl, rfl, rfl⟩ rfl rfl rfl rfl rfl named3 Tryz.func3 joined3
    (of_decide_eq_true (by kernel_rfl)) (by unfold Func.isWrapper; first | (rw [if_pos (by decide +kernel)]; kernel_rfl) | (rw [if_neg (by decide +kernel)]; exact ⟨rfl, rfl⟩))
    (fun os started H enc _ => lifted3 os started H enc)
theorem text3 : Rows.drumStrengthsRow.wfByText (OpenSpec.ofChange Rows.drumStrengthsSpec) = true := by kernel_rfl
theorem goes3 : false = Rows.drumStrengthsRow.goesBy Tryz.prog := by kernel_rfl
theorem card3 : Rows.DrumStrengthsCardSaid :=
  Claim7.holds_tied_plain_at .later [] [.data, .data, .data, .data, .pinned] true (true, "762f071884d5ced12558a666d0624c047b32b12b6407ccf63fd9aae0ad2441ae") true
    holds3 (fun _ h => by cases h) text3 (fun _ h => by cases h) drumStrengths_row_tie rfl ⟨rfl, rfl⟩ pf_main rfl
    (fun f fn hf hfn => by
      obtain rfl : f = 3 := Option.some.inj (named3.symm.trans hf) |>.symm
      obtain rfl : fn = Tryz.f3 := (Option.some.inj (Tryz.func3.symm.trans hfn)).symm
      exact ⟨pf_looks, fun j t ht => by
        have hm : t ∈ Tryz.f3.params.toList := by simpa using Array.mem_of_getElem? ht
        have hall : (Tryz.f3.params.toList.all fun u => !Tryz.prog.wantsStandIn u) = true := by kernel_rfl
        exact (show Tryz.prog.wantsStandIn t = false by simpa using List.all_eq_true.1 hall t hm)⟩)
    goes3
#print axioms card3
end Go.Proofs.YtmplfjolcdlipaaGreatDoor
