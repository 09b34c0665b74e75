/- DrumHours: whatever the input, the statement's function returns true, and the input reads as it did: the row, and the card that ties its listed variables to the program's text. -/
import Derived.Test.YtmplfjolcdlipaaGreatDoorDrFB
import Derived.Test.YtmplfjolcdlipaaGreatDoorNcH
import Derived.Test.YtmplfjolcdlipaaGreatDoorDrDE
import Derived.Test.YtmplfjolcdlipaaGreatDoorTie
import Derived.Test.YtmplfjolcdlipaaGreatDoorCards
import Derived.Test.YtmplfjolcdlipaaGreatDoorX
set_option linter.unusedVariables false
set_option linter.unusedSimpArgs false
namespace Go.Proofs.YtmplfjolcdlipaaGreatDoor
open Go Go.Abs Go.RowKit Go.ChangeShapes
set_option linter.unusedVariables false
set_option maxRecDepth 100000
theorem lifted4 (os : Os) (started : os.Started) (H : Type) (enc : TypeId × Value → H) :
    ReturnsInHanded {} Tryz.checked os 4 .any (fun w args => (Rows.drumHoursSpec.pre enc Tryz.prog Tryz.f4 [] false w args ∧ laidMetH Tryz.prog laid5 w) ∧ sizedMet enc Tryz.prog Tryz.f4 (OpenSpec.ofChange Rows.drumHoursSpec) false w args)
      (Rows.drumHoursSpec.post enc Tryz.prog Tryz.f4 false true false false) := by
  refine law_lifted (fn := Tryz.f4) os started enc (by kernel_rfl) Tryz.func4 rfl rfl ?_ #[.agg #[.slice none 0 0, .int .i64 0, .int .i64 0, .slice none 0 0, .slice none 0 0, .slice none 0 0], .int .i64 0] (by kernel_rfl) (by kernel_rfl) (by kernel_rfl) ?_
  · have : (Tryz.f4.params.toList.all fun t => Tryz.prog.readableRec t && decide (t < Tryz.prog.types.size)) = true := by kernel_rfl
    intro t ht
    have := List.all_eq_true.1 this t ht
    simpa using this
  · intro W base args ds p hval hA
    have hA' : DataW.TrodAll enc Tryz.prog W 0 (fun _ => true) true [27, 3] args.toList ds p := hA
    obtain ⟨vs, hvs⟩ : ∃ vs, args.toList = vs := ⟨_, rfl⟩
    rw [hvs] at hA'
    obtain ⟨v0, r0, d0, e0, p0, q0, rfl, rfl, rfl, h0, hA'⟩ := Go.Abs.trodAll_cons hA'
    obtain ⟨v1, r1, d1, e1, p1, q1, rfl, rfl, rfl, h1, hA'⟩ := Go.Abs.trodAll_cons hA'
    obtain ⟨rfl, rfl, rfl⟩ := Go.Abs.trodAll_nil hA'
    have hargs : args = #[v0, v1] := Array.ext' hvs
    subst hargs
    refine ⟨rfl, ?_⟩
    have g0 : Value.okWide Tryz.prog W .any base 27 v0 := hval 0 27 v0 rfl rfl
    obtain ⟨c0, rfl⟩ := agg_of_struct (fs := Tryz.prog.fieldsOf 27) (by kernel_rfl) g0
    obtain ⟨x0, y0⟩ := rd27.argS h0
    have g1 : Value.okWide Tryz.prog W .any base 3 v1 := hval 1 3 v1 rfl rfl
    obtain ⟨x1, z1, hz1, y1⟩ := rd3.arg (cells_int (k := .i64) (by kernel_rfl) g1) (fun x => ⟨_, rfl⟩) h1
    cases hz1
    exact ⟨_, repL_arr (repL_cons y0 (repL_cons y1 repL_nil)), f4 x0 x1⟩
theorem cl4a : Rows.drumHoursRow.wf (OpenSpec.ofChange Rows.drumHoursSpec) = true := by kernel_rfl
theorem cl4b : (Tryz.f4.params.all (Tryz.prog.readableRec ·) && namedTie Tryz.prog Rows.drumHoursRow.named Rows.drumHoursSpec.vars) = true := by kernel_rfl
theorem cl4c : (Rows.drumHoursRow.inPlace == Tryz.prog.inPlace 4) = true := by kernel_rfl
theorem cl4d : (Rows.drumHoursRow.unfollowed == Tryz.prog.unfollowed 4) = true := by kernel_rfl
theorem cl4e : (Rows.drumHoursRow.recurses == Tryz.prog.recurses 4) = true := by kernel_rfl
theorem cl4f : (Rows.drumHoursRow.named == Tryz.prog.varsNamed 4) = true := by kernel_rfl
theorem cl4g : ((Rows.drumHoursRow.maps == (Tryz.f4.params.toList ++ Rows.drumHoursSpec.plain.varTypes Tryz.prog).any (Tryz.prog.mapsRec ·)) && (Rows.drumHoursRow.ifaces == (Tryz.f4.params.toList ++ Rows.drumHoursSpec.plain.varTypes Tryz.prog).any (Tryz.prog.ifacesRec ·)) && (Rows.drumHoursRow.mapsOut == Tryz.prog.mapsAmong Tryz.f4.resultTypes.toList) &&
      (Rows.drumHoursRow.loops == (Tryz.f4.params.toList ++ Rows.drumHoursSpec.plain.varTypes Tryz.prog).any (Tryz.prog.loopsFrom ·)) && (Rows.drumHoursRow.wideKeys == (Tryz.f4.params.toList ++ Rows.drumHoursSpec.plain.varTypes Tryz.prog ++ Tryz.f4.resultTypes.toList).any (Tryz.prog.wideKeysFrom ·))) = true := by kernel_rfl
theorem cl4h : (Rows.drumHoursSpec.vars.all (Tryz.prog.varReadable ·) && Tryz.f4.resultTypes.all (fun t => Tryz.prog.readableRec t && decide (t < Tryz.prog.types.size)) && (Rows.drumHoursRow.ifacesOut == Tryz.f4.resultTypes.toList.any (Tryz.prog.ifacesRec ·)) && (Rows.drumHoursRow.loopsOut == Tryz.f4.resultTypes.toList.any (Tryz.prog.loopsFrom ·))) = true := by kernel_rfl
theorem cl4i : ((Rows.drumHoursRow.veiled == (Tryz.f4.params.toList ++ Rows.drumHoursSpec.plain.varTypes Tryz.prog ++ Tryz.f4.resultTypes.toList).any (Tryz.prog.veiledRec ·)) && Rows.drumHoursRow.veiledFits Tryz.prog Tryz.f4.params.toList (Tryz.f4.params.toList ++ Rows.drumHoursSpec.plain.varTypes Tryz.prog ++ Tryz.f4.resultTypes.toList)) = true := by kernel_rfl
theorem joined4 : joinedFacts Tryz.prog 4 Tryz.f4 Rows.drumHoursSpec Rows.drumHoursRow = true :=
  joined_abs laidOutT pf_mapsRowed pf_stopsHeard pf_mayEnter pf_lifted pf_make pf_plainKeys pf_stops pf_knobs cl4a cl4b rfl cl4c cl4d cl4e cl4f cl4g cl4h rfl rfl rfl rfl cl4i
theorem named4 : Tryz.prog.funcNamed "nacre/nacrelaw03.DrumHours" = some 4 := by kernel_rfl
theorem holds4 : Rows.DrumHoursSaid :=
  OpenClaim.holds_of_wide 4 Tryz.f4 rfl rfl rfl rfl rfl rfl rfl ⟨rfl, rfl, rfl, rfl, rfl⟩ rfl rfl rfl rfl rfl named4 Tryz.func4 joined4
    (of_decide_eq_true (by kernel_rfl)) (by unfold Func.isWrapper; first | (rw [if_pos (by decide +kernel)]; kernel_rfl) | (rw [if_neg (by decide +kernel)]; exact ⟨rfl, rfl⟩))
    (fun os started H enc _ => lifted4 os started H enc)
theorem text4 : Rows.drumHoursRow.wfByText (OpenSpec.ofChange Rows.drumHoursSpec) = true := by kernel_rfl
theorem goes4 : false = Rows.drumHoursRow.goesBy Tryz.prog := by kernel_rfl
theorem card4 : Rows.DrumHoursCardSaid :=
  Claim7.holds_tied_plain_at .later [] [.data, .data, .data, .data, .pinned] true (true, "762f071884d5ced12558a666d0624c047b32b12b6407ccf63fd9aae0ad2441ae") true
    holds4 (fun _ h => by cases h) text4 (fun _ h => by cases h) drumHours_row_tie rfl ⟨rfl, rfl⟩ pf_main rfl
    (fun f fn hf hfn => by
      obtain rfl : f = 4 := Option.some.inj (named4.symm.trans hf) |>.symm
      obtain rfl : fn = Tryz.f4 := (Option.some.inj (Tryz.func4.symm.trans hfn)).symm
      exact ⟨pf_looks, fun j t ht => by
        have hm : t ∈ Tryz.f4.params.toList := by simpa using Array.mem_of_getElem? ht
        have hall : (Tryz.f4.params.toList.all fun u => !Tryz.prog.wantsStandIn u) = true := by kernel_rfl
        exact (show Tryz.prog.wantsStandIn t = false by simpa using List.all_eq_true.1 hall t hm)⟩)
    goes4
#print axioms card4
end Go.Proofs.YtmplfjolcdlipaaGreatDoor
