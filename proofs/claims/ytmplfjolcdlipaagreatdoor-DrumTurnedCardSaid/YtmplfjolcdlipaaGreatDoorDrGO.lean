/- DrumTurned: whatever the input, the statement's function returns true, and the input reads as it did: the row, and the card that ties its listed variables to the program's text. -/
import Derived.Test.YtmplfjolcdlipaaGreatDoorDrFB
import Derived.Test.YtmplfjolcdlipaaGreatDoorNcH
import Derived.Test.YtmplfjolcdlipaaGreatDoorLgQ13
import Derived.Test.YtmplfjolcdlipaaGreatDoorTie
import Derived.Test.YtmplfjolcdlipaaGreatDoorCards
import Derived.Test.YtmplfjolcdlipaaGreatDoorXQ13
set_option linter.unusedVariables false
set_option linter.unusedSimpArgs false
namespace Go.Proofs.YtmplfjolcdlipaaGreatDoor
open Go Go.Abs Go.RowKit Go.ChangeShapes
set_option linter.unusedVariables false
set_option maxRecDepth 100000
theorem lifted13 (os : Os) (started : os.Started) (H : Type) (enc : TypeId × Value → H) :
    ReturnsInHanded {} Tryz.checked os 13 .any (fun w args => (Rows.drumTurnedSpec.pre enc Tryz.prog Tryz.f13 [] false w args ∧ laidMetH Tryz.prog laid5 w) ∧ sizedMet enc Tryz.prog Tryz.f13 (OpenSpec.ofChange Rows.drumTurnedSpec) false w args)
      (Rows.drumTurnedSpec.post enc Tryz.prog Tryz.f13 false true false false) := by
  refine law_lifted (fn := Tryz.f13) os started enc (by kernel_rfl) Tryz.func13 rfl rfl ?_ #[.agg #[.slice none 0 0, .int .i64 0, .int .i64 0, .slice none 0 0, .slice none 0 0, .slice none 0 0], .int .i64 0] (by kernel_rfl) (by kernel_rfl) (by kernel_rfl) ?_
  · have : (Tryz.f13.params.toList.all fun t => Tryz.prog.readableRec t && decide (t < Tryz.prog.types.size)) = true := by kernel_rfl
    intro t ht
    have := List.all_eq_true.1 this t ht
    simpa using this
  · intro W base args ds p hval hA
    have hA' : DataW.TrodAll enc Tryz.prog W 0 (fun _ => true) true [27, 3] args.toList ds p := hA
    obtain ⟨vs, hvs⟩ : ∃ vs, args.toList = vs := ⟨_, rfl⟩
    rw [hvs] at hA'
    obtain ⟨v0, r0, d0, e0, p0, q0, rfl, rfl, rfl, h0, hA'⟩ := Go.Abs.trodAll_cons hA'
    obtain ⟨v1, r1, d1, e1, p1, q1, rfl, rfl, rfl, h1, hA'⟩ := Go.Abs.trodAll_cons hA'
    obtain ⟨rfl, rfl, rfl⟩ := Go.Abs.trodAll_nil hA'
    have hargs : args = #[v0, v1] := Array.ext' hvs
    subst hargs
    refine ⟨rfl, ?_⟩
    have g0 : Value.okWide Tryz.prog W .any base 27 v0 := hval 0 27 v0 rfl rfl
    obtain ⟨c0, rfl⟩ := agg_of_struct (fs := Tryz.prog.fieldsOf 27) (by kernel_rfl) g0
    obtain ⟨x0, y0⟩ := rd27.argS h0
    have g1 : Value.okWide Tryz.prog W .any base 3 v1 := hval 1 3 v1 rfl rfl
    obtain ⟨x1, z1, hz1, y1⟩ := rd3.arg (cells_int (k := .i64) (by kernel_rfl) g1) (fun x => ⟨_, rfl⟩) h1
    cases hz1
    exact ⟨_, repL_arr (repL_cons y0 (repL_cons y1 repL_nil)), f13 x0 x1⟩
theorem cl13a : Rows.drumTurnedRow.wf (OpenSpec.ofChange Rows.drumTurnedSpec) = true := by kernel_rfl
theorem cl13b : (Tryz.f13.params.all (Tryz.prog.readableRec ·) && namedTie Tryz.prog Rows.drumTurnedRow.named Rows.drumTurnedSpec.vars) = true := by kernel_rfl
theorem cl13c : (Rows.drumTurnedRow.inPlace == Tryz.prog.inPlace 13) = true := by kernel_rfl
theorem cl13d : (Rows.drumTurnedRow.unfollowed == Tryz.prog.unfollowed 13) = true := by kernel_rfl
theorem cl13e : (Rows.drumTurnedRow.recurses == Tryz.prog.recurses 13) = true := by kernel_rfl
theorem cl13f : (Rows.drumTurnedRow.named == Tryz.prog.varsNamed 13) = true := by kernel_rfl
theorem cl13g : ((Rows.drumTurnedRow.maps == (Tryz.f13.params.toList ++ Rows.drumTurnedSpec.plain.varTypes Tryz.prog).any (Tryz.prog.mapsRec ·)) && (Rows.drumTurnedRow.ifaces == (Tryz.f13.params.toList ++ Rows.drumTurnedSpec.plain.varTypes Tryz.prog).any (Tryz.prog.ifacesRec ·)) && (Rows.drumTurnedRow.mapsOut == Tryz.prog.mapsAmong Tryz.f13.resultTypes.toList) &&
      (Rows.drumTurnedRow.loops == (Tryz.f13.params.toList ++ Rows.drumTurnedSpec.plain.varTypes Tryz.prog).any (Tryz.prog.loopsFrom ·)) && (Rows.drumTurnedRow.wideKeys == (Tryz.f13.params.toList ++ Rows.drumTurnedSpec.plain.varTypes Tryz.prog ++ Tryz.f13.resultTypes.toList).any (Tryz.prog.wideKeysFrom ·))) = true := by kernel_rfl
theorem cl13h : (Rows.drumTurnedSpec.vars.all (Tryz.prog.varReadable ·) && Tryz.f13.resultTypes.all (fun t => Tryz.prog.readableRec t && decide (t < Tryz.prog.types.size)) && (Rows.drumTurnedRow.ifacesOut == Tryz.f13.resultTypes.toList.any (Tryz.prog.ifacesRec ·)) && (Rows.drumTurnedRow.loopsOut == Tryz.f13.resultTypes.toList.any (Tryz.prog.loopsFrom ·))) = true := by kernel_rfl
theorem cl13i : ((Rows.drumTurnedRow.veiled == (Tryz.f13.params.toList ++ Rows.drumTurnedSpec.plain.varTypes Tryz.prog ++ Tryz.f13.resultTypes.toList).any (Tryz.prog.veiledRec ·)) && Rows.drumTurnedRow.veiledFits Tryz.prog Tryz.f13.params.toList (Tryz.f13.params.toList ++ Rows.drumTurnedSpec.plain.varTypes Tryz.prog ++ Tryz.f13.resultTypes.toList)) = true := by kernel_rfl
theorem joined13 : joinedFacts Tryz.prog 13 Tryz.f13 Rows.drumTurnedSpec Rows.drumTurnedRow = true :=
  joined_abs laidOutT pf_mapsRowed pf_stopsHeard pf_mayEnter pf_lifted pf_make pf_plainKeys pf_stops pf_knobs cl13a cl13b rfl cl13c cl13d cl13e cl13f cl13g cl13h rfl rfl rfl rfl cl13i
theorem named13 : Tryz.prog.funcNamed "nacre/nacrelaw03.DrumTurned" = some 13 := by kernel_rfl
theorem holds13 : Rows.DrumTurnedSaid :=
  OpenClaim.holds_of_wide 13 Tryz.f13 rfl rfl rfl rfl rfl rfl rfl ⟨rfl, rfl, rfl, rfl, rfl⟩ rfl rfl rfl rfl rfl named13 Tryz.func13 joined13
    (of_decide_eq_true (by kernel_rfl)) (by unfold Func.isWrapper; first | (rw [if_pos (by decide +kernel)]; kernel_rfl) | (rw [if_neg (by decide +kernel)]; exact ⟨rfl, rfl⟩))
    (fun os started H enc _ => lifted13 os started H enc)
theorem text13 : Rows.drumTurnedRow.wfByText (OpenSpec.ofChange Rows.drumTurnedSpec) = true := by kernel_rfl
theorem goes13 : false = Rows.drumTurnedRow.goesBy Tryz.prog := by kernel_rfl
theorem card13 : Rows.DrumTurnedCardSaid :=
  Claim7.holds_tied_plain_at .later [] [.data, .data, .data, .data, .pinned] true (true, "762f071884d5ced12558a666d0624c047b32b12b6407ccf63fd9aae0ad2441ae") true
    holds13 (fun _ h => by cases h) text13 (fun _ h => by cases h) drumTurned_row_tie rfl ⟨rfl, rfl⟩ pf_main rfl
    (fun f fn hf hfn => by
      obtain rfl : f = 13 := Option.some.inj (named13.symm.trans hf) |>.symm
      obtain rfl : fn = Tryz.f13 := (Option.some.inj (Tryz.func13.symm.trans hfn)).symm
      exact ⟨pf_looks, fun j t ht => by
        have hm : t ∈ Tryz.f13.params.toList := by simpa using Array.mem_of_getElem? ht
        have hall : (Tryz.f13.params.toList.all fun u => !Tryz.prog.wantsStandIn u) = true := by kernel_rfl
        exact (show Tryz.prog.wantsStandIn t = false by simpa using List.all_eq_true.1 hall t hm)⟩)
    goes13
#print axioms card13
end Go.Proofs.YtmplfjolcdlipaaGreatDoor
