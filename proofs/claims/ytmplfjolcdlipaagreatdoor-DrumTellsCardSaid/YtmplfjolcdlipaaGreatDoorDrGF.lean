/- DrumTells: whatever the input, the statement's function returns true, and the input reads as it did: the row, and the card that ties its listed variables to the program's text. -/
import Derived.Test.YtmplfjolcdlipaaGreatDoorDrFB
import Derived.Test.YtmplfjolcdlipaaGreatDoorNcH
import Derived.Test.YtmplfjolcdlipaaGreatDoorDrDH
import Derived.Test.YtmplfjolcdlipaaGreatDoorTie
import Derived.Test.YtmplfjolcdlipaaGreatDoorCards
import Derived.Test.YtmplfjolcdlipaaGreatDoorX
set_option linter.unusedVariables false
set_option linter.unusedSimpArgs false
namespace Go.Proofs.YtmplfjolcdlipaaGreatDoor
open Go Go.Abs Go.RowKit Go.ChangeShapes
set_option linter.unusedVariables false
set_option maxRecDepth 100000
theorem lifted16 (os : Os) (started : os.Started) (H : Type) (enc : TypeId × Value → H) :
    ReturnsInHanded {} Tryz.checked os 16 .any (fun w args => (Rows.drumTellsSpec.pre enc Tryz.prog Tryz.f16 [] false w args ∧ laidMetH Tryz.prog laid5 w) ∧ sizedMet enc Tryz.prog Tryz.f16 (OpenSpec.ofChange Rows.drumTellsSpec) false w args)
      (Rows.drumTellsSpec.post enc Tryz.prog Tryz.f16 false true false false) := by
  refine law_lifted (fn := Tryz.f16) os started enc (by kernel_rfl) Tryz.func16 rfl rfl ?_ #[.agg #[.slice none 0 0, .int .i64 0, .int .i64 0, .slice none 0 0, .slice none 0 0, .slice none 0 0], .int .i64 0, .int .i64 0, .agg #[.int .i64 0, .slice none 0 0]] (by kernel_rfl) (by kernel_rfl) (by kernel_rfl) ?_
  · have : (Tryz.f16.params.toList.all fun t => Tryz.prog.readableRec t && decide (t < Tryz.prog.types.size)) = true := by kernel_rfl
    intro t ht
    have := List.all_eq_true.1 this t ht
    simpa using this
  · intro W base args ds p hval hA
    have hA' : DataW.TrodAll enc Tryz.prog W 0 (fun _ => true) true [27, 3, 3, 80] args.toList ds p := hA
    obtain ⟨vs, hvs⟩ : ∃ vs, args.toList = vs := ⟨_, rfl⟩
    rw [hvs] at hA'
    obtain ⟨v0, r0, d0, e0, p0, q0, rfl, rfl, rfl, h0, hA'⟩ := Go.Abs.trodAll_cons hA'
    obtain ⟨v1, r1, d1, e1, p1, q1, rfl, rfl, rfl, h1, hA'⟩ := Go.Abs.trodAll_cons hA'
    obtain ⟨v2, r2, d2, e2, p2, q2, rfl, rfl, rfl, h2, hA'⟩ := Go.Abs.trodAll_cons hA'
    obtain ⟨v3, r3, d3, e3, p3, q3, rfl, rfl, rfl, h3, hA'⟩ := Go.Abs.trodAll_cons hA'
    obtain ⟨rfl, rfl, rfl⟩ := Go.Abs.trodAll_nil hA'
    have hargs : args = #[v0, v1, v2, v3] := Array.ext' hvs
    subst hargs
    refine ⟨rfl, ?_⟩
    have g0 : Value.okWide Tryz.prog W .any base 27 v0 := hval 0 27 v0 rfl rfl
    obtain ⟨c0, rfl⟩ := agg_of_struct (fs := Tryz.prog.fieldsOf 27) (by kernel_rfl) g0
    obtain ⟨x0, y0⟩ := rd27.argS h0
    have g1 : Value.okWide Tryz.prog W .any base 3 v1 := hval 1 3 v1 rfl rfl
    obtain ⟨x1, z1, hz1, y1⟩ := rd3.arg (cells_int (k := .i64) (by kernel_rfl) g1) (fun x => ⟨_, rfl⟩) h1
    cases hz1
    have g2 : Value.okWide Tryz.prog W .any base 3 v2 := hval 2 3 v2 rfl rfl
    obtain ⟨x2, z2, hz2, y2⟩ := rd3.arg (cells_int (k := .i64) (by kernel_rfl) g2) (fun x => ⟨_, rfl⟩) h2
    cases hz2
    have g3 : Value.okWide Tryz.prog W .any base 80 v3 := hval 3 80 v3 rfl rfl
    obtain ⟨c3, rfl⟩ := agg_of_struct (fs := Tryz.prog.fieldsOf 80) (by kernel_rfl) g3
    obtain ⟨x3, y3⟩ := rd80.argS h3
    exact ⟨_, repL_arr (repL_cons y0 (repL_cons y1 (repL_cons y2 (repL_cons y3 repL_nil)))), f16 x0 x1 x2 x3.1 x3.2⟩
theorem cl16a : Rows.drumTellsRow.wf (OpenSpec.ofChange Rows.drumTellsSpec) = true := by kernel_rfl
theorem cl16b : (Tryz.f16.params.all (Tryz.prog.readableRec ·) && namedTie Tryz.prog Rows.drumTellsRow.named Rows.drumTellsSpec.vars) = true := by kernel_rfl
theorem cl16c : (Rows.drumTellsRow.inPlace == Tryz.prog.inPlace 16) = true := by kernel_rfl
theorem cl16d : (Rows.drumTellsRow.unfollowed == Tryz.prog.unfollowed 16) = true := by kernel_rfl
theorem cl16e : (Rows.drumTellsRow.recurses == Tryz.prog.recurses 16) = true := by kernel_rfl
theorem cl16f : (Rows.drumTellsRow.named == Tryz.prog.varsNamed 16) = true := by kernel_rfl
theorem cl16g : ((Rows.drumTellsRow.maps == (Tryz.f16.params.toList ++ Rows.drumTellsSpec.plain.varTypes Tryz.prog).any (Tryz.prog.mapsRec ·)) && (Rows.drumTellsRow.ifaces == (Tryz.f16.params.toList ++ Rows.drumTellsSpec.plain.varTypes Tryz.prog).any (Tryz.prog.ifacesRec ·)) && (Rows.drumTellsRow.mapsOut == Tryz.prog.mapsAmong Tryz.f16.resultTypes.toList) &&
      (Rows.drumTellsRow.loops == (Tryz.f16.params.toList ++ Rows.drumTellsSpec.plain.varTypes Tryz.prog).any (Tryz.prog.loopsFrom ·)) && (Rows.drumTellsRow.wideKeys == (Tryz.f16.params.toList ++ Rows.drumTellsSpec.plain.varTypes Tryz.prog ++ Tryz.f16.resultTypes.toList).any (Tryz.prog.wideKeysFrom ·))) = true := by kernel_rfl
theorem cl16h : (Rows.drumTellsSpec.vars.all (Tryz.prog.varReadable ·) && Tryz.f16.resultTypes.all (fun t => Tryz.prog.readableRec t && decide (t < Tryz.prog.types.size)) && (Rows.drumTellsRow.ifacesOut == Tryz.f16.resultTypes.toList.any (Tryz.prog.ifacesRec ·)) && (Rows.drumTellsRow.loopsOut == Tryz.f16.resultTypes.toList.any (Tryz.prog.loopsFrom ·))) = true := by kernel_rfl
theorem cl16i : ((Rows.drumTellsRow.veiled == (Tryz.f16.params.toList ++ Rows.drumTellsSpec.plain.varTypes Tryz.prog ++ Tryz.f16.resultTypes.toList).any (Tryz.prog.veiledRec ·)) && Rows.drumTellsRow.veiledFits Tryz.prog Tryz.f16.params.toList (Tryz.f16.params.toList ++ Rows.drumTellsSpec.plain.varTypes Tryz.prog ++ Tryz.f16.resultTypes.toList)) = true := by kernel_rfl
theorem joined16 : joinedFacts Tryz.prog 16 Tryz.f16 Rows.drumTellsSpec Rows.drumTellsRow = true :=
  joined_abs laidOutT pf_mapsRowed pf_stopsHeard pf_mayEnter pf_lifted pf_make pf_plainKeys pf_stops pf_knobs cl16a cl16b rfl cl16c cl16d cl16e cl16f cl16g cl16h rfl rfl rfl rfl cl16i
theorem named16 : Tryz.prog.funcNamed "nacre/nacrelaw03.DrumTells" = some 16 := by kernel_rfl
theorem holds16 : Rows.DrumTellsSaid :=
  OpenClaim.holds_of_wide 16 Tryz.f16 rfl rfl rfl rfl rfl rfl rfl ⟨rfl, rfl, rfl, rfl, rfl⟩ rfl rfl rfl rfl rfl named16 Tryz.func16 joined16
    (of_decide_eq_true (by kernel_rfl)) (by unfold Func.isWrapper; first | (rw [if_pos (by decide +kernel)]; kernel_rfl) | (rw [if_neg (by decide +kernel)]; exact ⟨rfl, rfl⟩))
    (fun os started H enc _ => lifted16 os started H enc)
theorem text16 : Rows.drumTellsRow.wfByText (OpenSpec.ofChange Rows.drumTellsSpec) = true := by kernel_rfl
theorem goes16 : false = Rows.drumTellsRow.goesBy Tryz.prog := by kernel_rfl
theorem card16 : Rows.DrumTellsCardSaid :=
  Claim7.holds_tied_plain_at .later [] [.data, .data, .data, .data, .pinned] true (true, "762f071884d5ced12558a666d0624c047b32b12b6407ccf63fd9aae0ad2441ae") true
    holds16 (fun _ h => by cases h) text16 (fun _ h => by cases h) drumTells_row_tie rfl ⟨rfl, rfl⟩ pf_main rfl
    (fun f fn hf hfn => by
      obtain rfl : f = 16 := Option.some.inj (named16.symm.trans hf) |>.symm
      obtain rfl : fn = Tryz.f16 := (Option.some.inj (Tryz.func16.symm.trans hfn)).symm
      exact ⟨pf_looks, fun j t ht => by
        have hm : t ∈ Tryz.f16.params.toList := by simpa using Array.mem_of_getElem? ht
        have hall : (Tryz.f16.params.toList.all fun u => !Tryz.prog.wantsStandIn u) = true := by kernel_rfl
        exact (show Tryz.prog.wantsStandIn t = false by simpa using List.all_eq_true.1 hall t hm)⟩)
    goes16
#print axioms card16
end Go.Proofs.YtmplfjolcdlipaaGreatDoor
