/- DrumMore: whatever the input, the statement's function returns true, and the input reads as it did: the row, and the card that ties its listed variables to the program's text. -/
import Derived.Test.YtmplfjolcdlipaaGreatDoorDrFB
import Derived.Test.YtmplfjolcdlipaaGreatDoorNcH
import Derived.Test.YtmplfjolcdlipaaGreatDoorLfQ12
import Derived.Test.YtmplfjolcdlipaaGreatDoorTie
import Derived.Test.YtmplfjolcdlipaaGreatDoorCards
import Derived.Test.YtmplfjolcdlipaaGreatDoorXQ12
set_option linter.unusedVariables false
set_option linter.unusedSimpArgs false
namespace Go.Proofs.YtmplfjolcdlipaaGreatDoor
open Go Go.Abs Go.RowKit Go.ChangeShapes
set_option linter.unusedVariables false
set_option maxRecDepth 100000
theorem lifted12 (os : Os) (started : os.Started) (H : Type) (enc : TypeId × Value → H) :
    ReturnsInHanded {} Tryz.checked os 12 .any (fun w args => (Rows.drumMoreSpec.pre enc Tryz.prog Tryz.f12 [] false w args ∧ laidMetH Tryz.prog laid5 w) ∧ sizedMet enc Tryz.prog Tryz.f12 (OpenSpec.ofChange Rows.drumMoreSpec) false w args)
      (Rows.drumMoreSpec.post enc Tryz.prog Tryz.f12 false true false false) := by
  refine law_lifted (fn := Tryz.f12) os started enc (by kernel_rfl) Tryz.func12 rfl rfl ?_ #[.agg #[.slice none 0 0, .int .i64 0, .int .i64 0, .slice none 0 0, .slice none 0 0, .slice none 0 0], .agg #[.int .i64 0, .int .i64 0, .int .i64 0], .int .i64 0] (by kernel_rfl) (by kernel_rfl) (by kernel_rfl) ?_
  · have : (Tryz.f12.params.toList.all fun t => Tryz.prog.readableRec t && decide (t < Tryz.prog.types.size)) = true := by kernel_rfl
    intro t ht
    have := List.all_eq_true.1 this t ht
    simpa using this
  · intro W base args ds p hval hA
    have hA' : DataW.TrodAll enc Tryz.prog W 0 (fun _ => true) true [27, 74, 3] args.toList ds p := hA
    obtain ⟨vs, hvs⟩ : ∃ vs, args.toList = vs := ⟨_, rfl⟩
    rw [hvs] at hA'
    obtain ⟨v0, r0, d0, e0, p0, q0, rfl, rfl, rfl, h0, hA'⟩ := Go.Abs.trodAll_cons hA'
    obtain ⟨v1, r1, d1, e1, p1, q1, rfl, rfl, rfl, h1, hA'⟩ := Go.Abs.trodAll_cons hA'
    obtain ⟨v2, r2, d2, e2, p2, q2, rfl, rfl, rfl, h2, hA'⟩ := Go.Abs.trodAll_cons hA'
    obtain ⟨rfl, rfl, rfl⟩ := Go.Abs.trodAll_nil hA'
    have hargs : args = #[v0, v1, v2] := Array.ext' hvs
    subst hargs
    refine ⟨rfl, ?_⟩
    have g0 : Value.okWide Tryz.prog W .any base 27 v0 := hval 0 27 v0 rfl rfl
    obtain ⟨c0, rfl⟩ := agg_of_struct (fs := Tryz.prog.fieldsOf 27) (by kernel_rfl) g0
    obtain ⟨x0, y0⟩ := rd27.argS h0
    have g1 : Value.okWide Tryz.prog W .any base 74 v1 := hval 1 74 v1 rfl rfl
    obtain ⟨c1, rfl⟩ := agg_of_struct (fs := Tryz.prog.fieldsOf 74) (by kernel_rfl) g1
    obtain ⟨x1, y1⟩ := rd74.argS h1
    have g2 : Value.okWide Tryz.prog W .any base 3 v2 := hval 2 3 v2 rfl rfl
    obtain ⟨x2, z2, hz2, y2⟩ := rd3.arg (cells_int (k := .i64) (by kernel_rfl) g2) (fun x => ⟨_, rfl⟩) h2
    cases hz2
    exact ⟨_, repL_arr (repL_cons y0 (repL_cons y1 (repL_cons y2 repL_nil))), f12 x0 x1 x2⟩
theorem cl12a : Rows.drumMoreRow.wf (OpenSpec.ofChange Rows.drumMoreSpec) = true := by kernel_rfl
theorem cl12b : (Tryz.f12.params.all (Tryz.prog.readableRec ·) && namedTie Tryz.prog Rows.drumMoreRow.named Rows.drumMoreSpec.vars) = true := by kernel_rfl
theorem cl12c : (Rows.drumMoreRow.inPlace == Tryz.prog.inPlace 12) = true := by kernel_rfl
theorem cl12d : (Rows.drumMoreRow.unfollowed == Tryz.prog.unfollowed 12) = true := by kernel_rfl
theorem cl12e : (Rows.drumMoreRow.recurses == Tryz.prog.recurses 12) = true := by kernel_rfl
theorem cl12f : (Rows.drumMoreRow.named == Tryz.prog.varsNamed 12) = true := by kernel_rfl
theorem cl12g : ((Rows.drumMoreRow.maps == (Tryz.f12.params.toList ++ Rows.drumMoreSpec.plain.varTypes Tryz.prog).any (Tryz.prog.mapsRec ·)) && (Rows.drumMoreRow.ifaces == (Tryz.f12.params.toList ++ Rows.drumMoreSpec.plain.varTypes Tryz.prog).any (Tryz.prog.ifacesRec ·)) && (Rows.drumMoreRow.mapsOut == Tryz.prog.mapsAmong Tryz.f12.resultTypes.toList) &&
      (Rows.drumMoreRow.loops == (Tryz.f12.params.toList ++ Rows.drumMoreSpec.plain.varTypes Tryz.prog).any (Tryz.prog.loopsFrom ·)) && (Rows.drumMoreRow.wideKeys == (Tryz.f12.params.toList ++ Rows.drumMoreSpec.plain.varTypes Tryz.prog ++ Tryz.f12.resultTypes.toList).any (Tryz.prog.wideKeysFrom ·))) = true := by kernel_rfl
theorem cl12h : (Rows.drumMoreSpec.vars.all (Tryz.prog.varReadable ·) && Tryz.f12.resultTypes.all (fun t => Tryz.prog.readableRec t && decide (t < Tryz.prog.types.size)) && (Rows.drumMoreRow.ifacesOut == Tryz.f12.resultTypes.toList.any (Tryz.prog.ifacesRec ·)) && (Rows.drumMoreRow.loopsOut == Tryz.f12.resultTypes.toList.any (Tryz.prog.loopsFrom ·))) = true := by kernel_rfl
theorem cl12i : ((Rows.drumMoreRow.veiled == (Tryz.f12.params.toList ++ Rows.drumMoreSpec.plain.varTypes Tryz.prog ++ Tryz.f12.resultTypes.toList).any (Tryz.prog.veiledRec ·)) && Rows.drumMoreRow.veiledFits Tryz.prog Tryz.f12.params.toList (Tryz.f12.params.toList ++ Rows.drumMoreSpec.plain.varTypes Tryz.prog ++ Tryz.f12.resultTypes.toList)) = true := by kernel_rfl
theorem joined12 : joinedFacts Tryz.prog 12 Tryz.f12 Rows.drumMoreSpec Rows.drumMoreRow = true :=
  joined_abs laidOutT pf_mapsRowed pf_stopsHeard pf_mayEnter pf_lifted pf_make pf_plainKeys pf_stops pf_knobs cl12a cl12b rfl cl12c cl12d cl12e cl12f cl12g cl12h rfl rfl rfl rfl cl12i
theorem named12 : Tryz.prog.funcNamed "nacre/nacrelaw03.DrumMore" = some 12 := by kernel_rfl
theorem holds12 : Rows.DrumMoreSaid :=
  OpenClaim.holds_of_wide 12 Tryz.f12 rfl rfl rfl rfl rfl rfl rfl ⟨rfl, rfl, rfl, rfl, rfl⟩ rfl rfl rfl rfl rfl named12 Tryz.func12 joined12
    (of_decide_eq_true (by kernel_rfl)) (by unfold Func.isWrapper; first | (rw [if_pos (by decide +kernel)]; kernel_rfl) | (rw [if_neg (by decide +kernel)]; exact ⟨rfl, rfl⟩))
    (fun os started H enc _ => lifted12 os started H enc)
theorem text12 : Rows.drumMoreRow.wfByText (OpenSpec.ofChange Rows.drumMoreSpec) = true := by kernel_rfl
theorem goes12 : false = Rows.drumMoreRow.goesBy Tryz.prog := by kernel_rfl
theorem card12 : Rows.DrumMoreCardSaid :=
  Claim7.holds_tied_plain_at .later [] [.data, .data, .data, .data, .pinned] true (true, "762f071884d5ced12558a666d0624c047b32b12b6407ccf63fd9aae0ad2441ae") true
    holds12 (fun _ h => by cases h) text12 (fun _ h => by cases h) drumMore_row_tie rfl ⟨rfl, rfl⟩ pf_main rfl
    (fun f fn hf hfn => by
      obtain rfl : f = 12 := Option.some.inj (named12.symm.trans hf) |>.symm
      obtain rfl : fn = Tryz.f12 := (Option.some.inj (Tryz.func12.symm.trans hfn)).symm
      exact ⟨pf_looks, fun j t ht => by
        have hm : t ∈ Tryz.f12.params.toList := by simpa using Array.mem_of_getElem? ht
        have hall : (Tryz.f12.params.toList.all fun u => !Tryz.prog.wantsStandIn u) = true := by kernel_rfl
        exact (show Tryz.prog.wantsStandIn t = false by simpa using List.all_eq_true.1 hall t hm)⟩)
    goes12
#print axioms card12
end Go.Proofs.YtmplfjolcdlipaaGreatDoor
