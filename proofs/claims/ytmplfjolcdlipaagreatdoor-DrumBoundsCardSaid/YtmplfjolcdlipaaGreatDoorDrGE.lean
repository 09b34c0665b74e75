/- DrumBounds: whatever the input, the statement's function returns true, and the input reads as it did: the row, and the card that ties its listed variables to the program's text. -/
import Derived.Test.YtmplfjolcdlipaaGreatDoorDrFB
import Derived.Test.YtmplfjolcdlipaaGreatDoorNcH
import Derived.Test.YtmplfjolcdlipaaGreatDoorDrDG
import Derived.Test.YtmplfjolcdlipaaGreatDoorTie
import Derived.Test.YtmplfjolcdlipaaGreatDoorCards
import Derived.Test.YtmplfjolcdlipaaGreatDoorX
set_option linter.unusedVariables false
set_option linter.unusedSimpArgs false
namespace Go.Proofs.YtmplfjolcdlipaaGreatDoor
open Go Go.Abs Go.RowKit Go.ChangeShapes
set_option linter.unusedVariables false
set_option maxRecDepth 100000
theorem lifted18 (os : Os) (started : os.Started) (H : Type) (enc : TypeId × Value → H) :
    ReturnsInHanded {} Tryz.checked os 18 .any (fun w args => (Rows.drumBoundsSpec.pre enc Tryz.prog Tryz.f18 [] false w args ∧ laidMetH Tryz.prog laid5 w) ∧ sizedMet enc Tryz.prog Tryz.f18 (OpenSpec.ofChange Rows.drumBoundsSpec) false w args)
      (Rows.drumBoundsSpec.post enc Tryz.prog Tryz.f18 false true false false) := by
  refine law_lifted (fn := Tryz.f18) os started enc (by kernel_rfl) Tryz.func18 rfl rfl ?_ #[.agg #[.slice none 0 0, .int .i64 0, .int .i64 0, .slice none 0 0, .slice none 0 0, .slice none 0 0], .agg #[.int .i64 0, .slice none 0 0], .int .i64 0] (by kernel_rfl) (by kernel_rfl) (by kernel_rfl) ?_
  · have : (Tryz.f18.params.toList.all fun t => Tryz.prog.readableRec t && decide (t < Tryz.prog.types.size)) = true := by kernel_rfl
    intro t ht
    have := List.all_eq_true.1 this t ht
    simpa using this
  · intro W base args ds p hval hA
    have hA' : DataW.TrodAll enc Tryz.prog W 0 (fun _ => true) true [27, 80, 3] args.toList ds p := hA
    obtain ⟨vs, hvs⟩ : ∃ vs, args.toList = vs := ⟨_, rfl⟩
    rw [hvs] at hA'
    obtain ⟨v0, r0, d0, e0, p0, q0, rfl, rfl, rfl, h0, hA'⟩ := Go.Abs.trodAll_cons hA'
    obtain ⟨v1, r1, d1, e1, p1, q1, rfl, rfl, rfl, h1, hA'⟩ := Go.Abs.trodAll_cons hA'
    obtain ⟨v2, r2, d2, e2, p2, q2, rfl, rfl, rfl, h2, hA'⟩ := Go.Abs.trodAll_cons hA'
    obtain ⟨rfl, rfl, rfl⟩ := Go.Abs.trodAll_nil hA'
    have hargs : args = #[v0, v1, v2] := Array.ext' hvs
    subst hargs
    refine ⟨rfl, ?_⟩
    have g0 : Value.okWide Tryz.prog W .any base 27 v0 := hval 0 27 v0 rfl rfl
    obtain ⟨c0, rfl⟩ := agg_of_struct (fs := Tryz.prog.fieldsOf 27) (by kernel_rfl) g0
    obtain ⟨x0, y0⟩ := rd27.argS h0
    have g1 : Value.okWide Tryz.prog W .any base 80 v1 := hval 1 80 v1 rfl rfl
    obtain ⟨c1, rfl⟩ := agg_of_struct (fs := Tryz.prog.fieldsOf 80) (by kernel_rfl) g1
    obtain ⟨x1, y1⟩ := rd80.argS h1
    have g2 : Value.okWide Tryz.prog W .any base 3 v2 := hval 2 3 v2 rfl rfl
    obtain ⟨x2, z2, hz2, y2⟩ := rd3.arg (cells_int (k := .i64) (by kernel_rfl) g2) (fun x => ⟨_, rfl⟩) h2
    cases hz2
    exact ⟨_, repL_arr (repL_cons y0 (repL_cons y1 (repL_cons y2 repL_nil))), f18 x0 x1.1 x1.2 x2⟩
theorem cl18a : Rows.drumBoundsRow.wf (OpenSpec.ofChange Rows.drumBoundsSpec) = true := by kernel_rfl
theorem cl18b : (Tryz.f18.params.all (Tryz.prog.readableRec ·) && namedTie Tryz.prog Rows.drumBoundsRow.named Rows.drumBoundsSpec.vars) = true := by kernel_rfl
theorem cl18c : (Rows.drumBoundsRow.inPlace == Tryz.prog.inPlace 18) = true := by kernel_rfl
theorem cl18d : (Rows.drumBoundsRow.unfollowed == Tryz.prog.unfollowed 18) = true := by kernel_rfl
theorem cl18e : (Rows.drumBoundsRow.recurses == Tryz.prog.recurses 18) = true := by kernel_rfl
theorem cl18f : (Rows.drumBoundsRow.named == Tryz.prog.varsNamed 18) = true := by kernel_rfl
theorem cl18g : ((Rows.drumBoundsRow.maps == (Tryz.f18.params.toList ++ Rows.drumBoundsSpec.plain.varTypes Tryz.prog).any (Tryz.prog.mapsRec ·)) && (Rows.drumBoundsRow.ifaces == (Tryz.f18.params.toList ++ Rows.drumBoundsSpec.plain.varTypes Tryz.prog).any (Tryz.prog.ifacesRec ·)) && (Rows.drumBoundsRow.mapsOut == Tryz.prog.mapsAmong Tryz.f18.resultTypes.toList) &&
      (Rows.drumBoundsRow.loops == (Tryz.f18.params.toList ++ Rows.drumBoundsSpec.plain.varTypes Tryz.prog).any (Tryz.prog.loopsFrom ·)) && (Rows.drumBoundsRow.wideKeys == (Tryz.f18.params.toList ++ Rows.drumBoundsSpec.plain.varTypes Tryz.prog ++ Tryz.f18.resultTypes.toList).any (Tryz.prog.wideKeysFrom ·))) = true := by kernel_rfl
theorem cl18h : (Rows.drumBoundsSpec.vars.all (Tryz.prog.varReadable ·) && Tryz.f18.resultTypes.all (fun t => Tryz.prog.readableRec t && decide (t < Tryz.prog.types.size)) && (Rows.drumBoundsRow.ifacesOut == Tryz.f18.resultTypes.toList.any (Tryz.prog.ifacesRec ·)) && (Rows.drumBoundsRow.loopsOut == Tryz.f18.resultTypes.toList.any (Tryz.prog.loopsFrom ·))) = true := by kernel_rfl
theorem cl18i : ((Rows.drumBoundsRow.veiled == (Tryz.f18.params.toList ++ Rows.drumBoundsSpec.plain.varTypes Tryz.prog ++ Tryz.f18.resultTypes.toList).any (Tryz.prog.veiledRec ·)) && Rows.drumBoundsRow.veiledFits Tryz.prog Tryz.f18.params.toList (Tryz.f18.params.toList ++ Rows.drumBoundsSpec.plain.varTypes Tryz.prog ++ Tryz.f18.resultTypes.toList)) = true := by kernel_rfl
theorem joined18 : joinedFacts Tryz.prog 18 Tryz.f18 Rows.drumBoundsSpec Rows.drumBoundsRow = true :=
  joined_abs laidOutT pf_mapsRowed pf_stopsHeard pf_mayEnter pf_lifted pf_make pf_plainKeys pf_stops pf_knobs cl18a cl18b rfl cl18c cl18d cl18e cl18f cl18g cl18h rfl rfl rfl rfl cl18i
theorem named18 : Tryz.prog.funcNamed "nacre/nacrelaw03.DrumBounds" = some 18 := by kernel_rfl
theorem holds18 : Rows.DrumBoundsSaid :=
  OpenClaim.holds_of_wide 18 Tryz.f18 rfl rfl rfl rfl rfl rfl rfl ⟨rfl, rfl, rfl, rfl, rfl⟩ rfl rfl rfl rfl rfl named18 Tryz.func18 joined18
    (of_decide_eq_true (by kernel_rfl)) (by unfold Func.isWrapper; first | (rw [if_pos (by decide +kernel)]; kernel_rfl) | (rw [if_neg (by decide +kernel)]; exact ⟨rfl, rfl⟩))
    (fun os started H enc _ => lifted18 os started H enc)
theorem text18 : Rows.drumBoundsRow.wfByText (OpenSpec.ofChange Rows.drumBoundsSpec) = true := by kernel_rfl
theorem goes18 : false = Rows.drumBoundsRow.goesBy Tryz.prog := by kernel_rfl
theorem card18 : Rows.DrumBoundsCardSaid :=
  Claim7.holds_tied_plain_at .later [] [.data, .data, .data, .data, .pinned] true (true, "762f071884d5ced12558a666d0624c047b32b12b6407ccf63fd9aae0ad2441ae") true
    holds18 (fun _ h => by cases h) text18 (fun _ h => by cases h) drumBounds_row_tie rfl ⟨rfl, rfl⟩ pf_main rfl
    (fun f fn hf hfn => by
      obtain rfl : f = 18 := Option.some.inj (named18.symm.trans hf) |>.symm
      obtain rfl : fn = Tryz.f18 := (Option.some.inj (Tryz.func18.symm.trans hfn)).symm
      exact ⟨pf_looks, fun j t ht => by
        have hm : t ∈ Tryz.f18.params.toList := by simpa using Array.mem_of_getElem? ht
        have hall : (Tryz.f18.params.toList.all fun u => !Tryz.prog.wantsStandIn u) = true := by kernel_rfl
        exact (show Tryz.prog.wantsStandIn t = false by simpa using List.all_eq_true.1 hall t hm)⟩)
    goes18
#print axioms card18
end Go.Proofs.YtmplfjolcdlipaaGreatDoor
