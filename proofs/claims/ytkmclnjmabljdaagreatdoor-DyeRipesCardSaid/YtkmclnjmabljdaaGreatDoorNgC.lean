/- DyeRipes: whatever the input, the statement's function returns true, and the input reads as it did: the row, and the card that ties its listed variables to the program's text. -/
import Derived.Test.YtkmclnjmabljdaaGreatDoorNfB
import Derived.Test.YtkmclnjmabljdaaGreatDoorNfC
import Derived.Test.YtkmclnjmabljdaaGreatDoorNcH
import Derived.Test.YtkmclnjmabljdaaGreatDoorNeY
import Derived.Test.YtkmclnjmabljdaaGreatDoorTie
import Derived.Test.YtkmclnjmabljdaaGreatDoorCards
set_option linter.unusedVariables false
set_option linter.unusedSimpArgs false
namespace Go.Proofs.YtkmclnjmabljdaaGreatDoor
open Go Go.Abs Go.RowKit Go.ChangeShapes
set_option linter.unusedVariables false
set_option maxRecDepth 100000

theorem lifted5 (os : Os) (started : os.Started) (H : Type) (enc : TypeId × Value → H) :
    ReturnsInHanded {} Tryz.checked os 5 .any (fun w args => (Rows.dyeRipesSpec.pre enc Tryz.prog Tryz.f5 [] false w args ∧ laidMetH Tryz.prog laid3 w) ∧ sizedMet enc Tryz.prog Tryz.f5 (OpenSpec.ofChange Rows.dyeRipesSpec) false w args)
      (Rows.dyeRipesSpec.post enc Tryz.prog Tryz.f5 false true false false) := by
  refine law_lifted (fn := Tryz.f5) os started enc (by kernel_rfl) Tryz.func5 rfl rfl ?_ #[.agg #[.slice none 0 0], .agg #[.slice none 0 0], .slice none 0 0, .int .i64 0, .int .i64 0, .agg #[.int .i64 0, .int .i64 0]] (by kernel_rfl) (by kernel_rfl) (by kernel_rfl) ?_
  · have : (Tryz.f5.params.toList.all fun t => Tryz.prog.readableRec t && decide (t < Tryz.prog.types.size)) = true := by kernel_rfl
    intro t ht
    have := List.all_eq_true.1 this t ht
    simpa using this
  · intro W base args ds p hval hA
    have hA' : DataW.TrodAll enc Tryz.prog W 0 (fun _ => true) true [24, 49, 25, 3, 3, 37] args.toList ds p := hA
    obtain ⟨vs, hvs⟩ : ∃ vs, args.toList = vs := ⟨_, rfl⟩
    rw [hvs] at hA'
    obtain ⟨v0, r0, d0, e0, p0, q0, rfl, rfl, rfl, h0, hA'⟩ := Go.Abs.trodAll_cons hA'
    obtain ⟨v1, r1, d1, e1, p1, q1, rfl, rfl, rfl, h1, hA'⟩ := Go.Abs.trodAll_cons hA'
    obtain ⟨v2, r2, d2, e2, p2, q2, rfl, rfl, rfl, h2, hA'⟩ := Go.Abs.trodAll_cons hA'
    obtain ⟨v3, r3, d3, e3, p3, q3, rfl, rfl, rfl, h3, hA'⟩ := Go.Abs.trodAll_cons hA'
    obtain ⟨v4, r4, d4, e4, p4, q4, rfl, rfl, rfl, h4, hA'⟩ := Go.Abs.trodAll_cons hA'
    obtain ⟨v5, r5, d5, e5, p5, q5, rfl, rfl, rfl, h5, hA'⟩ := Go.Abs.trodAll_cons hA'
    obtain ⟨rfl, rfl, rfl⟩ := Go.Abs.trodAll_nil hA'
    have hargs : args = #[v0, v1, v2, v3, v4, v5] := Array.ext' hvs
    subst hargs
    refine ⟨rfl, ?_⟩
    have g0 : Value.okWide Tryz.prog W .any base 24 v0 := hval 0 24 v0 rfl rfl
    obtain ⟨c0, rfl⟩ := agg_of_struct (fs := Tryz.prog.fieldsOf 24) (by kernel_rfl) g0
    obtain ⟨x0, y0⟩ := rd24.argS h0
    have g1 : Value.okWide Tryz.prog W .any base 49 v1 := hval 1 49 v1 rfl rfl
    obtain ⟨c1, rfl⟩ := agg_of_struct (fs := Tryz.prog.fieldsOf 49) (by kernel_rfl) g1
    obtain ⟨x1, y1⟩ := rd49.argS h1
    have g2 : Value.okWide Tryz.prog W .any base 25 v2 := hval 2 25 v2 rfl rfl
    obtain ⟨x2, z2, hz2, y2⟩ := rd25.arg (cells_slice (el := 154) (by kernel_rfl) g2) (fun x => ⟨_, rfl⟩) h2
    cases hz2
    have g3 : Value.okWide Tryz.prog W .any base 3 v3 := hval 3 3 v3 rfl rfl
    obtain ⟨x3, z3, hz3, y3⟩ := rd3.arg (cells_int (k := .i64) (by kernel_rfl) g3) (fun x => ⟨_, rfl⟩) h3
    cases hz3
    have g4 : Value.okWide Tryz.prog W .any base 3 v4 := hval 4 3 v4 rfl rfl
    obtain ⟨x4, z4, hz4, y4⟩ := rd3.arg (cells_int (k := .i64) (by kernel_rfl) g4) (fun x => ⟨_, rfl⟩) h4
    cases hz4
    have g5 : Value.okWide Tryz.prog W .any base 37 v5 := hval 5 37 v5 rfl rfl
    obtain ⟨c5, rfl⟩ := agg_of_struct (fs := Tryz.prog.fieldsOf 37) (by kernel_rfl) g5
    obtain ⟨x5, y5⟩ := rd37.argS h5
    exact ⟨_, repL_arr (repL_cons y0 (repL_cons y1 (repL_cons y2 (repL_cons y3 (repL_cons y4 (repL_cons y5 repL_nil)))))), f5 x0 x1 x2 x3 x4 x5⟩
theorem cl5a : Rows.dyeRipesRow.wf (OpenSpec.ofChange Rows.dyeRipesSpec) = true := by kernel_rfl
theorem cl5b : (Tryz.f5.params.all (Tryz.prog.readableRec ·) && namedTie Tryz.prog Rows.dyeRipesRow.named Rows.dyeRipesSpec.vars) = true := by kernel_rfl
theorem cl5c : (Rows.dyeRipesRow.inPlace == Tryz.prog.inPlace 5) = true := by kernel_rfl
theorem cl5d : (Rows.dyeRipesRow.unfollowed == Tryz.prog.unfollowed 5) = true := by kernel_rfl
theorem cl5e : (Rows.dyeRipesRow.recurses == Tryz.prog.recurses 5) = true := by kernel_rfl
theorem cl5f : (Rows.dyeRipesRow.named == Tryz.prog.varsNamed 5) = true := by kernel_rfl
theorem cl5g : ((Rows.dyeRipesRow.maps == (Tryz.f5.params.toList ++ Rows.dyeRipesSpec.plain.varTypes Tryz.prog).any (Tryz.prog.mapsRec ·)) && (Rows.dyeRipesRow.ifaces == (Tryz.f5.params.toList ++ Rows.dyeRipesSpec.plain.varTypes Tryz.prog).any (Tryz.prog.ifacesRec ·)) && (Rows.dyeRipesRow.mapsOut == Tryz.prog.mapsAmong Tryz.f5.resultTypes.toList) &&
      (Rows.dyeRipesRow.loops == (Tryz.f5.params.toList ++ Rows.dyeRipesSpec.plain.varTypes Tryz.prog).any (Tryz.prog.loopsFrom ·)) && (Rows.dyeRipesRow.wideKeys == (Tryz.f5.params.toList ++ Rows.dyeRipesSpec.plain.varTypes Tryz.prog ++ Tryz.f5.resultTypes.toList).any (Tryz.prog.wideKeysFrom ·))) = true := by kernel_rfl
theorem cl5h : (Rows.dyeRipesSpec.vars.all (Tryz.prog.varReadable ·) && Tryz.f5.resultTypes.all (fun t => Tryz.prog.readableRec t && decide (t < Tryz.prog.types.size)) && (Rows.dyeRipesRow.ifacesOut == Tryz.f5.resultTypes.toList.any (Tryz.prog.ifacesRec ·)) && (Rows.dyeRipesRow.loopsOut == Tryz.f5.resultTypes.toList.any (Tryz.prog.loopsFrom ·))) = true := by kernel_rfl
theorem cl5i : ((Rows.dyeRipesRow.veiled == (Tryz.f5.params.toList ++ Rows.dyeRipesSpec.plain.varTypes Tryz.prog ++ Tryz.f5.resultTypes.toList).any (Tryz.prog.veiledRec ·)) && Rows.dyeRipesRow.veiledFits Tryz.prog Tryz.f5.params.toList (Tryz.f5.params.toList ++ Rows.dyeRipesSpec.plain.varTypes Tryz.prog ++ Tryz.f5.resultTypes.toList)) = true := by kernel_rfl
theorem joined5 : joinedFacts Tryz.prog 5 Tryz.f5 Rows.dyeRipesSpec Rows.dyeRipesRow = true :=
  joined_abs laidOutT pf_mapsRowed pf_stopsHeard pf_mayEnter pf_lifted pf_make pf_plainKeys pf_stops pf_knobs cl5a cl5b rfl cl5c cl5d cl5e cl5f cl5g cl5h rfl rfl rfl rfl cl5i
theorem named5 : Tryz.prog.funcNamed "nacre/nacrelaw04.DyeRipes" = some 5 := by kernel_rfl
theorem holds5 : Rows.DyeRipesSaid :=
  OpenClaim.holds_of_wide 5 Tryz.f5 rfl rfl rfl rfl rfl rfl rfl ⟨rfl, rfl, rfl, rfl, rfl⟩ rfl rfl rfl rfl rfl named5 Tryz.func5 joined5
    (of_decide_eq_true (by kernel_rfl)) (by unfold Func.isWrapper; first | (rw [if_pos (by decide +kernel)]; kernel_rfl) | (rw [if_neg (by decide +kernel)]; exact ⟨rfl, rfl⟩))
    (fun os started H enc _ => lifted5 os started H enc)
theorem text5 : Rows.dyeRipesRow.wfByText (OpenSpec.ofChange Rows.dyeRipesSpec) = true := by kernel_rfl
theorem goes5 : false = Rows.dyeRipesRow.goesBy Tryz.prog := by kernel_rfl
theorem card5 : Rows.DyeRipesCardSaid :=
  Claim7.holds_tied_plain_at .later [] [.data, .data, .data] true (true, "2d786f4c48be527342a5a148c4ad2cb82cdd4fa7b6be3b273fbea74be73c3c94") true
    holds5 (fun _ h => by cases h) text5 (fun _ h => by cases h) dyeRipes_row_tie rfl ⟨rfl, rfl⟩ pf_main rfl
    (fun f fn hf hfn => by
      obtain rfl : f = 5 := Option.some.inj (named5.symm.trans hf) |>.symm
      obtain rfl : fn = Tryz.f5 := (Option.some.inj (Tryz.func5.symm.trans hfn)).symm
      exact ⟨pf_looks, fun j t ht => by
        have hm : t ∈ Tryz.f5.params.toList := by simpa using Array.mem_of_getElem? ht
        have hall : (Tryz.f5.params.toList.all fun u => !Tryz.prog.wantsStandIn u) = true := by kernel_rfl
        exact (show Tryz.prog.wantsStandIn t = false by simpa using List.all_eq_true.1 hall t hm)⟩)
    goes5
#print axioms card5
end Go.Proofs.YtkmclnjmabljdaaGreatDoor

