/- DyeWords: whatever the input, the statement's function returns true, and the input reads as it did: the row, and the card that ties its listed variables to the program's text. -/
import Derived.Test.YtkmclnjmabljdaaGreatDoorNfB
import Derived.Test.YtkmclnjmabljdaaGreatDoorNfC
import Derived.Test.YtkmclnjmabljdaaGreatDoorNcH
import Derived.Test.YtkmclnjmabljdaaGreatDoorNeW
import Derived.Test.YtkmclnjmabljdaaGreatDoorTie
import Derived.Test.YtkmclnjmabljdaaGreatDoorCards
set_option linter.unusedVariables false
set_option linter.unusedSimpArgs false
namespace Go.Proofs.YtkmclnjmabljdaaGreatDoor
open Go Go.Abs Go.RowKit Go.ChangeShapes
set_option linter.unusedVariables false
set_option maxRecDepth 100000

theorem lifted4 (os : Os) (started : os.Started) (H : Type) (enc : TypeId × Value → H) :
    ReturnsInHanded {} Tryz.checked os 4 .any (fun w args => (Rows.dyeWordsSpec.pre enc Tryz.prog Tryz.f4 [] false w args ∧ laidMetH Tryz.prog laid3 w) ∧ sizedMet enc Tryz.prog Tryz.f4 (OpenSpec.ofChange Rows.dyeWordsSpec) false w args)
      (Rows.dyeWordsSpec.post enc Tryz.prog Tryz.f4 false true false false) := by
  refine law_lifted (fn := Tryz.f4) os started enc (by kernel_rfl) Tryz.func4 rfl rfl ?_ #[.agg #[.slice none 0 0], .slice none 0 0, .slice none 0 0, .slice none 0 0, .agg #[.int .i64 0, .int .i64 0]] (by kernel_rfl) (by kernel_rfl) (by kernel_rfl) ?_
  · have : (Tryz.f4.params.toList.all fun t => Tryz.prog.readableRec t && decide (t < Tryz.prog.types.size)) = true := by kernel_rfl
    intro t ht
    have := List.all_eq_true.1 this t ht
    simpa using this
  · intro W base args ds p hval hA
    have hA' : DataW.TrodAll enc Tryz.prog W 0 (fun _ => true) true [24, 35, 25, 25, 37] args.toList ds p := hA
    obtain ⟨vs, hvs⟩ : ∃ vs, args.toList = vs := ⟨_, rfl⟩
    rw [hvs] at hA'
    obtain ⟨v0, r0, d0, e0, p0, q0, rfl, rfl, rfl, h0, hA'⟩ := Go.Abs.trodAll_cons hA'
    obtain ⟨v1, r1, d1, e1, p1, q1, rfl, rfl, rfl, h1, hA'⟩ := Go.Abs.trodAll_cons hA'
    obtain ⟨v2, r2, d2, e2, p2, q2, rfl, rfl, rfl, h2, hA'⟩ := Go.Abs.trodAll_cons hA'
    obtain ⟨v3, r3, d3, e3, p3, q3, rfl, rfl, rfl, h3, hA'⟩ := Go.Abs.trodAll_cons hA'
    obtain ⟨v4, r4, d4, e4, p4, q4, rfl, rfl, rfl, h4, hA'⟩ := Go.Abs.trodAll_cons hA'
    obtain ⟨rfl, rfl, rfl⟩ := Go.Abs.trodAll_nil hA'
    have hargs : args = #[v0, v1, v2, v3, v4] := Array.ext' hvs
    subst hargs
    refine ⟨rfl, ?_⟩
    have g0 : Value.okWide Tryz.prog W .any base 24 v0 := hval 0 24 v0 rfl rfl
    obtain ⟨c0, rfl⟩ := agg_of_struct (fs := Tryz.prog.fieldsOf 24) (by kernel_rfl) g0
    obtain ⟨x0, y0⟩ := rd24.argS h0
    have g1 : Value.okWide Tryz.prog W .any base 35 v1 := hval 1 35 v1 rfl rfl
    obtain ⟨x1, z1, hz1, y1⟩ := rd35.arg (cells_slice (el := 49) (by kernel_rfl) g1) (fun x => ⟨_, rfl⟩) h1
    cases hz1
    have g2 : Value.okWide Tryz.prog W .any base 25 v2 := hval 2 25 v2 rfl rfl
    obtain ⟨x2, z2, hz2, y2⟩ := rd25.arg (cells_slice (el := 154) (by kernel_rfl) g2) (fun x => ⟨_, rfl⟩) h2
    cases hz2
    have g3 : Value.okWide Tryz.prog W .any base 25 v3 := hval 3 25 v3 rfl rfl
    obtain ⟨x3, z3, hz3, y3⟩ := rd25.arg (cells_slice (el := 154) (by kernel_rfl) g3) (fun x => ⟨_, rfl⟩) h3
    cases hz3
    have g4 : Value.okWide Tryz.prog W .any base 37 v4 := hval 4 37 v4 rfl rfl
    obtain ⟨c4, rfl⟩ := agg_of_struct (fs := Tryz.prog.fieldsOf 37) (by kernel_rfl) g4
    obtain ⟨x4, y4⟩ := rd37.argS h4
    exact ⟨_, repL_arr (repL_cons y0 (repL_cons y1 (repL_cons y2 (repL_cons y3 (repL_cons y4 repL_nil))))), f4 x0 x1 x2 x3 x4⟩
theorem cl4a : Rows.dyeWordsRow.wf (OpenSpec.ofChange Rows.dyeWordsSpec) = true := by kernel_rfl
theorem cl4b : (Tryz.f4.params.all (Tryz.prog.readableRec ·) && namedTie Tryz.prog Rows.dyeWordsRow.named Rows.dyeWordsSpec.vars) = true := by kernel_rfl
theorem cl4c : (Rows.dyeWordsRow.inPlace == Tryz.prog.inPlace 4) = true := by kernel_rfl
theorem cl4d : (Rows.dyeWordsRow.unfollowed == Tryz.prog.unfollowed 4) = true := by kernel_rfl
theorem cl4e : (Rows.dyeWordsRow.recurses == Tryz.prog.recurses 4) = true := by kernel_rfl
theorem cl4f : (Rows.dyeWordsRow.named == Tryz.prog.varsNamed 4) = true := by kernel_rfl
theorem cl4g : ((Rows.dyeWordsRow.maps == (Tryz.f4.params.toList ++ Rows.dyeWordsSpec.plain.varTypes Tryz.prog).any (Tryz.prog.mapsRec ·)) && (Rows.dyeWordsRow.ifaces == (Tryz.f4.params.toList ++ Rows.dyeWordsSpec.plain.varTypes Tryz.prog).any (Tryz.prog.ifacesRec ·)) && (Rows.dyeWordsRow.mapsOut == Tryz.prog.mapsAmong Tryz.f4.resultTypes.toList) &&
      (Rows.dyeWordsRow.loops == (Tryz.f4.params.toList ++ Rows.dyeWordsSpec.plain.varTypes Tryz.prog).any (Tryz.prog.loopsFrom ·)) && (Rows.dyeWordsRow.wideKeys == (Tryz.f4.params.toList ++ Rows.dyeWordsSpec.plain.varTypes Tryz.prog ++ Tryz.f4.resultTypes.toList).any (Tryz.prog.wideKeysFrom ·))) = true := by kernel_rfl
theorem cl4h : (Rows.dyeWordsSpec.vars.all (Tryz.prog.varReadable ·) && Tryz.f4.resultTypes.all (fun t => Tryz.prog.readableRec t && decide (t < Tryz.prog.types.size)) && (Rows.dyeWordsRow.ifacesOut == Tryz.f4.resultTypes.toList.any (Tryz.prog.ifacesRec ·)) && (Rows.dyeWordsRow.loopsOut == Tryz.f4.resultTypes.toList.any (Tryz.prog.loopsFrom ·))) = true := by kernel_rfl
theorem cl4i : ((Rows.dyeWordsRow.veiled == (Tryz.f4.params.toList ++ Rows.dyeWordsSpec.plain.varTypes Tryz.prog ++ Tryz.f4.resultTypes.toList).any (Tryz.prog.veiledRec ·)) && Rows.dyeWordsRow.veiledFits Tryz.prog Tryz.f4.params.toList (Tryz.f4.params.toList ++ Rows.dyeWordsSpec.plain.varTypes Tryz.prog ++ Tryz.f4.resultTypes.toList)) = true := by kernel_rfl
theorem joined4 : joinedFacts Tryz.prog 4 Tryz.f4 Rows.dyeWordsSpec Rows.dyeWordsRow = true :=
  joined_abs laidOutT pf_mapsRowed pf_stopsHeard pf_mayEnter pf_lifted pf_make pf_plainKeys pf_stops pf_knobs cl4a cl4b rfl cl4c cl4d cl4e cl4f cl4g cl4h rfl rfl rfl rfl cl4i
theorem named4 : Tryz.prog.funcNamed "nacre/nacrelaw04.DyeWords" = some 4 := by kernel_rfl
theorem holds4 : Rows.DyeWordsSaid :=
  OpenClaim.holds_of_wide 4 Tryz.f4 rfl rfl rfl rfl rfl rfl rfl ⟨rfl, rfl, rfl, rfl, rfl⟩ rfl rfl rfl rfl rfl named4 Tryz.func4 joined4
    (of_decide_eq_true (by kernel_rfl)) (by unfold Func.isWrapper; first | (rw [if_pos (by decide +kernel)]; kernel_rfl) | (rw [if_neg (by decide +kernel)]; exact ⟨rfl, rfl⟩))
    (fun os started H enc _ => lifted4 os started H enc)
theorem text4 : Rows.dyeWordsRow.wfByText (OpenSpec.ofChange Rows.dyeWordsSpec) = true := by kernel_rfl
theorem goes4 : false = Rows.dyeWordsRow.goesBy Tryz.prog := by kernel_rfl
theorem card4 : Rows.DyeWordsCardSaid :=
  Claim7.holds_tied_plain_at .later [] [.data, .data, .data] true (true, "2d786f4c48be527342a5a148c4ad2cb82cdd4fa7b6be3b273fbea74be73c3c94") true
    holds4 (fun _ h => by cases h) text4 (fun _ h => by cases h) dyeWords_row_tie rfl ⟨rfl, rfl⟩ pf_main rfl
    (fun f fn hf hfn => by
      obtain rfl : f = 4 := Option.some.inj (named4.symm.trans hf) |>.symm
      obtain rfl : fn = Tryz.f4 := (Option.some.inj (Tryz.func4.symm.trans hfn)).symm
      exact ⟨pf_looks, fun j t ht => by
        have hm : t ∈ Tryz.f4.params.toList := by simpa using Array.mem_of_getElem? ht
        have hall : (Tryz.f4.params.toList.all fun u => !Tryz.prog.wantsStandIn u) = true := by kernel_rfl
        exact (show Tryz.prog.wantsStandIn t = false by simpa using List.all_eq_true.1 hall t hm)⟩)
    goes4
#print axioms card4
end Go.Proofs.YtkmclnjmabljdaaGreatDoor

