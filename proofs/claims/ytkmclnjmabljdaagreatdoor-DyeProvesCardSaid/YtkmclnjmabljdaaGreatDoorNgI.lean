/- DyeProves: whatever the input, the statement's function returns true, and the input reads as it did: the row, and the card that ties its listed variables to the program's text. -/
import Derived.Test.YtkmclnjmabljdaaGreatDoorNfB
import Derived.Test.YtkmclnjmabljdaaGreatDoorNfC
import Derived.Test.YtkmclnjmabljdaaGreatDoorNcH
import Derived.Test.YtkmclnjmabljdaaGreatDoorNhR
import Derived.Test.YtkmclnjmabljdaaGreatDoorTie
import Derived.Test.YtkmclnjmabljdaaGreatDoorCards
set_option linter.unusedVariables false
set_option linter.unusedSimpArgs false
namespace Go.Proofs.YtkmclnjmabljdaaGreatDoor
open Go Go.Abs Go.RowKit Go.ChangeShapes
set_option linter.unusedVariables false
set_option maxRecDepth 100000

theorem lifted8 (os : Os) (started : os.Started) (H : Type) (enc : TypeId × Value → H) :
    ReturnsInHanded {} Tryz.checked os 8 .any (fun w args => (Rows.dyeProvesSpec.pre enc Tryz.prog Tryz.f8 [] false w args ∧ laidMetH Tryz.prog laid3 w) ∧ sizedMet enc Tryz.prog Tryz.f8 (OpenSpec.ofChange Rows.dyeProvesSpec) false w args)
      (Rows.dyeProvesSpec.post enc Tryz.prog Tryz.f8 false true false false) := by
  refine law_lifted (fn := Tryz.f8) os started enc (by kernel_rfl) Tryz.func8 rfl rfl ?_ #[.agg #[.int .i64 0, .int .i64 0, .int .i64 0, .slice none 0 0], .slice none 0 0] (by kernel_rfl) (by kernel_rfl) (by kernel_rfl) ?_
  · have : (Tryz.f8.params.toList.all fun t => Tryz.prog.readableRec t && decide (t < Tryz.prog.types.size)) = true := by kernel_rfl
    intro t ht
    have := List.all_eq_true.1 this t ht
    simpa using this
  · intro W base args ds p hval hA
    have hA' : DataW.TrodAll enc Tryz.prog W 0 (fun _ => true) true [67, 47] args.toList ds p := hA
    obtain ⟨vs, hvs⟩ : ∃ vs, args.toList = vs := ⟨_, rfl⟩
    rw [hvs] at hA'
    obtain ⟨v0, r0, d0, e0, p0, q0, rfl, rfl, rfl, h0, hA'⟩ := Go.Abs.trodAll_cons hA'
    obtain ⟨v1, r1, d1, e1, p1, q1, rfl, rfl, rfl, h1, hA'⟩ := Go.Abs.trodAll_cons hA'
    obtain ⟨rfl, rfl, rfl⟩ := Go.Abs.trodAll_nil hA'
    have hargs : args = #[v0, v1] := Array.ext' hvs
    subst hargs
    refine ⟨rfl, ?_⟩
    have g0 : Value.okWide Tryz.prog W .any base 67 v0 := hval 0 67 v0 rfl rfl
    obtain ⟨c0, rfl⟩ := agg_of_struct (fs := Tryz.prog.fieldsOf 67) (by kernel_rfl) g0
    obtain ⟨x0, y0⟩ := rd67.argS h0
    have g1 : Value.okWide Tryz.prog W .any base 47 v1 := hval 1 47 v1 rfl rfl
    obtain ⟨x1, z1, hz1, y1⟩ := rd47.arg (cells_slice (el := 3) (by kernel_rfl) g1) (fun x => ⟨_, rfl⟩) h1
    cases hz1
    exact ⟨_, repL_arr (repL_cons y0 (repL_cons y1 repL_nil)), f8 x0 x1⟩
theorem cl8a : Rows.dyeProvesRow.wf (OpenSpec.ofChange Rows.dyeProvesSpec) = true := by kernel_rfl
theorem cl8b : (Tryz.f8.params.all (Tryz.prog.readableRec ·) && namedTie Tryz.prog Rows.dyeProvesRow.named Rows.dyeProvesSpec.vars) = true := by kernel_rfl
theorem cl8c : (Rows.dyeProvesRow.inPlace == Tryz.prog.inPlace 8) = true := by kernel_rfl
theorem cl8d : (Rows.dyeProvesRow.unfollowed == Tryz.prog.unfollowed 8) = true := by kernel_rfl
theorem cl8e : (Rows.dyeProvesRow.recurses == Tryz.prog.recurses 8) = true := by kernel_rfl
theorem cl8f : (Rows.dyeProvesRow.named == Tryz.prog.varsNamed 8) = true := by kernel_rfl
theorem cl8g : ((Rows.dyeProvesRow.maps == (Tryz.f8.params.toList ++ Rows.dyeProvesSpec.plain.varTypes Tryz.prog).any (Tryz.prog.mapsRec ·)) && (Rows.dyeProvesRow.ifaces == (Tryz.f8.params.toList ++ Rows.dyeProvesSpec.plain.varTypes Tryz.prog).any (Tryz.prog.ifacesRec ·)) && (Rows.dyeProvesRow.mapsOut == Tryz.prog.mapsAmong Tryz.f8.resultTypes.toList) &&
      (Rows.dyeProvesRow.loops == (Tryz.f8.params.toList ++ Rows.dyeProvesSpec.plain.varTypes Tryz.prog).any (Tryz.prog.loopsFrom ·)) && (Rows.dyeProvesRow.wideKeys == (Tryz.f8.params.toList ++ Rows.dyeProvesSpec.plain.varTypes Tryz.prog ++ Tryz.f8.resultTypes.toList).any (Tryz.prog.wideKeysFrom ·))) = true := by kernel_rfl
theorem cl8h : (Rows.dyeProvesSpec.vars.all (Tryz.prog.varReadable ·) && Tryz.f8.resultTypes.all (fun t => Tryz.prog.readableRec t && decide (t < Tryz.prog.types.size)) && (Rows.dyeProvesRow.ifacesOut == Tryz.f8.resultTypes.toList.any (Tryz.prog.ifacesRec ·)) && (Rows.dyeProvesRow.loopsOut == Tryz.f8.resultTypes.toList.any (Tryz.prog.loopsFrom ·))) = true := by kernel_rfl
theorem cl8i : ((Rows.dyeProvesRow.veiled == (Tryz.f8.params.toList ++ Rows.dyeProvesSpec.plain.varTypes Tryz.prog ++ Tryz.f8.resultTypes.toList).any (Tryz.prog.veiledRec ·)) && Rows.dyeProvesRow.veiledFits Tryz.prog Tryz.f8.params.toList (Tryz.f8.params.toList ++ Rows.dyeProvesSpec.plain.varTypes Tryz.prog ++ Tryz.f8.resultTypes.toList)) = true := by kernel_rfl
theorem joined8 : joinedFacts Tryz.prog 8 Tryz.f8 Rows.dyeProvesSpec Rows.dyeProvesRow = true :=
  joined_abs laidOutT pf_mapsRowed pf_stopsHeard pf_mayEnter pf_lifted pf_make pf_plainKeys pf_stops pf_knobs cl8a cl8b rfl cl8c cl8d cl8e cl8f cl8g cl8h rfl rfl rfl rfl cl8i
theorem named8 : Tryz.prog.funcNamed "nacre/nacrelaw04.DyeProves" = some 8 := by kernel_rfl
theorem holds8 : Rows.DyeProvesSaid :=
  OpenClaim.holds_of_wide 8 Tryz.f8 rfl rfl rfl rfl rfl rfl rfl ⟨rfl, rfl, rfl, rfl, rfl⟩ rfl rfl rfl rfl rfl named8 Tryz.func8 joined8
    (of_decide_eq_true (by kernel_rfl)) (by unfold Func.isWrapper; first | (rw [if_pos (by decide +kernel)]; kernel_rfl) | (rw [if_neg (by decide +kernel)]; exact ⟨rfl, rfl⟩))
    (fun os started H enc _ => lifted8 os started H enc)
theorem text8 : Rows.dyeProvesRow.wfByText (OpenSpec.ofChange Rows.dyeProvesSpec) = true := by kernel_rfl
theorem goes8 : false = Rows.dyeProvesRow.goesBy Tryz.prog := by kernel_rfl
theorem card8 : Rows.DyeProvesCardSaid :=
  Claim7.holds_tied_plain_at .later [] [.data, .data, .data] true (true, "2d786f4c48be527342a5a148c4ad2cb82cdd4fa7b6be3b273fbea74be73c3c94") true
    holds8 (fun _ h => by cases h) text8 (fun _ h => by cases h) dyeProves_row_tie rfl ⟨rfl, rfl⟩ pf_main rfl
    (fun f fn hf hfn => by
      obtain rfl : f = 8 := Option.some.inj (named8.symm.trans hf) |>.symm
      obtain rfl : fn = Tryz.f8 := (Option.some.inj (Tryz.func8.symm.trans hfn)).symm
      exact ⟨pf_looks, fun j t ht => by
        have hm : t ∈ Tryz.f8.params.toList := by simpa using Array.mem_of_getElem? ht
        have hall : (Tryz.f8.params.toList.all fun u => !Tryz.prog.wantsStandIn u) = true := by kernel_rfl
        exact (show Tryz.prog.wantsStandIn t = false by simpa using List.all_eq_true.1 hall t hm)⟩)
    goes8
#print axioms card8
end Go.Proofs.YtkmclnjmabljdaaGreatDoor

