/- DyeRuns: whatever the input, the statement's function returns true, and the input reads as it did: the row, and the card that ties its listed variables to the program's text. -/
import Derived.Test.YtkmclnjmabljdaaGreatDoorNfB
import Derived.Test.YtkmclnjmabljdaaGreatDoorNfC
import Derived.Test.YtkmclnjmabljdaaGreatDoorNcH
import Derived.Test.YtkmclnjmabljdaaGreatDoorNhU
import Derived.Test.YtkmclnjmabljdaaGreatDoorTie
import Derived.Test.YtkmclnjmabljdaaGreatDoorCards
set_option linter.unusedVariables false
set_option linter.unusedSimpArgs false
namespace Go.Proofs.YtkmclnjmabljdaaGreatDoor
open Go Go.Abs Go.RowKit Go.ChangeShapes
set_option linter.unusedVariables false
set_option maxRecDepth 100000

theorem lifted20 (os : Os) (started : os.Started) (H : Type) (enc : TypeId × Value → H) :
    ReturnsInHanded {} Tryz.checked os 20 .any (fun w args => (Rows.dyeRunsSpec.pre enc Tryz.prog Tryz.f20 [] false w args ∧ laidMetH Tryz.prog laid3 w) ∧ sizedMet enc Tryz.prog Tryz.f20 (OpenSpec.ofChange Rows.dyeRunsSpec) false w args)
      (Rows.dyeRunsSpec.post enc Tryz.prog Tryz.f20 false true false false) := by
  refine law_lifted (fn := Tryz.f20) os started enc (by kernel_rfl) Tryz.func20 rfl rfl ?_ #[.agg #[.slice none 0 0], .slice none 0 0, .agg #[.slice none 0 0, .slice none 0 0]] (by kernel_rfl) (by kernel_rfl) (by kernel_rfl) ?_
  · have : (Tryz.f20.params.toList.all fun t => Tryz.prog.readableRec t && decide (t < Tryz.prog.types.size)) = true := by kernel_rfl
    intro t ht
    have := List.all_eq_true.1 this t ht
    simpa using this
  · intro W base args ds p hval hA
    have hA' : DataW.TrodAll enc Tryz.prog W 0 (fun _ => true) true [24, 25, 114] args.toList ds p := hA
    obtain ⟨vs, hvs⟩ : ∃ vs, args.toList = vs := ⟨_, rfl⟩
    rw [hvs] at hA'
    obtain ⟨v0, r0, d0, e0, p0, q0, rfl, rfl, rfl, h0, hA'⟩ := Go.Abs.trodAll_cons hA'
    obtain ⟨v1, r1, d1, e1, p1, q1, rfl, rfl, rfl, h1, hA'⟩ := Go.Abs.trodAll_cons hA'
    obtain ⟨v2, r2, d2, e2, p2, q2, rfl, rfl, rfl, h2, hA'⟩ := Go.Abs.trodAll_cons hA'
    obtain ⟨rfl, rfl, rfl⟩ := Go.Abs.trodAll_nil hA'
    have hargs : args = #[v0, v1, v2] := Array.ext' hvs
    subst hargs
    refine ⟨rfl, ?_⟩
    have g0 : Value.okWide Tryz.prog W .any base 24 v0 := hval 0 24 v0 rfl rfl
    obtain ⟨c0, rfl⟩ := agg_of_struct (fs := Tryz.prog.fieldsOf 24) (by kernel_rfl) g0
    obtain ⟨x0, y0⟩ := rd24.argS h0
    have g1 : Value.okWide Tryz.prog W .any base 25 v1 := hval 1 25 v1 rfl rfl
    obtain ⟨x1, z1, hz1, y1⟩ := rd25.arg (cells_slice (el := 154) (by kernel_rfl) g1) (fun x => ⟨_, rfl⟩) h1
    cases hz1
    have g2 : Value.okWide Tryz.prog W .any base 114 v2 := hval 2 114 v2 rfl rfl
    obtain ⟨c2, rfl⟩ := agg_of_struct (fs := Tryz.prog.fieldsOf 114) (by kernel_rfl) g2
    obtain ⟨x2, y2⟩ := rd114.argS h2
    exact ⟨_, repL_arr (repL_cons y0 (repL_cons y1 (repL_cons y2 repL_nil))), f20 x0 x1 x2.1 x2.2⟩
theorem cl20a : Rows.dyeRunsRow.wf (OpenSpec.ofChange Rows.dyeRunsSpec) = true := by kernel_rfl
theorem cl20b : (Tryz.f20.params.all (Tryz.prog.readableRec ·) && namedTie Tryz.prog Rows.dyeRunsRow.named Rows.dyeRunsSpec.vars) = true := by kernel_rfl
theorem cl20c : (Rows.dyeRunsRow.inPlace == Tryz.prog.inPlace 20) = true := by kernel_rfl
theorem cl20d : (Rows.dyeRunsRow.unfollowed == Tryz.prog.unfollowed 20) = true := by kernel_rfl
theorem cl20e : (Rows.dyeRunsRow.recurses == Tryz.prog.recurses 20) = true := by kernel_rfl
theorem cl20f : (Rows.dyeRunsRow.named == Tryz.prog.varsNamed 20) = true := by kernel_rfl
theorem cl20g : ((Rows.dyeRunsRow.maps == (Tryz.f20.params.toList ++ Rows.dyeRunsSpec.plain.varTypes Tryz.prog).any (Tryz.prog.mapsRec ·)) && (Rows.dyeRunsRow.ifaces == (Tryz.f20.params.toList ++ Rows.dyeRunsSpec.plain.varTypes Tryz.prog).any (Tryz.prog.ifacesRec ·)) && (Rows.dyeRunsRow.mapsOut == Tryz.prog.mapsAmong Tryz.f20.resultTypes.toList) &&
      (Rows.dyeRunsRow.loops == (Tryz.f20.params.toList ++ Rows.dyeRunsSpec.plain.varTypes Tryz.prog).any (Tryz.prog.loopsFrom ·)) && (Rows.dyeRunsRow.wideKeys == (Tryz.f20.params.toList ++ Rows.dyeRunsSpec.plain.varTypes Tryz.prog ++ Tryz.f20.resultTypes.toList).any (Tryz.prog.wideKeysFrom ·))) = true := by kernel_rfl
theorem cl20h : (Rows.dyeRunsSpec.vars.all (Tryz.prog.varReadable ·) && Tryz.f20.resultTypes.all (fun t => Tryz.prog.readableRec t && decide (t < Tryz.prog.types.size)) && (Rows.dyeRunsRow.ifacesOut == Tryz.f20.resultTypes.toList.any (Tryz.prog.ifacesRec ·)) && (Rows.dyeRunsRow.loopsOut == Tryz.f20.resultTypes.toList.any (Tryz.prog.loopsFrom ·))) = true := by kernel_rfl
theorem cl20i : ((Rows.dyeRunsRow.veiled == (Tryz.f20.params.toList ++ Rows.dyeRunsSpec.plain.varTypes Tryz.prog ++ Tryz.f20.resultTypes.toList).any (Tryz.prog.veiledRec ·)) && Rows.dyeRunsRow.veiledFits Tryz.prog Tryz.f20.params.toList (Tryz.f20.params.toList ++ Rows.dyeRunsSpec.plain.varTypes Tryz.prog ++ Tryz.f20.resultTypes.toList)) = true := by kernel_rfl
theorem joined20 : joinedFacts Tryz.prog 20 Tryz.f20 Rows.dyeRunsSpec Rows.dyeRunsRow = true :=
  joined_abs laidOutT pf_mapsRowed pf_stopsHeard pf_mayEnter pf_lifted pf_make pf_plainKeys pf_stops pf_knobs cl20a cl20b rfl cl20c cl20d cl20e cl20f cl20g cl20h rfl rfl rfl rfl cl20i
theorem named20 : Tryz.prog.funcNamed "nacre/nacrelaw04.DyeRuns" = some 20 := by kernel_rfl
theorem holds20 : Rows.DyeRunsSaid :=
  OpenClaim.holds_of_wide 20 Tryz.f20 rfl rfl rfl rfl rfl rfl rfl ⟨rfl, rfl, rfl, rfl, rfl⟩ rfl rfl rfl rfl rfl named20 Tryz.func20 joined20
    (of_decide_eq_true (by kernel_rfl)) (by unfold Func.isWrapper; first | (rw [if_pos (by decide +kernel)]; kernel_rfl) | (rw [if_neg (by decide +kernel)]; exact ⟨rfl, rfl⟩))
    (fun os started H enc _ => lifted20 os started H enc)
theorem text20 : Rows.dyeRunsRow.wfByText (OpenSpec.ofChange Rows.dyeRunsSpec) = true := by kernel_rfl
theorem goes20 : false = Rows.dyeRunsRow.goesBy Tryz.prog := by kernel_rfl
theorem card20 : Rows.DyeRunsCardSaid :=
  Claim7.holds_tied_plain_at .later [] [.data, .data, .data] true (true, "2d786f4c48be527342a5a148c4ad2cb82cdd4fa7b6be3b273fbea74be73c3c94") true
    holds20 (fun _ h => by cases h) text20 (fun _ h => by cases h) dyeRuns_row_tie rfl ⟨rfl, rfl⟩ pf_main rfl
    (fun f fn hf hfn => by
      obtain rfl : f = 20 := Option.some.inj (named20.symm.trans hf) |>.symm
      obtain rfl : fn = Tryz.f20 := (Option.some.inj (Tryz.func20.symm.trans hfn)).symm
      exact ⟨pf_looks, fun j t ht => by
        have hm : t ∈ Tryz.f20.params.toList := by simpa using Array.mem_of_getElem? ht
        have hall : (Tryz.f20.params.toList.all fun u => !Tryz.prog.wantsStandIn u) = true := by kernel_rfl
        exact (show Tryz.prog.wantsStandIn t = false by simpa using List.all_eq_true.1 hall t hm)⟩)
    goes20
#print axioms card20
end Go.Proofs.YtkmclnjmabljdaaGreatDoor

