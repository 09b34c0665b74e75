/- DyeEnds: whatever the input, the statement's function returns true, and the input reads as it did: the row, and the card that ties its listed variables to the program's text. -/
import Derived.Test.YtkmclnjmabljdaaGreatDoorNfB
import Derived.Test.YtkmclnjmabljdaaGreatDoorNfC
import Derived.Test.YtkmclnjmabljdaaGreatDoorNcH
import Derived.Test.YtkmclnjmabljdaaGreatDoorNhX
import Derived.Test.YtkmclnjmabljdaaGreatDoorTie
import Derived.Test.YtkmclnjmabljdaaGreatDoorCards
set_option linter.unusedVariables false
set_option linter.unusedSimpArgs false
namespace Go.Proofs.YtkmclnjmabljdaaGreatDoor
open Go Go.Abs Go.RowKit Go.ChangeShapes
set_option linter.unusedVariables false
set_option maxRecDepth 100000

theorem lifted18 (os : Os) (started : os.Started) (H : Type) (enc : TypeId × Value → H) :
    ReturnsInHanded {} Tryz.checked os 18 .any (fun w args => (Rows.dyeEndsSpec.pre enc Tryz.prog Tryz.f18 [] false w args ∧ laidMetH Tryz.prog laid3 w) ∧ sizedMet enc Tryz.prog Tryz.f18 (OpenSpec.ofChange Rows.dyeEndsSpec) false w args)
      (Rows.dyeEndsSpec.post enc Tryz.prog Tryz.f18 false true false false) := by
  refine law_lifted (fn := Tryz.f18) os started enc (by kernel_rfl) Tryz.func18 rfl rfl ?_ #[.agg #[.slice none 0 0], .slice none 0 0] (by kernel_rfl) (by kernel_rfl) (by kernel_rfl) ?_
  · have : (Tryz.f18.params.toList.all fun t => Tryz.prog.readableRec t && decide (t < Tryz.prog.types.size)) = true := by kernel_rfl
    intro t ht
    have := List.all_eq_true.1 this t ht
    simpa using this
  · intro W base args ds p hval hA
    have hA' : DataW.TrodAll enc Tryz.prog W 0 (fun _ => true) true [24, 25] args.toList ds p := hA
    obtain ⟨vs, hvs⟩ : ∃ vs, args.toList = vs := ⟨_, rfl⟩
    rw [hvs] at hA'
    obtain ⟨v0, r0, d0, e0, p0, q0, rfl, rfl, rfl, h0, hA'⟩ := Go.Abs.trodAll_cons hA'
    obtain ⟨v1, r1, d1, e1, p1, q1, rfl, rfl, rfl, h1, hA'⟩ := Go.Abs.trodAll_cons hA'
    obtain ⟨rfl, rfl, rfl⟩ := Go.Abs.trodAll_nil hA'
    have hargs : args = #[v0, v1] := Array.ext' hvs
    subst hargs
    refine ⟨rfl, ?_⟩
    have g0 : Value.okWide Tryz.prog W .any base 24 v0 := hval 0 24 v0 rfl rfl
    obtain ⟨c0, rfl⟩ := agg_of_struct (fs := Tryz.prog.fieldsOf 24) (by kernel_rfl) g0
    obtain ⟨x0, y0⟩ := rd24.argS h0
    have g1 : Value.okWide Tryz.prog W .any base 25 v1 := hval 1 25 v1 rfl rfl
    obtain ⟨x1, z1, hz1, y1⟩ := rd25.arg (cells_slice (el := 154) (by kernel_rfl) g1) (fun x => ⟨_, rfl⟩) h1
    cases hz1
    exact ⟨_, repL_arr (repL_cons y0 (repL_cons y1 repL_nil)), f18 x0 x1⟩
theorem cl18a : Rows.dyeEndsRow.wf (OpenSpec.ofChange Rows.dyeEndsSpec) = true := by kernel_rfl
theorem cl18b : (Tryz.f18.params.all (Tryz.prog.readableRec ·) && namedTie Tryz.prog Rows.dyeEndsRow.named Rows.dyeEndsSpec.vars) = true := by kernel_rfl
theorem cl18c : (Rows.dyeEndsRow.inPlace == Tryz.prog.inPlace 18) = true := by kernel_rfl
theorem cl18d : (Rows.dyeEndsRow.unfollowed == Tryz.prog.unfollowed 18) = true := by kernel_rfl
theorem cl18e : (Rows.dyeEndsRow.recurses == Tryz.prog.recurses 18) = true := by kernel_rfl
theorem cl18f : (Rows.dyeEndsRow.named == Tryz.prog.varsNamed 18) = true := by kernel_rfl
theorem cl18g : ((Rows.dyeEndsRow.maps == (Tryz.f18.params.toList ++ Rows.dyeEndsSpec.plain.varTypes Tryz.prog).any (Tryz.prog.mapsRec ·)) && (Rows.dyeEndsRow.ifaces == (Tryz.f18.params.toList ++ Rows.dyeEndsSpec.plain.varTypes Tryz.prog).any (Tryz.prog.ifacesRec ·)) && (Rows.dyeEndsRow.mapsOut == Tryz.prog.mapsAmong Tryz.f18.resultTypes.toList) &&
      (Rows.dyeEndsRow.loops == (Tryz.f18.params.toList ++ Rows.dyeEndsSpec.plain.varTypes Tryz.prog).any (Tryz.prog.loopsFrom ·)) && (Rows.dyeEndsRow.wideKeys == (Tryz.f18.params.toList ++ Rows.dyeEndsSpec.plain.varTypes Tryz.prog ++ Tryz.f18.resultTypes.toList).any (Tryz.prog.wideKeysFrom ·))) = true := by kernel_rfl
theorem cl18h : (Rows.dyeEndsSpec.vars.all (Tryz.prog.varReadable ·) && Tryz.f18.resultTypes.all (fun t => Tryz.prog.readableRec t && decide (t < Tryz.prog.types.size)) && (Rows.dyeEndsRow.ifacesOut == Tryz.f18.resultTypes.toList.any (Tryz.prog.ifacesRec ·)) && (Rows.dyeEndsRow.loopsOut == Tryz.f18.resultTypes.toList.any (Tryz.prog.loopsFrom ·))) = true := by kernel_rfl
theorem cl18i : ((Rows.dyeEndsRow.veiled == (Tryz.f18.params.toList ++ Rows.dyeEndsSpec.plain.varTypes Tryz.prog ++ Tryz.f18.resultTypes.toList).any (Tryz.prog.veiledRec ·)) && Rows.dyeEndsRow.veiledFits Tryz.prog Tryz.f18.params.toList (Tryz.f18.params.toList ++ Rows.dyeEndsSpec.plain.varTypes Tryz.prog ++ Tryz.f18.resultTypes.toList)) = true := by kernel_rfl
theorem joined18 : joinedFacts Tryz.prog 18 Tryz.f18 Rows.dyeEndsSpec Rows.dyeEndsRow = true :=
  joined_abs laidOutT pf_mapsRowed pf_stopsHeard pf_mayEnter pf_lifted pf_make pf_plainKeys pf_stops pf_knobs cl18a cl18b rfl cl18c cl18d cl18e cl18f cl18g cl18h rfl rfl rfl rfl cl18i
theorem named18 : Tryz.prog.funcNamed "nacre/nacrelaw04.DyeEnds" = some 18 := by kernel_rfl
theorem holds18 : Rows.DyeEndsSaid :=
  OpenClaim.holds_of_wide 18 Tryz.f18 rfl rfl rfl rfl rfl rfl rfl ⟨rfl, rfl, rfl, rfl, rfl⟩ rfl rfl rfl rfl rfl named18 Tryz.func18 joined18
    (of_decide_eq_true (by kernel_rfl)) (by unfold Func.isWrapper; first | (rw [if_pos (by decide +kernel)]; kernel_rfl) | (rw [if_neg (by decide +kernel)]; exact ⟨rfl, rfl⟩))
    (fun os started H enc _ => lifted18 os started H enc)
theorem text18 : Rows.dyeEndsRow.wfByText (OpenSpec.ofChange Rows.dyeEndsSpec) = true := by kernel_rfl
theorem goes18 : false = Rows.dyeEndsRow.goesBy Tryz.prog := by kernel_rfl
theorem card18 : Rows.DyeEndsCardSaid :=
  Claim7.holds_tied_plain_at .later [] [.data, .data, .data] true (true, "2d786f4c48be527342a5a148c4ad2cb82cdd4fa7b6be3b273fbea74be73c3c94") true
    holds18 (fun _ h => by cases h) text18 (fun _ h => by cases h) dyeEnds_row_tie rfl ⟨rfl, rfl⟩ pf_main rfl
    (fun f fn hf hfn => by
      obtain rfl : f = 18 := Option.some.inj (named18.symm.trans hf) |>.symm
      obtain rfl : fn = Tryz.f18 := (Option.some.inj (Tryz.func18.symm.trans hfn)).symm
      exact ⟨pf_looks, fun j t ht => by
        have hm : t ∈ Tryz.f18.params.toList := by simpa using Array.mem_of_getElem? ht
        have hall : (Tryz.f18.params.toList.all fun u => !Tryz.prog.wantsStandIn u) = true := by kernel_rfl
        exact (show Tryz.prog.wantsStandIn t = false by simpa using List.all_eq_true.1 hall t hm)⟩)
    goes18
#print axioms card18
end Go.Proofs.YtkmclnjmabljdaaGreatDoor

