/- DyeTogethers: whatever the input, the statement's function returns true, and the input reads as it did: the row, and the card that ties its listed variables to the program's text. -/
import Derived.Test.YtkmclnjmabljdaaGreatDoorNfB
import Derived.Test.YtkmclnjmabljdaaGreatDoorNfC
import Derived.Test.YtkmclnjmabljdaaGreatDoorNcH
import Derived.Test.YtkmclnjmabljdaaGreatDoorNhR
import Derived.Test.YtkmclnjmabljdaaGreatDoorTie
import Derived.Test.YtkmclnjmabljdaaGreatDoorCards
set_option linter.unusedVariables false
set_option linter.unusedSimpArgs false
namespace Go.Proofs.YtkmclnjmabljdaaGreatDoor
open Go Go.Abs Go.RowKit Go.ChangeShapes
set_option linter.unusedVariables false
set_option maxRecDepth 100000

theorem lifted11 (os : Os) (started : os.Started) (H : Type) (enc : TypeId × Value → H) :
    ReturnsInHanded {} Tryz.checked os 11 .any (fun w args => (Rows.dyeTogethersSpec.pre enc Tryz.prog Tryz.f11 [] false w args ∧ laidMetH Tryz.prog laid3 w) ∧ sizedMet enc Tryz.prog Tryz.f11 (OpenSpec.ofChange Rows.dyeTogethersSpec) false w args)
      (Rows.dyeTogethersSpec.post enc Tryz.prog Tryz.f11 false true false false) := by
  refine law_lifted (fn := Tryz.f11) os started enc (by kernel_rfl) Tryz.func11 rfl rfl ?_ #[.agg #[.int .i64 0, .int .i64 0, .int .i64 0, .slice none 0 0], .int .i64 0, .int .i64 0] (by kernel_rfl) (by kernel_rfl) (by kernel_rfl) ?_
  · have : (Tryz.f11.params.toList.all fun t => Tryz.prog.readableRec t && decide (t < Tryz.prog.types.size)) = true := by kernel_rfl
    intro t ht
    have := List.all_eq_true.1 this t ht
    simpa using this
  · intro W base args ds p hval hA
    have hA' : DataW.TrodAll enc Tryz.prog W 0 (fun _ => true) true [67, 3, 3] args.toList ds p := hA
    obtain ⟨vs, hvs⟩ : ∃ vs, args.toList = vs := ⟨_, rfl⟩
    rw [hvs] at hA'
    obtain ⟨v0, r0, d0, e0, p0, q0, rfl, rfl, rfl, h0, hA'⟩ := Go.Abs.trodAll_cons hA'
    obtain ⟨v1, r1, d1, e1, p1, q1, rfl, rfl, rfl, h1, hA'⟩ := Go.Abs.trodAll_cons hA'
    obtain ⟨v2, r2, d2, e2, p2, q2, rfl, rfl, rfl, h2, hA'⟩ := Go.Abs.trodAll_cons hA'
    obtain ⟨rfl, rfl, rfl⟩ := Go.Abs.trodAll_nil hA'
    have hargs : args = #[v0, v1, v2] := Array.ext' hvs
    subst hargs
    refine ⟨rfl, ?_⟩
    have g0 : Value.okWide Tryz.prog W .any base 67 v0 := hval 0 67 v0 rfl rfl
    obtain ⟨c0, rfl⟩ := agg_of_struct (fs := Tryz.prog.fieldsOf 67) (by kernel_rfl) g0
    obtain ⟨x0, y0⟩ := rd67.argS h0
    have g1 : Value.okWide Tryz.prog W .any base 3 v1 := hval 1 3 v1 rfl rfl
    obtain ⟨x1, z1, hz1, y1⟩ := rd3.arg (cells_int (k := .i64) (by kernel_rfl) g1) (fun x => ⟨_, rfl⟩) h1
    cases hz1
    have g2 : Value.okWide Tryz.prog W .any base 3 v2 := hval 2 3 v2 rfl rfl
    obtain ⟨x2, z2, hz2, y2⟩ := rd3.arg (cells_int (k := .i64) (by kernel_rfl) g2) (fun x => ⟨_, rfl⟩) h2
    cases hz2
    exact ⟨_, repL_arr (repL_cons y0 (repL_cons y1 (repL_cons y2 repL_nil))), f11 x0 x1 x2⟩
theorem cl11a : Rows.dyeTogethersRow.wf (OpenSpec.ofChange Rows.dyeTogethersSpec) = true := by kernel_rfl
theorem cl11b : (Tryz.f11.params.all (Tryz.prog.readableRec ·) && namedTie Tryz.prog Rows.dyeTogethersRow.named Rows.dyeTogethersSpec.vars) = true := by kernel_rfl
theorem cl11c : (Rows.dyeTogethersRow.inPlace == Tryz.prog.inPlace 11) = true := by kernel_rfl
theorem cl11d : (Rows.dyeTogethersRow.unfollowed == Tryz.prog.unfollowed 11) = true := by kernel_rfl
theorem cl11e : (Rows.dyeTogethersRow.recurses == Tryz.prog.recurses 11) = true := by kernel_rfl
theorem cl11f : (Rows.dyeTogethersRow.named == Tryz.prog.varsNamed 11) = true := by kernel_rfl
theorem cl11g : ((Rows.dyeTogethersRow.maps == (Tryz.f11.params.toList ++ Rows.dyeTogethersSpec.plain.varTypes Tryz.prog).any (Tryz.prog.mapsRec ·)) && (Rows.dyeTogethersRow.ifaces == (Tryz.f11.params.toList ++ Rows.dyeTogethersSpec.plain.varTypes Tryz.prog).any (Tryz.prog.ifacesRec ·)) && (Rows.dyeTogethersRow.mapsOut == Tryz.prog.mapsAmong Tryz.f11.resultTypes.toList) &&
      (Rows.dyeTogethersRow.loops == (Tryz.f11.params.toList ++ Rows.dyeTogethersSpec.plain.varTypes Tryz.prog).any (Tryz.prog.loopsFrom ·)) && (Rows.dyeTogethersRow.wideKeys == (Tryz.f11.params.toList ++ Rows.dyeTogethersSpec.plain.varTypes Tryz.prog ++ Tryz.f11.resultTypes.toList).any (Tryz.prog.wideKeysFrom ·))) = true := by kernel_rfl
theorem cl11h : (Rows.dyeTogethersSpec.vars.all (Tryz.prog.varReadable ·) && Tryz.f11.resultTypes.all (fun t => Tryz.prog.readableRec t && decide (t < Tryz.prog.types.size)) && (Rows.dyeTogethersRow.ifacesOut == Tryz.f11.resultTypes.toList.any (Tryz.prog.ifacesRec ·)) && (Rows.dyeTogethersRow.loopsOut == Tryz.f11.resultTypes.toList.any (Tryz.prog.loopsFrom ·))) = true := by kernel_rfl
theorem cl11i : ((Rows.dyeTogethersRow.veiled == (Tryz.f11.params.toList ++ Rows.dyeTogethersSpec.plain.varTypes Tryz.prog ++ Tryz.f11.resultTypes.toList).any (Tryz.prog.veiledRec ·)) && Rows.dyeTogethersRow.veiledFits Tryz.prog Tryz.f11.params.toList (Tryz.f11.params.toList ++ Rows.dyeTogethersSpec.plain.varTypes Tryz.prog ++ Tryz.f11.resultTypes.toList)) = true := by kernel_rfl
theorem joined11 : joinedFacts Tryz.prog 11 Tryz.f11 Rows.dyeTogethersSpec Rows.dyeTogethersRow = true :=
  joined_abs laidOutT pf_mapsRowed pf_stopsHeard pf_mayEnter pf_lifted pf_make pf_plainKeys pf_stops pf_knobs cl11a cl11b rfl cl11c cl11d cl11e cl11f cl11g cl11h rfl rfl rfl rfl cl11i
theorem named11 : Tryz.prog.funcNamed "nacre/nacrelaw04.DyeTogethers" = some 11 := by kernel_rfl
theorem holds11 : Rows.DyeTogethersSaid :=
  OpenClaim.holds_of_wide 11 Tryz.f11 rfl rfl rfl rfl rfl rfl rfl ⟨rfl, rfl, rfl, rfl, rfl⟩ rfl rfl rfl rfl rfl named11 Tryz.func11 joined11
    (of_decide_eq_true (by kernel_rfl)) (by unfold Func.isWrapper; first | (rw [if_pos (by decide +kernel)]; kernel_rfl) | (rw [if_neg (by decide +kernel)]; exact ⟨rfl, rfl⟩))
    (fun os started H enc _ => lifted11 os started H enc)
theorem text11 : Rows.dyeTogethersRow.wfByText (OpenSpec.ofChange Rows.dyeTogethersSpec) = true := by kernel_rfl
theorem goes11 : false = Rows.dyeTogethersRow.goesBy Tryz.prog := by kernel_rfl
theorem card11 : Rows.DyeTogethersCardSaid :=
  Claim7.holds_tied_plain_at .later [] [.data, .data, .data] true (true, "2d786f4c48be527342a5a148c4ad2cb82cdd4fa7b6be3b273fbea74be73c3c94") true
    holds11 (fun _ h => by cases h) text11 (fun _ h => by cases h) dyeTogethers_row_tie rfl ⟨rfl, rfl⟩ pf_main rfl
    (fun f fn hf hfn => by
      obtain rfl : f = 11 := Option.some.inj (named11.symm.trans hf) |>.symm
      obtain rfl : fn = Tryz.f11 := (Option.some.inj (Tryz.func11.symm.trans hfn)).symm
      exact ⟨pf_looks, fun j t ht => by
        have hm : t ∈ Tryz.f11.params.toList := by simpa using Array.mem_of_getElem? ht
        have hall : (Tryz.f11.params.toList.all fun u => !Tryz.prog.wantsStandIn u) = true := by kernel_rfl
        exact (show Tryz.prog.wantsStandIn t = false by simpa using List.all_eq_true.1 hall t hm)⟩)
    goes11
#print axioms card11
end Go.Proofs.YtkmclnjmabljdaaGreatDoor

