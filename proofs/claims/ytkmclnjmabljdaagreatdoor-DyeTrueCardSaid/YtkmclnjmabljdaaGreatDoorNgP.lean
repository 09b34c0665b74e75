/- DyeTrue: whatever the input, the statement's function returns true, and the input reads as it did: the row, and the card that ties its listed variables to the program's text. -/
import Derived.Test.YtkmclnjmabljdaaGreatDoorNfB
import Derived.Test.YtkmclnjmabljdaaGreatDoorNfC
import Derived.Test.YtkmclnjmabljdaaGreatDoorNcH
import Derived.Test.YtkmclnjmabljdaaGreatDoorNhU
import Derived.Test.YtkmclnjmabljdaaGreatDoorTie
import Derived.Test.YtkmclnjmabljdaaGreatDoorCards
set_option linter.unusedVariables false
set_option linter.unusedSimpArgs false
namespace Go.Proofs.YtkmclnjmabljdaaGreatDoor
open Go Go.Abs Go.RowKit Go.ChangeShapes
set_option linter.unusedVariables false
set_option maxRecDepth 100000

theorem lifted21 (os : Os) (started : os.Started) (H : Type) (enc : TypeId × Value → H) :
    ReturnsInHanded {} Tryz.checked os 21 .any (fun w args => (Rows.dyeTrueSpec.pre enc Tryz.prog Tryz.f21 [] false w args ∧ laidMetH Tryz.prog laid3 w) ∧ sizedMet enc Tryz.prog Tryz.f21 (OpenSpec.ofChange Rows.dyeTrueSpec) false w args)
      (Rows.dyeTrueSpec.post enc Tryz.prog Tryz.f21 false true false false) := by
  refine law_lifted (fn := Tryz.f21) os started enc (by kernel_rfl) Tryz.func21 rfl rfl ?_ #[.agg #[.slice none 0 0], .slice none 0 0, .agg #[.slice none 0 0, .slice none 0 0], .agg #[.slice none 0 0]] (by kernel_rfl) (by kernel_rfl) (by kernel_rfl) ?_
  · have : (Tryz.f21.params.toList.all fun t => Tryz.prog.readableRec t && decide (t < Tryz.prog.types.size)) = true := by kernel_rfl
    intro t ht
    have := List.all_eq_true.1 this t ht
    simpa using this
  · intro W base args ds p hval hA
    have hA' : DataW.TrodAll enc Tryz.prog W 0 (fun _ => true) true [24, 25, 114, 49] args.toList ds p := hA
    obtain ⟨vs, hvs⟩ : ∃ vs, args.toList = vs := ⟨_, rfl⟩
    rw [hvs] at hA'
    obtain ⟨v0, r0, d0, e0, p0, q0, rfl, rfl, rfl, h0, hA'⟩ := Go.Abs.trodAll_cons hA'
    obtain ⟨v1, r1, d1, e1, p1, q1, rfl, rfl, rfl, h1, hA'⟩ := Go.Abs.trodAll_cons hA'
    obtain ⟨v2, r2, d2, e2, p2, q2, rfl, rfl, rfl, h2, hA'⟩ := Go.Abs.trodAll_cons hA'
    obtain ⟨v3, r3, d3, e3, p3, q3, rfl, rfl, rfl, h3, hA'⟩ := Go.Abs.trodAll_cons hA'
    obtain ⟨rfl, rfl, rfl⟩ := Go.Abs.trodAll_nil hA'
    have hargs : args = #[v0, v1, v2, v3] := Array.ext' hvs
    subst hargs
    refine ⟨rfl, ?_⟩
    have g0 : Value.okWide Tryz.prog W .any base 24 v0 := hval 0 24 v0 rfl rfl
    obtain ⟨c0, rfl⟩ := agg_of_struct (fs := Tryz.prog.fieldsOf 24) (by kernel_rfl) g0
    obtain ⟨x0, y0⟩ := rd24.argS h0
    have g1 : Value.okWide Tryz.prog W .any base 25 v1 := hval 1 25 v1 rfl rfl
    obtain ⟨x1, z1, hz1, y1⟩ := rd25.arg (cells_slice (el := 154) (by kernel_rfl) g1) (fun x => ⟨_, rfl⟩) h1
    cases hz1
    have g2 : Value.okWide Tryz.prog W .any base 114 v2 := hval 2 114 v2 rfl rfl
    obtain ⟨c2, rfl⟩ := agg_of_struct (fs := Tryz.prog.fieldsOf 114) (by kernel_rfl) g2
    obtain ⟨x2, y2⟩ := rd114.argS h2
    have g3 : Value.okWide Tryz.prog W .any base 49 v3 := hval 3 49 v3 rfl rfl
    obtain ⟨c3, rfl⟩ := agg_of_struct (fs := Tryz.prog.fieldsOf 49) (by kernel_rfl) g3
    obtain ⟨x3, y3⟩ := rd49.argS h3
    exact ⟨_, repL_arr (repL_cons y0 (repL_cons y1 (repL_cons y2 (repL_cons y3 repL_nil)))), f21 x0 x1 x2.1 x2.2 x3⟩
theorem cl21a : Rows.dyeTrueRow.wf (OpenSpec.ofChange Rows.dyeTrueSpec) = true := by kernel_rfl
theorem cl21b : (Tryz.f21.params.all (Tryz.prog.readableRec ·) && namedTie Tryz.prog Rows.dyeTrueRow.named Rows.dyeTrueSpec.vars) = true := by kernel_rfl
theorem cl21c : (Rows.dyeTrueRow.inPlace == Tryz.prog.inPlace 21) = true := by kernel_rfl
theorem cl21d : (Rows.dyeTrueRow.unfollowed == Tryz.prog.unfollowed 21) = true := by kernel_rfl
theorem cl21e : (Rows.dyeTrueRow.recurses == Tryz.prog.recurses 21) = true := by kernel_rfl
theorem cl21f : (Rows.dyeTrueRow.named == Tryz.prog.varsNamed 21) = true := by kernel_rfl
theorem cl21g : ((Rows.dyeTrueRow.maps == (Tryz.f21.params.toList ++ Rows.dyeTrueSpec.plain.varTypes Tryz.prog).any (Tryz.prog.mapsRec ·)) && (Rows.dyeTrueRow.ifaces == (Tryz.f21.params.toList ++ Rows.dyeTrueSpec.plain.varTypes Tryz.prog).any (Tryz.prog.ifacesRec ·)) && (Rows.dyeTrueRow.mapsOut == Tryz.prog.mapsAmong Tryz.f21.resultTypes.toList) &&
      (Rows.dyeTrueRow.loops == (Tryz.f21.params.toList ++ Rows.dyeTrueSpec.plain.varTypes Tryz.prog).any (Tryz.prog.loopsFrom ·)) && (Rows.dyeTrueRow.wideKeys == (Tryz.f21.params.toList ++ Rows.dyeTrueSpec.plain.varTypes Tryz.prog ++ Tryz.f21.resultTypes.toList).any (Tryz.prog.wideKeysFrom ·))) = true := by kernel_rfl
theorem cl21h : (Rows.dyeTrueSpec.vars.all (Tryz.prog.varReadable ·) && Tryz.f21.resultTypes.all (fun t => Tryz.prog.readableRec t && decide (t < Tryz.prog.types.size)) && (Rows.dyeTrueRow.ifacesOut == Tryz.f21.resultTypes.toList.any (Tryz.prog.ifacesRec ·)) && (Rows.dyeTrueRow.loopsOut == Tryz.f21.resultTypes.toList.any (Tryz.prog.loopsFrom ·))) = true := by kernel_rfl
theorem cl21i : ((Rows.dyeTrueRow.veiled == (Tryz.f21.params.toList ++ Rows.dyeTrueSpec.plain.varTypes Tryz.prog ++ Tryz.f21.resultTypes.toList).any (Tryz.prog.veiledRec ·)) && Rows.dyeTrueRow.veiledFits Tryz.prog Tryz.f21.params.toList (Tryz.f21.params.toList ++ Rows.dyeTrueSpec.plain.varTypes Tryz.prog ++ Tryz.f21.resultTypes.toList)) = true := by kernel_rfl
theorem joined21 : joinedFacts Tryz.prog 21 Tryz.f21 Rows.dyeTrueSpec Rows.dyeTrueRow = true :=
  joined_abs laidOutT pf_mapsRowed pf_stopsHeard pf_mayEnter pf_lifted pf_make pf_plainKeys pf_stops pf_knobs cl21a cl21b rfl cl21c cl21d cl21e cl21f cl21g cl21h rfl rfl rfl rfl cl21i
theorem named21 : Tryz.prog.funcNamed "nacre/nacrelaw04.DyeTrue" = some 21 := by kernel_rfl
theorem holds21 : Rows.DyeTrueSaid :=
  OpenClaim.holds_of_wide 21 Tryz.f21 rfl rfl rfl rfl rfl rfl rfl ⟨rfl, rfl, rfl, rfl, rfl⟩ rfl rfl rfl rfl rfl named21 Tryz.func21 joined21
    (of_decide_eq_true (by kernel_rfl)) (by unfold Func.isWrapper; first | (rw [if_pos (by decide +kernel)]; kernel_rfl) | (rw [if_neg (by decide +kernel)]; exact ⟨rfl, rfl⟩))
    (fun os started H enc _ => lifted21 os started H enc)
theorem text21 : Rows.dyeTrueRow.wfByText (OpenSpec.ofChange Rows.dyeTrueSpec) = true := by kernel_rfl
theorem goes21 : false = Rows.dyeTrueRow.goesBy Tryz.prog := by kernel_rfl
theorem card21 : Rows.DyeTrueCardSaid :=
  Claim7.holds_tied_plain_at .later [] [.data, .data, .data] true (true, "2d786f4c48be527342a5a148c4ad2cb82cdd4fa7b6be3b273fbea74be73c3c94") true
    holds21 (fun _ h => by cases h) text21 (fun _ h => by cases h) dyeTrue_row_tie rfl ⟨rfl, rfl⟩ pf_main rfl
    (fun f fn hf hfn => by
      obtain rfl : f = 21 := Option.some.inj (named21.symm.trans hf) |>.symm
      obtain rfl : fn = Tryz.f21 := (Option.some.inj (Tryz.func21.symm.trans hfn)).symm
      exact ⟨pf_looks, fun j t ht => by
        have hm : t ∈ Tryz.f21.params.toList := by simpa using Array.mem_of_getElem? ht
        have hall : (Tryz.f21.params.toList.all fun u => !Tryz.prog.wantsStandIn u) = true := by kernel_rfl
        exact (show Tryz.prog.wantsStandIn t = false by simpa using List.all_eq_true.1 hall t hm)⟩)
    goes21
#print axioms card21
end Go.Proofs.YtkmclnjmabljdaaGreatDoor

