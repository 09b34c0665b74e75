/- DyeTurned: whatever the input, the statement's function returns true, and the input reads as it did: the row, and the card that ties its listed variables to the program's text. -/
import Derived.Test.YtkmclnjmabljdaaGreatDoorNfB
import Derived.Test.YtkmclnjmabljdaaGreatDoorNfC
import Derived.Test.YtkmclnjmabljdaaGreatDoorNcH
import Derived.Test.YtkmclnjmabljdaaGreatDoorNhA
import Derived.Test.YtkmclnjmabljdaaGreatDoorTie
import Derived.Test.YtkmclnjmabljdaaGreatDoorCards
set_option linter.unusedVariables false
set_option linter.unusedSimpArgs false
namespace Go.Proofs.YtkmclnjmabljdaaGreatDoor
open Go Go.Abs Go.RowKit Go.ChangeShapes
set_option linter.unusedVariables false
set_option maxRecDepth 100000

theorem lifted14 (os : Os) (started : os.Started) (H : Type) (enc : TypeId × Value → H) :
    ReturnsInHanded {} Tryz.checked os 14 .any (fun w args => (Rows.dyeTurnedSpec.pre enc Tryz.prog Tryz.f14 [] false w args ∧ laidMetH Tryz.prog laid3 w) ∧ sizedMet enc Tryz.prog Tryz.f14 (OpenSpec.ofChange Rows.dyeTurnedSpec) false w args)
      (Rows.dyeTurnedSpec.post enc Tryz.prog Tryz.f14 false true false false) := by
  refine law_lifted (fn := Tryz.f14) os started enc (by kernel_rfl) Tryz.func14 rfl rfl ?_ #[.agg #[.slice none 0 0], .agg #[.slice none 0 0], .slice none 0 0, .slice none 0 0, .slice none 0 0] (by kernel_rfl) (by kernel_rfl) (by kernel_rfl) ?_
  · have : (Tryz.f14.params.toList.all fun t => Tryz.prog.readableRec t && decide (t < Tryz.prog.types.size)) = true := by kernel_rfl
    intro t ht
    have := List.all_eq_true.1 this t ht
    simpa using this
  · intro W base args ds p hval hA
    have hA' : DataW.TrodAll enc Tryz.prog W 0 (fun _ => true) true [24, 49, 25, 25, 25] args.toList ds p := hA
    obtain ⟨vs, hvs⟩ : ∃ vs, args.toList = vs := ⟨_, rfl⟩
    rw [hvs] at hA'
    obtain ⟨v0, r0, d0, e0, p0, q0, rfl, rfl, rfl, h0, hA'⟩ := Go.Abs.trodAll_cons hA'
    obtain ⟨v1, r1, d1, e1, p1, q1, rfl, rfl, rfl, h1, hA'⟩ := Go.Abs.trodAll_cons hA'
    obtain ⟨v2, r2, d2, e2, p2, q2, rfl, rfl, rfl, h2, hA'⟩ := Go.Abs.trodAll_cons hA'
    obtain ⟨v3, r3, d3, e3, p3, q3, rfl, rfl, rfl, h3, hA'⟩ := Go.Abs.trodAll_cons hA'
    obtain ⟨v4, r4, d4, e4, p4, q4, rfl, rfl, rfl, h4, hA'⟩ := Go.Abs.trodAll_cons hA'
    obtain ⟨rfl, rfl, rfl⟩ := Go.Abs.trodAll_nil hA'
    have hargs : args = #[v0, v1, v2, v3, v4] := Array.ext' hvs
    subst hargs
    refine ⟨rfl, ?_⟩
    have g0 : Value.okWide Tryz.prog W .any base 24 v0 := hval 0 24 v0 rfl rfl
    obtain ⟨c0, rfl⟩ := agg_of_struct (fs := Tryz.prog.fieldsOf 24) (by kernel_rfl) g0
    obtain ⟨x0, y0⟩ := rd24.argS h0
    have g1 : Value.okWide Tryz.prog W .any base 49 v1 := hval 1 49 v1 rfl rfl
    obtain ⟨c1, rfl⟩ := agg_of_struct (fs := Tryz.prog.fieldsOf 49) (by kernel_rfl) g1
    obtain ⟨x1, y1⟩ := rd49.argS h1
    have g2 : Value.okWide Tryz.prog W .any base 25 v2 := hval 2 25 v2 rfl rfl
    obtain ⟨x2, z2, hz2, y2⟩ := rd25.arg (cells_slice (el := 154) (by kernel_rfl) g2) (fun x => ⟨_, rfl⟩) h2
    cases hz2
    have g3 : Value.okWide Tryz.prog W .any base 25 v3 := hval 3 25 v3 rfl rfl
    obtain ⟨x3, z3, hz3, y3⟩ := rd25.arg (cells_slice (el := 154) (by kernel_rfl) g3) (fun x => ⟨_, rfl⟩) h3
    cases hz3
    have g4 : Value.okWide Tryz.prog W .any base 25 v4 := hval 4 25 v4 rfl rfl
    obtain ⟨x4, z4, hz4, y4⟩ := rd25.arg (cells_slice (el := 154) (by kernel_rfl) g4) (fun x => ⟨_, rfl⟩) h4
    cases hz4
    exact ⟨_, repL_arr (repL_cons y0 (repL_cons y1 (repL_cons y2 (repL_cons y3 (repL_cons y4 repL_nil))))), f14 x0 x1 x2 x3 x4⟩
theorem cl14a : Rows.dyeTurnedRow.wf (OpenSpec.ofChange Rows.dyeTurnedSpec) = true := by kernel_rfl
theorem cl14b : (Tryz.f14.params.all (Tryz.prog.readableRec ·) && namedTie Tryz.prog Rows.dyeTurnedRow.named Rows.dyeTurnedSpec.vars) = true := by kernel_rfl
theorem cl14c : (Rows.dyeTurnedRow.inPlace == Tryz.prog.inPlace 14) = true := by kernel_rfl
theorem cl14d : (Rows.dyeTurnedRow.unfollowed == Tryz.prog.unfollowed 14) = true := by kernel_rfl
theorem cl14e : (Rows.dyeTurnedRow.recurses == Tryz.prog.recurses 14) = true := by kernel_rfl
theorem cl14f : (Rows.dyeTurnedRow.named == Tryz.prog.varsNamed 14) = true := by kernel_rfl
theorem cl14g : ((Rows.dyeTurnedRow.maps == (Tryz.f14.params.toList ++ Rows.dyeTurnedSpec.plain.varTypes Tryz.prog).any (Tryz.prog.mapsRec ·)) && (Rows.dyeTurnedRow.ifaces == (Tryz.f14.params.toList ++ Rows.dyeTurnedSpec.plain.varTypes Tryz.prog).any (Tryz.prog.ifacesRec ·)) && (Rows.dyeTurnedRow.mapsOut == Tryz.prog.mapsAmong Tryz.f14.resultTypes.toList) &&
      (Rows.dyeTurnedRow.loops == (Tryz.f14.params.toList ++ Rows.dyeTurnedSpec.plain.varTypes Tryz.prog).any (Tryz.prog.loopsFrom ·)) && (Rows.dyeTurnedRow.wideKeys == (Tryz.f14.params.toList ++ Rows.dyeTurnedSpec.plain.varTypes Tryz.prog ++ Tryz.f14.resultTypes.toList).any (Tryz.prog.wideKeysFrom ·))) = true := by kernel_rfl
theorem cl14h : (Rows.dyeTurnedSpec.vars.all (Tryz.prog.varReadable ·) && Tryz.f14.resultTypes.all (fun t => Tryz.prog.readableRec t && decide (t < Tryz.prog.types.size)) && (Rows.dyeTurnedRow.ifacesOut == Tryz.f14.resultTypes.toList.any (Tryz.prog.ifacesRec ·)) && (Rows.dyeTurnedRow.loopsOut == Tryz.f14.resultTypes.toList.any (Tryz.prog.loopsFrom ·))) = true := by kernel_rfl
theorem cl14i : ((Rows.dyeTurnedRow.veiled == (Tryz.f14.params.toList ++ Rows.dyeTurnedSpec.plain.varTypes Tryz.prog ++ Tryz.f14.resultTypes.toList).any (Tryz.prog.veiledRec ·)) && Rows.dyeTurnedRow.veiledFits Tryz.prog Tryz.f14.params.toList (Tryz.f14.params.toList ++ Rows.dyeTurnedSpec.plain.varTypes Tryz.prog ++ Tryz.f14.resultTypes.toList)) = true := by kernel_rfl
theorem joined14 : joinedFacts Tryz.prog 14 Tryz.f14 Rows.dyeTurnedSpec Rows.dyeTurnedRow = true :=
  joined_abs laidOutT pf_mapsRowed pf_stopsHeard pf_mayEnter pf_lifted pf_make pf_plainKeys pf_stops pf_knobs cl14a cl14b rfl cl14c cl14d cl14e cl14f cl14g cl14h rfl rfl rfl rfl cl14i
theorem named14 : Tryz.prog.funcNamed "nacre/nacrelaw04.DyeTurned" = some 14 := by kernel_rfl
theorem holds14 : Rows.DyeTurnedSaid :=
  OpenClaim.holds_of_wide 14 Tryz.f14 rfl rfl rfl rfl rfl rfl rfl ⟨rfl, rfl, rfl, rfl, rfl⟩ rfl rfl rfl rfl rfl named14 Tryz.func14 joined14
    (of_decide_eq_true (by kernel_rfl)) (by unfold Func.isWrapper; first | (rw [if_pos (by decide +kernel)]; kernel_rfl) | (rw [if_neg (by decide +kernel)]; exact ⟨rfl, rfl⟩))
    (fun os started H enc _ => lifted14 os started H enc)
theorem text14 : Rows.dyeTurnedRow.wfByText (OpenSpec.ofChange Rows.dyeTurnedSpec) = true := by kernel_rfl
theorem goes14 : false = Rows.dyeTurnedRow.goesBy Tryz.prog := by kernel_rfl
theorem card14 : Rows.DyeTurnedCardSaid :=
  Claim7.holds_tied_plain_at .later [] [.data, .data, .data] true (true, "2d786f4c48be527342a5a148c4ad2cb82cdd4fa7b6be3b273fbea74be73c3c94") true
    holds14 (fun _ h => by cases h) text14 (fun _ h => by cases h) dyeTurned_row_tie rfl ⟨rfl, rfl⟩ pf_main rfl
    (fun f fn hf hfn => by
      obtain rfl : f = 14 := Option.some.inj (named14.symm.trans hf) |>.symm
      obtain rfl : fn = Tryz.f14 := (Option.some.inj (Tryz.func14.symm.trans hfn)).symm
      exact ⟨pf_looks, fun j t ht => by
        have hm : t ∈ Tryz.f14.params.toList := by simpa using Array.mem_of_getElem? ht
        have hall : (Tryz.f14.params.toList.all fun u => !Tryz.prog.wantsStandIn u) = true := by kernel_rfl
        exact (show Tryz.prog.wantsStandIn t = false by simpa using List.all_eq_true.1 hall t hm)⟩)
    goes14
#print axioms card14
end Go.Proofs.YtkmclnjmabljdaaGreatDoor

