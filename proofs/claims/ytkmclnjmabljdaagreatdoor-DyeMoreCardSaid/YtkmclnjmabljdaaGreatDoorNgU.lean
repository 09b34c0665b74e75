/- DyeMore: whatever the input, the statement's function returns true, and the input reads as it did: the row, and the card that ties its listed variables to the program's text. -/
import Derived.Test.YtkmclnjmabljdaaGreatDoorNfB
import Derived.Test.YtkmclnjmabljdaaGreatDoorNfC
import Derived.Test.YtkmclnjmabljdaaGreatDoorNcH
import Derived.Test.YtkmclnjmabljdaaGreatDoorNhAB
import Derived.Test.YtkmclnjmabljdaaGreatDoorTie
import Derived.Test.YtkmclnjmabljdaaGreatDoorCards
set_option linter.unusedVariables false
set_option linter.unusedSimpArgs false
namespace Go.Proofs.YtkmclnjmabljdaaGreatDoor
open Go Go.Abs Go.RowKit Go.ChangeShapes
set_option linter.unusedVariables false
set_option maxRecDepth 100000

theorem lifted12 (os : Os) (started : os.Started) (H : Type) (enc : TypeId × Value → H) :
    ReturnsInHanded {} Tryz.checked os 12 .any (fun w args => (Rows.dyeMoreSpec.pre enc Tryz.prog Tryz.f12 [] false w args ∧ laidMetH Tryz.prog laid3 w) ∧ sizedMet enc Tryz.prog Tryz.f12 (OpenSpec.ofChange Rows.dyeMoreSpec) false w args)
      (Rows.dyeMoreSpec.post enc Tryz.prog Tryz.f12 false true false false) := by
  refine law_lifted (fn := Tryz.f12) os started enc (by kernel_rfl) Tryz.func12 rfl rfl ?_ #[.agg #[.slice none 0 0], .slice none 0 0, .slice none 0 0, .int .i64 0, .int .i64 0, .agg #[.slice none 0 0, .int .i64 0, .int .i64 0, .slice none 0 0, .int .i64 0], .slice none 0 0, .int .i64 0] (by kernel_rfl) (by kernel_rfl) (by kernel_rfl) ?_
  · have : (Tryz.f12.params.toList.all fun t => Tryz.prog.readableRec t && decide (t < Tryz.prog.types.size)) = true := by kernel_rfl
    intro t ht
    have := List.all_eq_true.1 this t ht
    simpa using this
  · intro W base args ds p hval hA
    have hA' : DataW.TrodAll enc Tryz.prog W 0 (fun _ => true) true [24, 25, 25, 3, 3, 58, 59, 3] args.toList ds p := hA
    obtain ⟨vs, hvs⟩ : ∃ vs, args.toList = vs := ⟨_, rfl⟩
    rw [hvs] at hA'
    obtain ⟨v0, r0, d0, e0, p0, q0, rfl, rfl, rfl, h0, hA'⟩ := Go.Abs.trodAll_cons hA'
    obtain ⟨v1, r1, d1, e1, p1, q1, rfl, rfl, rfl, h1, hA'⟩ := Go.Abs.trodAll_cons hA'
    obtain ⟨v2, r2, d2, e2, p2, q2, rfl, rfl, rfl, h2, hA'⟩ := Go.Abs.trodAll_cons hA'
    obtain ⟨v3, r3, d3, e3, p3, q3, rfl, rfl, rfl, h3, hA'⟩ := Go.Abs.trodAll_cons hA'
    obtain ⟨v4, r4, d4, e4, p4, q4, rfl, rfl, rfl, h4, hA'⟩ := Go.Abs.trodAll_cons hA'
    obtain ⟨v5, r5, d5, e5, p5, q5, rfl, rfl, rfl, h5, hA'⟩ := Go.Abs.trodAll_cons hA'
    obtain ⟨v6, r6, d6, e6, p6, q6, rfl, rfl, rfl, h6, hA'⟩ := Go.Abs.trodAll_cons hA'
    obtain ⟨v7, r7, d7, e7, p7, q7, rfl, rfl, rfl, h7, hA'⟩ := Go.Abs.trodAll_cons hA'
    obtain ⟨rfl, rfl, rfl⟩ := Go.Abs.trodAll_nil hA'
    have hargs : args = #[v0, v1, v2, v3, v4, v5, v6, v7] := Array.ext' hvs
    subst hargs
    refine ⟨rfl, ?_⟩
    have g0 : Value.okWide Tryz.prog W .any base 24 v0 := hval 0 24 v0 rfl rfl
    obtain ⟨c0, rfl⟩ := agg_of_struct (fs := Tryz.prog.fieldsOf 24) (by kernel_rfl) g0
    obtain ⟨x0, y0⟩ := rd24.argS h0
    have g1 : Value.okWide Tryz.prog W .any base 25 v1 := hval 1 25 v1 rfl rfl
    obtain ⟨x1, z1, hz1, y1⟩ := rd25.arg (cells_slice (el := 154) (by kernel_rfl) g1) (fun x => ⟨_, rfl⟩) h1
    cases hz1
    have g2 : Value.okWide Tryz.prog W .any base 25 v2 := hval 2 25 v2 rfl rfl
    obtain ⟨x2, z2, hz2, y2⟩ := rd25.arg (cells_slice (el := 154) (by kernel_rfl) g2) (fun x => ⟨_, rfl⟩) h2
    cases hz2
    have g3 : Value.okWide Tryz.prog W .any base 3 v3 := hval 3 3 v3 rfl rfl
    obtain ⟨x3, z3, hz3, y3⟩ := rd3.arg (cells_int (k := .i64) (by kernel_rfl) g3) (fun x => ⟨_, rfl⟩) h3
    cases hz3
    have g4 : Value.okWide Tryz.prog W .any base 3 v4 := hval 4 3 v4 rfl rfl
    obtain ⟨x4, z4, hz4, y4⟩ := rd3.arg (cells_int (k := .i64) (by kernel_rfl) g4) (fun x => ⟨_, rfl⟩) h4
    cases hz4
    have g5 : Value.okWide Tryz.prog W .any base 58 v5 := hval 5 58 v5 rfl rfl
    obtain ⟨c5, rfl⟩ := agg_of_struct (fs := Tryz.prog.fieldsOf 58) (by kernel_rfl) g5
    obtain ⟨x5, y5⟩ := rd58.argS h5
    have g6 : Value.okWide Tryz.prog W .any base 59 v6 := hval 6 59 v6 rfl rfl
    obtain ⟨x6, z6, hz6, y6⟩ := rd59.arg (cells_slice (el := 95) (by kernel_rfl) g6) (fun x => ⟨_, rfl⟩) h6
    cases hz6
    have g7 : Value.okWide Tryz.prog W .any base 3 v7 := hval 7 3 v7 rfl rfl
    obtain ⟨x7, z7, hz7, y7⟩ := rd3.arg (cells_int (k := .i64) (by kernel_rfl) g7) (fun x => ⟨_, rfl⟩) h7
    cases hz7
    exact ⟨_, repL_arr (repL_cons y0 (repL_cons y1 (repL_cons y2 (repL_cons y3 (repL_cons y4 (repL_cons y5 (repL_cons y6 (repL_cons y7 repL_nil)))))))), f12 x0 x1 x2 x3 x4 x5 x6 x7⟩
theorem cl12a : Rows.dyeMoreRow.wf (OpenSpec.ofChange Rows.dyeMoreSpec) = true := by kernel_rfl
theorem cl12b : (Tryz.f12.params.all (Tryz.prog.readableRec ·) && namedTie Tryz.prog Rows.dyeMoreRow.named Rows.dyeMoreSpec.vars) = true := by kernel_rfl
theorem cl12c : (Rows.dyeMoreRow.inPlace == Tryz.prog.inPlace 12) = true := by kernel_rfl
theorem cl12d : (Rows.dyeMoreRow.unfollowed == Tryz.prog.unfollowed 12) = true := by kernel_rfl
theorem cl12e : (Rows.dyeMoreRow.recurses == Tryz.prog.recurses 12) = true := by kernel_rfl
theorem cl12f : (Rows.dyeMoreRow.named == Tryz.prog.varsNamed 12) = true := by kernel_rfl
theorem cl12g : ((Rows.dyeMoreRow.maps == (Tryz.f12.params.toList ++ Rows.dyeMoreSpec.plain.varTypes Tryz.prog).any (Tryz.prog.mapsRec ·)) && (Rows.dyeMoreRow.ifaces == (Tryz.f12.params.toList ++ Rows.dyeMoreSpec.plain.varTypes Tryz.prog).any (Tryz.prog.ifacesRec ·)) && (Rows.dyeMoreRow.mapsOut == Tryz.prog.mapsAmong Tryz.f12.resultTypes.toList) &&
      (Rows.dyeMoreRow.loops == (Tryz.f12.params.toList ++ Rows.dyeMoreSpec.plain.varTypes Tryz.prog).any (Tryz.prog.loopsFrom ·)) && (Rows.dyeMoreRow.wideKeys == (Tryz.f12.params.toList ++ Rows.dyeMoreSpec.plain.varTypes Tryz.prog ++ Tryz.f12.resultTypes.toList).any (Tryz.prog.wideKeysFrom ·))) = true := by kernel_rfl
theorem cl12h : (Rows.dyeMoreSpec.vars.all (Tryz.prog.varReadable ·) && Tryz.f12.resultTypes.all (fun t => Tryz.prog.readableRec t && decide (t < Tryz.prog.types.size)) && (Rows.dyeMoreRow.ifacesOut == Tryz.f12.resultTypes.toList.any (Tryz.prog.ifacesRec ·)) && (Rows.dyeMoreRow.loopsOut == Tryz.f12.resultTypes.toList.any (Tryz.prog.loopsFrom ·))) = true := by kernel_rfl
theorem cl12i : ((Rows.dyeMoreRow.veiled == (Tryz.f12.params.toList ++ Rows.dyeMoreSpec.plain.varTypes Tryz.prog ++ Tryz.f12.resultTypes.toList).any (Tryz.prog.veiledRec ·)) && Rows.dyeMoreRow.veiledFits Tryz.prog Tryz.f12.params.toList (Tryz.f12.params.toList ++ Rows.dyeMoreSpec.plain.varTypes Tryz.prog ++ Tryz.f12.resultTypes.toList)) = true := by kernel_rfl
theorem joined12 : joinedFacts Tryz.prog 12 Tryz.f12 Rows.dyeMoreSpec Rows.dyeMoreRow = true :=
  joined_abs laidOutT pf_mapsRowed pf_stopsHeard pf_mayEnter pf_lifted pf_make pf_plainKeys pf_stops pf_knobs cl12a cl12b rfl cl12c cl12d cl12e cl12f cl12g cl12h rfl rfl rfl rfl cl12i
theorem named12 : Tryz.prog.funcNamed "nacre/nacrelaw04.DyeMore" = some 12 := by kernel_rfl
theorem holds12 : Rows.DyeMoreSaid :=
  OpenClaim.holds_of_wide 12 Tryz.f12 rfl rfl rfl rfl rfl rfl rfl ⟨rfl, rfl, rfl, rfl, rfl⟩ rfl rfl rfl rfl rfl named12 Tryz.func12 joined12
    (of_decide_eq_true (by kernel_rfl)) (by unfold Func.isWrapper; first | (rw [if_pos (by decide +kernel)]; kernel_rfl) | (rw [if_neg (by decide +kernel)]; exact ⟨rfl, rfl⟩))
    (fun os started H enc _ => lifted12 os started H enc)
theorem text12 : Rows.dyeMoreRow.wfByText (OpenSpec.ofChange Rows.dyeMoreSpec) = true := by kernel_rfl
theorem goes12 : false = Rows.dyeMoreRow.goesBy Tryz.prog := by kernel_rfl
theorem card12 : Rows.DyeMoreCardSaid :=
  Claim7.holds_tied_plain_at .later [] [.data, .data, .data] true (true, "2d786f4c48be527342a5a148c4ad2cb82cdd4fa7b6be3b273fbea74be73c3c94") true
    holds12 (fun _ h => by cases h) text12 (fun _ h => by cases h) dyeMore_row_tie rfl ⟨rfl, rfl⟩ pf_main rfl
    (fun f fn hf hfn => by
      obtain rfl : f = 12 := Option.some.inj (named12.symm.trans hf) |>.symm
      obtain rfl : fn = Tryz.f12 := (Option.some.inj (Tryz.func12.symm.trans hfn)).symm
      exact ⟨pf_looks, fun j t ht => by
        have hm : t ∈ Tryz.f12.params.toList := by simpa using Array.mem_of_getElem? ht
        have hall : (Tryz.f12.params.toList.all fun u => !Tryz.prog.wantsStandIn u) = true := by kernel_rfl
        exact (show Tryz.prog.wantsStandIn t = false by simpa using List.all_eq_true.1 hall t hm)⟩)
    goes12
#print axioms card12
end Go.Proofs.YtkmclnjmabljdaaGreatDoor

