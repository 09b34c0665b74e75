/- DyeMatched: whatever the input, the statement's function returns true, and the input reads as it did: the row, and the card that ties its listed variables to the program's text. -/
import Derived.Test.YtkmclnjmabljdaaGreatDoorNfB
import Derived.Test.YtkmclnjmabljdaaGreatDoorNfC
import Derived.Test.YtkmclnjmabljdaaGreatDoorNcH
import Derived.Test.YtkmclnjmabljdaaGreatDoorNhAA
import Derived.Test.YtkmclnjmabljdaaGreatDoorTie
import Derived.Test.YtkmclnjmabljdaaGreatDoorCards
set_option linter.unusedVariables false
set_option linter.unusedSimpArgs false
namespace Go.Proofs.YtkmclnjmabljdaaGreatDoor
open Go Go.Abs Go.RowKit Go.ChangeShapes
set_option linter.unusedVariables false
set_option maxRecDepth 100000

theorem lifted23 (os : Os) (started : os.Started) (H : Type) (enc : TypeId × Value → H) :
    ReturnsInHanded {} Tryz.checked os 23 .any (fun w args => (Rows.dyeMatchedSpec.pre enc Tryz.prog Tryz.f23 [] false w args ∧ laidMetH Tryz.prog laid3 w) ∧ sizedMet enc Tryz.prog Tryz.f23 (OpenSpec.ofChange Rows.dyeMatchedSpec) false w args)
      (Rows.dyeMatchedSpec.post enc Tryz.prog Tryz.f23 false true false false) := by
  refine law_lifted (fn := Tryz.f23) os started enc (by kernel_rfl) Tryz.func23 rfl rfl ?_ #[.agg #[.slice none 0 0], .agg #[.slice none 0 0, .int .i64 0, .int .i64 0, .slice none 0 0, .int .i64 0], .slice none 0 0, .int .i64 0, .int .i64 0, .int .i64 0, .agg #[.slice none 0 0, .slice none 0 0], .slice none 0 0, .int .i64 0, .int .i64 0, .int .i64 0] (by kernel_rfl) (by kernel_rfl) (by kernel_rfl) ?_
  · have : (Tryz.f23.params.toList.all fun t => Tryz.prog.readableRec t && decide (t < Tryz.prog.types.size)) = true := by kernel_rfl
    intro t ht
    have := List.all_eq_true.1 this t ht
    simpa using this
  · intro W base args ds p hval hA
    have hA' : DataW.TrodAll enc Tryz.prog W 0 (fun _ => true) true [24, 58, 59, 3, 3, 3, 114, 47, 3, 3, 3] args.toList ds p := hA
    obtain ⟨vs, hvs⟩ : ∃ vs, args.toList = vs := ⟨_, rfl⟩
    rw [hvs] at hA'
    obtain ⟨v0, r0, d0, e0, p0, q0, rfl, rfl, rfl, h0, hA'⟩ := Go.Abs.trodAll_cons hA'
    obtain ⟨v1, r1, d1, e1, p1, q1, rfl, rfl, rfl, h1, hA'⟩ := Go.Abs.trodAll_cons hA'
    obtain ⟨v2, r2, d2, e2, p2, q2, rfl, rfl, rfl, h2, hA'⟩ := Go.Abs.trodAll_cons hA'
    obtain ⟨v3, r3, d3, e3, p3, q3, rfl, rfl, rfl, h3, hA'⟩ := Go.Abs.trodAll_cons hA'
    obtain ⟨v4, r4, d4, e4, p4, q4, rfl, rfl, rfl, h4, hA'⟩ := Go.Abs.trodAll_cons hA'
    obtain ⟨v5, r5, d5, e5, p5, q5, rfl, rfl, rfl, h5, hA'⟩ := Go.Abs.trodAll_cons hA'
    obtain ⟨v6, r6, d6, e6, p6, q6, rfl, rfl, rfl, h6, hA'⟩ := Go.Abs.trodAll_cons hA'
    obtain ⟨v7, r7, d7, e7, p7, q7, rfl, rfl, rfl, h7, hA'⟩ := Go.Abs.trodAll_cons hA'
    obtain ⟨v8, r8, d8, e8, p8, q8, rfl, rfl, rfl, h8, hA'⟩ := Go.Abs.trodAll_cons hA'
    obtain ⟨v9, r9, d9, e9, p9, q9, rfl, rfl, rfl, h9, hA'⟩ := Go.Abs.trodAll_cons hA'
    obtain ⟨v10, r10, d10, e10, p10, q10, rfl, rfl, rfl, h10, hA'⟩ := Go.Abs.trodAll_cons hA'
    obtain ⟨rfl, rfl, rfl⟩ := Go.Abs.trodAll_nil hA'
    have hargs : args = #[v0, v1, v2, v3, v4, v5, v6, v7, v8, v9, v10] := Array.ext' hvs
    subst hargs
    refine ⟨rfl, ?_⟩
    have g0 : Value.okWide Tryz.prog W .any base 24 v0 := hval 0 24 v0 rfl rfl
    obtain ⟨c0, rfl⟩ := agg_of_struct (fs := Tryz.prog.fieldsOf 24) (by kernel_rfl) g0
    obtain ⟨x0, y0⟩ := rd24.argS h0
    have g1 : Value.okWide Tryz.prog W .any base 58 v1 := hval 1 58 v1 rfl rfl
    obtain ⟨c1, rfl⟩ := agg_of_struct (fs := Tryz.prog.fieldsOf 58) (by kernel_rfl) g1
    obtain ⟨x1, y1⟩ := rd58.argS h1
    have g2 : Value.okWide Tryz.prog W .any base 59 v2 := hval 2 59 v2 rfl rfl
    obtain ⟨x2, z2, hz2, y2⟩ := rd59.arg (cells_slice (el := 95) (by kernel_rfl) g2) (fun x => ⟨_, rfl⟩) h2
    cases hz2
    have g3 : Value.okWide Tryz.prog W .any base 3 v3 := hval 3 3 v3 rfl rfl
    obtain ⟨x3, z3, hz3, y3⟩ := rd3.arg (cells_int (k := .i64) (by kernel_rfl) g3) (fun x => ⟨_, rfl⟩) h3
    cases hz3
    have g4 : Value.okWide Tryz.prog W .any base 3 v4 := hval 4 3 v4 rfl rfl
    obtain ⟨x4, z4, hz4, y4⟩ := rd3.arg (cells_int (k := .i64) (by kernel_rfl) g4) (fun x => ⟨_, rfl⟩) h4
    cases hz4
    have g5 : Value.okWide Tryz.prog W .any base 3 v5 := hval 5 3 v5 rfl rfl
    obtain ⟨x5, z5, hz5, y5⟩ := rd3.arg (cells_int (k := .i64) (by kernel_rfl) g5) (fun x => ⟨_, rfl⟩) h5
    cases hz5
    have g6 : Value.okWide Tryz.prog W .any base 114 v6 := hval 6 114 v6 rfl rfl
    obtain ⟨c6, rfl⟩ := agg_of_struct (fs := Tryz.prog.fieldsOf 114) (by kernel_rfl) g6
    obtain ⟨x6, y6⟩ := rd114.argS h6
    have g7 : Value.okWide Tryz.prog W .any base 47 v7 := hval 7 47 v7 rfl rfl
    obtain ⟨x7, z7, hz7, y7⟩ := rd47.arg (cells_slice (el := 3) (by kernel_rfl) g7) (fun x => ⟨_, rfl⟩) h7
    cases hz7
    have g8 : Value.okWide Tryz.prog W .any base 3 v8 := hval 8 3 v8 rfl rfl
    obtain ⟨x8, z8, hz8, y8⟩ := rd3.arg (cells_int (k := .i64) (by kernel_rfl) g8) (fun x => ⟨_, rfl⟩) h8
    cases hz8
    have g9 : Value.okWide Tryz.prog W .any base 3 v9 := hval 9 3 v9 rfl rfl
    obtain ⟨x9, z9, hz9, y9⟩ := rd3.arg (cells_int (k := .i64) (by kernel_rfl) g9) (fun x => ⟨_, rfl⟩) h9
    cases hz9
    have g10 : Value.okWide Tryz.prog W .any base 3 v10 := hval 10 3 v10 rfl rfl
    obtain ⟨x10, z10, hz10, y10⟩ := rd3.arg (cells_int (k := .i64) (by kernel_rfl) g10) (fun x => ⟨_, rfl⟩) h10
    cases hz10
    exact ⟨_, repL_arr (repL_cons y0 (repL_cons y1 (repL_cons y2 (repL_cons y3 (repL_cons y4 (repL_cons y5 (repL_cons y6 (repL_cons y7 (repL_cons y8 (repL_cons y9 (repL_cons y10 repL_nil))))))))))), f23 x0 x1 x2 x3 x4 x5 x6.1 x6.2 x7 x8 x9 x10⟩
theorem cl23a : Rows.dyeMatchedRow.wf (OpenSpec.ofChange Rows.dyeMatchedSpec) = true := by kernel_rfl
theorem cl23b : (Tryz.f23.params.all (Tryz.prog.readableRec ·) && namedTie Tryz.prog Rows.dyeMatchedRow.named Rows.dyeMatchedSpec.vars) = true := by kernel_rfl
theorem cl23c : (Rows.dyeMatchedRow.inPlace == Tryz.prog.inPlace 23) = true := by kernel_rfl
theorem cl23d : (Rows.dyeMatchedRow.unfollowed == Tryz.prog.unfollowed 23) = true := by kernel_rfl
theorem cl23e : (Rows.dyeMatchedRow.recurses == Tryz.prog.recurses 23) = true := by kernel_rfl
theorem cl23f : (Rows.dyeMatchedRow.named == Tryz.prog.varsNamed 23) = true := by kernel_rfl
theorem cl23g : ((Rows.dyeMatchedRow.maps == (Tryz.f23.params.toList ++ Rows.dyeMatchedSpec.plain.varTypes Tryz.prog).any (Tryz.prog.mapsRec ·)) && (Rows.dyeMatchedRow.ifaces == (Tryz.f23.params.toList ++ Rows.dyeMatchedSpec.plain.varTypes Tryz.prog).any (Tryz.prog.ifacesRec ·)) && (Rows.dyeMatchedRow.mapsOut == Tryz.prog.mapsAmong Tryz.f23.resultTypes.toList) &&
      (Rows.dyeMatchedRow.loops == (Tryz.f23.params.toList ++ Rows.dyeMatchedSpec.plain.varTypes Tryz.prog).any (Tryz.prog.loopsFrom ·)) && (Rows.dyeMatchedRow.wideKeys == (Tryz.f23.params.toList ++ Rows.dyeMatchedSpec.plain.varTypes Tryz.prog ++ Tryz.f23.resultTypes.toList).any (Tryz.prog.wideKeysFrom ·))) = true := by kernel_rfl
theorem cl23h : (Rows.dyeMatchedSpec.vars.all (Tryz.prog.varReadable ·) && Tryz.f23.resultTypes.all (fun t => Tryz.prog.readableRec t && decide (t < Tryz.prog.types.size)) && (Rows.dyeMatchedRow.ifacesOut == Tryz.f23.resultTypes.toList.any (Tryz.prog.ifacesRec ·)) && (Rows.dyeMatchedRow.loopsOut == Tryz.f23.resultTypes.toList.any (Tryz.prog.loopsFrom ·))) = true := by kernel_rfl
theorem cl23i : ((Rows.dyeMatchedRow.veiled == (Tryz.f23.params.toList ++ Rows.dyeMatchedSpec.plain.varTypes Tryz.prog ++ Tryz.f23.resultTypes.toList).any (Tryz.prog.veiledRec ·)) && Rows.dyeMatchedRow.veiledFits Tryz.prog Tryz.f23.params.toList (Tryz.f23.params.toList ++ Rows.dyeMatchedSpec.plain.varTypes Tryz.prog ++ Tryz.f23.resultTypes.toList)) = true := by kernel_rfl
theorem joined23 : joinedFacts Tryz.prog 23 Tryz.f23 Rows.dyeMatchedSpec Rows.dyeMatchedRow = true :=
  joined_abs laidOutT pf_mapsRowed pf_stopsHeard pf_mayEnter pf_lifted pf_make pf_plainKeys pf_stops pf_knobs cl23a cl23b rfl cl23c cl23d cl23e cl23f cl23g cl23h rfl rfl rfl rfl cl23i
theorem named23 : Tryz.prog.funcNamed "nacre/nacrelaw04.DyeMatched" = some 23 := by kernel_rfl
theorem holds23 : Rows.DyeMatchedSaid :=
  OpenClaim.holds_of_wide 23 Tryz.f23 rfl rfl rfl rfl rfl rfl rfl ⟨rfl, rfl, rfl, rfl, rfl⟩ rfl rfl rfl rfl rfl named23 Tryz.func23 joined23
    (of_decide_eq_true (by kernel_rfl)) (by unfold Func.isWrapper; first | (rw [if_pos (by decide +kernel)]; kernel_rfl) | (rw [if_neg (by decide +kernel)]; exact ⟨rfl, rfl⟩))
    (fun os started H enc _ => lifted23 os started H enc)
theorem text23 : Rows.dyeMatchedRow.wfByText (OpenSpec.ofChange Rows.dyeMatchedSpec) = true := by kernel_rfl
theorem goes23 : false = Rows.dyeMatchedRow.goesBy Tryz.prog := by kernel_rfl
theorem card23 : Rows.DyeMatchedCardSaid :=
  Claim7.holds_tied_plain_at .later [] [.data, .data, .data] true (true, "2d786f4c48be527342a5a148c4ad2cb82cdd4fa7b6be3b273fbea74be73c3c94") true
    holds23 (fun _ h => by cases h) text23 (fun _ h => by cases h) dyeMatched_row_tie rfl ⟨rfl, rfl⟩ pf_main rfl
    (fun f fn hf hfn => by
      obtain rfl : f = 23 := Option.some.inj (named23.symm.trans hf) |>.symm
      obtain rfl : fn = Tryz.f23 := (Option.some.inj (Tryz.func23.symm.trans hfn)).symm
      exact ⟨pf_looks, fun j t ht => by
        have hm : t ∈ Tryz.f23.params.toList := by simpa using Array.mem_of_getElem? ht
        have hall : (Tryz.f23.params.toList.all fun u => !Tryz.prog.wantsStandIn u) = true := by kernel_rfl
        exact (show Tryz.prog.wantsStandIn t = false by simpa using List.all_eq_true.1 hall t hm)⟩)
    goes23
#print axioms card23
end Go.Proofs.YtkmclnjmabljdaaGreatDoor

