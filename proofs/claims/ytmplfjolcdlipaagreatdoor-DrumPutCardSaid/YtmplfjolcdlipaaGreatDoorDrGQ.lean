/- DrumPut: whatever the input, the statement's function returns true, and the input reads as it did: the row, and the card that ties its listed variables to the program's text. -/
import Derived.Test.YtmplfjolcdlipaaGreatDoorDrFB
import Derived.Test.YtmplfjolcdlipaaGreatDoorNcH
import Derived.Test.YtmplfjolcdlipaaGreatDoorLfQ22
import Derived.Test.YtmplfjolcdlipaaGreatDoorTie
import Derived.Test.YtmplfjolcdlipaaGreatDoorCards
import Derived.Test.YtmplfjolcdlipaaGreatDoorXQ22
set_option linter.unusedVariables false
set_option linter.unusedSimpArgs false
namespace Go.Proofs.YtmplfjolcdlipaaGreatDoor
open Go Go.Abs Go.RowKit Go.ChangeShapes
set_option linter.unusedVariables false
set_option maxRecDepth 100000
theorem lifted22 (os : Os) (started : os.Started) (H : Type) (enc : TypeId × Value → H) :
    ReturnsInHanded {} Tryz.checked os 22 .any (fun w args => (Rows.drumPutSpec.pre enc Tryz.prog Tryz.f22 [] false w args ∧ laidMetH Tryz.prog laid5 w) ∧ sizedMet enc Tryz.prog Tryz.f22 (OpenSpec.ofChange Rows.drumPutSpec) false w args)
      (Rows.drumPutSpec.post enc Tryz.prog Tryz.f22 false true false false) := by
  refine law_lifted (fn := Tryz.f22) os started enc (by kernel_rfl) Tryz.func22 rfl rfl ?_ #[.agg #[.slice none 0 0, .int .i64 0, .int .i64 0, .slice none 0 0, .slice none 0 0, .slice none 0 0], .int .i64 0, .int .i64 0, .agg #[.int .i64 0, .slice none 0 0], .int .i64 0] (by kernel_rfl) (by kernel_rfl) (by kernel_rfl) ?_
  · have : (Tryz.f22.params.toList.all fun t => Tryz.prog.readableRec t && decide (t < Tryz.prog.types.size)) = true := by kernel_rfl
    intro t ht
    have := List.all_eq_true.1 this t ht
    simpa using this
  · intro W base args ds p hval hA
    have hA' : DataW.TrodAll enc Tryz.prog W 0 (fun _ => true) true [27, 3, 3, 80, 3] args.toList ds p := hA
    obtain ⟨vs, hvs⟩ : ∃ vs, args.toList = vs := ⟨_, rfl⟩
    rw [hvs] at hA'
    obtain ⟨v0, r0, d0, e0, p0, q0, rfl, rfl, rfl, h0, hA'⟩ := Go.Abs.trodAll_cons hA'
    obtain ⟨v1, r1, d1, e1, p1, q1, rfl, rfl, rfl, h1, hA'⟩ := Go.Abs.trodAll_cons hA'
    obtain ⟨v2, r2, d2, e2, p2, q2, rfl, rfl, rfl, h2, hA'⟩ := Go.Abs.trodAll_cons hA'
    obtain ⟨v3, r3, d3, e3, p3, q3, rfl, rfl, rfl, h3, hA'⟩ := Go.Abs.trodAll_cons hA'
    obtain ⟨v4, r4, d4, e4, p4, q4, rfl, rfl, rfl, h4, hA'⟩ := Go.Abs.trodAll_cons hA'
    obtain ⟨rfl, rfl, rfl⟩ := Go.Abs.trodAll_nil hA'
    have hargs : args = #[v0, v1, v2, v3, v4] := Array.ext' hvs
    subst hargs
    refine ⟨rfl, ?_⟩
    have g0 : Value.okWide Tryz.prog W .any base 27 v0 := hval 0 27 v0 rfl rfl
    obtain ⟨c0, rfl⟩ := agg_of_struct (fs := Tryz.prog.fieldsOf 27) (by kernel_rfl) g0
    obtain ⟨x0, y0⟩ := rd27.argS h0
    have g1 : Value.okWide Tryz.prog W .any base 3 v1 := hval 1 3 v1 rfl rfl
    obtain ⟨x1, z1, hz1, y1⟩ := rd3.arg (cells_int (k := .i64) (by kernel_rfl) g1) (fun x => ⟨_, rfl⟩) h1
    cases hz1
    have g2 : Value.okWide Tryz.prog W .any base 3 v2 := hval 2 3 v2 rfl rfl
    obtain ⟨x2, z2, hz2, y2⟩ := rd3.arg (cells_int (k := .i64) (by kernel_rfl) g2) (fun x => ⟨_, rfl⟩) h2
    cases hz2
    have g3 : Value.okWide Tryz.prog W .any base 80 v3 := hval 3 80 v3 rfl rfl
    obtain ⟨c3, rfl⟩ := agg_of_struct (fs := Tryz.prog.fieldsOf 80) (by kernel_rfl) g3
    obtain ⟨x3, y3⟩ := rd80.argS h3
    have g4 : Value.okWide Tryz.prog W .any base 3 v4 := hval 4 3 v4 rfl rfl
    obtain ⟨x4, z4, hz4, y4⟩ := rd3.arg (cells_int (k := .i64) (by kernel_rfl) g4) (fun x => ⟨_, rfl⟩) h4
    cases hz4
    exact ⟨_, repL_arr (repL_cons y0 (repL_cons y1 (repL_cons y2 (repL_cons y3 (repL_cons y4 repL_nil))))), f22 x0 x1 x2 x3.1 x3.2 x4⟩
theorem cl22a : Rows.drumPutRow.wf (OpenSpec.ofChange Rows.drumPutSpec) = true := by kernel_rfl
theorem cl22b : (Tryz.f22.params.all (Tryz.prog.readableRec ·) && namedTie Tryz.prog Rows.drumPutRow.named Rows.drumPutSpec.vars) = true := by kernel_rfl
theorem cl22c : (Rows.drumPutRow.inPlace == Tryz.prog.inPlace 22) = true := by kernel_rfl
theorem cl22d : (Rows.drumPutRow.unfollowed == Tryz.prog.unfollowed 22) = true := by kernel_rfl
theorem cl22e : (Rows.drumPutRow.recurses == Tryz.prog.recurses 22) = true := by kernel_rfl
theorem cl22f : (Rows.drumPutRow.named == Tryz.prog.varsNamed 22) = true := by kernel_rfl
theorem cl22g : ((Rows.drumPutRow.maps == (Tryz.f22.params.toList ++ Rows.drumPutSpec.plain.varTypes Tryz.prog).any (Tryz.prog.mapsRec ·)) && (Rows.drumPutRow.ifaces == (Tryz.f22.params.toList ++ Rows.drumPutSpec.plain.varTypes Tryz.prog).any (Tryz.prog.ifacesRec ·)) && (Rows.drumPutRow.mapsOut == Tryz.prog.mapsAmong Tryz.f22.resultTypes.toList) &&
      (Rows.drumPutRow.loops == (Tryz.f22.params.toList ++ Rows.drumPutSpec.plain.varTypes Tryz.prog).any (Tryz.prog.loopsFrom ·)) && (Rows.drumPutRow.wideKeys == (Tryz.f22.params.toList ++ Rows.drumPutSpec.plain.varTypes Tryz.prog ++ Tryz.f22.resultTypes.toList).any (Tryz.prog.wideKeysFrom ·))) = true := by kernel_rfl
theorem cl22h : (Rows.drumPutSpec.vars.all (Tryz.prog.varReadable ·) && Tryz.f22.resultTypes.all (fun t => Tryz.prog.readableRec t && decide (t < Tryz.prog.types.size)) && (Rows.drumPutRow.ifacesOut == Tryz.f22.resultTypes.toList.any (Tryz.prog.ifacesRec ·)) && (Rows.drumPutRow.loopsOut == Tryz.f22.resultTypes.toList.any (Tryz.prog.loopsFrom ·))) = true := by kernel_rfl
theorem cl22i : ((Rows.drumPutRow.veiled == (Tryz.f22.params.toList ++ Rows.drumPutSpec.plain.varTypes Tryz.prog ++ Tryz.f22.resultTypes.toList).any (Tryz.prog.veiledRec ·)) && Rows.drumPutRow.veiledFits Tryz.prog Tryz.f22.params.toList (Tryz.f22.params.toList ++ Rows.drumPutSpec.plain.varTypes Tryz.prog ++ Tryz.f22.resultTypes.toList)) = true := by kernel_rfl
theorem joined22 : joinedFacts Tryz.prog 22 Tryz.f22 Rows.drumPutSpec Rows.drumPutRow = true :=
  joined_abs laidOutT pf_mapsRowed pf_stopsHeard pf_mayEnter pf_lifted pf_make pf_plainKeys pf_stops pf_knobs cl22a cl22b rfl cl22c cl22d cl22e cl22f cl22g cl22h rfl rfl rfl rfl cl22i
theorem named22 : Tryz.prog.funcNamed "nacre/nacrelaw03.DrumPut" = some 22 := by kernel_rfl
theorem holds22 : Rows.DrumPutSaid :=
  OpenClaim.holds_of_wide 22 Tryz.f22 rfl rfl rfl rfl rfl rfl rfl ⟨rfl, rfl, rfl, rfl, rfl⟩ rfl rfl rfl rfl rfl named22 Tryz.func22 joined22
    (of_decide_eq_true (by kernel_rfl)) (by unfold Func.isWrapper; first | (rw [if_pos (by decide +kernel)]; kernel_rfl) | (rw [if_neg (by decide +kernel)]; exact ⟨rfl, rfl⟩))
    (fun os started H enc _ => lifted22 os started H enc)
theorem text22 : Rows.drumPutRow.wfByText (OpenSpec.ofChange Rows.drumPutSpec) = true := by kernel_rfl
theorem goes22 : false = Rows.drumPutRow.goesBy Tryz.prog := by kernel_rfl
theorem card22 : Rows.DrumPutCardSaid :=
  Claim7.holds_tied_plain_at .later [] [.data, .data, .data, .data, .pinned] true (true, "762f071884d5ced12558a666d0624c047b32b12b6407ccf63fd9aae0ad2441ae") true
    holds22 (fun _ h => by cases h) text22 (fun _ h => by cases h) drumPut_row_tie rfl ⟨rfl, rfl⟩ pf_main rfl
    (fun f fn hf hfn => by
      obtain rfl : f = 22 := Option.some.inj (named22.symm.trans hf) |>.symm
      obtain rfl : fn = Tryz.f22 := (Option.some.inj (Tryz.func22.symm.trans hfn)).symm
      exact ⟨pf_looks, fun j t ht => by
        have hm : t ∈ Tryz.f22.params.toList := by simpa using Array.mem_of_getElem? ht
        have hall : (Tryz.f22.params.toList.all fun u => !Tryz.prog.wantsStandIn u) = true := by kernel_rfl
        exact (show Tryz.prog.wantsStandIn t = false by simpa using List.all_eq_true.1 hall t hm)⟩)
    goes22
#print axioms card22
end Go.Proofs.YtmplfjolcdlipaaGreatDoor
