/- DrumDual: whatever the input, the statement's function returns true, and the input reads as it did: the row, and the card that ties its listed variables to the program's text. -/
import Derived.Test.YtmplfjolcdlipaaGreatDoorDrFB
import Derived.Test.YtmplfjolcdlipaaGreatDoorNcH
import Derived.Test.YtmplfjolcdlipaaGreatDoorLgQ14
import Derived.Test.YtmplfjolcdlipaaGreatDoorTie
import Derived.Test.YtmplfjolcdlipaaGreatDoorCards
import Derived.Test.YtmplfjolcdlipaaGreatDoorXQ14
set_option linter.unusedVariables false
set_option linter.unusedSimpArgs false
namespace Go.Proofs.YtmplfjolcdlipaaGreatDoor
open Go Go.Abs Go.RowKit Go.ChangeShapes
set_option linter.unusedVariables false
set_option maxRecDepth 100000
theorem lifted14 (os : Os) (started : os.Started) (H : Type) (enc : TypeId × Value → H) :
    ReturnsInHanded {} Tryz.checked os 14 .any (fun w args => (Rows.drumDualSpec.pre enc Tryz.prog Tryz.f14 [] false w args ∧ laidMetH Tryz.prog laid5 w) ∧ sizedMet enc Tryz.prog Tryz.f14 (OpenSpec.ofChange Rows.drumDualSpec) false w args)
      (Rows.drumDualSpec.post enc Tryz.prog Tryz.f14 false true false false) := by
  refine law_lifted (fn := Tryz.f14) os started enc (by kernel_rfl) Tryz.func14 rfl rfl ?_ #[.agg #[.slice none 0 0, .int .i64 0, .int .i64 0, .slice none 0 0, .slice none 0 0, .slice none 0 0], .slice none 0 0, .slice none 0 0] (by kernel_rfl) (by kernel_rfl) (by kernel_rfl) ?_
  · have : (Tryz.f14.params.toList.all fun t => Tryz.prog.readableRec t && decide (t < Tryz.prog.types.size)) = true := by kernel_rfl
    intro t ht
    have := List.all_eq_true.1 this t ht
    simpa using this
  · intro W base args ds p hval hA
    have hA' : DataW.TrodAll enc Tryz.prog W 0 (fun _ => true) true [27, 23, 23] args.toList ds p := hA
    obtain ⟨vs, hvs⟩ : ∃ vs, args.toList = vs := ⟨_, rfl⟩
    rw [hvs] at hA'
    obtain ⟨v0, r0, d0, e0, p0, q0, rfl, rfl, rfl, h0, hA'⟩ := Go.Abs.trodAll_cons hA'
    obtain ⟨v1, r1, d1, e1, p1, q1, rfl, rfl, rfl, h1, hA'⟩ := Go.Abs.trodAll_cons hA'
    obtain ⟨v2, r2, d2, e2, p2, q2, rfl, rfl, rfl, h2, hA'⟩ := Go.Abs.trodAll_cons hA'
    obtain ⟨rfl, rfl, rfl⟩ := Go.Abs.trodAll_nil hA'
    have hargs : args = #[v0, v1, v2] := Array.ext' hvs
    subst hargs
    refine ⟨rfl, ?_⟩
    have g0 : Value.okWide Tryz.prog W .any base 27 v0 := hval 0 27 v0 rfl rfl
    obtain ⟨c0, rfl⟩ := agg_of_struct (fs := Tryz.prog.fieldsOf 27) (by kernel_rfl) g0
    obtain ⟨x0, y0⟩ := rd27.argS h0
    have g1 : Value.okWide Tryz.prog W .any base 23 v1 := hval 1 23 v1 rfl rfl
    obtain ⟨x1, z1, hz1, y1⟩ := rd23.arg (cells_slice (el := 3) (by kernel_rfl) g1) (fun x => ⟨_, rfl⟩) h1
    cases hz1
    have g2 : Value.okWide Tryz.prog W .any base 23 v2 := hval 2 23 v2 rfl rfl
    obtain ⟨x2, z2, hz2, y2⟩ := rd23.arg (cells_slice (el := 3) (by kernel_rfl) g2) (fun x => ⟨_, rfl⟩) h2
    cases hz2
    exact ⟨_, repL_arr (repL_cons y0 (repL_cons y1 (repL_cons y2 repL_nil))), f14 x0 x1 x2⟩
theorem cl14a : Rows.drumDualRow.wf (OpenSpec.ofChange Rows.drumDualSpec) = true := by kernel_rfl
theorem cl14b : (Tryz.f14.params.all (Tryz.prog.readableRec ·) && namedTie Tryz.prog Rows.drumDualRow.named Rows.drumDualSpec.vars) = true := by kernel_rfl
theorem cl14c : (Rows.drumDualRow.inPlace == Tryz.prog.inPlace 14) = true := by kernel_rfl
theorem cl14d : (Rows.drumDualRow.unfollowed == Tryz.prog.unfollowed 14) = true := by kernel_rfl
theorem cl14e : (Rows.drumDualRow.recurses == Tryz.prog.recurses 14) = true := by kernel_rfl
theorem cl14f : (Rows.drumDualRow.named == Tryz.prog.varsNamed 14) = true := by kernel_rfl
theorem cl14g : ((Rows.drumDualRow.maps == (Tryz.f14.params.toList ++ Rows.drumDualSpec.plain.varTypes Tryz.prog).any (Tryz.prog.mapsRec ·)) && (Rows.drumDualRow.ifaces == (Tryz.f14.params.toList ++ Rows.drumDualSpec.plain.varTypes Tryz.prog).any (Tryz.prog.ifacesRec ·)) && (Rows.drumDualRow.mapsOut == Tryz.prog.mapsAmong Tryz.f14.resultTypes.toList) &&
      (Rows.drumDualRow.loops == (Tryz.f14.params.toList ++ Rows.drumDualSpec.plain.varTypes Tryz.prog).any (Tryz.prog.loopsFrom ·)) && (Rows.drumDualRow.wideKeys == (Tryz.f14.params.toList ++ Rows.drumDualSpec.plain.varTypes Tryz.prog ++ Tryz.f14.resultTypes.toList).any (Tryz.prog.wideKeysFrom ·))) = true := by kernel_rfl
theorem cl14h : (Rows.drumDualSpec.vars.all (Tryz.prog.varReadable ·) && Tryz.f14.resultTypes.all (fun t => Tryz.prog.readableRec t && decide (t < Tryz.prog.types.size)) && (Rows.drumDualRow.ifacesOut == Tryz.f14.resultTypes.toList.any (Tryz.prog.ifacesRec ·)) && (Rows.drumDualRow.loopsOut == Tryz.f14.resultTypes.toList.any (Tryz.prog.loopsFrom ·))) = true := by kernel_rfl
theorem cl14i : ((Rows.drumDualRow.veiled == (Tryz.f14.params.toList ++ Rows.drumDualSpec.plain.varTypes Tryz.prog ++ Tryz.f14.resultTypes.toList).any (Tryz.prog.veiledRec ·)) && Rows.drumDualRow.veiledFits Tryz.prog Tryz.f14.params.toList (Tryz.f14.params.toList ++ Rows.drumDualSpec.plain.varTypes Tryz.prog ++ Tryz.f14.resultTypes.toList)) = true := by kernel_rfl
theorem joined14 : joinedFacts Tryz.prog 14 Tryz.f14 Rows.drumDualSpec Rows.drumDualRow = true :=
  joined_abs laidOutT pf_mapsRowed pf_stopsHeard pf_mayEnter pf_lifted pf_make pf_plainKeys pf_stops pf_knobs cl14a cl14b rfl cl14c cl14d cl14e cl14f cl14g cl14h rfl rfl rfl rfl cl14i
theorem named14 : Tryz.prog.funcNamed "nacre/nacrelaw03.DrumDual" = some 14 := by kernel_rfl
theorem holds14 : Rows.DrumDualSaid :=
  OpenClaim.holds_of_wide 14 Tryz.f14 rfl rfl rfl rfl rfl rfl rfl ⟨rfl, rfl, rfl, rfl, rfl⟩ rfl rfl rfl rfl rfl named14 Tryz.func14 joined14
    (of_decide_eq_true (by kernel_rfl)) (by unfold Func.isWrapper; first | (rw [if_pos (by decide +kernel)]; kernel_rfl) | (rw [if_neg (by decide +kernel)]; exact ⟨rfl, rfl⟩))
    (fun os started H enc _ => lifted14 os started H enc)
theorem text14 : Rows.drumDualRow.wfByText (OpenSpec.ofChange Rows.drumDualSpec) = true := by kernel_rfl
theorem goes14 : false = Rows.drumDualRow.goesBy Tryz.prog := by kernel_rfl
theorem card14 : Rows.DrumDualCardSaid :=
  Claim7.holds_tied_plain_at .later [] [.data, .data, .data, .data, .pinned] true (true, "762f071884d5ced12558a666d0624c047b32b12b6407ccf63fd9aae0ad2441ae") true
    holds14 (fun _ h => by cases h) text14 (fun _ h => by cases h) drumDual_row_tie rfl ⟨rfl, rfl⟩ pf_main rfl
    (fun f fn hf hfn => by
      obtain rfl : f = 14 := Option.some.inj (named14.symm.trans hf) |>.symm
      obtain rfl : fn = Tryz.f14 := (Option.some.inj (Tryz.func14.symm.trans hfn)).symm
      exact ⟨pf_looks, fun j t ht => by
        have hm : t ∈ Tryz.f14.params.toList := by simpa using Array.mem_of_getElem? ht
        have hall : (Tryz.f14.params.toList.all fun u => !Tryz.prog.wantsStandIn u) = true := by kernel_rfl
        exact (show Tryz.prog.wantsStandIn t = false by simpa using List.all_eq_true.1 hall t hm)⟩)
    goes14
#print axioms card14
end Go.Proofs.YtmplfjolcdlipaaGreatDoor
