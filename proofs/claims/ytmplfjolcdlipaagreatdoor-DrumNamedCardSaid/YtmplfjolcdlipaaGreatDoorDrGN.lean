/- DrumNamed: whatever the input, the statement's function returns true, and the input reads as it did: the row, and the card that ties its listed variables to the program's text. -/
import Derived.Test.YtmplfjolcdlipaaGreatDoorDrFB
import Derived.Test.YtmplfjolcdlipaaGreatDoorNcH
import Derived.Test.YtmplfjolcdlipaaGreatDoorLgQ11
import Derived.Test.YtmplfjolcdlipaaGreatDoorTie
import Derived.Test.YtmplfjolcdlipaaGreatDoorCards
import Derived.Test.YtmplfjolcdlipaaGreatDoorXQ11
set_option linter.unusedVariables false
set_option linter.unusedSimpArgs false
namespace Go.Proofs.YtmplfjolcdlipaaGreatDoor
open Go Go.Abs Go.RowKit Go.ChangeShapes
set_option linter.unusedVariables false
set_option maxRecDepth 100000
theorem lifted11 (os : Os) (started : os.Started) (H : Type) (enc : TypeId × Value → H) :
    ReturnsInHanded {} Tryz.checked os 11 .any (fun w args => (Rows.drumNamedSpec.pre enc Tryz.prog Tryz.f11 [] false w args ∧ laidMetH Tryz.prog laid5 w) ∧ sizedMet enc Tryz.prog Tryz.f11 (OpenSpec.ofChange Rows.drumNamedSpec) false w args)
      (Rows.drumNamedSpec.post enc Tryz.prog Tryz.f11 false true false false) := by
  refine law_lifted (fn := Tryz.f11) os started enc (by kernel_rfl) Tryz.func11 rfl rfl ?_ #[.agg #[.slice none 0 0, .int .i64 0, .int .i64 0, .slice none 0 0, .slice none 0 0, .slice none 0 0], .slice none 0 0] (by kernel_rfl) (by kernel_rfl) (by kernel_rfl) ?_
  · have : (Tryz.f11.params.toList.all fun t => Tryz.prog.readableRec t && decide (t < Tryz.prog.types.size)) = true := by kernel_rfl
    intro t ht
    have := List.all_eq_true.1 this t ht
    simpa using this
  · intro W base args ds p hval hA
    have hA' : DataW.TrodAll enc Tryz.prog W 0 (fun _ => true) true [27, 23] args.toList ds p := hA
    obtain ⟨vs, hvs⟩ : ∃ vs, args.toList = vs := ⟨_, rfl⟩
    rw [hvs] at hA'
    obtain ⟨v0, r0, d0, e0, p0, q0, rfl, rfl, rfl, h0, hA'⟩ := Go.Abs.trodAll_cons hA'
    obtain ⟨v1, r1, d1, e1, p1, q1, rfl, rfl, rfl, h1, hA'⟩ := Go.Abs.trodAll_cons hA'
    obtain ⟨rfl, rfl, rfl⟩ := Go.Abs.trodAll_nil hA'
    have hargs : args = #[v0, v1] := Array.ext' hvs
    subst hargs
    refine ⟨rfl, ?_⟩
    have g0 : Value.okWide Tryz.prog W .any base 27 v0 := hval 0 27 v0 rfl rfl
    obtain ⟨c0, rfl⟩ := agg_of_struct (fs := Tryz.prog.fieldsOf 27) (by kernel_rfl) g0
    obtain ⟨x0, y0⟩ := rd27.argS h0
    have g1 : Value.okWide Tryz.prog W .any base 23 v1 := hval 1 23 v1 rfl rfl
    obtain ⟨x1, z1, hz1, y1⟩ := rd23.arg (cells_slice (el := 3) (by kernel_rfl) g1) (fun x => ⟨_, rfl⟩) h1
    cases hz1
    exact ⟨_, repL_arr (repL_cons y0 (repL_cons y1 repL_nil)), f11 x0 x1⟩
theorem cl11a : Rows.drumNamedRow.wf (OpenSpec.ofChange Rows.drumNamedSpec) = true := by kernel_rfl
theorem cl11b : (Tryz.f11.params.all (Tryz.prog.readableRec ·) && namedTie Tryz.prog Rows.drumNamedRow.named Rows.drumNamedSpec.vars) = true := by kernel_rfl
theorem cl11c : (Rows.drumNamedRow.inPlace == Tryz.prog.inPlace 11) = true := by kernel_rfl
theorem cl11d : (Rows.drumNamedRow.unfollowed == Tryz.prog.unfollowed 11) = true := by kernel_rfl
theorem cl11e : (Rows.drumNamedRow.recurses == Tryz.prog.recurses 11) = true := by kernel_rfl
theorem cl11f : (Rows.drumNamedRow.named == Tryz.prog.varsNamed 11) = true := by kernel_rfl
theorem cl11g : ((Rows.drumNamedRow.maps == (Tryz.f11.params.toList ++ Rows.drumNamedSpec.plain.varTypes Tryz.prog).any (Tryz.prog.mapsRec ·)) && (Rows.drumNamedRow.ifaces == (Tryz.f11.params.toList ++ Rows.drumNamedSpec.plain.varTypes Tryz.prog).any (Tryz.prog.ifacesRec ·)) && (Rows.drumNamedRow.mapsOut == Tryz.prog.mapsAmong Tryz.f11.resultTypes.toList) &&
      (Rows.drumNamedRow.loops == (Tryz.f11.params.toList ++ Rows.drumNamedSpec.plain.varTypes Tryz.prog).any (Tryz.prog.loopsFrom ·)) && (Rows.drumNamedRow.wideKeys == (Tryz.f11.params.toList ++ Rows.drumNamedSpec.plain.varTypes Tryz.prog ++ Tryz.f11.resultTypes.toList).any (Tryz.prog.wideKeysFrom ·))) = true := by kernel_rfl
theorem cl11h : (Rows.drumNamedSpec.vars.all (Tryz.prog.varReadable ·) && Tryz.f11.resultTypes.all (fun t => Tryz.prog.readableRec t && decide (t < Tryz.prog.types.size)) && (Rows.drumNamedRow.ifacesOut == Tryz.f11.resultTypes.toList.any (Tryz.prog.ifacesRec ·)) && (Rows.drumNamedRow.loopsOut == Tryz.f11.resultTypes.toList.any (Tryz.prog.loopsFrom ·))) = true := by kernel_rfl
theorem cl11i : ((Rows.drumNamedRow.veiled == (Tryz.f11.params.toList ++ Rows.drumNamedSpec.plain.varTypes Tryz.prog ++ Tryz.f11.resultTypes.toList).any (Tryz.prog.veiledRec ·)) && Rows.drumNamedRow.veiledFits Tryz.prog Tryz.f11.params.toList (Tryz.f11.params.toList ++ Rows.drumNamedSpec.plain.varTypes Tryz.prog ++ Tryz.f11.resultTypes.toList)) = true := by kernel_rfl
theorem joined11 : joinedFacts Tryz.prog 11 Tryz.f11 Rows.drumNamedSpec Rows.drumNamedRow = true :=
  joined_abs laidOutT pf_mapsRowed pf_stopsHeard pf_mayEnter pf_lifted pf_make pf_plainKeys pf_stops pf_knobs cl11a cl11b rfl cl11c cl11d cl11e cl11f cl11g cl11h rfl rfl rfl rfl cl11i
theorem named11 : Tryz.prog.funcNamed "nacre/nacrelaw03.DrumNamed" = some 11 := by kernel_rfl
theorem holds11 : Rows.DrumNamedSaid :=
  OpenClaim.holds_of_wide 11 Tryz.f11 rfl rfl rfl rfl rfl rfl rfl ⟨rfl, rfl, rfl, rfl, rfl⟩ rfl rfl rfl rfl rfl named11 Tryz.func11 joined11
    (of_decide_eq_true (by kernel_rfl)) (by unfold Func.isWrapper; first | (rw [if_pos (by decide +kernel)]; kernel_rfl) | (rw [if_neg (by decide +kernel)]; exact ⟨rfl, rfl⟩))
    (fun os started H enc _ => lifted11 os started H enc)
theorem text11 : Rows.drumNamedRow.wfByText (OpenSpec.ofChange Rows.drumNamedSpec) = true := by kernel_rfl
theorem goes11 : false = Rows.drumNamedRow.goesBy Tryz.prog := by kernel_rfl
theorem card11 : Rows.DrumNamedCardSaid :=
  Claim7.holds_tied_plain_at .later [] [.data, .data, .data, .data, .pinned] true (true, "762f071884d5ced12558a666d0624c047b32b12b6407ccf63fd9aae0ad2441ae") true
    holds11 (fun _ h => by cases h) text11 (fun _ h => by cases h) drumNamed_row_tie rfl ⟨rfl, rfl⟩ pf_main rfl
    (fun f fn hf hfn => by
      obtain rfl : f = 11 := Option.some.inj (named11.symm.trans hf) |>.symm
      obtain rfl : fn = Tryz.f11 := (Option.some.inj (Tryz.func11.symm.trans hfn)).symm
      exact ⟨pf_looks, fun j t ht => by
        have hm : t ∈ Tryz.f11.params.toList := by simpa using Array.mem_of_getElem? ht
        have hall : (Tryz.f11.params.toList.all fun u => !Tryz.prog.wantsStandIn u) = true := by kernel_rfl
        exact (show Tryz.prog.wantsStandIn t = false by simpa using List.all_eq_true.1 hall t hm)⟩)
    goes11
#print axioms card11
end Go.Proofs.YtmplfjolcdlipaaGreatDoor
