/- DrumWindows: whatever the input, the statement's function returns true, and the input reads as it did: the row, and the card that ties its listed variables to the program's text. -/
import Derived.Test.YtmplfjolcdlipaaGreatDoorDrFB
import Derived.Test.YtmplfjolcdlipaaGreatDoorNcH
import Derived.Test.YtmplfjolcdlipaaGreatDoorLdQ10
import Derived.Test.YtmplfjolcdlipaaGreatDoorTie
import Derived.Test.YtmplfjolcdlipaaGreatDoorCards
import Derived.Test.YtmplfjolcdlipaaGreatDoorXQ10
set_option linter.unusedVariables false
set_option linter.unusedSimpArgs false
namespace Go.Proofs.YtmplfjolcdlipaaGreatDoor
open Go Go.Abs Go.RowKit Go.ChangeShapes
set_option linter.unusedVariables false
set_option maxRecDepth 100000
theorem lifted10 (os : Os) (started : os.Started) (H : Type) (enc : TypeId × Value → H) :
    ReturnsInHanded {} Tryz.checked os 10 .any (fun w args => (Rows.drumWindowsSpec.pre enc Tryz.prog Tryz.f10 [] false w args ∧ laidMetH Tryz.prog laid5 w) ∧ sizedMet enc Tryz.prog Tryz.f10 (OpenSpec.ofChange Rows.drumWindowsSpec) false w args)
      (Rows.drumWindowsSpec.post enc Tryz.prog Tryz.f10 false true false false) := by
  refine law_lifted (fn := Tryz.f10) os started enc (by kernel_rfl) Tryz.func10 rfl rfl ?_ #[.agg #[.slice none 0 0, .int .i64 0, .int .i64 0, .slice none 0 0, .slice none 0 0, .slice none 0 0]] (by kernel_rfl) (by kernel_rfl) (by kernel_rfl) ?_
  · have : (Tryz.f10.params.toList.all fun t => Tryz.prog.readableRec t && decide (t < Tryz.prog.types.size)) = true := by kernel_rfl
    intro t ht
    have := List.all_eq_true.1 this t ht
    simpa using this
  · intro W base args ds p hval hA
    have hA' : DataW.TrodAll enc Tryz.prog W 0 (fun _ => true) true [27] args.toList ds p := hA
    obtain ⟨vs, hvs⟩ : ∃ vs, args.toList = vs := ⟨_, rfl⟩
    rw [hvs] at hA'
    obtain ⟨v0, r0, d0, e0, p0, q0, rfl, rfl, rfl, h0, hA'⟩ := Go.Abs.trodAll_cons hA'
    obtain ⟨rfl, rfl, rfl⟩ := Go.Abs.trodAll_nil hA'
    have hargs : args = #[v0] := Array.ext' hvs
    subst hargs
    refine ⟨rfl, ?_⟩
    have g0 : Value.okWide Tryz.prog W .any base 27 v0 := hval 0 27 v0 rfl rfl
    obtain ⟨c0, rfl⟩ := agg_of_struct (fs := Tryz.prog.fieldsOf 27) (by kernel_rfl) g0
    obtain ⟨x0, y0⟩ := rd27.argS h0
    exact ⟨_, repL_arr (repL_cons y0 repL_nil), f10 x0⟩
theorem cl10a : Rows.drumWindowsRow.wf (OpenSpec.ofChange Rows.drumWindowsSpec) = true := by kernel_rfl
theorem cl10b : (Tryz.f10.params.all (Tryz.prog.readableRec ·) && namedTie Tryz.prog Rows.drumWindowsRow.named Rows.drumWindowsSpec.vars) = true := by kernel_rfl
theorem cl10c : (Rows.drumWindowsRow.inPlace == Tryz.prog.inPlace 10) = true := by kernel_rfl
theorem cl10d : (Rows.drumWindowsRow.unfollowed == Tryz.prog.unfollowed 10) = true := by kernel_rfl
theorem cl10e : (Rows.drumWindowsRow.recurses == Tryz.prog.recurses 10) = true := by kernel_rfl
theorem cl10f : (Rows.drumWindowsRow.named == Tryz.prog.varsNamed 10) = true := by kernel_rfl
theorem cl10g : ((Rows.drumWindowsRow.maps == (Tryz.f10.params.toList ++ Rows.drumWindowsSpec.plain.varTypes Tryz.prog).any (Tryz.prog.mapsRec ·)) && (Rows.drumWindowsRow.ifaces == (Tryz.f10.params.toList ++ Rows.drumWindowsSpec.plain.varTypes Tryz.prog).any (Tryz.prog.ifacesRec ·)) && (Rows.drumWindowsRow.mapsOut == Tryz.prog.mapsAmong Tryz.f10.resultTypes.toList) &&
      (Rows.drumWindowsRow.loops == (Tryz.f10.params.toList ++ Rows.drumWindowsSpec.plain.varTypes Tryz.prog).any (Tryz.prog.loopsFrom ·)) && (Rows.drumWindowsRow.wideKeys == (Tryz.f10.params.toList ++ Rows.drumWindowsSpec.plain.varTypes Tryz.prog ++ Tryz.f10.resultTypes.toList).any (Tryz.prog.wideKeysFrom ·))) = true := by kernel_rfl
theorem cl10h : (Rows.drumWindowsSpec.vars.all (Tryz.prog.varReadable ·) && Tryz.f10.resultTypes.all (fun t => Tryz.prog.readableRec t && decide (t < Tryz.prog.types.size)) && (Rows.drumWindowsRow.ifacesOut == Tryz.f10.resultTypes.toList.any (Tryz.prog.ifacesRec ·)) && (Rows.drumWindowsRow.loopsOut == Tryz.f10.resultTypes.toList.any (Tryz.prog.loopsFrom ·))) = true := by kernel_rfl
theorem cl10i : ((Rows.drumWindowsRow.veiled == (Tryz.f10.params.toList ++ Rows.drumWindowsSpec.plain.varTypes Tryz.prog ++ Tryz.f10.resultTypes.toList).any (Tryz.prog.veiledRec ·)) && Rows.drumWindowsRow.veiledFits Tryz.prog Tryz.f10.params.toList (Tryz.f10.params.toList ++ Rows.drumWindowsSpec.plain.varTypes Tryz.prog ++ Tryz.f10.resultTypes.toList)) = true := by kernel_rfl
theorem joined10 : joinedFacts Tryz.prog 10 Tryz.f10 Rows.drumWindowsSpec Rows.drumWindowsRow = true :=
  joined_abs laidOutT pf_mapsRowed pf_stopsHeard pf_mayEnter pf_lifted pf_make pf_plainKeys pf_stops pf_knobs cl10a cl10b rfl cl10c cl10d cl10e cl10f cl10g cl10h rfl rfl rfl rfl cl10i
theorem named10 : Tryz.prog.funcNamed "nacre/nacrelaw03.DrumWindows" = some 10 := by kernel_rfl
theorem holds10 : Rows.DrumWindowsSaid :=
  OpenClaim.holds_of_wide 10 Tryz.f10 rfl rfl rfl rfl rfl rfl rfl ⟨rfl, rfl, rfl, rfl, rfl⟩ rfl rfl rfl rfl rfl named10 Tryz.func10 joined10
    (of_decide_eq_true (by kernel_rfl)) (by unfold Func.isWrapper; first | (rw [if_pos (by decide +kernel)]; kernel_rfl) | (rw [if_neg (by decide +kernel)]; exact ⟨rfl, rfl⟩))
    (fun os started H enc _ => lifted10 os started H enc)
theorem text10 : Rows.drumWindowsRow.wfByText (OpenSpec.ofChange Rows.drumWindowsSpec) = true := by kernel_rfl
theorem goes10 : false = Rows.drumWindowsRow.goesBy Tryz.prog := by kernel_rfl
theorem card10 : Rows.DrumWindowsCardSaid :=
  Claim7.holds_tied_plain_at .later [] [.data, .data, .data, .data, .pinned] true (true, "762f071884d5ced12558a666d0624c047b32b12b6407ccf63fd9aae0ad2441ae") true
    holds10 (fun _ h => by cases h) text10 (fun _ h => by cases h) drumWindows_row_tie rfl ⟨rfl, rfl⟩ pf_main rfl
    (fun f fn hf hfn => by
      obtain rfl : f = 10 := Option.some.inj (named10.symm.trans hf) |>.symm
      obtain rfl : fn = Tryz.f10 := (Option.some.inj (Tryz.func10.symm.trans hfn)).symm
      exact ⟨pf_looks, fun j t ht => by
        have hm : t ∈ Tryz.f10.params.toList := by simpa using Array.mem_of_getElem? ht
        have hall : (Tryz.f10.params.toList.all fun u => !Tryz.prog.wantsStandIn u) = true := by kernel_rfl
        exact (show Tryz.prog.wantsStandIn t = false by simpa using List.all_eq_true.1 hall t hm)⟩)
    goes10
#print axioms card10
end Go.Proofs.YtmplfjolcdlipaaGreatDoor
