/- DrumSorts: whatever the input, the statement's function returns true, and the input reads as it did: the row, and the card that ties its listed variables to the program's text. -/
import Derived.Test.YtmplfjolcdlipaaGreatDoorDrFB
import Derived.Test.YtmplfjolcdlipaaGreatDoorNcH
import Derived.Test.YtmplfjolcdlipaaGreatDoorLeQ9
import Derived.Test.YtmplfjolcdlipaaGreatDoorTie
import Derived.Test.YtmplfjolcdlipaaGreatDoorCards
import Derived.Test.YtmplfjolcdlipaaGreatDoorXQ9
set_option linter.unusedVariables false
set_option linter.unusedSimpArgs false
namespace Go.Proofs.YtmplfjolcdlipaaGreatDoor
open Go Go.Abs Go.RowKit Go.ChangeShapes
set_option linter.unusedVariables false
set_option maxRecDepth 100000
theorem lifted9 (os : Os) (started : os.Started) (H : Type) (enc : TypeId × Value → H) :
    ReturnsInHanded {} Tryz.checked os 9 .any (fun w args => (Rows.drumSortsSpec.pre enc Tryz.prog Tryz.f9 [] false w args ∧ laidMetH Tryz.prog laid5 w) ∧ sizedMet enc Tryz.prog Tryz.f9 (OpenSpec.ofChange Rows.drumSortsSpec) false w args)
      (Rows.drumSortsSpec.post enc Tryz.prog Tryz.f9 false true false false) := by
  refine law_lifted (fn := Tryz.f9) os started enc (by kernel_rfl) Tryz.func9 rfl rfl ?_ #[.agg #[.slice none 0 0, .int .i64 0, .int .i64 0, .slice none 0 0, .slice none 0 0, .slice none 0 0], .slice none 0 0] (by kernel_rfl) (by kernel_rfl) (by kernel_rfl) ?_
  · have : (Tryz.f9.params.toList.all fun t => Tryz.prog.readableRec t && decide (t < Tryz.prog.types.size)) = true := by kernel_rfl
    intro t ht
    have := List.all_eq_true.1 this t ht
    simpa using this
  · intro W base args ds p hval hA
    have hA' : DataW.TrodAll enc Tryz.prog W 0 (fun _ => true) true [27, 23] args.toList ds p := hA
    obtain ⟨vs, hvs⟩ : ∃ vs, args.toList = vs := ⟨_, rfl⟩
    rw [hvs] at hA'
    obtain ⟨v0, r0, d0, e0, p0, q0, rfl, rfl, rfl, h0, hA'⟩ := Go.Abs.trodAll_cons hA'
    obtain ⟨v1, r1, d1, e1, p1, q1, rfl, rfl, rfl, h1, hA'⟩ := Go.Abs.trodAll_cons hA'
    obtain ⟨rfl, rfl, rfl⟩ := Go.Abs.trodAll_nil hA'
    have hargs : args = #[v0, v1] := Array.ext' hvs
    subst hargs
    refine ⟨rfl, ?_⟩
    have g0 : Value.okWide Tryz.prog W .any base 27 v0 := hval 0 27 v0 rfl rfl
    obtain ⟨c0, rfl⟩ := agg_of_struct (fs := Tryz.prog.fieldsOf 27) (by kernel_rfl) g0
    obtain ⟨x0, y0⟩ := rd27.argS h0
    have g1 : Value.okWide Tryz.prog W .any base 23 v1 := hval 1 23 v1 rfl rfl
    obtain ⟨x1, z1, hz1, y1⟩ := rd23.arg (cells_slice (el := 3) (by kernel_rfl) g1) (fun x => ⟨_, rfl⟩) h1
    cases hz1
    exact ⟨_, repL_arr (repL_cons y0 (repL_cons y1 repL_nil)), f9 x0 x1⟩
theorem cl9a : Rows.drumSortsRow.wf (OpenSpec.ofChange Rows.drumSortsSpec) = true := by kernel_rfl
theorem cl9b : (Tryz.f9.params.all (Tryz.prog.readableRec ·) && namedTie Tryz.prog Rows.drumSortsRow.named Rows.drumSortsSpec.vars) = true := by kernel_rfl
theorem cl9c : (Rows.drumSortsRow.inPlace == Tryz.prog.inPlace 9) = true := by kernel_rfl
theorem cl9d : (Rows.drumSortsRow.unfollowed == Tryz.prog.unfollowed 9) = true := by kernel_rfl
theorem cl9e : (Rows.drumSortsRow.recurses == Tryz.prog.recurses 9) = true := by kernel_rfl
theorem cl9f : (Rows.drumSortsRow.named == Tryz.prog.varsNamed 9) = true := by kernel_rfl
theorem cl9g : ((Rows.drumSortsRow.maps == (Tryz.f9.params.toList ++ Rows.drumSortsSpec.plain.varTypes Tryz.prog).any (Tryz.prog.mapsRec ·)) && (Rows.drumSortsRow.ifaces == (Tryz.f9.params.toList ++ Rows.drumSortsSpec.plain.varTypes Tryz.prog).any (Tryz.prog.ifacesRec ·)) && (Rows.drumSortsRow.mapsOut == Tryz.prog.mapsAmong Tryz.f9.resultTypes.toList) &&
      (Rows.drumSortsRow.loops == (Tryz.f9.params.toList ++ Rows.drumSortsSpec.plain.varTypes Tryz.prog).any (Tryz.prog.loopsFrom ·)) && (Rows.drumSortsRow.wideKeys == (Tryz.f9.params.toList ++ Rows.drumSortsSpec.plain.varTypes Tryz.prog ++ Tryz.f9.resultTypes.toList).any (Tryz.prog.wideKeysFrom ·))) = true := by kernel_rfl
theorem cl9h : (Rows.drumSortsSpec.vars.all (Tryz.prog.varReadable ·) && Tryz.f9.resultTypes.all (fun t => Tryz.prog.readableRec t && decide (t < Tryz.prog.types.size)) && (Rows.drumSortsRow.ifacesOut == Tryz.f9.resultTypes.toList.any (Tryz.prog.ifacesRec ·)) && (Rows.drumSortsRow.loopsOut == Tryz.f9.resultTypes.toList.any (Tryz.prog.loopsFrom ·))) = true := by kernel_rfl
theorem cl9i : ((Rows.drumSortsRow.veiled == (Tryz.f9.params.toList ++ Rows.drumSortsSpec.plain.varTypes Tryz.prog ++ Tryz.f9.resultTypes.toList).any (Tryz.prog.veiledRec ·)) && Rows.drumSortsRow.veiledFits Tryz.prog Tryz.f9.params.toList (Tryz.f9.params.toList ++ Rows.drumSortsSpec.plain.varTypes Tryz.prog ++ Tryz.f9.resultTypes.toList)) = true := by kernel_rfl
theorem joined9 : joinedFacts Tryz.prog 9 Tryz.f9 Rows.drumSortsSpec Rows.drumSortsRow = true :=
  joined_abs laidOutT pf_mapsRowed pf_stopsHeard pf_mayEnter pf_lifted pf_make pf_plainKeys pf_stops pf_knobs cl9a cl9b rfl cl9c cl9d cl9e cl9f cl9g cl9h rfl rfl rfl rfl cl9i
theorem named9 : Tryz.prog.funcNamed "nacre/nacrelaw03.DrumSorts" = some 9 := by kernel_rfl
theorem holds9 : Rows.DrumSortsSaid :=
  OpenClaim.holds_of_wide 9 Tryz.f9 rfl rfl rfl rfl rfl rfl rfl ⟨rfl, rfl, rfl, rfl, rfl⟩ rfl rfl rfl rfl rfl named9 Tryz.func9 joined9
    (of_decide_eq_true (by kernel_rfl)) (by unfold Func.isWrapper; first | (rw [if_pos (by decide +kernel)]; kernel_rfl) | (rw [if_neg (by decide +kernel)]; exact ⟨rfl, rfl⟩))
    (fun os started H enc _ => lifted9 os started H enc)
theorem text9 : Rows.drumSortsRow.wfByText (OpenSpec.ofChange Rows.drumSortsSpec) = true := by kernel_rfl
theorem goes9 : false = Rows.drumSortsRow.goesBy Tryz.prog := by kernel_rfl
theorem card9 : Rows.DrumSortsCardSaid :=
  Claim7.holds_tied_plain_at .later [] [.data, .data, .data, .data, .pinned] true (true, "762f071884d5ced12558a666d0624c047b32b12b6407ccf63fd9aae0ad2441ae") true
    holds9 (fun _ h => by cases h) text9 (fun _ h => by cases h) drumSorts_row_tie rfl ⟨rfl, rfl⟩ pf_main rfl
    (fun f fn hf hfn => by
      obtain rfl : f = 9 := Option.some.inj (named9.symm.trans hf) |>.symm
      obtain rfl : fn = Tryz.f9 := (Option.some.inj (Tryz.func9.symm.trans hfn)).symm
      exact ⟨pf_looks, fun j t ht => by
        have hm : t ∈ Tryz.f9.params.toList := by simpa using Array.mem_of_getElem? ht
        have hall : (Tryz.f9.params.toList.all fun u => !Tryz.prog.wantsStandIn u) = true := by kernel_rfl
        exact (show Tryz.prog.wantsStandIn t = false by simpa using List.all_eq_true.1 hall t hm)⟩)
    goes9
#print axioms card9
end Go.Proofs.YtmplfjolcdlipaaGreatDoor
