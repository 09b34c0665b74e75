/- DrumSure: whatever the input, the statement's function returns true, and the input reads as it did: the row, and the card that ties its listed variables to the program's text. -/
import Derived.Test.YtmplfjolcdlipaaGreatDoorDrFB
import Derived.Test.YtmplfjolcdlipaaGreatDoorNcH
import Derived.Test.YtmplfjolcdlipaaGreatDoorDrDKbQ19
import Derived.Test.YtmplfjolcdlipaaGreatDoorTie
import Derived.Test.YtmplfjolcdlipaaGreatDoorCards
import Derived.Test.YtmplfjolcdlipaaGreatDoorXQ19
set_option linter.unusedVariables false
set_option linter.unusedSimpArgs false
namespace Go.Proofs.YtmplfjolcdlipaaGreatDoor
open Go Go.Abs Go.RowKit Go.ChangeShapes
set_option linter.unusedVariables false
set_option maxRecDepth 100000
theorem lifted19 (os : Os) (started : os.Started) (H : Type) (enc : TypeId × Value → H) :
    ReturnsInHanded {} Tryz.checked os 19 .any (fun w args => (Rows.drumSureSpec.pre enc Tryz.prog Tryz.f19 [] false w args ∧ laidMetH Tryz.prog laid5 w) ∧ sizedMet enc Tryz.prog Tryz.f19 (OpenSpec.ofChange Rows.drumSureSpec) false w args)
      (Rows.drumSureSpec.post enc Tryz.prog Tryz.f19 false true false false) := by
  refine law_lifted (fn := Tryz.f19) os started enc (by kernel_rfl) Tryz.func19 rfl rfl ?_ #[.agg #[.slice none 0 0, .int .i64 0, .int .i64 0, .slice none 0 0, .slice none 0 0, .slice none 0 0], .agg #[.int .i64 0, .slice none 0 0], .int .i64 0, .int .i64 0] (by kernel_rfl) (by kernel_rfl) (by kernel_rfl) ?_
  · have : (Tryz.f19.params.toList.all fun t => Tryz.prog.readableRec t && decide (t < Tryz.prog.types.size)) = true := by kernel_rfl
    intro t ht
    have := List.all_eq_true.1 this t ht
    simpa using this
  · intro W base args ds p hval hA
    have hA' : DataW.TrodAll enc Tryz.prog W 0 (fun _ => true) true [27, 80, 3, 3] args.toList ds p := hA
    obtain ⟨vs, hvs⟩ : ∃ vs, args.toList = vs := ⟨_, rfl⟩
    rw [hvs] at hA'
    obtain ⟨v0, r0, d0, e0, p0, q0, rfl, rfl, rfl, h0, hA'⟩ := Go.Abs.trodAll_cons hA'
    obtain ⟨v1, r1, d1, e1, p1, q1, rfl, rfl, rfl, h1, hA'⟩ := Go.Abs.trodAll_cons hA'
    obtain ⟨v2, r2, d2, e2, p2, q2, rfl, rfl, rfl, h2, hA'⟩ := Go.Abs.trodAll_cons hA'
    obtain ⟨v3, r3, d3, e3, p3, q3, rfl, rfl, rfl, h3, hA'⟩ := Go.Abs.trodAll_cons hA'
    obtain ⟨rfl, rfl, rfl⟩ := Go.Abs.trodAll_nil hA'
    have hargs : args = #[v0, v1, v2, v3] := Array.ext' hvs
    subst hargs
    refine ⟨rfl, ?_⟩
    have g0 : Value.okWide Tryz.prog W .any base 27 v0 := hval 0 27 v0 rfl rfl
    obtain ⟨c0, rfl⟩ := agg_of_struct (fs := Tryz.prog.fieldsOf 27) (by kernel_rfl) g0
    obtain ⟨x0, y0⟩ := rd27.argS h0
    have g1 : Value.okWide Tryz.prog W .any base 80 v1 := hval 1 80 v1 rfl rfl
    obtain ⟨c1, rfl⟩ := agg_of_struct (fs := Tryz.prog.fieldsOf 80) (by kernel_rfl) g1
    obtain ⟨x1, y1⟩ := rd80.argS h1
    have g2 : Value.okWide Tryz.prog W .any base 3 v2 := hval 2 3 v2 rfl rfl
    obtain ⟨x2, z2, hz2, y2⟩ := rd3.arg (cells_int (k := .i64) (by kernel_rfl) g2) (fun x => ⟨_, rfl⟩) h2
    cases hz2
    have g3 : Value.okWide Tryz.prog W .any base 3 v3 := hval 3 3 v3 rfl rfl
    obtain ⟨x3, z3, hz3, y3⟩ := rd3.arg (cells_int (k := .i64) (by kernel_rfl) g3) (fun x => ⟨_, rfl⟩) h3
    cases hz3
    exact ⟨_, repL_arr (repL_cons y0 (repL_cons y1 (repL_cons y2 (repL_cons y3 repL_nil)))), f19 x0 x1.1 x1.2 x2 x3⟩
theorem cl19a : Rows.drumSureRow.wf (OpenSpec.ofChange Rows.drumSureSpec) = true := by kernel_rfl
theorem cl19b : (Tryz.f19.params.all (Tryz.prog.readableRec ·) && namedTie Tryz.prog Rows.drumSureRow.named Rows.drumSureSpec.vars) = true := by kernel_rfl
theorem cl19c : (Rows.drumSureRow.inPlace == Tryz.prog.inPlace 19) = true := by kernel_rfl
theorem cl19d : (Rows.drumSureRow.unfollowed == Tryz.prog.unfollowed 19) = true := by kernel_rfl
theorem cl19e : (Rows.drumSureRow.recurses == Tryz.prog.recurses 19) = true := by kernel_rfl
theorem cl19f : (Rows.drumSureRow.named == Tryz.prog.varsNamed 19) = true := by kernel_rfl
theorem cl19g : ((Rows.drumSureRow.maps == (Tryz.f19.params.toList ++ Rows.drumSureSpec.plain.varTypes Tryz.prog).any (Tryz.prog.mapsRec ·)) && (Rows.drumSureRow.ifaces == (Tryz.f19.params.toList ++ Rows.drumSureSpec.plain.varTypes Tryz.prog).any (Tryz.prog.ifacesRec ·)) && (Rows.drumSureRow.mapsOut == Tryz.prog.mapsAmong Tryz.f19.resultTypes.toList) &&
      (Rows.drumSureRow.loops == (Tryz.f19.params.toList ++ Rows.drumSureSpec.plain.varTypes Tryz.prog).any (Tryz.prog.loopsFrom ·)) && (Rows.drumSureRow.wideKeys == (Tryz.f19.params.toList ++ Rows.drumSureSpec.plain.varTypes Tryz.prog ++ Tryz.f19.resultTypes.toList).any (Tryz.prog.wideKeysFrom ·))) = true := by kernel_rfl
theorem cl19h : (Rows.drumSureSpec.vars.all (Tryz.prog.varReadable ·) && Tryz.f19.resultTypes.all (fun t => Tryz.prog.readableRec t && decide (t < Tryz.prog.types.size)) && (Rows.drumSureRow.ifacesOut == Tryz.f19.resultTypes.toList.any (Tryz.prog.ifacesRec ·)) && (Rows.drumSureRow.loopsOut == Tryz.f19.resultTypes.toList.any (Tryz.prog.loopsFrom ·))) = true := by kernel_rfl
theorem cl19i : ((Rows.drumSureRow.veiled == (Tryz.f19.params.toList ++ Rows.drumSureSpec.plain.varTypes Tryz.prog ++ Tryz.f19.resultTypes.toList).any (Tryz.prog.veiledRec ·)) && Rows.drumSureRow.veiledFits Tryz.prog Tryz.f19.params.toList (Tryz.f19.params.toList ++ Rows.drumSureSpec.plain.varTypes Tryz.prog ++ Tryz.f19.resultTypes.toList)) = true := by kernel_rfl
theorem joined19 : joinedFacts Tryz.prog 19 Tryz.f19 Rows.drumSureSpec Rows.drumSureRow = true :=
  joined_abs laidOutT pf_mapsRowed pf_stopsHeard pf_mayEnter pf_lifted pf_make pf_plainKeys pf_stops pf_knobs cl19a cl19b rfl cl19c cl19d cl19e cl19f cl19g cl19h rfl rfl rfl rfl cl19i
theorem named19 : Tryz.prog.funcNamed "nacre/nacrelaw03.DrumSure" = some 19 := by kernel_rfl
theorem holds19 : Rows.DrumSureSaid :=
  OpenClaim.holds_of_wide 19 Tryz.f19 rfl rfl rfl rfl rfl rfl rfl ⟨rfl, rfl, rfl, rfl, rfl⟩ rfl rfl rfl rfl rfl named19 Tryz.func19 joined19
    (of_decide_eq_true (by kernel_rfl)) (by unfold Func.isWrapper; first | (rw [if_pos (by decide +kernel)]; kernel_rfl) | (rw [if_neg (by decide +kernel)]; exact ⟨rfl, rfl⟩))
    (fun os started H enc _ => lifted19 os started H enc)
theorem text19 : Rows.drumSureRow.wfByText (OpenSpec.ofChange Rows.drumSureSpec) = true := by kernel_rfl
theorem goes19 : false = Rows.drumSureRow.goesBy Tryz.prog := by kernel_rfl
theorem card19 : Rows.DrumSureCardSaid :=
  Claim7.holds_tied_plain_at .later [] [.data, .data, .data, .data, .pinned] true (true, "762f071884d5ced12558a666d0624c047b32b12b6407ccf63fd9aae0ad2441ae") true
    holds19 (fun _ h => by cases h) text19 (fun _ h => by cases h) drumSure_row_tie rfl ⟨rfl, rfl⟩ pf_main rfl
    (fun f fn hf hfn => by
      obtain rfl : f = 19 := Option.some.inj (named19.symm.trans hf) |>.symm
      obtain rfl : fn = Tryz.f19 := (Option.some.inj (Tryz.func19.symm.trans hfn)).symm
      exact ⟨pf_looks, fun j t ht => by
        have hm : t ∈ Tryz.f19.params.toList := by simpa using Array.mem_of_getElem? ht
        have hall : (Tryz.f19.params.toList.all fun u => !Tryz.prog.wantsStandIn u) = true := by kernel_rfl
        exact (show Tryz.prog.wantsStandIn t = false by simpa using List.all_eq_true.1 hall t hm)⟩)
    goes19
#print axioms card19
end Go.Proofs.YtmplfjolcdlipaaGreatDoor
