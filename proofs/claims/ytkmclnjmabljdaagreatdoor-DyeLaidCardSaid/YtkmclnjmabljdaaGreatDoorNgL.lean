/- DyeLaid: whatever the input, the statement's function returns true, and the input reads as it did: the row, and the card that ties its listed variables to the program's text. -/
import Derived.Test.YtkmclnjmabljdaaGreatDoorNfB
import Derived.Test.YtkmclnjmabljdaaGreatDoorNfC
import Derived.Test.YtkmclnjmabljdaaGreatDoorNcH
import Derived.Test.YtkmclnjmabljdaaGreatDoorNhS
import Derived.Test.YtkmclnjmabljdaaGreatDoorTie
import Derived.Test.YtkmclnjmabljdaaGreatDoorCards
set_option linter.unusedVariables false
set_option linter.unusedSimpArgs false
namespace Go.Proofs.YtkmclnjmabljdaaGreatDoor
open Go Go.Abs Go.RowKit Go.ChangeShapes
set_option linter.unusedVariables false
set_option maxRecDepth 100000

theorem lifted7 (os : Os) (started : os.Started) (H : Type) (enc : TypeId × Value → H) :
    ReturnsInHanded {} Tryz.checked os 7 .any (fun w args => (Rows.dyeLaidSpec.pre enc Tryz.prog Tryz.f7 [] false w args ∧ laidMetH Tryz.prog laid3 w) ∧ sizedMet enc Tryz.prog Tryz.f7 (OpenSpec.ofChange Rows.dyeLaidSpec) false w args)
      (Rows.dyeLaidSpec.post enc Tryz.prog Tryz.f7 false true false false) := by
  refine law_lifted (fn := Tryz.f7) os started enc (by kernel_rfl) Tryz.func7 rfl rfl ?_ #[.agg #[.int .i64 0, .int .i64 0, .int .i64 0, .slice none 0 0], .slice none 0 0, .int .i64 0] (by kernel_rfl) (by kernel_rfl) (by kernel_rfl) ?_
  · have : (Tryz.f7.params.toList.all fun t => Tryz.prog.readableRec t && decide (t < Tryz.prog.types.size)) = true := by kernel_rfl
    intro t ht
    have := List.all_eq_true.1 this t ht
    simpa using this
  · intro W base args ds p hval hA
    have hA' : DataW.TrodAll enc Tryz.prog W 0 (fun _ => true) true [67, 47, 3] args.toList ds p := hA
    obtain ⟨vs, hvs⟩ : ∃ vs, args.toList = vs := ⟨_, rfl⟩
    rw [hvs] at hA'
    obtain ⟨v0, r0, d0, e0, p0, q0, rfl, rfl, rfl, h0, hA'⟩ := Go.Abs.trodAll_cons hA'
    obtain ⟨v1, r1, d1, e1, p1, q1, rfl, rfl, rfl, h1, hA'⟩ := Go.Abs.trodAll_cons hA'
    obtain ⟨v2, r2, d2, e2, p2, q2, rfl, rfl, rfl, h2, hA'⟩ := Go.Abs.trodAll_cons hA'
    obtain ⟨rfl, rfl, rfl⟩ := Go.Abs.trodAll_nil hA'
    have hargs : args = #[v0, v1, v2] := Array.ext' hvs
    subst hargs
    refine ⟨rfl, ?_⟩
    have g0 : Value.okWide Tryz.prog W .any base 67 v0 := hval 0 67 v0 rfl rfl
    obtain ⟨c0, rfl⟩ := agg_of_struct (fs := Tryz.prog.fieldsOf 67) (by kernel_rfl) g0
    obtain ⟨x0, y0⟩ := rd67.argS h0
    have g1 : Value.okWide Tryz.prog W .any base 47 v1 := hval 1 47 v1 rfl rfl
    obtain ⟨x1, z1, hz1, y1⟩ := rd47.arg (cells_slice (el := 3) (by kernel_rfl) g1) (fun x => ⟨_, rfl⟩) h1
    cases hz1
    have g2 : Value.okWide Tryz.prog W .any base 3 v2 := hval 2 3 v2 rfl rfl
    obtain ⟨x2, z2, hz2, y2⟩ := rd3.arg (cells_int (k := .i64) (by kernel_rfl) g2) (fun x => ⟨_, rfl⟩) h2
    cases hz2
    exact ⟨_, repL_arr (repL_cons y0 (repL_cons y1 (repL_cons y2 repL_nil))), f7 x0 x1 x2⟩
theorem cl7a : Rows.dyeLaidRow.wf (OpenSpec.ofChange Rows.dyeLaidSpec) = true := by kernel_rfl
theorem cl7b : (Tryz.f7.params.all (Tryz.prog.readableRec ·) && namedTie Tryz.prog Rows.dyeLaidRow.named Rows.dyeLaidSpec.vars) = true := by kernel_rfl
theorem cl7c : (Rows.dyeLaidRow.inPlace == Tryz.prog.inPlace 7) = true := by kernel_rfl
theorem cl7d : (Rows.dyeLaidRow.unfollowed == Tryz.prog.unfollowed 7) = true := by kernel_rfl
theorem cl7e : (Rows.dyeLaidRow.recurses == Tryz.prog.recurses 7) = true := by kernel_rfl
theorem cl7f : (Rows.dyeLaidRow.named == Tryz.prog.varsNamed 7) = true := by kernel_rfl
theorem cl7g : ((Rows.dyeLaidRow.maps == (Tryz.f7.params.toList ++ Rows.dyeLaidSpec.plain.varTypes Tryz.prog).any (Tryz.prog.mapsRec ·)) && (Rows.dyeLaidRow.ifaces == (Tryz.f7.params.toList ++ Rows.dyeLaidSpec.plain.varTypes Tryz.prog).any (Tryz.prog.ifacesRec ·)) && (Rows.dyeLaidRow.mapsOut == Tryz.prog.mapsAmong Tryz.f7.resultTypes.toList) &&
      (Rows.dyeLaidRow.loops == (Tryz.f7.params.toList ++ Rows.dyeLaidSpec.plain.varTypes Tryz.prog).any (Tryz.prog.loopsFrom ·)) && (Rows.dyeLaidRow.wideKeys == (Tryz.f7.params.toList ++ Rows.dyeLaidSpec.plain.varTypes Tryz.prog ++ Tryz.f7.resultTypes.toList).any (Tryz.prog.wideKeysFrom ·))) = true := by kernel_rfl
theorem cl7h : (Rows.dyeLaidSpec.vars.all (Tryz.prog.varReadable ·) && Tryz.f7.resultTypes.all (fun t => Tryz.prog.readableRec t && decide (t < Tryz.prog.types.size)) && (Rows.dyeLaidRow.ifacesOut == Tryz.f7.resultTypes.toList.any (Tryz.prog.ifacesRec ·)) && (Rows.dyeLaidRow.loopsOut == Tryz.f7.resultTypes.toList.any (Tryz.prog.loopsFrom ·))) = true := by kernel_rfl
theorem cl7i : ((Rows.dyeLaidRow.veiled == (Tryz.f7.params.toList ++ Rows.dyeLaidSpec.plain.varTypes Tryz.prog ++ Tryz.f7.resultTypes.toList).any (Tryz.prog.veiledRec ·)) && Rows.dyeLaidRow.veiledFits Tryz.prog Tryz.f7.params.toList (Tryz.f7.params.toList ++ Rows.dyeLaidSpec.plain.varTypes Tryz.prog ++ Tryz.f7.resultTypes.toList)) = true := by kernel_rfl
theorem joined7 : joinedFacts Tryz.prog 7 Tryz.f7 Rows.dyeLaidSpec Rows.dyeLaidRow = true :=
  joined_abs laidOutT pf_mapsRowed pf_stopsHeard pf_mayEnter pf_lifted pf_make pf_plainKeys pf_stops pf_knobs cl7a cl7b rfl cl7c cl7d cl7e cl7f cl7g cl7h rfl rfl rfl rfl cl7i
theorem named7 : Tryz.prog.funcNamed "nacre/nacrelaw04.DyeLaid" = some 7 := by kernel_rfl
theorem holds7 : Rows.DyeLaidSaid :=
  OpenClaim.holds_of_wide 7 Tryz.f7 rfl rfl rfl rfl rfl rfl rfl ⟨rfl, rfl, rfl, rfl, rfl⟩ rfl rfl rfl rfl rfl named7 Tryz.func7 joined7
    (of_decide_eq_true (by kernel_rfl)) (by unfold Func.isWrapper; first | (rw [if_pos (by decide +kernel)]; kernel_rfl) | (rw [if_neg (by decide +kernel)]; exact ⟨rfl, rfl⟩))
    (fun os started H enc _ => lifted7 os started H enc)
theorem text7 : Rows.dyeLaidRow.wfByText (OpenSpec.ofChange Rows.dyeLaidSpec) = true := by kernel_rfl
theorem goes7 : false = Rows.dyeLaidRow.goesBy Tryz.prog := by kernel_rfl
theorem card7 : Rows.DyeLaidCardSaid :=
  Claim7.holds_tied_plain_at .later [] [.data, .data, .data] true (true, "2d786f4c48be527342a5a148c4ad2cb82cdd4fa7b6be3b273fbea74be73c3c94") true
    holds7 (fun _ h => by cases h) text7 (fun _ h => by cases h) dyeLaid_row_tie rfl ⟨rfl, rfl⟩ pf_main rfl
    (fun f fn hf hfn => by
      obtain rfl : f = 7 := Option.some.inj (named7.symm.trans hf) |>.symm
      obtain rfl : fn = Tryz.f7 := (Option.some.inj (Tryz.func7.symm.trans hfn)).symm
      exact ⟨pf_looks, fun j t ht => by
        have hm : t ∈ Tryz.f7.params.toList := by simpa using Array.mem_of_getElem? ht
        have hall : (Tryz.f7.params.toList.all fun u => !Tryz.prog.wantsStandIn u) = true := by kernel_rfl
        exact (show Tryz.prog.wantsStandIn t = false by simpa using List.all_eq_true.1 hall t hm)⟩)
    goes7
#print axioms card7
end Go.Proofs.YtkmclnjmabljdaaGreatDoor

