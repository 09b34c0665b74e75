/- DyeSpoilt: whatever the input, the statement's function returns true, and the input reads as it did: the row, and the card that ties its listed variables to the program's text. -/
import Derived.Test.YtkmclnjmabljdaaGreatDoorKNiFB
import Derived.Test.YtkmclnjmabljdaaGreatDoorKNcH
import Derived.Test.YtkmclnjmabljdaaGreatDoorKNiS
import Derived.Test.YtkmclnjmabljdaaGreatDoorTie
import Derived.Test.YtkmclnjmabljdaaGreatDoorCards
set_option linter.unusedVariables false
set_option linter.unusedSimpArgs false
namespace Go.Proofs.YtkmclnjmabljdaaGreatDoor
open Go Go.Abs Go.RowKit Go.ChangeShapes
set_option linter.unusedVariables false
set_option maxRecDepth 100000
theorem lifted26 (os : Os) (started : os.Started) (H : Type) (enc : TypeId × Value -> H) :
  ReturnsInHanded {} Tryz.checked os 26 .any (fun w args => (Rows.dyeSpoiltSpec.pre enc Tryz.prog Tryz.f26 [] false w args /\ laidMetH Tryz.prog laid5 w) /\ sizedMet enc Tryz.prog Tryz.f26 (OpenSpec.ofChange Rows.dyeSpoiltSpec) false w args)
   (Rows.dyeSpoiltSpec.post enc Tryz.prog Tryz.f26 false true false false):= by
 refine law_lifted (fn := Tryz.f26) os started enc (by kernel_rfl) Tryz.func26 rfl rfl ?_ #[.agg #[.slice none 0 0],.slice none 0 0,.int .i64 0,.int .i64 0] (by kernel_rfl) (by kernel_rfl) (by kernel_rfl) ?_
 ·have : (Tryz.f26.params.toList.all fun t => Tryz.prog.readableRec t && decide (t < Tryz.prog.types.size)) = true := by kernel_rfl
  intro t ht
  have := List.all_eq_true.1 this t ht
  simpa using this
 ·intro W base args ds p hval hA
  have hA' : DataW.TrodAll enc Tryz.prog W 0 (fun _ => true) true [24,59,3,3] args.toList ds p := hA
  obtain ⟨vs,hvs⟩ : ∃ vs,args.toList = vs := ⟨_,rfl⟩
  rw [hvs] at hA'
  obtain ⟨v0,r0,d0,e0,p0,q0,rfl,rfl,rfl,h0,hA'⟩ := Go.Abs.trodAll_cons hA'
  obtain ⟨v1,r1,d1,e1,p1,q1,rfl,rfl,rfl,h1,hA'⟩ := Go.Abs.trodAll_cons hA'
  obtain ⟨v2,r2,d2,e2,p2,q2,rfl,rfl,rfl,h2,hA'⟩ := Go.Abs.trodAll_cons hA'
  obtain ⟨v3,r3,d3,e3,p3,q3,rfl,rfl,rfl,h3,hA'⟩ := Go.Abs.trodAll_cons hA'
  obtain ⟨rfl,rfl,rfl⟩ := Go.Abs.trodAll_nil hA'
  have hargs : args = #[v0,v1,v2,v3] := Array.ext' hvs
  subst hargs
  refine ⟨rfl,?_⟩
  have g0 : Value.okWide Tryz.prog W .any base 24 v0 := hval 0 24 v0 rfl rfl
  obtain ⟨c0,rfl⟩ := agg_of_struct (fs := Tryz.prog.fieldsOf 24) (by kernel_rfl) g0
  obtain ⟨x0,y0⟩ := rd24.argS h0
  have g1 : Value.okWide Tryz.prog W .any base 59 v1 := hval 1 59 v1 rfl rfl
  obtain ⟨x1,z1,hz1,y1⟩ := rd59.arg (cells_slice (el := 95) (by kernel_rfl) g1) (fun x => ⟨_,rfl⟩) h1
  cases hz1
  have g2 : Value.okWide Tryz.prog W .any base 3 v2 := hval 2 3 v2 rfl rfl
  obtain ⟨x2,z2,hz2,y2⟩ := rd3.arg (cells_int (k := .i64) (by kernel_rfl) g2) (fun x => ⟨_,rfl⟩) h2
  cases hz2
  have g3 : Value.okWide Tryz.prog W .any base 3 v3 := hval 3 3 v3 rfl rfl
  obtain ⟨x3,z3,hz3,y3⟩ := rd3.arg (cells_int (k := .i64) (by kernel_rfl) g3) (fun x => ⟨_,rfl⟩) h3
  cases hz3
  exact ⟨_,repL_arr (repL_cons y0 (repL_cons y1 (repL_cons y2 (repL_cons y3 repL_nil)))),f26 x0 x1 x2 x3⟩
theorem cl26a : Rows.dyeSpoiltRow.wf (OpenSpec.ofChange Rows.dyeSpoiltSpec) = true := by kernel_rfl
theorem cl26b : (Tryz.f26.params.all (Tryz.prog.readableRec ·) && namedTie Tryz.prog Rows.dyeSpoiltRow.named Rows.dyeSpoiltSpec.vars) = true := by kernel_rfl
theorem cl26c : (Rows.dyeSpoiltRow.inPlace == Tryz.prog.inPlace 26) = true := by kernel_rfl
theorem cl26d : (Rows.dyeSpoiltRow.unfollowed == Tryz.prog.unfollowed 26) = true := by kernel_rfl
theorem cl26e : (Rows.dyeSpoiltRow.recurses == Tryz.prog.recurses 26) = true := by kernel_rfl
theorem cl26f : (Rows.dyeSpoiltRow.named == Tryz.prog.varsNamed 26) = true := by kernel_rfl
theorem cl26g : ((Rows.dyeSpoiltRow.maps == (Tryz.f26.params.toList ++ Rows.dyeSpoiltSpec.plain.varTypes Tryz.prog).any (Tryz.prog.mapsRec ·)) && (Rows.dyeSpoiltRow.ifaces == (Tryz.f26.params.toList ++ Rows.dyeSpoiltSpec.plain.varTypes Tryz.prog).any (Tryz.prog.ifacesRec ·)) && (Rows.dyeSpoiltRow.mapsOut == Tryz.prog.mapsAmong Tryz.f26.resultTypes.toList) &&
   (Rows.dyeSpoiltRow.loops == (Tryz.f26.params.toList ++ Rows.dyeSpoiltSpec.plain.varTypes Tryz.prog).any (Tryz.prog.loopsFrom ·)) && (Rows.dyeSpoiltRow.wideKeys == (Tryz.f26.params.toList ++ Rows.dyeSpoiltSpec.plain.varTypes Tryz.prog ++ Tryz.f26.resultTypes.toList).any (Tryz.prog.wideKeysFrom ·))) = true := by kernel_rfl
theorem cl26h : (Rows.dyeSpoiltSpec.vars.all (Tryz.prog.varReadable ·) && Tryz.f26.resultTypes.all (fun t => Tryz.prog.readableRec t && decide (t < Tryz.prog.types.size)) && (Rows.dyeSpoiltRow.ifacesOut == Tryz.f26.resultTypes.toList.any (Tryz.prog.ifacesRec ·)) && (Rows.dyeSpoiltRow.loopsOut == Tryz.f26.resultTypes.toList.any (Tryz.prog.loopsFrom ·))) = true := by kernel_rfl
theorem cl26i : ((Rows.dyeSpoiltRow.veiled == (Tryz.f26.params.toList ++ Rows.dyeSpoiltSpec.plain.varTypes Tryz.prog ++ Tryz.f26.resultTypes.toList).any (Tryz.prog.veiledRec ·)) && Rows.dyeSpoiltRow.veiledFits Tryz.prog Tryz.f26.params.toList (Tryz.f26.params.toList ++ Rows.dyeSpoiltSpec.plain.varTypes Tryz.prog ++ Tryz.f26.resultTypes.toList)) = true := by kernel_rfl
theorem joined26 : joinedFacts Tryz.prog 26 Tryz.f26 Rows.dyeSpoiltSpec Rows.dyeSpoiltRow = true :=
 joined_abs laidOutT pf_mapsRowed pf_stopsHeard pf_mayEnter pf_lifted pf_make pf_plainKeys pf_stops pf_knobs cl26a cl26b rfl cl26c cl26d cl26e cl26f cl26g cl26h rfl rfl rfl rfl cl26i
theorem named26 : Tryz.prog.funcNamed "nacre/nacrelaw04.DyeSpoilt" = some 26 := by kernel_rfl
theorem holds26 : Rows.DyeSpoiltSaid :=
 OpenClaim.holds_of_wide 26 Tryz.f26 rfl rfl rfl rfl rfl rfl rfl ⟨rfl,rfl,rfl,rfl,rfl⟩ rfl rfl rfl rfl rfl named26 Tryz.func26 joined26
  (of_decide_eq_true (by kernel_rfl)) (by unfold Func.isWrapper; first | (rw [if_pos (by decide +kernel)]; kernel_rfl) | (rw [if_neg (by decide +kernel)]; exact ⟨rfl,rfl⟩))
  (fun os started H enc _ => lifted26 os started H enc)
theorem text26 : Rows.dyeSpoiltRow.wfByText (OpenSpec.ofChange Rows.dyeSpoiltSpec) = true := by kernel_rfl
theorem goes26 : false = Rows.dyeSpoiltRow.goesBy Tryz.prog := by kernel_rfl
theorem card26 : Rows.DyeSpoiltCardSaid :=
 Claim7.holds_tied_plain_at .later [] [.data, .data, .data, .data, .pinned] true (true, "2d786f4c48be527342a5a148c4ad2cb82cdd4fa7b6be3b273fbea74be73c3c94") true
  holds26 (fun _ h => by cases h) text26 (fun _ h => by cases h) dyeSpoilt_row_tie rfl ⟨rfl,rfl⟩ pf_main rfl
  (fun f fn hf hfn => by
   obtain rfl : f = 26 := Option.some.inj (named26.symm.trans hf) |>.symm
   obtain rfl : fn = Tryz.f26 := (Option.some.inj (Tryz.func26.symm.trans hfn)).symm
   exact ⟨pf_looks,fun j t ht => by
    have hm : t ∈ Tryz.f26.params.toList := by simpa using Array.mem_of_getElem? ht
    have hall : (Tryz.f26.params.toList.all fun u => !Tryz.prog.wantsStandIn u) = true := by kernel_rfl
    exact (show Tryz.prog.wantsStandIn t = false by simpa using List.all_eq_true.1 hall t hm)⟩)
  goes26
#print axioms card26
end Go.Proofs.YtkmclnjmabljdaaGreatDoor
