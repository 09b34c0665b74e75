/- TopSmooth: whatever the input, the statement's function returns true, and the input reads as it did. -/
import Derived.Test.YtpoaccdbakbjhaaGreatXG18
import Derived.Test.YtpoaccdbakbjhaaGreatXG51
set_option linter.unusedVariables false
set_option linter.unusedSimpArgs false
namespace Go.Proofs.YtpoaccdbakbjhaaGreat
open Go Go.Abs Go.RowKit Go.ChangeShapes
set_option maxRecDepth 100000
theorem lifted3 (os:Os) (started:os.Started) (H:Type) (enc:TypeId × Value -> H) :
  ReturnsInHanded {} Tryz.checked os 3 .any (Rows.topSmoothSpec.pre6 enc Tryz.prog Tryz.f3 [] false) (Rows.topSmoothSpec.post enc Tryz.prog Tryz.f3 false true false false):= by
 refine law_lifted (fn:=Tryz.f3) os started enc (by kernel_rfl) Tryz.func3 rfl rfl ?_ #[.agg #[.slice none 0 0,.int .i64 0,.int .i64 0,.slice none 0 0,.slice none 0 0,.slice none 0 0,.slice none 0 0,.int .i64 0],.slice none 0 0,.int .i64 0,.agg #[.slice none 0 0,.int .i64 0,.int .i64 0,.slice none 0 0,.slice none 0 0,.slice none 0 0],.agg #[.int .i64 0,.slice none 0 0],.int .i64 0,.int .i64 0] (by kernel_rfl) (by kernel_rfl) (by kernel_rfl) (by kernel_rfl) (by kernel_rfl) ?_
 ·have:(Tryz.f3.params.toList.all fun t=>Tryz.prog.readableRec t && decide (t < Tryz.prog.types.size)) = true:=by kernel_rfl
  intro t ht
  have:=List.all_eq_true.1 this t ht
  simpa using this
 ·intro W base args ds p hval hA
  have hA':DataW.TrodAll enc Tryz.prog W 0 (fun _=>true) true [30,31,3,37,39,3,3] args.toList ds p:=hA
  obtain ⟨vs,hvs⟩:∃ vs,args.toList = vs:=⟨_,rfl⟩
  rw [hvs] at hA'
  obtain ⟨v0,r0,d0,e0,p0,q0,rfl,rfl,rfl,h0,hA'⟩:=Go.Abs.trodAll_cons hA'
  obtain ⟨v1,r1,d1,e1,p1,q1,rfl,rfl,rfl,h1,hA'⟩:=Go.Abs.trodAll_cons hA'
  obtain ⟨v2,r2,d2,e2,p2,q2,rfl,rfl,rfl,h2,hA'⟩:=Go.Abs.trodAll_cons hA'
  obtain ⟨v3,r3,d3,e3,p3,q3,rfl,rfl,rfl,h3,hA'⟩:=Go.Abs.trodAll_cons hA'
  obtain ⟨v4,r4,d4,e4,p4,q4,rfl,rfl,rfl,h4,hA'⟩:=Go.Abs.trodAll_cons hA'
  obtain ⟨v5,r5,d5,e5,p5,q5,rfl,rfl,rfl,h5,hA'⟩:=Go.Abs.trodAll_cons hA'
  obtain ⟨v6,r6,d6,e6,p6,q6,rfl,rfl,rfl,h6,hA'⟩:=Go.Abs.trodAll_cons hA'
  obtain ⟨rfl,rfl,rfl⟩:=Go.Abs.trodAll_nil hA'
  have hargs:args = #[v0,v1,v2,v3,v4,v5,v6]:=Array.ext' hvs
  subst hargs
  refine ⟨rfl,?_⟩
  have g0:Value.okWide Tryz.prog W .any base 30 v0:=hval 0 30 v0 rfl rfl
  obtain ⟨c0,rfl⟩:=agg_of_struct (fs:=Tryz.prog.fieldsOf 30) (by kernel_rfl) g0
  obtain ⟨x0,y0⟩:=rd30.argS h0
  have g1:Value.okWide Tryz.prog W .any base 31 v1:=hval 1 31 v1 rfl rfl
  obtain ⟨x1,z1,hz1,y1⟩:=rd31.arg (cells_slice (el:=33) (by kernel_rfl) g1) (fun x=>⟨_,rfl⟩) h1
  cases hz1
  have g2:Value.okWide Tryz.prog W .any base 3 v2:=hval 2 3 v2 rfl rfl
  obtain ⟨x2,z2,hz2,y2⟩:=rd3.arg (cells_int (k:=.i64) (by kernel_rfl) g2) (fun x=>⟨_,rfl⟩) h2
  cases hz2
  have g3:Value.okWide Tryz.prog W .any base 37 v3:=hval 3 37 v3 rfl rfl
  obtain ⟨c3,rfl⟩:=agg_of_struct (fs:=Tryz.prog.fieldsOf 37) (by kernel_rfl) g3
  obtain ⟨x3,y3⟩:=rd37.argS h3
  have g4:Value.okWide Tryz.prog W .any base 39 v4:=hval 4 39 v4 rfl rfl
  obtain ⟨c4,rfl⟩:=agg_of_struct (fs:=Tryz.prog.fieldsOf 39) (by kernel_rfl) g4
  obtain ⟨x4,y4⟩:=rd39.argS h4
  have g5:Value.okWide Tryz.prog W .any base 3 v5:=hval 5 3 v5 rfl rfl
  obtain ⟨x5,z5,hz5,y5⟩:=rd3.arg (cells_int (k:=.i64) (by kernel_rfl) g5) (fun x=>⟨_,rfl⟩) h5
  cases hz5
  have g6:Value.okWide Tryz.prog W .any base 3 v6:=hval 6 3 v6 rfl rfl
  obtain ⟨x6,z6,hz6,y6⟩:=rd3.arg (cells_int (k:=.i64) (by kernel_rfl) g6) (fun x=>⟨_,rfl⟩) h6
  cases hz6
  exact ⟨_,repL_arr (repL_cons y0 (repL_cons y1 (repL_cons y2 (repL_cons y3 (repL_cons y4 (repL_cons y5 (repL_cons y6 repL_nil))))))),t3 x0 x1 x2 x3 x4.1 x4.2 x5 x6⟩
theorem cl3a:Rows.topSmoothRow.wf (OpenSpec.ofChange Rows.topSmoothSpec) = true:=by kernel_rfl
theorem cl3b:(Tryz.f3.params.all (Tryz.prog.readableRec ·) && namedTie Tryz.prog Rows.topSmoothRow.named Rows.topSmoothSpec.vars) = true:=by kernel_rfl
theorem cl3c:(Rows.topSmoothRow.inPlace == Tryz.prog.inPlace 3) = true:=by kernel_rfl
theorem cl3d:(Rows.topSmoothRow.unfollowed == Tryz.prog.unfollowed 3) = true:=by kernel_rfl
theorem cl3e:(Rows.topSmoothRow.recurses == Tryz.prog.recurses 3) = true:=by kernel_rfl
theorem cl3f:(Rows.topSmoothRow.named == Tryz.prog.varsNamed 3) = true:=by kernel_rfl
theorem cl3g:((Rows.topSmoothRow.maps == (Tryz.f3.params.toList ++ Rows.topSmoothSpec.plain.varTypes Tryz.prog).any (Tryz.prog.mapsRec ·)) && (Rows.topSmoothRow.ifaces == (Tryz.f3.params.toList ++ Rows.topSmoothSpec.plain.varTypes Tryz.prog).any (Tryz.prog.ifacesRec ·)) && (Rows.topSmoothRow.mapsOut == Tryz.prog.mapsAmong Tryz.f3.resultTypes.toList) &&
   (Rows.topSmoothRow.loops == (Tryz.f3.params.toList ++ Rows.topSmoothSpec.plain.varTypes Tryz.prog).any (Tryz.prog.loopsFrom ·)) && (Rows.topSmoothRow.wideKeys == (Tryz.f3.params.toList ++ Rows.topSmoothSpec.plain.varTypes Tryz.prog ++ Tryz.f3.resultTypes.toList).any (Tryz.prog.wideKeysFrom ·))) = true:=by kernel_rfl
theorem cl3h:(Rows.topSmoothSpec.vars.all (Tryz.prog.varReadable ·) && Tryz.f3.resultTypes.all (fun t=>Tryz.prog.readableRec t && decide (t < Tryz.prog.types.size)) && (Rows.topSmoothRow.ifacesOut == Tryz.f3.resultTypes.toList.any (Tryz.prog.ifacesRec ·)) && (Rows.topSmoothRow.loopsOut == Tryz.f3.resultTypes.toList.any (Tryz.prog.loopsFrom ·))) = true:=by kernel_rfl
theorem cl3i:((Rows.topSmoothRow.veiled == (Tryz.f3.params.toList ++ Rows.topSmoothSpec.plain.varTypes Tryz.prog ++ Tryz.f3.resultTypes.toList).any (Tryz.prog.veiledRec ·)) && Rows.topSmoothRow.veiledFits Tryz.prog Tryz.f3.params.toList (Tryz.f3.params.toList ++ Rows.topSmoothSpec.plain.varTypes Tryz.prog ++ Tryz.f3.resultTypes.toList)) = true:=by kernel_rfl
theorem joined3:joinedFacts Tryz.prog 3 Tryz.f3 Rows.topSmoothSpec Rows.topSmoothRow = true :=
 joined_abs laidOutT pf_mapsRowed pf_stopsHeard pf_mayEnter pf_lifted pf_make pf_plainKeys pf_stops pf_knobs cl3a cl3b rfl cl3c cl3d cl3e cl3f cl3g cl3h rfl rfl rfl rfl cl3i
theorem named3 : Tryz.prog.funcNamed "nacre/nacretop.TopSmooth" = some 3 := by kernel_rfl
theorem holds3:Rows.TopSmoothSaid :=
 OpenClaim.holds_of_wide 3 Tryz.f3 rfl rfl rfl rfl rfl rfl rfl ⟨rfl,rfl,rfl,rfl,rfl⟩ rfl rfl rfl rfl rfl named3 Tryz.func3 joined3
  (of_decide_eq_true (by kernel_rfl)) (by unfold Func.isWrapper; first|(rw [if_pos (by decide +kernel)]; kernel_rfl)|(rw [if_neg (by decide +kernel)]; exact ⟨rfl,rfl⟩))
  (fun os started H enc _=>lifted3 os started H enc)
#print axioms holds3
end Go.Proofs.YtpoaccdbakbjhaaGreat
