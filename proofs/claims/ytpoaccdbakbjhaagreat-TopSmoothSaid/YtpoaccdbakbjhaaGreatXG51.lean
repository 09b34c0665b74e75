/- TopSmooth: the way where all that is asked is there. -/
import Derived.Test.YtpoaccdbakbjhaaGreatXG50
set_option linter.unusedVariables false
set_option linter.unusedSimpArgs false
namespace Go.Abs
open Go.Proofs
set_option maxRecDepth 100000
set_option maxHeartbeats 16000000 in
theorem t3in (w:Work) (th:List (List Int)) (n:Int) (d:Drum) (acid:Int) (t:List Int) (b hours:Int) (hA:AskP w th n d acid t) (hn:0 <= b /\ b < d.batches.length /\ 0 <= hours /\ hours <= d.hours):ACalls Tryz.prog 3 (t3A w th n d acid t b hours) (fun r=>r = .pv (.bool true)):= by
 have hw:=hA.work
 have k10:=t10
 have k4:=t4 w
 have k5:=t5 th
 have k6:=t6 w.map th hw.map.short (shortG_of hA.g5)
 have k7:=t7 w.map th hw.map hA.s6
 have k8:=t8 w n (by have:=hw.t4; omega)
 have k9:=t9 d acid t
 rw [hA.w4] at k4
 rw [hA.g5] at k5
 rw [hA.s6] at k6
 rw [hA.f7] at k7
 rw [hA.n8] at k8
 rw [hA.d9] at k9
 have k11:=t11 w hw th hA.s6 hA.f7
 obtain ⟨hc,h48⟩:=cutBest_ok hw hA.s6 hA.f7
 have k12:=t12 w hw th hA.s6 hA.f7 (cutBest w) h48 hc n hA.n8
 have hd9:=hA.d9
 simp only [drum11B,Bool.and_eq_true] at hd9
 obtain ⟨⟨⟨d1,d2⟩,d3⟩,d4⟩:=hd9
 have hP:=drumP_of.1 d2
 obtain ⟨bb,hbb⟩:∃ x,d.batches[b.toNat]? = some x:=⟨d.batches[b.toNat]'(by omega),by simp⟩
 have eb:=get_map eBatch hbb
 have hb2:=inB_true hA.n8
 obtain ⟨tb,htb⟩:∃ x,w.tubes[n.toNat]? = some x:=⟨w.tubes[n.toNat]'(by omega),by simp⟩
 have et:=get_map eTube htb
 have hTb:=hw.tt _ (List.mem_of_getElem? htb)
 have n1:=hTb.n1; have n60:=hTb.n60
 have hbl:=hP.b1
 have hml:(d.batches.map eBatch).length = d.batches.length:=by simp
 have hP':=tubeD_P hP hbb (n:=tb.need) (by omega)
 have hOK':drumOK (tubeD d b.toNat bb tb.need):=⟨by have:=hP'.a1; omega,by have h1:=hP'.al; have h2:=hP'.h1; omega,by have:=hP'.sl; omega,by have:=hP'.b1; omega⟩
 have hz':sizedB (tubeD d b.toNat bb tb.need) acid t = true:=d3
 have hf':fitsB (tubeD d b.toNat bb tb.need) acid t = true:=fitsD_B d4
 have htl:t.length <= 1000:= by
  obtain ⟨_,_,hl⟩:=sized_of d3
  have:=hP.h1
  omega
 have hne:filledL (tubeD d b.toNat bb tb.need) ≠ []:=fun e=>by
  have:=(fits_mem hP' hz' hf').1
  rw [e] at this; cases this
 have hee:errE (tubeD d b.toNat bb tb.need) true = 0:= by
  unfold errE askedE
  rw [drumP_of.2 hP',Bool.and_true,if_pos rfl,if_neg (fun h0=>hne (List.length_eq_zero_iff.1 h0))]
 have hrun:runE (tubeD d b.toNat bb tb.need) acid t hours = ((tubeD d b.toNat bb tb.need).batches.map fun x=>stateI x t hours.toNat,0):= by
  rw [runE,if_pos]
  rw [runOK,drumP_of.2 hP',hz',hf']
  show (true && true && true && inB hours 0 d.hours) = true
  rw [inB_iff.2 ⟨hn.2.2.1,hn.2.2.2⟩]; rfl
 have k14:=f70 (tubeD d b.toNat bb tb.need) acid t hours hOK' htl
 rw [hrun] at k14
 have hst:∀ h:inS (allW (tubeD d b.toNat bb tb.need)) hours,(stateI (thickB bb tb.need) t hours.toNat).rough <= bb.goal /\ bb.least <= (stateI (thickB bb tb.need) t hours.toNat).thick:=fun h=>by
  have h2:=sure_state hP' hz' hf' (h:=hours.toNat) (by show hours.toNat <= d.hours.toNat; omega) (by rw [Int.toNat_of_nonneg hn.2.2.1]; exact h) (thickB bb tb.need) (List.mem_set (by omega) _)
  exact h2
 obtain ⟨hs0,hac,hsl⟩:=sized_of d3
 have hbd:bdU 1400 t:=true_bdU hP (hP.acid _ (List.mem_of_getElem? hac)) hsl (by
  have:=fitsD_B d4
  simp only [fitsB,Bool.and_eq_true] at this
  exact this.2)
 have hBP:=hP.batch bb (List.mem_of_getElem? hbb)
 have hthk:(stateI (thickB bb tb.need) t hours.toNat).thick <= tb.need:= by
  have h1:=(sumI_bdU (eatL_bd (h:=hours.toNat) hbd ⟨hBP.e0,hBP.e1⟩)).1
  show max 0 (tb.need - sumI (eatL t bb.eat hours.toNat)) <= tb.need
  omega
 have hsi:((tubeD d b.toNat bb tb.need).batches.map fun x=>stateI x t hours.toNat)[b.toNat]? = some (stateI (thickB bb tb.need) t hours.toNat):= by
  show ((d.batches.set b.toNat (thickB bb tb.need)).map _)[b.toNat]? = _
  rw [List.getElem?_map,List.getElem?_set,if_pos rfl,if_pos (by omega)]; rfl
 have hsn:((tubeD d b.toNat bb tb.need).batches.map fun x=>stateI x t hours.toNat).length = d.batches.length:= by
  rw [List.length_map]; exact List.length_set
 have kw0:openS (allW (tubeD d b.toNat bb tb.need)) = false -> _:=f55n hOK' hee
 have kw1:openS (allW (tubeD d b.toNat bb tb.need)) = true -> _:=f55y hOK' hee
 have hed:eDrum (tubeD d b.toNat bb tb.need) = .agg [.sl (d.acids.map eAcid),vi d.known,vi d.hours,eInts d.adds,.sl (d.strips.map eStrip),.sl ((d.batches.map eBatch).set b.toNat (eBatch (thickB bb tb.need)))]:= by
  show PV.agg [_,_,_,_,_,.sl ((d.batches.set b.toNat (thickB bb tb.need)).map eBatch)] = _
  rw [List.map_set]; rfl
 rw [hed] at kw0 kw1 k14
 have es:=get_map eState hsi
 generalize ((tubeD d b.toNat bb tb.need).batches.map fun x=>stateI x t hours.toNat) = SL at *
 dsimp only at k14
 generalize stateI (thickB bb tb.need) t hours.toNat = st at *
 generalize allW (tubeD d b.toNat bb tb.need) = W at *
 have hsum:=sum_bd (f:=lowI w) (B:=65) (ownB (cutBest w) n) fun x hx=>low_bd hw hA.s6 hA.f7 (hc.ok x (List.mem_filter.1 hx).1)
 have hsm:=sum_mono (ownB (cutBest w) n) fun x hx=>low_truth hw hA.s6 hA.f7 (hc.ok x (List.mem_filter.1 hx).1)
 generalize sumI ((ownB (cutBest w) n).map (lowI w)) = S1 at *
 generalize sumI ((ownB (cutBest w) n).map (truthI w th)) = S2 at *
 have hgs:∀ x,((d.batches.map eBatch).set b.toNat x)[b.toNat]? = some x:=fun x=>by rw [List.getElem?_set,if_pos rfl,if_pos (by omega)]
 have hlen:∀ x,(((d.batches.map eBatch).set b.toNat x).length:Int) = d.batches.length:=fun x=>by simp
 refine ACalls.of_body hT Tryz.func3 rfl (by kernel_rfl) rfl ?_
 (repeat' (first|refine stq ?_|(refine AL_do2 rfl ?_; first|refine ⟨_,op_call1 rfl rfl rfl rfl (k4),nrmA rfl ?_⟩|refine ⟨_,op_call1 rfl rfl rfl rfl (k5),nrmA rfl ?_⟩|refine ⟨_,op_call1 rfl rfl rfl rfl (k6),nrmA rfl ?_⟩|refine ⟨_,op_call1 rfl rfl rfl rfl (k7),nrmA rfl ?_⟩|refine ⟨_,op_call1 rfl rfl rfl rfl (k8),nrmA rfl ?_⟩|refine ⟨_,op_call1 rfl rfl rfl rfl (k9),nrmA rfl ?_⟩|refine ⟨_,op_call1 rfl rfl rfl rfl (k10),nrmA rfl ?_⟩|refine ⟨_,op_call1 rfl rfl rfl rfl (k11),nrmA rfl ?_⟩|refine ⟨_,op_call1 rfl rfl rfl rfl (k12),nrmA rfl ?_⟩)|((first|(with_reducible refine AL_id ?_); (fail_if_success (refine glq rfl rfl rfl ?_)); first|refine AL_gdec rfl rfl rfl (fun hg=>?_) (fun hg=>?_)|refine AL_gnot rfl rfl rfl (fun hg=>?_) (fun hg=>?_)|refine AL_gcases rfl rfl rfl (fun hg=>?_) (fun hg=>?_)) <;> (try (exfalso; omega)))|refine AW_if rfl (fun hc=>absurd hc (by omega)) (fun _=>?_)|refine AW_if rfl (fun _=>?_) (fun hc=>absurd (by omega) hc)))
 all_goals (try (exfalso; omega))
 refine AL_do2 rfl ⟨_,op_append_nil1 (e:=54) (sz:=6) hT rfl rfl rfl rfl rfl rfl rfl rfl rfl rfl (by intro y hy; (first|(simp only [List.mem_cons,List.not_mem_nil,or_false] at hy; subst hy; rfl)|(simp only [List.mem_cons,List.not_mem_nil,or_false] at hy; rcases hy with hy|hy <;> subst hy <;> rfl)|(obtain ⟨_,_,rfl⟩:=List.mem_map.1 hy; rfl)|(cases hy))) (by simp only [List.length_map,List.length_take,List.length_cons,List.length_nil,List.length_append]; omega) rfl,?_⟩
 (repeat (refine stq ?_))
 (repeat (refine sdq ?_))
 refine DG_end hM (by kernel_rfl) ?_
 refine AL_do2 rfl ⟨_,op_indexAddr_arr hT rfl rfl rfl rfl rfl rfl rfl rfl (by omega) (by omega) rfl,?_⟩
 (repeat (refine stq ?_))
 refine AL_do2 rfl ⟨_,op_store_aptr (el:=eBatch bb) hT rfl rfl rfl rfl rfl eb rfl rfl rfl rfl,?_⟩
 refine AL_arrBox (b:=3) 5 rfl rfl rfl rfl ?_
 cases ho:openS W with
 | false =>
  have k13:=kw0 ho
  (repeat' (first|refine stq ?_|(refine AL_do2 rfl ?_; first|refine ⟨_,op_call1 rfl rfl rfl rfl (k13),nrmA rfl ?_⟩|refine ⟨_,op_call1 rfl rfl rfl rfl (k14),nrmA rfl ?_⟩)|(with_reducible refine AL_id ?_); (fail_if_success (refine glq rfl rfl rfl ?_)); first|refine AL_gdec rfl rfl rfl (fun hg=>?_) (fun hg=>?_)|refine AL_gnot rfl rfl rfl (fun hg=>?_) (fun hg=>?_)|refine AL_gcases rfl rfl rfl (fun hg=>?_) (fun hg=>?_)))
  (repeat' (first|refine DG_next (StepOK.skipU rfl rfl) ?_|refine DG_next (D_len hT rfl rfl rfl rfl rfl rfl (hlen _)) ?_|((refine DG_cmp hT rfl (fun hg=>?_) (fun hg=>?_)) <;> (try (exfalso; omega)))|refine DG_next (D_shl rfl rfl rfl rfl rfl (by omega)) ?_|refine DG_next (D_shr rfl rfl rfl rfl rfl (by omega)) ?_|refine sdq ?_|((refine DG_callC (D_call rfl rfl rfl rfl rfl (k10)) (fun hg=>?_) (fun hg=>?_)) <;> (try (exfalso; first|contradiction|omega)))|refine DG_next (D_call rfl rfl rfl rfl rfl (k10)) ?_))
  all_goals (try (exfalso; omega))
  refine DG_end hM (by kernel_rfl) ?_
  (repeat' (first|refine stq ?_|(refine AL_do2 rfl ?_; first|refine ⟨_,op_call1 rfl rfl rfl rfl (k10),nrmA rfl ?_⟩)|(with_reducible refine AL_id ?_); (fail_if_success (refine glq rfl rfl rfl ?_)); first|refine AL_gdec rfl rfl rfl (fun hg=>?_) (fun hg=>?_)|refine AL_gnot rfl rfl rfl (fun hg=>?_) (fun hg=>?_)|refine AL_gcases rfl rfl rfl (fun hg=>?_) (fun hg=>?_)))
  exact ⟨_,_,rfl,rfl,rfl⟩
 | true =>
  have k13:=kw1 ho
  (repeat' (first|refine stq ?_|(refine AL_do2 rfl ?_; first|refine ⟨_,op_call1 rfl rfl rfl rfl (k13),nrmA rfl ?_⟩|refine ⟨_,op_call1 rfl rfl rfl rfl (k14),nrmA rfl ?_⟩)|(with_reducible refine AL_id ?_); (fail_if_success (refine glq rfl rfl rfl ?_)); first|refine AL_gdec rfl rfl rfl (fun hg=>?_) (fun hg=>?_)|refine AL_gnot rfl rfl rfl (fun hg=>?_) (fun hg=>?_)|refine AL_gcases rfl rfl rfl (fun hg=>?_) (fun hg=>?_)))
  (repeat' (first|refine DG_next (StepOK.skipU rfl rfl) ?_|refine DG_next (D_len hT rfl rfl rfl rfl rfl rfl (hlen _)) ?_|((refine DG_cmp hT rfl (fun hg=>?_) (fun hg=>?_)) <;> (try (exfalso; omega)))|refine DG_next (D_shl rfl rfl rfl rfl rfl (by omega)) ?_|refine DG_next (D_shr rfl rfl rfl rfl rfl (by omega)) ?_|refine sdq ?_|((refine DG_callC (D_call rfl rfl rfl rfl rfl (k10)) (fun hg=>?_) (fun hg=>?_)) <;> (try (exfalso; first|contradiction|omega)))|refine DG_next (D_call rfl rfl rfl rfl rfl (k10)) ?_))
  all_goals (try (exfalso; omega))
  refine DG_end hM (by kernel_rfl) ?_
  by_cases hw2:W.low <= hours /\ hours <= W.high
  ·obtain ⟨r1,r2⟩:=hst hw2
   have r1:st.rough <= (thickB bb tb.need).goal:=r1
   have r2:(thickB bb tb.need).least <= st.thick:=r2
   (repeat' (first|refine stq ?_|(refine AL_do2 rfl ?_; first|refine ⟨_,op_call1 rfl rfl rfl rfl (k10),nrmA rfl ?_⟩)|((first|(with_reducible refine AL_id ?_); (fail_if_success (refine glq rfl rfl rfl ?_)); first|refine AL_gdec rfl rfl rfl (fun hg=>?_) (fun hg=>?_)|refine AL_gnot rfl rfl rfl (fun hg=>?_) (fun hg=>?_)|refine AL_gcases rfl rfl rfl (fun hg=>?_) (fun hg=>?_)) <;> (try (exfalso; omega)))|refine AW_if rfl (fun hc=>absurd hc (by omega)) (fun _=>?_)|refine AW_if rfl (fun _=>?_) (fun hc=>absurd (by omega) hc)))
   all_goals (try (exfalso; omega))
   refine AL_do2 rfl ⟨_,op_indexAddr_sl (el:=eBatch (thickB bb tb.need)) hT rfl rfl rfl rfl rfl rfl rfl (by omega) (hgs _) rfl rfl,?_⟩
   (repeat (refine stq ?_))
   (repeat' (first|refine DG_next (StepOK.skipU rfl rfl) ?_|((refine DG_cmp hT rfl (fun hg=>?_) (fun hg=>?_)) <;> (try (exfalso; omega)))|refine DG_next (D_shl rfl rfl rfl rfl rfl (by omega)) ?_|refine DG_next (D_shr rfl rfl rfl rfl rfl (by omega)) ?_|refine sdq ?_|((refine DG_callC (D_call rfl rfl rfl rfl rfl (k4)) (fun hg=>?_) (fun hg=>?_)) <;> (try (exfalso; first|contradiction|omega)))|refine DG_next (D_call rfl rfl rfl rfl rfl (k4)) ?_))
   all_goals (try (exfalso; omega))
   (repeat (first|refine sdq ?_|refine DG_next (D_call rfl rfl rfl rfl rfl (k10)) ?_))
   refine DG_end hM (by kernel_rfl) ?_
   (repeat (refine stq ?_))
   exact ⟨_,_,rfl,rfl,rfl⟩
  ·(repeat' (first|refine stq ?_|(refine AL_do2 rfl ?_; first|refine ⟨_,op_call1 rfl rfl rfl rfl (k10),nrmA rfl ?_⟩)|((first|(with_reducible refine AL_id ?_); (fail_if_success (refine glq rfl rfl rfl ?_)); first|refine AL_gdec rfl rfl rfl (fun hg=>?_) (fun hg=>?_)|refine AL_gnot rfl rfl rfl (fun hg=>?_) (fun hg=>?_)|refine AL_gcases rfl rfl rfl (fun hg=>?_) (fun hg=>?_)) <;> (try (exfalso; omega)))|refine AW_if rfl (fun hc=>absurd hc (by omega)) (fun _=>?_)|refine AW_if rfl (fun _=>?_) (fun hc=>absurd (by omega) hc)))
   all_goals (try (exfalso; omega))
   all_goals exact ⟨_,_,rfl,rfl,rfl⟩
end Go.Abs
namespace Go.Abs
open Go.Proofs
theorem t3 (w:Work) (th:List (List Int)) (n:Int) (d:Drum) (acid:Int) (t:List Int) (b hours:Int):ACalls Tryz.prog 3 (t3A w th n d acid t b hours) (fun r=>r = .pv (.bool true)):= by
 cases hA:ask11 w th n d acid t with
 | false=>exact t3no w th n d acid t b hours hA
 | true =>
  by_cases hn:0 <= b /\ b < d.batches.length /\ 0 <= hours /\ hours <= d.hours
  ·exact t3in w th n d acid t b hours (askP_of hA) hn
  ·exact t3out w th n d acid t b hours (askP_of hA) hn
end Go.Abs
