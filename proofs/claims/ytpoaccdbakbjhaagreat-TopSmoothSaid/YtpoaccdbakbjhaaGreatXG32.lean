/- The bounds of all cells of a work that is possible. -/
import Derived.Test.YtpoaccdbakbjhaaGreatXG31
import Derived.Test.YtpoaccdbakbjhaaGreatXG22
import Derived.Test.YtpoaccdbakbjhaaGreatXG30
set_option linter.unusedVariables false
set_option linter.unusedSimpArgs false
namespace Go.Abs
open Go.Proofs
set_option maxRecDepth 100000
theorem AW_poolPure2 {P:Program} {nt:Nat} {s:ASt} {c:Code} {Q:Exit -> ASt -> Prop} (b i g:Nat) {e sz:Nat} {fs:List FV} {es:List (List PV)} {l:List (Value × Option (List (List PV)))} (rows:List (Value × List (List PV))) (he:es = rows.map fun p=>[.raw p.1]) (hl:l = rows.map fun p=>(p.1,some p.2))
  (hbg:Nat.beq b g = false) (hb:s.obj b = some (.box fs)) (hi:fs[i]? = some (.pv (.sl es))) (hg:s.obj g = some (.pool e sz l)) (h:AW P nt c Q ((s.setObj g none).setObj b (some (.box (fs.set i (.pv (.sl (rows.map fun p=>[.sl p.2])))))))):AW P nt c Q s:= by
 subst he; subst hl; exact AW_poolPure b i g hbg hb hi hg h
abbrev boRC (w:Work) (x:FV):AObj:=.box ((eWorkC w).map FV.pv ++ [x])
def rowTo (x:List Int) (c:Nat):List Span:=row0 (x.take c) ++ List.replicate (x.length - c) ⟨0,0⟩
theorem rowTo_succ {x:List Int} {c:Nat} {a:Int} (h:x[c]? = some a):rowTo x (c + 1) = if a = 1 then rowTo x c else (rowTo x c).set c ⟨0,60⟩:= by
 have hc:c < x.length:=(List.getElem?_eq_some_iff.1 h).1
 have hl:(row0 (x.take c)).length = c:=by simp [row0]; omega
 have hr:List.replicate (x.length - c) (⟨0,0⟩:Span) = ⟨0,0⟩ :: List.replicate (x.length - (c + 1)) ⟨0,0⟩:= by
  rw [<- List.replicate_succ]; congr 1; omega
 have ht:row0 (x.take (c + 1)) = row0 (x.take c) ++ [if a = 1 then ⟨0,0⟩ else ⟨0,60⟩]:= by
  rw [row0,List.take_add_one,h,List.map_append]; rfl
 rw [rowTo,rowTo,ht,hr]
 by_cases ha:a = 1
 ·rw [if_pos ha,if_pos ha]; simp
 ·rw [if_neg ha,if_neg ha,List.set_append_right _ _ (by omega),hl]; simp
theorem rowTo_get {x:List Int} {c:Nat} (hc:c < x.length):(rowTo x c)[c]? = some ⟨0,0⟩:= by
 have hl:(row0 (x.take c)).length = c:=by simp [row0]; omega
 rw [rowTo,List.getElem?_append_right (by omega),hl,Nat.sub_self,List.getElem?_replicate,if_pos (by omega)]
theorem rowTo_all (x:List Int):rowTo x x.length = row0 x:=by rw [rowTo,List.take_length]; simp
theorem rowTo_len {x:List Int} {c:Nat} (hc:c <= x.length):(rowTo x c).length = x.length:=by simp [rowTo,row0]; omega
theorem pool_snoc {vs:List Value} {G:List (List Span)} {v:Value} {l:List Span} (h:vs.length = G.length):poolL vs G ++ [(v,some (l.map eSpan))] = poolL (vs ++ [v]) (G ++ [l]):= by
 rw [poolL,poolL,List.zipWith_append h]; rfl
theorem pool_same {vs:List Value} {G:List (List Span)} {r:Nat} {v:Value} {l:List Span} (hv:vs[r]? = some v) (hl:G[r]? = some l):((poolL vs G).set r (v,none)).set r (v,some (l.map eSpan)) = poolL vs G:= by
 have hr:=(List.getElem?_eq_some_iff.1 hl)
 rw [poolL_set hv hr.1]
 congr 1
 obtain ⟨h1,h2⟩:=hr
 rw [<- h2]; simp
theorem pool_raw {vs:List Value} {G:List (List Span)} (h:vs.length = G.length):vs.map rawC = (List.zipWith (fun v (l:List Span)=>(v,l.map eSpan)) vs G).map fun p=>[PV.raw p.1]:= by
 rw [List.map_zipWith]
 refine List.ext_getElem? fun i=>?_
 rw [List.getElem?_map,List.getElem?_zipWith]
 cases hv:vs[i]? with
 | none=>rfl
 | some v =>
  have:=(List.getElem?_eq_some_iff.1 hv).1
  rw [show G[i]? = some (G[i]'(by omega)) by simp]; rfl
theorem pool_own (vs:List Value) (G:List (List Span)):poolL vs G = (List.zipWith (fun v (l:List Span)=>(v,l.map eSpan)) vs G).map fun p=>(p.1,some p.2):= by
 rw [List.map_zipWith]; rfl
theorem pool_rows {vs:List Value} {G:List (List Span)} (h:vs.length = G.length):(List.zipWith (fun v (l:List Span)=>(v,l.map eSpan)) vs G).map (fun p=>[PV.sl p.2]) = G.map eSpanRow:= by
 rw [List.map_zipWith]
 refine List.ext_getElem? fun i=>?_
 rw [List.getElem?_map,List.getElem?_zipWith]
 cases hg:G[i]? with
 | none=>cases vs[i]? <;> rfl
 | some l =>
  have:=(List.getElem?_eq_some_iff.1 hg).1
  rw [show vs[i]? = some (vs[i]'(by omega)) by simp]; rfl
abbrev zB:List FV:=[.nils,.pv (vi 0),.pv (vi 0),.nils,.nils,.nils,.nils,.pv (vi 0),.nils]
set_option maxHeartbeats 8000000 in
theorem t108 (w:Work) (hw:WorkP w) (t:List (List Int)) (hs:sizedT w.map t = true) (hf:fitsT w.map t = true):ACalls Tryz.prog 108 [eWork w] (fun r=>r = .pv (eBnd w (thickM w.map))):= by
 have hm:=hw.map
 have h6:=hm.r6; have h8:=hm.c8; have t0:=hm.t0; have t9:=hm.t9; have g8:=hm.g8
 refine ACalls.of_body hT Tryz.func108 rfl (by kernel_rfl) rfl ?_
 (repeat (refine stq ?_))
 refine AW_nilBox 2 8 98 1 rfl rfl ?_
 refine AW_pool0 56 2 ?_
 refine AW_loopC (fun vs:List Value=>vs.length <= w.map.cells.length) (fun vs=>mkSt [(1,.box 0 0),(2,.box 1 0),(3,.box 2 0),(4,.box 3 0),(24,.pv (eRows w.map.cells)),(25,.pv (vi w.map.cells.length)),(26,.pv (vi vs.length))]
  [(0,boW w),(1,.box (zB)),(2,boRC w (.arr 4)),(3,boM w.map),(4,.arr 98 1 (vs.map rawC)),(5,poolO vs ((w.map.cells.map row0).take vs.length))] 6) (fun vs=>w.map.cells.length - vs.length) [] (Nat.zero_le _) ?_ ?_
 ·(refine Le.mk ?_ ?_; all_goals (repeat' (first|exact trivial|refine sle ?_|refine ⟨?_,rfl,?_⟩|refine ⟨?_,by decide,rfl,?_⟩|fail)))
 ·intro vs hvl
  generalize hk:vs.length = k at *
  (repeat (refine stq ?_))
  refine AW_if rfl (fun hc=>?_) (fun hc=>?_)
  ·have hk':k < w.map.cells.length:=by omega
   obtain ⟨x,hx⟩:∃ x,w.map.cells[k]? = some x:=⟨w.map.cells[k],by simp [hk']⟩
   have e1:=get_map eRow hx
   have hxl:=cols_row hm hx
   (repeat (refine stq ?_))
   refine AL_do2 rfl ⟨_,op_makeSlice (n:=x.length) (zp:=[vi 0,vi 0]) hT rfl rfl rfl rfl rfl rfl rfl rfl rfl rfl (by omega) rfl,?_⟩
   (repeat (refine stq ?_))
   refine AW_loopC (fun c:Nat=>c <= x.length) (fun c=>mkSt [(1,.box 0 0),(2,.box 1 0),(3,.box 2 0),(4,.box 3 0),(24,.pv (eRows w.map.cells)),(25,.pv (vi w.map.cells.length)),(26,.pv (vi k)),(6,.pv (eInts x)),(7,.arr 6),(33,.pv (eInts x)),(34,.pv (vi x.length)),(35,.pv (vi c))]
    [(0,boW w),(1,.box zB),(2,boRC w (.arr 4)),(3,boM w.map),(4,.arr 98 1 (vs.map rawC)),(5,poolO vs ((w.map.cells.map row0).take k)),(6,.arr 56 2 ((rowTo x c).map eSpan))] 7) (fun c=>x.length - c) 0 (Nat.zero_le _) ?_ ?_
   ·(refine Le.mk ?_ ?_; all_goals (repeat' (first|exact trivial|refine sle ?_|refine ⟨?_,rfl,?_⟩|refine ⟨?_,by decide,rfl,?_⟩|fail)))
    show some (AObj.arr 56 2 (List.replicate x.length [vi 0,vi 0])) = _
    simp [rowTo,row0,eSpan]
   ·intro c hcl
    (repeat (refine stq ?_))
    refine AW_if rfl (fun hc2=>?_) (fun hc2=>?_)
    ·have hc':c < x.length:=by omega
     obtain ⟨a,ha⟩:∃ a,x[c]? = some a:=⟨x[c],by simp [hc']⟩
     have e2:=get_map eInt ha
     have hst:=rowTo_succ ha
     have hgt:=rowTo_get hc'
     have hlt:=rowTo_len (x:=x) (c:=c) (by omega)
     generalize rowTo x c = R at *
     have hR:(R.map eSpan).length = x.length:=by rw [List.length_map,hlt]
     (repeat (refine stq ?_))
     refine AW_if rfl (fun hA=>?_) (fun hA=>?_)
     ·rw [if_neg hA] at hst
      (repeat (refine stq ?_))
      refine AL_do2 rfl ⟨_,op_indexAddr_arr (n:=(c:Int)) hT rfl rfl rfl rfl rfl rfl rfl rfl (by omega) (by omega) rfl,?_⟩
      (repeat (refine stq ?_))
      refine AL_do2 rfl ⟨_,op_store_aptr (el:=eSpan ⟨0,0⟩) hT rfl rfl rfl rfl rfl (map_get hgt) rfl rfl rfl rfl,?_⟩
      (repeat (refine stq ?_))
      refine ⟨c + 1,hc',by omega,?_⟩
      rw [hst]
      (refine Le.mk ?_ ?_; all_goals (repeat' (first|exact trivial|refine sle ?_|refine ⟨?_,rfl,?_⟩|refine ⟨?_,by decide,rfl,?_⟩|fail)))
      exact congrArg some (congrArg (AObj.arr 56 2) (map_put R c ⟨0,60⟩))
     ·rw [if_pos (by omega)] at hst
      (repeat (refine stq ?_))
      refine ⟨c + 1,hc',by omega,?_⟩
      rw [hst]
      (refine Le.mk ?_ ?_; all_goals (repeat' (first|exact trivial|refine sle ?_|refine ⟨?_,rfl,?_⟩|refine ⟨?_,by decide,rfl,?_⟩|fail)))
    ·have hcx:c = x.length:=by omega
     subst hcx
     rw [rowTo_all]
     (repeat (refine stq ?_))
     refine AL_poolIn (t:=49) (r:=6) (g:=5) rfl rfl rfl rfl fun v=>?_
     (repeat (refine stq ?_))
     have hvk:(vs ++ [v]).length = k + 1:=by simp [hk]
     have htk:(w.map.cells.map row0).take (k + 1) = (w.map.cells.map row0).take k ++ [row0 x]:=by rw [List.take_add_one,List.getElem?_map,hx]; rfl
     have hps:poolL vs ((w.map.cells.map row0).take k) ++ [(v,some ((row0 x).map eSpan))] = poolL (vs ++ [v]) ((w.map.cells.map row0).take k ++ [row0 x]):=pool_snoc (by simp; omega)
     refine ⟨vs ++ [v],by omega,by omega,?_⟩
     rw [hvk,htk]
     (refine Le.mkR [(0,0),(1,1),(2,2),(3,3),(4,8),(5,5)] ?_ ?_ rfl; all_goals (repeat' (first|exact trivial|refine sle ?_|refine ⟨?_,rfl,?_⟩|refine ⟨?_,by decide,rfl,?_⟩|fail)))
     ·show some (AObj.arr 98 1 (vs.map rawC ++ [[.raw v]])) = some (AObj.arr 98 1 ((vs ++ [v]).map rawC))
      rw [List.map_append]; rfl
     ·show some (AObj.pool 56 2 (poolL vs ((w.map.cells.map row0).take k) ++ [(v,some ((row0 x).map eSpan))])) = some (poolO (vs ++ [v]) ((w.map.cells.map row0).take k ++ [row0 x]))
      rw [hps]
  ·have hkl:k = w.map.cells.length:=by omega
   subst hkl
   rw [List.take_of_length_le (by simp)]
   refine AW_arrBox (b:=2) 8 rfl rfl rfl rfl ?_
   (repeat (refine stq ?_))
   have hG0:gaugesN w.map 0 = w.map.cells.map row0:=rfl
   refine AW_loopC (fun j:Nat=>j <= w.map.gauges.length) (fun j=>mkSt [(1,.box 0 0),(2,.box 1 0),(3,.box 2 0),(4,.box 3 0),(55,.pv (.sl (w.map.gauges.map eGauge))),(56,.pv (vi w.map.gauges.length)),(57,.pv (vi j))]
    [(0,boW w),(1,.box zB),(2,boRC w (.pv (.sl (vs.map rawC)))),(3,boM w.map),(5,poolO vs (gaugesN w.map j))] 6) (fun j=>w.map.gauges.length - j) 0 (Nat.zero_le _) ?_ ?_
   ·(refine Le.mk ?_ ?_; all_goals (repeat' (first|exact trivial|refine sle ?_|refine ⟨?_,rfl,?_⟩|refine ⟨?_,by decide,rfl,?_⟩|fail)))
   ·intro j hj
    have hin:=in_gauges hm hs hf j
    have hgs:∀ g,w.map.gauges[j]? = some g -> gaugesN w.map (j + 1) = gStep (gaugesN w.map j) g:=fun g hg=>by rw [gaugesN,hg]
    generalize hGd:gaugesN w.map j = G at *
    (repeat (refine stq ?_))
    refine AW_if rfl (fun hc=>?_) (fun hc=>?_)
    ·have hj':j < w.map.gauges.length:=by omega
     obtain ⟨g,hg⟩:∃ g,w.map.gauges[j]? = some g:=⟨w.map.gauges[j],by simp [hj']⟩
     have e1:=get_map eGauge hg
     have hgm:=List.mem_of_getElem? hg
     have hgb:=gauge_in hm (hm.gg g hgm)
     have hgg:=hm.gg g hgm
     simp only [gaugeB,Bool.and_eq_true] at hgg
     have hsn:=inB_true hgg.1.2
     have hof:=inB_true hgg.2
     obtain ⟨l,hl,hx,hll,_⟩:=hin.at (r:=g.row.toNat) (c:=g.col.toNat) (by omega) (by omega)
     obtain ⟨v,hv⟩:∃ v,vs[g.row.toNat]? = some v:=⟨vs[g.row.toNat]'(by omega),by simp⟩
     have k169:=t169 w vs G g.row.toNat g.col.toNat (gSpan g) _ v l hv hl hx (hin.gauge hm hf hgm).2
     rw [Int.toNat_of_nonneg hgb.1,Int.toNat_of_nonneg hgb.2.2.1] at k169
     rw [show narrowG G g.row.toNat g.col.toNat (gSpan g) = gaugesN w.map (j + 1) from (hgs g hg).symm] at k169
     (repeat (refine stq ?_))
     refine AL_doS rfl (op_callXs (objs:=[(0,poolO vs G)]) (n:=1) [(0,5)] [0] [] (fun av=>k169) rfl rfl rfl rfl (by (repeat' (first|exact trivial|refine And.intro ?_ ?_)); all_goals (first|rfl|decide)) rfl (by (repeat' (first|exact trivial|refine And.intro ?_ ?_)); all_goals (first|rfl|decide)) rfl trivial (by simp) (fun av sf h=>by subst h; exact ⟨.inp ⟨_,_,_,_,_,_,rfl,rfl⟩,trivial⟩)) ?_
     rintro s' ⟨av',sf,rfl,rfl⟩
     (repeat (refine stq ?_))
     refine ⟨j + 1,hj',by omega,?_⟩
     (refine Le.mk ?_ ?_; all_goals (repeat' (first|exact trivial|refine sle ?_|refine ⟨?_,rfl,?_⟩|refine ⟨?_,by decide,rfl,?_⟩|fail)))
    ·have hjl:j = w.map.gauges.length:=by omega
     subst hjl
     have hr0:rowsN w.map 0 = G:=hGd
     (repeat (refine stq ?_))
     refine AW_loopC (fun k:Nat=>k <= w.map.cells.length) (fun k=>mkSt [(1,.box 0 0),(2,.box 1 0),(3,.box 2 0),(4,.box 3 0),(80,.pv (eRows w.map.cells)),(81,.pv (vi w.map.cells.length)),(82,.pv (vi k))]
      [(0,boW w),(1,.box zB),(2,boRC w (.pv (.sl (vs.map rawC)))),(3,boM w.map),(5,poolO vs (rowsN w.map k))] 6) (fun k=>w.map.cells.length - k) 0 (Nat.zero_le _) ?_ ?_
     ·rw [hr0]
      (refine Le.mk ?_ ?_; all_goals (repeat' (first|exact trivial|refine sle ?_|refine ⟨?_,rfl,?_⟩|refine ⟨?_,by decide,rfl,?_⟩|fail)))
     ·clear hin hgs hr0 hGd G
      intro k hk
      have hin:=in_rows hm hs hf k
      have hgs:∀ x,w.map.cells[k]? = some x -> rowsN w.map (k + 1) = bwdN w.map x k (x.length - 1) (fwdN w.map x k (rowsN w.map k) (x.length - 1)):=fun x hx=>by rw [rowsN,rowN,hx]
      generalize hGd:rowsN w.map k = G0 at *
      (repeat (refine stq ?_))
      refine AW_if rfl (fun hc=>?_) (fun hc=>?_)
      ·have hk':k < w.map.cells.length:=by omega
       obtain ⟨x,hx⟩:∃ x,w.map.cells[k]? = some x:=⟨w.map.cells[k],by simp [hk']⟩
       obtain ⟨v,hv⟩:∃ v,vs[k]? = some v:=⟨vs[k]'(by omega),by simp⟩
       have e1:=get_map eRow hx
       have ev:(vs.map rawC)[(k:Int).toNat]? = some (rawC v):=get_map rawC hv
       have hxl:=cols_row hm hx
       have hc1:=hm.c1
       (repeat (refine stq ?_))
       refine AW_loopC (fun c:Nat=>c <= x.length - 1) (fun c=>mkSt [(1,.box 0 0),(2,.box 1 0),(3,.box 2 0),(4,.box 3 0),(80,.pv (eRows w.map.cells)),(81,.pv (vi w.map.cells.length)),(82,.pv (vi k)),(12,.pv (vi k)),(13,.box 6 0),(14,.fn 170 [.box 6 0]),(90,.pv (vi ((x.length:Int) - 1))),(91,.pv (vi c))]
        [(0,boW w),(1,.box zB),(2,boRC w (.pv (.sl (vs.map rawC)))),(3,boM w.map),(5,poolO vs (fwdN w.map x k G0 c)),(6,.box [.pv (eInts x)])] 7) (fun c=>x.length - 1 - c) 0 (Nat.zero_le _) ?_ ?_
       ·(refine Le.mk ?_ ?_; all_goals (repeat' (first|exact trivial|refine sle ?_|refine ⟨?_,rfl,?_⟩|refine ⟨?_,by decide,rfl,?_⟩|fail)))
       ·intro c hcl
        have hinc:=in_fwdN hm hf hin hx c hcl
        have hst:fwdN w.map x k G0 (c + 1) = fwdG w.map x k (fwdN w.map x k G0 c) c:=rfl
        generalize hGc:fwdN w.map x k G0 c = G at *
        (repeat (refine stq ?_))
        refine AW_if rfl (fun hc2=>?_) (fun hc2=>?_)
        ·have hc':c + 1 < x.length:=by omega
         obtain ⟨a,ha⟩:∃ a,x[c]? = some a:=⟨x[c]'(by omega),by simp⟩
         obtain ⟨b,hb⟩:∃ b,x[c + 1]? = some b:=⟨x[c + 1]'(by omega),by simp⟩
         have k170:=t170 x c a b ha hb (by omega)
         have hj:joinN x c = (!decide (a = 1) && !decide (b = 1)):=by rw [joinN,ha,hb]; rfl
         rw [<- hj] at k170
         have hfw:=(hinc.fwd hm hf hx hc').2
         rw [fwdG] at hst
         cases q:joinN x c with
         | false =>
          rw [q] at k170 hst
          (repeat' (first|refine stq ?_|(refine AL_do2 rfl ?_; first|refine ⟨_,op_callB rfl rfl rfl rfl (k170) rfl,nrmA rfl ?_⟩)|(with_reducible refine AL_id ?_); (fail_if_success (refine glq rfl rfl rfl ?_)); first|refine AL_gdec rfl rfl rfl (fun hg=>?_) (fun hg=>?_)|refine AL_gnot rfl rfl rfl (fun hg=>?_) (fun hg=>?_)|refine AL_gcases rfl rfl rfl (fun hg=>?_) (fun hg=>?_)))
          refine ⟨c + 1,by omega,by omega,?_⟩
          rw [hst]
          (refine Le.mk ?_ ?_; all_goals (repeat' (first|exact trivial|refine sle ?_|refine ⟨?_,rfl,?_⟩|refine ⟨?_,by decide,rfl,?_⟩|fail)))
         | true =>
          rw [q] at k170 hst
          obtain ⟨l,hl,hlc,hll,b1,b2,b3,b4⟩:=hinc.at (r:=k) (c:=c) hk' (by omega)
          obtain ⟨_,hl',hlc',_⟩:=hinc.at (r:=k) (c:=c + 1) hk' (by omega)
          have hjf:=joined_fits hm hf hx hc' q
          have hnb:=(hinc.at (r:=k) (c:=c + 1) hk' (by omega))
          have k169:=t169 w vs G k (c + 1) ⟨(spanN G k c).low - w.map.taper,(spanN G k c).high⟩ _ v _ hv hl' hlc' (hfw q)
          rw [show narrowG G k (c + 1) ⟨(spanN G k c).low - w.map.taper,(spanN G k c).high⟩ = fwdN w.map x k G0 (c + 1) from hst.symm,show (((c + 1:Nat):Int)) = (c:Int) + 1 by omega] at k169
          clear hst hfw hnb hjf
          generalize hG2:fwdN w.map x k G0 (c + 1) = G2 at *
          generalize spanN G k c = u at *
          have hlen:(l.map eSpan).length = l.length:=by simp
          (repeat' (first|refine stq ?_|(refine AL_do2 rfl ?_; first|refine ⟨_,op_callB rfl rfl rfl rfl (k170) rfl,nrmA rfl ?_⟩)|(with_reducible refine AL_id ?_); (fail_if_success (refine glq rfl rfl rfl ?_)); first|refine AL_gdec rfl rfl rfl (fun hg=>?_) (fun hg=>?_)|refine AL_gnot rfl rfl rfl (fun hg=>?_) (fun hg=>?_)|refine AL_gcases rfl rfl rfl (fun hg=>?_) (fun hg=>?_)))
          refine AL_poolOut (t:=101) (g:=5) k rfl rfl (poolL_get hv hl) ?_
          refine AL_do2 rfl ⟨_,op_indexAddr_arr (n:=(c:Int)) hT rfl rfl rfl rfl rfl rfl rfl rfl (by omega) (by omega) rfl,?_⟩
          refine AL_do2 rfl ⟨_,op_load_aptr (el:=eSpan u) hT rfl rfl rfl rfl rfl (map_get hlc) rfl,?_⟩
          refine AL_poolBack 7 8 5 k rfl rfl rfl rfl rfl (by rw [List.getElem?_set,if_pos rfl,if_pos (List.getElem?_eq_some_iff.1 (poolL_get hv hl)).1]) ?_
          rw [pool_same hv hl]
          (repeat (refine stq ?_))
          refine AL_doS rfl (op_callXs (objs:=[(0,poolO vs G)]) (n:=1) [(0,5)] [0] [] (fun av=>k169) rfl rfl rfl rfl (by (repeat' (first|exact trivial|refine And.intro ?_ ?_)); all_goals (first|rfl|decide)) rfl (by (repeat' (first|exact trivial|refine And.intro ?_ ?_)); all_goals (first|rfl|decide)) rfl trivial (by simp) (fun av sf h=>by subst h; exact ⟨.inp ⟨_,_,_,_,_,_,rfl,rfl⟩,trivial⟩)) ?_
          rintro s' ⟨av',sf,rfl,rfl⟩
          (repeat (refine stq ?_))
          refine ⟨c + 1,by omega,by omega,?_⟩
          rw [hG2]
          (refine Le.mk ?_ ?_; all_goals (repeat' (first|exact trivial|refine sle ?_|refine ⟨?_,rfl,?_⟩|refine ⟨?_,by decide,rfl,?_⟩|fail)))
        ·have hcx:c = x.length - 1:=by omega
         subst hcx
         have hfin:bwdN w.map x k (x.length - 1) G = rowsN w.map (k + 1):=by rw [hgs x hx,hGc]
         (repeat (refine stq ?_))
         refine AW_loopC (fun i:Nat × List (List Span)=>i.1 <= x.length - 1 /\ InG w.map t i.2 /\ bwdN w.map x k i.1 i.2 = rowsN w.map (k + 1)) (fun i=>mkSt [(1,.box 0 0),(2,.box 1 0),(3,.box 2 0),(4,.box 3 0),(80,.pv (eRows w.map.cells)),(81,.pv (vi w.map.cells.length)),(82,.pv (vi k)),(12,.pv (vi k)),(13,.box 6 0),(14,.fn 170 [.box 6 0]),(17,.pv (vi ((i.1:Int) - 1)))]
          [(0,boW w),(1,.box zB),(2,boRC w (.pv (.sl (vs.map rawC)))),(3,boM w.map),(5,poolO vs i.2),(6,.box [.pv (eInts x)])] 7) (fun i=>i.1) (x.length - 1,G) ⟨Nat.le_refl _,hinc,hfin⟩ ?_ ?_
         ·rw [show (((x.length - 1:Nat):Int) - 1) = (x.length:Int) - 2 by omega]
          (refine Le.mk ?_ ?_; all_goals (repeat' (first|exact trivial|refine sle ?_|refine ⟨?_,rfl,?_⟩|refine ⟨?_,by decide,rfl,?_⟩|fail)))
         ·clear hfin hst hinc hGc hgs hin hGd G0 G
          rintro ⟨n,G⟩ ⟨hn,hinc,hfin⟩
          simp only at hn hinc hfin
          dsimp only
          cases n with
          | zero =>
           (repeat (refine stq ?_))
           refine ⟨k + 1,hk',by omega,?_⟩
           rw [<- hfin]
           (refine Le.mk ?_ ?_; all_goals (repeat' (first|exact trivial|refine sle ?_|refine ⟨?_,rfl,?_⟩|refine ⟨?_,by decide,rfl,?_⟩|fail)))
          | succ c =>
           rw [show (((c + 1:Nat):Int) - 1) = (c:Int) by omega]
           have hc':c + 1 < x.length:=by omega
           obtain ⟨a,ha⟩:∃ a,x[c]? = some a:=⟨x[c]'(by omega),by simp⟩
           obtain ⟨b,hb⟩:∃ b,x[c + 1]? = some b:=⟨x[c + 1]'(by omega),by simp⟩
           have k170:=t170 x c a b ha hb (by omega)
           have hj:joinN x c = (!decide (a = 1) && !decide (b = 1)):=by rw [joinN,ha,hb]; rfl
           rw [<- hj] at k170
           have hfw:=(hinc.bwd hm hf hx hc').2
           have hfw1:=(hinc.bwd hm hf hx hc').1
           rw [bwdN] at hfin
           have hst:bwdG w.map x k G c = if joinN x c then narrowG G k c ⟨(spanN G k (c + 1)).low,(spanN G k (c + 1)).high + w.map.taper⟩ else G:=rfl
           (repeat (refine stq ?_))
           cases q:joinN x c with
           | false =>
            rw [q] at k170 hst
            rw [hst] at hfin
            (repeat' (first|refine stq ?_|(refine AL_do2 rfl ?_; first|refine ⟨_,op_callB rfl rfl rfl rfl (k170) rfl,nrmA rfl ?_⟩)|(with_reducible refine AL_id ?_); (fail_if_success (refine glq rfl rfl rfl ?_)); first|refine AL_gdec rfl rfl rfl (fun hg=>?_) (fun hg=>?_)|refine AL_gnot rfl rfl rfl (fun hg=>?_) (fun hg=>?_)|refine AL_gcases rfl rfl rfl (fun hg=>?_) (fun hg=>?_)))
            refine ⟨(c,G),⟨by omega,hinc,hfin⟩,Nat.lt_succ_self c,?_⟩
            (refine Le.mk ?_ ?_; all_goals (repeat' (first|exact trivial|refine sle ?_|refine ⟨?_,rfl,?_⟩|refine ⟨?_,by decide,rfl,?_⟩|fail)))
           | true =>
            rw [q] at k170 hst
            obtain ⟨l,hl,hlc,hll,b1,b2,b3,b4⟩:=hinc.at (r:=k) (c:=c + 1) hk' (by omega)
            obtain ⟨_,hl',hlc',_⟩:=hinc.at (r:=k) (c:=c) hk' (by omega)
            have hjf:=joined_fits hm hf hx hc' q
            have k169:=t169 w vs G k c ⟨(spanN G k (c + 1)).low,(spanN G k (c + 1)).high + w.map.taper⟩ _ v _ hv hl' hlc' (hfw q)
            rw [show narrowG G k c ⟨(spanN G k (c + 1)).low,(spanN G k (c + 1)).high + w.map.taper⟩ = bwdG w.map x k G c from hst.symm] at k169
            clear hst hfw hjf
            generalize bwdG w.map x k G c = G2 at *
            generalize spanN G k (c + 1) = u at *
            have hlen:(l.map eSpan).length = l.length:=by simp
            (repeat' (first|refine stq ?_|(refine AL_do2 rfl ?_; first|refine ⟨_,op_callB rfl rfl rfl rfl (k170) rfl,nrmA rfl ?_⟩)|(with_reducible refine AL_id ?_); (fail_if_success (refine glq rfl rfl rfl ?_)); first|refine AL_gdec rfl rfl rfl (fun hg=>?_) (fun hg=>?_)|refine AL_gnot rfl rfl rfl (fun hg=>?_) (fun hg=>?_)|refine AL_gcases rfl rfl rfl (fun hg=>?_) (fun hg=>?_)))
            refine AL_poolOut (t:=133) (g:=5) k rfl rfl (poolL_get hv hl) ?_
            (repeat (refine stq ?_))
            refine AL_do2 rfl ⟨_,op_indexAddr_arr (n:=(c:Int) + 1) hT rfl rfl rfl rfl rfl rfl rfl rfl (by omega) (by omega) rfl,?_⟩
            refine AL_do2 rfl ⟨_,op_load_aptr (el:=eSpan u) hT rfl rfl rfl rfl rfl (map_get (by rw [show ((c:Int) + 1).toNat = c + 1 by omega]; exact hlc)) rfl,?_⟩
            refine AL_poolBack 7 8 5 k rfl rfl rfl rfl rfl (by rw [List.getElem?_set,if_pos rfl,if_pos (List.getElem?_eq_some_iff.1 (poolL_get hv hl)).1]) ?_
            rw [pool_same hv hl]
            (repeat (refine stq ?_))
            refine AL_doS rfl (op_callXs (objs:=[(0,poolO vs G)]) (n:=1) [(0,5)] [0] [] (fun av=>k169) rfl rfl rfl rfl (by (repeat' (first|exact trivial|refine And.intro ?_ ?_)); all_goals (first|rfl|decide)) rfl (by (repeat' (first|exact trivial|refine And.intro ?_ ?_)); all_goals (first|rfl|decide)) rfl trivial (by simp) (fun av sf h=>by subst h; exact ⟨.inp ⟨_,_,_,_,_,_,rfl,rfl⟩,trivial⟩)) ?_
            rintro s' ⟨av',sf,rfl,rfl⟩
            (repeat (refine stq ?_))
            refine ⟨(c,G2),⟨by omega,hfw1,hfin⟩,Nat.lt_succ_self c,?_⟩
            (refine Le.mk ?_ ?_; all_goals (repeat' (first|exact trivial|refine sle ?_|refine ⟨?_,rfl,?_⟩|refine ⟨?_,by decide,rfl,?_⟩|fail)))
      ·have hkr:k = w.map.cells.length:=by omega
       have hk':vs.length = w.map.cells.length:=by omega
       subst hkr
       have hth:thickM w.map = G0:=hGd
       rw [hth]
       refine AW_poolPure2 2 8 5 (List.zipWith (fun v l=>(v,l.map eSpan)) vs G0) ?_ ?_ rfl rfl rfl rfl ?_
       ·exact pool_raw (by rw [hin.len,hk'])
       ·exact pool_own _ _
       ·have hrow:(List.zipWith (fun v (l:List Span)=>(v,l.map eSpan)) vs G0).map (fun p=>[PV.sl p.2]) = G0.map eSpanRow:=pool_rows (by rw [hin.len,hk'])
        rw [hrow]
        (repeat (refine stq ?_))
        exact ⟨_,_,rfl,rfl,rfl⟩
end Go.Abs
namespace Go.Abs
open Go.Proofs
set_option maxRecDepth 100000
abbrev wbO (w:Work) (f:List FV):List (Nat × AObj):=[(0,boW w),(1,.box f)]
theorem t107 (w:Work) (hw:WorkP w) (t:List (List Int)) (hs:sizedT w.map t = true) (hf:fitsT w.map t = true) (av:Nat -> Value):ACallsX Tryz.prog 107 [.box 0 0,.box 1 0] (wbO w zB ++ ancL av [(2,0),(3,1)]) 4
  (fun sf=>sf = mkSt [(0,.tup [])] (wbO w ((eBndC w (thickM w.map)).map FV.pv) ++ ancL av [(2,0),(3,1)]) 4) (fun _ _=>False):= by
 have k108:=t108 w hw t hs hf
 refine ACallsX.of_body hT Tryz.func107 rfl (by kernel_rfl) rfl ?_
 (repeat' (first|refine stq ?_|(refine AL_do2 rfl ?_; first|refine ⟨_,op_call1 rfl rfl rfl rfl (k108),nrmA rfl ?_⟩)|(with_reducible refine AL_id ?_); (fail_if_success (refine glq rfl rfl rfl ?_)); first|refine AL_gdec rfl rfl rfl (fun hg=>?_) (fun hg=>?_)|refine AL_gnot rfl rfl rfl (fun hg=>?_) (fun hg=>?_)|refine AL_gcases rfl rfl rfl (fun hg=>?_) (fun hg=>?_)))
 refine ⟨_,mkSt [(0,.tup [])] (wbO w ((eBndC w (thickM w.map)).map FV.pv) ++ ancL av [(2,0),(3,1)]) 4,rfl,?_,rfl⟩
 (refine Le.mk ?_ ?_; all_goals (repeat' (first|exact trivial|refine sle ?_|refine ⟨?_,rfl,?_⟩|refine ⟨?_,by decide,rfl,?_⟩|fail)))
theorem d168r (e:Int) (av:Nat -> Value):DCallsX Tryz.prog 168 [.box 0 0] (eO e av) 2 (fun sf=>sf = mkSt [(0,.tup [])] (eO e av) 2) .returning .returning:= by
 refine DCallsX.of_recover hT (fn:=Tryz.f168) rfl rfl rfl ⟨_,rfl⟩ rfl rfl rfl .nilIface (.pv .nilIface) (fun c₀ cs hu=>.inr ⟨by simp [recoverD,hu],rfl,rfl⟩) (fun D φ W _=>⟨rfl,.pv _ _ .nilIface⟩) ?_
 (repeat (refine stq ?_))
 refine AL_do2 rfl ⟨_,op_eql_nilI ifc20 rfl rfl rfl,?_⟩
 (repeat (refine stq ?_))
 refine ⟨_,_,rfl,?_,rfl⟩
 (refine Le.mk ?_ ?_; all_goals (repeat' (first|exact trivial|refine sle ?_|refine ⟨?_,rfl,?_⟩|refine ⟨?_,by decide,rfl,?_⟩|fail)))
abbrev byO (w:Work) (f:List FV) (e:Int) (av:Nat -> Value) (v:Value):List (Nat × AObj):=wbO w f ++ ancL av [(2,0),(3,1)] ++ [(4,.box [.pv (vi e)]),(5,.anc v (.fn 168 [.box 4 0]))]
def Q106 (w:Work) (av:Nat -> Value) (v:Value):Exit -> ASt -> Prop
 | .ret,s'=>Le s' (mkSt [(2,.box 4 0)] (byO w ((eBndC w (thickM w.map)).map FV.pv) 0 av v) 6)
 | _,_=>False
set_option maxHeartbeats 4000000 in
theorem t106 (w:Work) (hw:WorkP w) (t:List (List Int)) (hs:sizedT w.map t = true) (hf:fitsT w.map t = true) (av:Nat -> Value):ACallsX Tryz.prog 106 [.fn 107 [.box 0 0,.box 1 0]] (wbO w zB ++ ancL av [(2,0),(3,1)]) 4
  (fun sf=>sf = mkSt [(0,.pv (vi 0))] (wbO w ((eBndC w (thickM w.map)).map FV.pv) ++ ancL av [(2,0),(3,1)]) 4) (fun _ _=>False):= by
 refine ACallsX.of_deferring (fn:=Tryz.f106) rfl rfl (by kernel_rfl) rfl ?_
 refine AWR_seq (Qx:=fun _ _=>False) ?_ (fun _ _ _ _ _ _ _ _ h=>by obtain ⟨_,_,_,_,h⟩:=h; exact h.elim)
 (repeat (refine stq ?_))
 refine AWR_defer (f:=.tmp 3) rfl (op_mkfunc rfl rfl rfl) rfl rfl rfl rfl fun v=>?_
 refine AWR_end (Qx:=Q106 w av v) ?_ ?_
 ·(repeat (refine stq ?_))
  refine AL_doP rfl (op_callX (objs:=wbO w zB) (n:=4) [(0,0),(1,1)] [0,1] [(2,0),(3,1)] (fun av=>t107 w hw t hs hf av) rfl rfl rfl rfl (by (repeat' (first|exact trivial|refine And.intro ?_ ?_)); all_goals (first|rfl|decide)) rfl (by (repeat' (first|exact trivial|refine And.intro ?_ ?_)); all_goals (first|rfl|decide)) rfl ⟨⟨rfl,rfl,⟨_,.head _⟩,rfl⟩,⟨rfl,rfl,⟨_,.tail _ (.head _)⟩,rfl⟩,trivial⟩ (by simp) ?_ ?_) ?_ ?_
  ·rintro av' sf rfl
   exact ⟨.inl ⟨2,by simp,rfl⟩,.inl ⟨3,by simp,rfl⟩,trivial⟩
  ·rintro av' t sf h
   exact h.elim
  ·rintro s' ⟨av',sf,rfl,rfl⟩
   (repeat (refine stq ?_))
   show Le _ _
   (refine Le.mk ?_ ?_; all_goals (repeat' (first|exact trivial|refine sle ?_|refine ⟨?_,rfl,?_⟩|refine ⟨?_,by decide,rfl,?_⟩|fail)))
  ·rintro t s' x ⟨av',sf,h,rfl⟩
   exact h.elim
 ·rintro W0 D0 e a' w' hr hp ⟨s',D',φ',hI,hq⟩
  have hen:Enters Tryz.prog 168:=enters_of (fn:=Tryz.f168) rfl rfl (by kernel_rfl)
  cases e with
  | ret =>
   obtain ⟨φ2,hI2⟩:=Le.inv hq hI
   refine leaves_deferred (A:=5) (u':=.returning) [(0,4)] [0] [(1,0)] (objs:=[(0,.box [.pv (vi 0)])]) (fun av=>d168r 0 av) hen rfl (by (repeat' (first|exact trivial|refine And.intro ?_ ?_)); all_goals (first|rfl|decide)) rfl (by (repeat' (first|exact trivial|refine And.intro ?_ ?_)); all_goals (first|rfl|decide)) rfl ⟨⟨rfl,rfl,⟨_,.head _⟩,rfl⟩,trivial⟩ (by simp) ?_ (by simp) rfl hp hI2 ?_
   ·rintro av' sf rfl
    exact ⟨.inl ⟨1,by simp,rfl⟩,trivial⟩
   ·rintro av' sf D2 φ3 w' rfl hI3
    refine retX_post (fn:=Tryz.f106) (D0:={ D0 with pd:=none }) hT hI3 (sf:=mkSt [(0,.pv (vi 0))] (wbO w ((eBndC w (thickM w.map)).map FV.pv) ++ ancL av [(2,0),(3,1)]) 4) rfl ?_ rfl
    (refine Le.mk ?_ ?_; all_goals (repeat' (first|exact trivial|refine sle ?_|refine ⟨?_,rfl,?_⟩|refine ⟨?_,by decide,rfl,?_⟩|fail)))
  | _=>exact hq.elim
theorem t50 (w:Work) (hw:WorkP w) (t:List (List Int)) (hs:sizedT w.map t = true) (hf:fitsT w.map t = true):ACalls Tryz.prog 50 [eWork w] (fun r=>r = .tup [eBnd w (thickM w.map),vi 0]):= by
 refine ACalls.of_body hT Tryz.func50 rfl (by kernel_rfl) rfl ?_
 (repeat (refine stq ?_))
 refine AL_doS rfl (op_callXs (objs:=wbO w zB) (n:=4) [(0,0),(1,2)] [0,1] [(2,0),(3,1)] (fun av=>t106 w hw t hs hf av) rfl rfl rfl rfl (by (repeat' (first|exact trivial|refine And.intro ?_ ?_)); all_goals (first|rfl|decide)) rfl (by (repeat' (first|exact trivial|refine And.intro ?_ ?_)); all_goals (first|rfl|decide)) rfl ⟨⟨rfl,rfl,⟨_,.head _⟩,rfl⟩,⟨rfl,rfl,⟨_,.tail _ (.head _)⟩,rfl⟩,trivial⟩ (by simp) (fun av' sf hsf=>by subst hsf; exact ⟨.inl ⟨2,by simp,rfl⟩,.inl ⟨3,by simp,rfl⟩,trivial⟩)) ?_
 rintro s' ⟨av',sf,rfl,rfl⟩
 (repeat (refine stq ?_))
 exact ⟨_,_,rfl,rfl,rfl⟩
end Go.Abs
namespace Go.Abs
open Go.Proofs
set_option maxRecDepth 100000
def lowI (w:Work) (b:Blank):Int:=sliceI w b (leastT w (thickM w.map) b)
def highI (w:Work) (b:Blank):Int:=sliceI w b (mostT w (thickM w.map) b)
set_option maxHeartbeats 4000000 in
theorem t30 (w:Work) (hw:WorkP w) (t:List (List Int)) (hs:sizedT w.map t = true) (hf:fitsT w.map t = true) (b:Blank) (hok:okB w b = true):ACalls Tryz.prog 30 [eWork w,eB b] (fun r=>r = .tup [eS ⟨lowI w b,highI w b⟩,vi 0]):= by
 obtain ⟨g1,g2,g3⟩:=ok_range hok
 have h4:=hw.t4
 have hT2:=(in_thick hw.map hs hf).thick
 have k49:=t49 w hw
 have k74:=t74 w (by omega) b
 rw [g1] at k74
 have k50:=t50 w hw t hs hf
 have k75:=t75 w hw b g1
 rw [g2] at k75
 have k76:=t76 w hw (thickM w.map) hT2 b g1 g3
 have k77:=t77 w hw (thickM w.map) hT2 b g1 g3
 have e1:lowI w b = sliceI w b (leastT w (thickM w.map) b):=rfl
 have e2:highI w b = sliceI w b (mostT w (thickM w.map) b):=rfl
 rw [e1,e2]
 generalize sliceI w b (leastT w (thickM w.map) b) = lo at *
 generalize sliceI w b (mostT w (thickM w.map) b) = hi at *
 generalize thickM w.map = th at *
 refine ACalls.of_body hT Tryz.func30 rfl (by kernel_rfl) rfl ?_
 (repeat' (first|refine stq ?_|(refine AL_do2 rfl ?_; first|refine ⟨_,op_call1 rfl rfl rfl rfl (k49),nrmA rfl ?_⟩|refine ⟨_,op_call1 rfl rfl rfl rfl (k74),nrmA rfl ?_⟩|refine ⟨_,op_call1 rfl rfl rfl rfl (k50),nrmA rfl ?_⟩|refine ⟨_,op_call1 rfl rfl rfl rfl (k75),nrmA rfl ?_⟩)|(with_reducible refine AL_id ?_); (fail_if_success (refine glq rfl rfl rfl ?_)); first|refine AL_gdec rfl rfl rfl (fun hg=>?_) (fun hg=>?_)|refine AL_gnot rfl rfl rfl (fun hg=>?_) (fun hg=>?_)|refine AL_gcases rfl rfl rfl (fun hg=>?_) (fun hg=>?_)))
 refine AW_loopC (fun i:Nat=>i <= 2) (fun i=>mkSt [(2,.box 0 0),(3,.box 1 0),(4,.box 2 0),(6,.box 3 0),(8,.box 4 0),(39,.agg [.pv (.meth 76 [eBnd w th]),.pv (.meth 77 [eBnd w th])]),(40,.pv (vi i))]
  [(0,boW w),(1,.box ((eBlank b).map FV.pv)),(2,.box [.pv (vi 0),.pv (vi 0)]),(3,.box ((eBndC w th).map FV.pv)),(4,.box [.pv (vi (if 1 <= i then lo else 0)),.pv (vi (if 2 <= i then hi else 0))])] 5) (fun i=>2 - i) 0 (by omega) ?_ ?_
 ·(refine Le.mk ?_ ?_; all_goals (repeat' (first|exact trivial|refine sle ?_|refine ⟨?_,rfl,?_⟩|refine ⟨?_,by decide,rfl,?_⟩|fail)))
 ·intro i hi
  match i,hi with
  | 0,_ =>
   (repeat' (first|refine stq ?_|(refine AL_do2 rfl ?_; first|refine ⟨_,op_callM rfl rfl rfl rfl (k76),nrmA rfl ?_⟩)|(with_reducible refine AL_id ?_); (fail_if_success (refine glq rfl rfl rfl ?_)); first|refine AL_gdec rfl rfl rfl (fun hg=>?_) (fun hg=>?_)|refine AL_gnot rfl rfl rfl (fun hg=>?_) (fun hg=>?_)|refine AL_gcases rfl rfl rfl (fun hg=>?_) (fun hg=>?_)))
   refine ⟨1,by omega,by omega,?_⟩
   (refine Le.mk ?_ ?_; all_goals (repeat' (first|exact trivial|refine sle ?_|refine ⟨?_,rfl,?_⟩|refine ⟨?_,by decide,rfl,?_⟩|fail)))
  | 1,_ =>
   (repeat' (first|refine stq ?_|(refine AL_do2 rfl ?_; first|refine ⟨_,op_callM rfl rfl rfl rfl (k77),nrmA rfl ?_⟩)|(with_reducible refine AL_id ?_); (fail_if_success (refine glq rfl rfl rfl ?_)); first|refine AL_gdec rfl rfl rfl (fun hg=>?_) (fun hg=>?_)|refine AL_gnot rfl rfl rfl (fun hg=>?_) (fun hg=>?_)|refine AL_gcases rfl rfl rfl (fun hg=>?_) (fun hg=>?_)))
   refine ⟨2,by omega,by omega,?_⟩
   (refine Le.mk ?_ ?_; all_goals (repeat' (first|exact trivial|refine sle ?_|refine ⟨?_,rfl,?_⟩|refine ⟨?_,by decide,rfl,?_⟩|fail)))
  | 2,_ =>
   (repeat (refine stq ?_))
   exact ⟨_,_,rfl,rfl,rfl⟩
def truthI (w:Work) (t:List (List Int)) (b:Blank):Int:=sliceI w b (truthT w t b)
theorem slice_bd {w:Work} (hw:WorkP w) {b:Blank} (hb:inB b.tube 0 (w.tubes.length - 1) = true) {n:Int} (h:0 <= n /\ n <= 60):0 <= sliceI w b n /\ sliceI w b n <= 65:= by
 have hTu:=hw.tt _ (List.mem_of_getElem? (tube_at hb))
 have h1:=hTu.n1
 have k0:=hw.k0; have k5:=hw.k5
 rw [sliceI]
 have hq0:0 <= (n + w.kerf).tdiv ((tubeOf w b).need + w.kerf):=Int.tdiv_nonneg (by omega) (by omega)
 have hq1:(n + w.kerf).tdiv ((tubeOf w b).need + w.kerf) <= n + w.kerf:= by
  rw [Int.tdiv_eq_ediv_of_nonneg (by omega)]
  exact Int.ediv_le_self _ (by omega)
 omega
set_option maxHeartbeats 4000000 in
theorem t31 (w:Work) (hw:WorkP w) (t:List (List Int)) (hs:sizedT w.map t = true) (hf:fitsT w.map t = true) (l:List Blank) (hl:l.length <= 1000) (hc:CutP w l) :
  ACalls Tryz.prog 31 [eWork w,eBlanks l,eRows t] (fun r=>r = .tup [vi (sumI (worthL w (truthI w t) l)),vi 0]):= by
 have hN:=fits_num hs hf
 have k49:=t49 w hw
 have k78:=t78 w hw l hl hc
 have k79:=t79 w.map hw.map t hs
 have k80:=t80 w.map hw.map t hs hf
 have k81:=t81 w hw [] l hl (fun b hb=>(ok_range (hc.ok b hb)).1) 82 [.ptr (eWorkC w),.ptr [eRows t],.ptr (eBndC w [])] (truthI w t) (fun b hb=>by
  obtain ⟨g1,g2,g3⟩:=ok_range (hc.ok b hb)
  have hbd:0 <= truthT w t b /\ truthT w t b <= 60:=minL_bd _ 60 (by omega) (by omega) fun p hp=>by
   obtain ⟨i,hi⟩:=List.mem_iff_getElem?.1 hp
   obtain ⟨_,_,_,h,_⟩:=num_at hN (cells_there hw g1 g3 hi)
   exact h
  have:=slice_bd hw g1 hbd
  rw [truthI]; omega) (fun b hb=>by
  obtain ⟨g1,g2,g3⟩:=ok_range (hc.ok b hb)
  exact t82 w hw t hN b g1 g3)
 generalize sumI (worthL w (truthI w t) l) = n at *
 refine ACalls.of_body hT Tryz.func31 rfl (by kernel_rfl) rfl ?_
 (repeat' (first|refine stq ?_|(refine AL_do2 rfl ?_; first|refine ⟨_,op_call1 rfl rfl rfl rfl (k49),nrmA rfl ?_⟩|refine ⟨_,op_call1 rfl rfl rfl rfl (k78),nrmA rfl ?_⟩|refine ⟨_,op_call1 rfl rfl rfl rfl (k79),nrmA rfl ?_⟩|refine ⟨_,op_call1 rfl rfl rfl rfl (k80),nrmA rfl ?_⟩|refine ⟨_,op_callB rfl rfl rfl rfl (k81) rfl,nrmA rfl ?_⟩)|(with_reducible refine AL_id ?_); (fail_if_success (refine glq rfl rfl rfl ?_)); first|refine AL_gdec rfl rfl rfl (fun hg=>?_) (fun hg=>?_)|refine AL_gnot rfl rfl rfl (fun hg=>?_) (fun hg=>?_)|refine AL_gcases rfl rfl rfl (fun hg=>?_) (fun hg=>?_)))
 exact ⟨_,_,rfl,rfl,rfl⟩
end Go.Abs
