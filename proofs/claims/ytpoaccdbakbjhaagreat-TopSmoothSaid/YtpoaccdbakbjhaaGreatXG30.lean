/- What a blank gives in a truth. -/
import Derived.Test.YtpoaccdbakbjhaaGreatXG28
import Derived.Test.YtpoaccdbakbjhaaGreatXG29
set_option linter.unusedVariables false
set_option linter.unusedSimpArgs false
namespace Go.Abs
open Go.Proofs
set_option maxRecDepth 100000
structure NumP (m:SMap) (t:List (List Int)):Prop where
 len:t.length = m.cells.length
 row:∀ l ∈ t,l.length = colsN m
 bd:∀ l ∈ t,∀ n ∈ l,0 <= n /\ n <= 60
def truthT (w:Work) (t:List (List Int)) (b:Blank):Int:=minL (fun p=>numT t p.row p.col) (cellsL b (widthN w b))
theorem num_at {m:SMap} {t:List (List Int)} (hN:NumP m t) {p:Place} (h:0 <= p.row /\ p.row < m.cells.length /\ 0 <= p.col /\ p.col < colsN m):∃ x,t[p.row.toNat]? = some x /\ x[p.col.toNat]? = some (numT t p.row p.col) /\ 0 <= numT t p.row p.col /\ numT t p.row p.col <= 60:= by
 have hl:=hN.len
 obtain ⟨x,hx⟩:∃ x,t[p.row.toNat]? = some x:=⟨t[p.row.toNat]'(by omega),by simp⟩
 have hxl:=hN.row x (List.mem_of_getElem? hx)
 obtain ⟨y,hy⟩:∃ y,x[p.col.toNat]? = some y:=⟨x[p.col.toNat]'(by omega),by simp⟩
 have e:numT t p.row p.col = y:=by rw [numT,atG_in h.1 h.2.2.1 hx,hy]; rfl
 rw [e]
 exact ⟨x,hx,hy,hN.bd x (List.mem_of_getElem? hx) y (List.mem_of_getElem? hy)⟩
abbrev trT (w:Work) (t:List (List Int)) (b:Blank) (av:Nat -> Value) (n:Int):List (Nat × AObj):=[(0,.box ((eBlank b).map FV.pv)),(1,.box [.pv (vi n)]),(2,.anc (av 1) (.pv (.ptr (eWorkC w)))),(3,.anc (av 2) (.pv (.ptr [eRows t]))),(4,.anc (av 3) (.pv (.ptr (eBndC w [])))),(5,.anc (av 4) (.box 0 0)),(6,.anc (av 6) (.box 1 0))]
set_option maxHeartbeats 4000000 in
theorem t82 (w:Work) (hw:WorkP w) (t:List (List Int)) (hN:NumP w.map t) (b:Blank) (hb:inB b.tube 0 (w.tubes.length - 1) = true) (hn:inRange w b = true):ACalls Tryz.prog 82 [eB b,.ptr (eWorkC w),.ptr [eRows t],.ptr (eBndC w [])] (fun r=>r = .pv (vi (sliceI w b (truthT w t b)))):= by
 have ht:=tube_at hb
 have hTu:=hw.tt _ (List.mem_of_getElem? ht)
 have h1:=hTu.w1
 have g6:=hw.map.r6; have g8:=hw.map.c8; have hl:=hN.len
 obtain ⟨br,bc⟩:=range_bd hw h1 hn
 have hit:=it151 w hw b hb br bc (widthN w b) (by unfold widthN; omega)
 have hth:∀ (k:Nat) (p:Place),(cellsL b (widthN w b))[k]? = some p -> 0 <= p.row /\ p.row < w.map.cells.length /\ 0 <= p.col /\ p.col < colsN w.map:=fun k p hp=>cells_there hw hb hn hp
 have hbd:0 <= truthT w t b /\ truthT w t b <= 60:=minL_bd _ 60 (by omega) (by omega) fun p hp=>by
  obtain ⟨i,hi⟩:=List.mem_iff_getElem?.1 hp
  obtain ⟨_,_,_,h,_⟩:=num_at hN (hth i p hi)
  exact h
 have k84:=t84 w hw [] b hb (truthT w t b) (by omega)
 have k83:=t83 w b
 rw [truthT] at k84 ⊢
 generalize widthN w b = W at *
 refine ACalls.of_body hT Tryz.func82 rfl (by kernel_rfl) rfl ?_
 (repeat' (first|refine stq ?_|(refine AL_do2 rfl ?_; first|refine ⟨_,op_call1 rfl rfl rfl rfl (k83),nrmA rfl ?_⟩)|(with_reducible refine AL_id ?_); (fail_if_success (refine glq rfl rfl rfl ?_)); first|refine AL_gdec rfl rfl rfl (fun hg=>?_) (fun hg=>?_)|refine AL_gnot rfl rfl rfl (fun hg=>?_) (fun hg=>?_)|refine AL_gcases rfl rfl rfl (fun hg=>?_) (fun hg=>?_)))
 refine AW_range (gf:=151) (caps:=[.ptr (eWorkC w),.ptr (eBlank b)]) (L:=cellsY b W) [1,2,3,4,6] [(1,.pv (.ptr (eWorkC w))),(2,.pv (.ptr [eRows t])),(3,.pv (.ptr (eBndC w []))),(4,.box 0 0),(6,.box 1 0)] (fun av k (_:Unit)=>trT w t b av (minL (fun p=>numT t p.row p.col) ((cellsL b W).take k))) (fun _ _=>True) 7 [2,3,4,5,6] () trivial
  ?_ hit.1 ?_ ?_ ?_ ?_ ?_ ?_
 ·rfl
 ·intro p hp
  simp only [List.mem_cons,List.not_mem_nil,or_false] at hp; rcases hp with rfl|rfl <;> rfl
 ·intro x hx
  simp only [cellsY,List.mem_map] at hx
  obtain ⟨y,_,rfl⟩:=hx; rfl
 ·intro av j i
  ((repeat' (first|exact trivial|refine And.intro ?_ ?_)); all_goals (first|rfl|decide))
 ·intro av
  (refine Le.mk ?_ ?_; all_goals (repeat' (first|exact trivial|refine sle ?_|refine ⟨?_,rfl,?_⟩|refine ⟨?_,by decide,rfl,?_⟩|fail)))
 ·intro av k _ x _ hx
  obtain ⟨p,hp,rfl⟩:∃ p,(cellsL b W)[k]? = some p /\ placeY p = x:= by
   rw [cellsY,List.getElem?_map,Option.map_eq_some_iff] at hx; exact hx
  have hb4:=hth k p hp
  obtain ⟨y,hy1,hy2,_⟩:=num_at hN hb4
  have e1:=get_map eRow hy1
  have e2:=get_map eInt hy2
  have hs:=minL_succ (f:=fun p=>numT t p.row p.col) hp
  generalize minL (fun p=>numT t p.row p.col) ((cellsL b W).take k) = M at *
  (repeat (refine stq ?_))
  (repeat (refine sdq ?_))
  refine DG_end hM (by kernel_rfl) ?_
  (repeat (refine stq ?_))
  refine roundQ_intro () trivial ?_
  rw [hs]
  (refine Le.mk ?_ ?_; all_goals (repeat' (first|exact trivial|refine sle ?_|refine ⟨?_,rfl,?_⟩|refine ⟨?_,by decide,rfl,?_⟩|fail)))
 ·intro av _ _
  rw [show (cellsY b W).length = (cellsL b W).length by simp [cellsY],List.take_length]
  (repeat' (first|refine stq ?_|(refine AL_do2 rfl ?_; first|refine ⟨_,op_call1 rfl rfl rfl rfl (k84),nrmA rfl ?_⟩)|(with_reducible refine AL_id ?_); (fail_if_success (refine glq rfl rfl rfl ?_)); first|refine AL_gdec rfl rfl rfl (fun hg=>?_) (fun hg=>?_)|refine AL_gnot rfl rfl rfl (fun hg=>?_) (fun hg=>?_)|refine AL_gcases rfl rfl rfl (fun hg=>?_) (fun hg=>?_)))
  exact ⟨_,_,rfl,rfl,rfl⟩
end Go.Abs
namespace Go.Abs
open Go.Proofs
set_option maxRecDepth 100000
theorem t146 (a b:List Int) (hab:a.length = b.length):ACalls Tryz.prog 146 [eInts a,eInts b] (fun r=>r = .pv (.bool true)):= by
 refine ACalls.of_body hT Tryz.func146 rfl (by kernel_rfl) rfl ?_
 (repeat (refine stq ?_))
 exact ⟨_,_,rfl,rfl,by simp [hab]⟩
theorem t79 (m:SMap) (hm:MapP m) (t:List (List Int)) (ht:sizedT m t = true):ACalls Tryz.prog 79 [eMap m,eRows t] (fun r=>r = .pv (.bool true)):= by
 have hl:=sized_len ht
 have h6:=hm.r6
 have k145:ACalls Tryz.prog 145 [eRows t,eRows m.cells,.fn 146 []] (fun r=>r = .pv (.bool true)):= by
  refine ACalls.of_body hT Tryz.func145 rfl (by kernel_rfl) rfl ?_
  (repeat (refine stq ?_))
  refine AW_if rfl (fun hc=>absurd hc (by omega)) (fun hc=>?_)
  (repeat (refine stq ?_))
  refine AW_loopC (fun k:Nat=>k <= t.length) (fun k=>mkSt [(1,.pv (eRows m.cells)),(2,.pv (.fn 146 [])),(15,.pv (eRows t)),(16,.pv (vi t.length)),(17,.pv (vi k))] [] 0) (fun k=>t.length - k) 0 (Nat.zero_le _) ?_ ?_
  ·(refine Le.mk ?_ ?_; all_goals (repeat' (first|exact trivial|refine sle ?_|refine ⟨?_,rfl,?_⟩|refine ⟨?_,by decide,rfl,?_⟩|fail)))
  ·intro k hk
   (repeat (refine stq ?_))
   refine AW_if rfl (fun hc2=>?_) (fun hc2=>?_)
   ·have hk':k < t.length:=by omega
    obtain ⟨x,hx⟩:∃ x,t[k]? = some x:=⟨t[k],by simp [hk']⟩
    obtain ⟨y,hy⟩:∃ y,m.cells[k]? = some y:=⟨m.cells[k]'(by omega),by simp⟩
    have e1:=get_map eRow hx
    have e2:=get_map eRow hy
    have k146:=t146 x y (by rw [sized_row ht hx,cols_row hm hy])
    (repeat' (first|refine stq ?_|(refine AL_do2 rfl ?_; first|refine ⟨_,op_call1 rfl rfl rfl rfl (k146),nrmA rfl ?_⟩)|(with_reducible refine AL_id ?_); (fail_if_success (refine glq rfl rfl rfl ?_)); first|refine AL_gdec rfl rfl rfl (fun hg=>?_) (fun hg=>?_)|refine AL_gnot rfl rfl rfl (fun hg=>?_) (fun hg=>?_)|refine AL_gcases rfl rfl rfl (fun hg=>?_) (fun hg=>?_)))
    refine ⟨k + 1,hk',by omega,?_⟩
    (refine Le.mk ?_ ?_; all_goals (repeat' (first|exact trivial|refine sle ?_|refine ⟨?_,rfl,?_⟩|refine ⟨?_,by decide,rfl,?_⟩|fail)))
   ·(repeat (refine stq ?_))
    exact ⟨_,_,rfl,rfl,rfl⟩
 refine ACalls.of_body hT Tryz.func79 rfl (by kernel_rfl) rfl ?_
 (repeat' (first|refine stq ?_|(refine AL_do2 rfl ?_; first|refine ⟨_,op_call1 rfl rfl rfl rfl (k145),nrmA rfl ?_⟩)|(with_reducible refine AL_id ?_); (fail_if_success (refine glq rfl rfl rfl ?_)); first|refine AL_gdec rfl rfl rfl (fun hg=>?_) (fun hg=>?_)|refine AL_gnot rfl rfl rfl (fun hg=>?_) (fun hg=>?_)|refine AL_gcases rfl rfl rfl (fun hg=>?_) (fun hg=>?_)))
 exact ⟨_,_,rfl,rfl,rfl⟩
theorem fits_cell {m:SMap} {t:List (List Int)} (h:fitsT m t = true) {r c:Nat} (hr:r < m.cells.length) (hc:c < colsN m):cellFit m t r c = true:= by
 simp only [fitsT,rowFit,Bool.and_eq_true,List.all_eq_true,List.mem_range] at h
 exact h.1 r hr c hc
theorem fits_num {m:SMap} {t:List (List Int)} (hs:sizedT m t = true) (h:fitsT m t = true):NumP m t:= by
 refine ⟨sized_len hs,fun l hl=>?_,fun l hl n hn=>?_⟩
 ·obtain ⟨i,hi⟩:=List.mem_iff_getElem?.1 hl
  exact sized_row hs hi
 ·obtain ⟨i,hi⟩:=List.mem_iff_getElem?.1 hl
  obtain ⟨j,hj⟩:=List.mem_iff_getElem?.1 hn
  have h1:=sized_len hs
  have h2:=sized_row hs hi
  have h3:=(List.getElem?_eq_some_iff.1 hi).1
  have h4:=(List.getElem?_eq_some_iff.1 hj).1
  have hf:=fits_cell h (r:=i) (c:=j) (by omega) (by omega)
  rw [cellFit,numT_at hi hj] at hf
  by_cases g:cellI m i j = 1
  ·rw [if_pos g] at hf; have:=of_decide_eq_true hf; omega
  ·rw [if_neg g,Bool.and_eq_true] at hf; exact inB_true hf.1
theorem t148 (m:SMap) (hm:MapP m) (t:List (List Int)) (hN:NumP m t) (g:Gauge) (hg:gaugeB m g = true) (hf:gaugeFit t g = true):ACalls Tryz.prog 148 [.agg (eGauge g),.ptr [eRows t]] (fun r=>r = .pv (.bool false)):= by
 have hb:=gauge_in hm hg
 obtain ⟨x,hx,hy,b0,b1⟩:=num_at hN (p:=⟨g.row,g.col⟩) hb
 simp only at hx hy b0 b1
 rw [gaugeFit] at hf
 have hf2:=inB_true hf
 simp only [gaugeB,Bool.and_eq_true] at hg
 have hs:=inB_true hg.1.2
 have ho:=inB_true hg.2
 have e1:=get_map eRow hx
 have e2:=get_map eInt hy
 have h6:=hm.r6; have h8:=hm.c8; have hl:=hN.len
 have hxl:=hN.row x (List.mem_of_getElem? hx)
 generalize numT t g.row g.col = y at *
 have k1:=t103 (y - g.seen) (-g.off) g.off
 rw [inB_iff.2 (by omega)] at k1
 refine ACalls.of_body hT Tryz.func148 rfl (by kernel_rfl) rfl ?_
 (repeat (refine stq ?_))
 (repeat (first|refine DG_next (D_neg rfl rfl rfl rfl (by omega)) ?_|refine sdq ?_|refine DG_next (D_call rfl rfl rfl rfl rfl (k1)) ?_))
 refine DG_end hM (by kernel_rfl) ?_
 (repeat (refine stq ?_))
 exact ⟨_,_,rfl,rfl,rfl⟩
end Go.Abs
namespace Go.Abs
open Go.Proofs
set_option maxRecDepth 100000
set_option maxHeartbeats 4000000 in
theorem t80 (m:SMap) (hm:MapP m) (t:List (List Int)) (hs:sizedT m t = true) (hf:fitsT m t = true):ACalls Tryz.prog 80 [eMap m,eRows t] (fun r=>r = .pv (.bool true)):= by
 have hN:=fits_num hs hf
 have h6:=hm.r6; have h8:=hm.c8; have hl:=sized_len hs; have t0:=hm.t0; have t9:=hm.t9; have g8:=hm.g8
 have hgf:∀ g ∈ m.gauges,gaugeFit t g = true:= by
  simp only [fitsT,Bool.and_eq_true,List.all_eq_true] at hf
  exact hf.2
 have k147:=u147 m.gauges 148 [.ptr [eRows t]] (fun _=>false) (by omega) (fun g hg=>t148 m hm t hN g (hm.gg g hg) (hgf g hg))
 rw [any_false] at k147
 refine ACalls.of_body hT Tryz.func80 rfl (by kernel_rfl) rfl ?_
 (repeat (refine stq ?_))
 refine AW_loopC (fun k:Nat=>k <= m.cells.length) (fun k=>mkSt [(2,.box 0 0),(3,.box 1 0),(11,.pv (eRows m.cells)),(12,.pv (vi m.cells.length)),(13,.pv (vi k))] [(0,boM m),(1,.box [.pv (eRows t)])] 2) (fun k=>m.cells.length - k) 0 (Nat.zero_le _) ?_ ?_
 ·(refine Le.mk ?_ ?_; all_goals (repeat' (first|exact trivial|refine sle ?_|refine ⟨?_,rfl,?_⟩|refine ⟨?_,by decide,rfl,?_⟩|fail)))
 ·intro k hk
  (repeat (refine stq ?_))
  refine AW_if rfl (fun hc=>?_) (fun hc=>?_)
  ·have hk':k < m.cells.length:=by omega
   obtain ⟨x,hx⟩:∃ x,m.cells[k]? = some x:=⟨m.cells[k],by simp [hk']⟩
   obtain ⟨z,hz⟩:∃ z,t[k]? = some z:=⟨t[k]'(by omega),by simp⟩
   have e1:=get_map eRow hx
   have e2:=get_map eRow hz
   have hxl:=cols_row hm hx
   have hzl:=sized_row hs hz
   (repeat (refine stq ?_))
   refine AW_loopC (fun c:Nat=>c <= x.length) (fun c=>mkSt [(2,.box 0 0),(3,.box 1 0),(11,.pv (eRows m.cells)),(12,.pv (vi m.cells.length)),(13,.pv (vi k)),(5,.pv (vi k)),(6,.pv (eInts x)),(18,.pv (eInts x)),(19,.pv (vi x.length)),(20,.pv (vi c))] [(0,boM m),(1,.box [.pv (eRows t)])] 2) (fun c=>x.length - c) 0 (Nat.zero_le _) ?_ ?_
   ·(refine Le.mk ?_ ?_; all_goals (repeat' (first|exact trivial|refine sle ?_|refine ⟨?_,rfl,?_⟩|refine ⟨?_,by decide,rfl,?_⟩|fail)))
   ·intro c hcl
    (repeat (refine stq ?_))
    refine AW_if rfl (fun hc2=>?_) (fun hc2=>?_)
    ·have hc':c < x.length:=by omega
     obtain ⟨a,ha⟩:∃ a,x[c]? = some a:=⟨x[c],by simp [hc']⟩
     obtain ⟨y,hy⟩:∃ y,z[c]? = some y:=⟨z[c]'(by omega),by simp⟩
     have e3:=get_map eInt ha
     have e4:=get_map eInt hy
     have hyb:=hN.bd z (List.mem_of_getElem? hz) y (List.mem_of_getElem? hy)
     have k1:=t103 y 0 60
     rw [inB_iff.2 hyb] at k1
     have eca:cellI m k c = a:=by rw [cellI,atG_row hx,ha]; rfl
     have hcf:=fits_cell hf (r:=k) (c:=c) hk' (by omega)
     rw [cellFit,numT_at hz hy,eca] at hcf
     have hzero:a = 1 -> y = 0:=fun h=>by rw [if_pos h] at hcf; exact of_decide_eq_true hcf
     by_cases hA:a = 1
     ·have hy0:=hzero hA
      (repeat' (first|refine stq ?_|(refine AL_do2 rfl ?_; first|refine ⟨_,op_call1 rfl rfl rfl rfl (k1),nrmA rfl ?_⟩)|(with_reducible refine AL_id ?_); (fail_if_success (refine glq rfl rfl rfl ?_)); first|refine AL_gdec rfl rfl rfl (fun hg=>?_) (fun hg=>?_)|refine AL_gnot rfl rfl rfl (fun hg=>?_) (fun hg=>?_)|refine AL_gcases rfl rfl rfl (fun hg=>?_) (fun hg=>?_)))
      all_goals (try (exfalso; omega))
      refine AW_if rfl (fun h=>absurd hy0 (by omega)) (fun _=>?_)
      (repeat (refine stq ?_))
      iterate 1 (refine sdq ?_)
      refine DG_cmp hT rfl (fun hg=>?_) (fun hg=>?_)
      ·iterate 2 (refine sdq ?_)
       refine DG_cmp hT rfl (fun hg=>?_) (fun hg=>?_)
       ·exfalso; omega
       ·(repeat (first|refine DG_next (StepOK.skipU rfl rfl) ?_|refine sdq ?_))
        refine DG_end hM (by kernel_rfl) ?_
        (repeat (refine stq ?_))
        refine ⟨c + 1,hc',by omega,?_⟩
        (refine Le.mk ?_ ?_; all_goals (repeat' (first|exact trivial|refine sle ?_|refine ⟨?_,rfl,?_⟩|refine ⟨?_,by decide,rfl,?_⟩|fail)))
      ·(repeat (first|refine DG_next (StepOK.skipU rfl rfl) ?_|refine sdq ?_))
       refine DG_end hM (by kernel_rfl) ?_
       (repeat (refine stq ?_))
       refine ⟨c + 1,hc',by omega,?_⟩
       (refine Le.mk ?_ ?_; all_goals (repeat' (first|exact trivial|refine sle ?_|refine ⟨?_,rfl,?_⟩|refine ⟨?_,by decide,rfl,?_⟩|fail)))
     ·rw [if_neg hA] at hcf
      (repeat' (first|refine stq ?_|(refine AL_do2 rfl ?_; first|refine ⟨_,op_call1 rfl rfl rfl rfl (k1),nrmA rfl ?_⟩)|(with_reducible refine AL_id ?_); (fail_if_success (refine glq rfl rfl rfl ?_)); first|refine AL_gdec rfl rfl rfl (fun hg=>?_) (fun hg=>?_)|refine AL_gnot rfl rfl rfl (fun hg=>?_) (fun hg=>?_)|refine AL_gcases rfl rfl rfl (fun hg=>?_) (fun hg=>?_)))
      all_goals (try (exfalso; omega))
      cases c with
      | zero =>
       (repeat (refine stq ?_))
       iterate 1 (refine sdq ?_)
       refine DG_cmp hT rfl (fun hg=>?_) (fun hg=>?_)
       ·exfalso; omega
       ·(repeat (first|refine DG_next (StepOK.skipU rfl rfl) ?_|refine sdq ?_))
        refine DG_end hM (by kernel_rfl) ?_
        (repeat (refine stq ?_))
        refine ⟨0 + 1,hc',by omega,?_⟩
        (refine Le.mk ?_ ?_; all_goals (repeat' (first|exact trivial|refine sle ?_|refine ⟨?_,rfl,?_⟩|refine ⟨?_,by decide,rfl,?_⟩|fail)))
      | succ c =>
       obtain ⟨a2,ha2⟩:∃ a,x[c]? = some a:=⟨x[c]'(by omega),by simp⟩
       obtain ⟨y2,hy2⟩:∃ y,z[c]? = some y:=⟨z[c]'(by omega),by simp⟩
       have ei:(((c + 1:Nat):Int) - 1).toNat = c:=by omega
       have e5:(x.map eInt)[(((c + 1:Nat):Int) - 1).toNat]? = some (eInt a2):=by rw [ei]; exact get_map eInt ha2
       have e6:(z.map eInt)[(((c + 1:Nat):Int) - 1).toNat]? = some (eInt y2):=by rw [ei]; exact get_map eInt hy2
       have hy2b:=hN.bd z (List.mem_of_getElem? hz) y2 (List.mem_of_getElem? hy2)
       have eca2:cellI m k c = a2:=by rw [cellI,atG_row hx,ha2]; rfl
       have hcf2:=fits_cell hf (r:=k) (c:=c) hk' (by omega)
       rw [cellFit,numT_at hz hy2,eca2,show ((c:Int) + 1) = ((c + 1:Nat):Int) by omega,eca,numT_at hz hy] at hcf2
       (repeat (refine stq ?_))
       iterate 1 (refine sdq ?_)
       refine DG_cmp hT rfl (fun hg=>?_) (fun hg=>?_)
       ·iterate 2 (refine sdq ?_)
        refine DG_cmp hT rfl (fun hg=>?_) (fun hg=>?_)
        ·iterate 7 (refine sdq ?_)
         refine DG_cmp hT rfl (fun hg=>?_) (fun hg=>?_)
         ·have hB:¬ a2 = 1:=hg
          rw [if_neg hB,Bool.and_eq_true,decide_eq_false hA,Bool.false_or] at hcf2
          have hyy:=inB_true hcf2.2
          have k2:=t103 (y2 - y) 0 m.taper
          rw [inB_iff.2 (by omega)] at k2
          (repeat (first|refine sdq ?_|refine DG_next (D_call rfl rfl rfl rfl rfl (k2)) ?_))
          refine DG_end hM (by kernel_rfl) ?_
          (repeat (refine stq ?_))
          refine ⟨c + 1 + 1,hc',by omega,?_⟩
          (refine Le.mk ?_ ?_; all_goals (repeat' (first|exact trivial|refine sle ?_|refine ⟨?_,rfl,?_⟩|refine ⟨?_,by decide,rfl,?_⟩|fail)))
         ·(repeat (first|refine DG_next (StepOK.skipU rfl rfl) ?_|refine sdq ?_))
          refine DG_end hM (by kernel_rfl) ?_
          (repeat (refine stq ?_))
          refine ⟨c + 1 + 1,hc',by omega,?_⟩
          (refine Le.mk ?_ ?_; all_goals (repeat' (first|exact trivial|refine sle ?_|refine ⟨?_,rfl,?_⟩|refine ⟨?_,by decide,rfl,?_⟩|fail)))
        ·exfalso; omega
       ·exfalso; omega
    ·(repeat (refine stq ?_))
     refine ⟨k + 1,hk',by omega,?_⟩
     (refine Le.mk ?_ ?_; all_goals (repeat' (first|exact trivial|refine sle ?_|refine ⟨?_,rfl,?_⟩|refine ⟨?_,by decide,rfl,?_⟩|fail)))
  ·(repeat' (first|refine stq ?_|(refine AL_do2 rfl ?_; first|refine ⟨_,op_callB rfl rfl rfl rfl (k147) rfl,nrmA rfl ?_⟩|refine ⟨_,op_call1 rfl rfl rfl rfl (k147),nrmA rfl ?_⟩)|(with_reducible refine AL_id ?_); (fail_if_success (refine glq rfl rfl rfl ?_)); first|refine AL_gdec rfl rfl rfl (fun hg=>?_) (fun hg=>?_)|refine AL_gnot rfl rfl rfl (fun hg=>?_) (fun hg=>?_)|refine AL_gcases rfl rfl rfl (fun hg=>?_) (fun hg=>?_)))
   exact ⟨_,_,rfl,rfl,rfl⟩
end Go.Abs
namespace Go.Abs
open Go.Proofs
set_option maxRecDepth 100000
def apBl (w:Work) (a b:Blank):Bool:=if a.row = b.row then decide ((tubeOf w a).width = (tubeOf w b).width) && decide (a.col + (tubeOf w a).width <= b.col) else decide (a.row + (tubeOf w a).width <= b.row)
def okB (w:Work) (b:Blank):Bool:=inB b.tube 0 (w.tubes.length - 1) && canB w b
structure CutP (w:Work) (l:List Blank):Prop where
 ok:∀ b ∈ l,okB w b = true
 ap:l.Pairwise fun a b=>apBl w a b = true
theorem CutP.filter {w:Work} {l:List Blank} (h:CutP w l) (p:Blank -> Bool):CutP w (l.filter p):=⟨fun b hb=>h.ok b ((List.mem_filter.1 hb).1),h.ap.filter p⟩
theorem ok_range {w:Work} {b:Blank} (h:okB w b = true):inB b.tube 0 (w.tubes.length - 1) = true /\ canB w b = true /\ inRange w b = true:= by
 simp only [okB,Bool.and_eq_true] at h
 refine ⟨h.1,h.2,?_⟩
 have:=h.2
 simp only [canB,Bool.and_eq_true] at this
 exact this.1.1
theorem pw_get {α:Type} {R:α -> α -> Prop} {l:List α} (h:l.Pairwise R) {i j:Nat} {a b:α} (hij:i < j) (ha:l[i]? = some a) (hb:l[j]? = some b):R a b:= by
 obtain ⟨h1,rfl⟩:=List.getElem?_eq_some_iff.1 ha
 obtain ⟨h2,rfl⟩:=List.getElem?_eq_some_iff.1 hb
 exact List.pairwise_iff_getElem.1 h i j h1 h2 hij
set_option maxHeartbeats 4000000 in
theorem t78 (w:Work) (hw:WorkP w) (l:List Blank) (hl:l.length <= 1000) (hc:CutP w l):ACalls Tryz.prog 78 [eWork w,eBlanks l] (fun r=>r = .pv (.bool true)):= by
 have h4:=hw.t4
 have m6:=hw.map.r6; have m8:=hw.map.c8
 refine ACalls.of_body hT Tryz.func78 rfl (by kernel_rfl) rfl ?_
 (repeat (refine stq ?_))
 refine AW_loopC (fun k:Nat=>k <= l.length) (fun k=>mkSt [(1,.pv (eBlanks l)),(2,.box 0 0),(12,.pv (eBlanks l)),(13,.pv (vi l.length)),(14,.pv (vi k))] [(0,boW w)] 1) (fun k=>l.length - k) 0 (Nat.zero_le _) ?_ ?_
 ·(refine Le.mk ?_ ?_; all_goals (repeat' (first|exact trivial|refine sle ?_|refine ⟨?_,rfl,?_⟩|refine ⟨?_,by decide,rfl,?_⟩|fail)))
 ·intro k hk
  (repeat (refine stq ?_))
  refine AW_if rfl (fun hc1=>?_) (fun hc1=>?_)
  ·have hk':k < l.length:=by omega
   obtain ⟨b,hx⟩:∃ x,l[k]? = some x:=⟨l[k],by simp [hk']⟩
   have e1:=get_map eBlank hx
   obtain ⟨g1,g2,g3⟩:=ok_range (hc.ok b (List.mem_of_getElem? hx))
   have k74:=t74 w (by omega) b
   have k75:=t75 w hw b g1
   rw [g1] at k74
   rw [g2] at k75
   have ht:=tube_at g1
   have hTu:=hw.tt _ (List.mem_of_getElem? ht)
   have w1:=hTu.w1; have w3:=hTu.w3
   have e2:=get_map eTube ht
   have hb2:=inB_true g1
   obtain ⟨br,bc⟩:=range_bd hw w1 g3
   have hap:∀ (j:Nat) (a:Blank),j < k -> l[j]? = some a -> apBl w a b = true:=fun j a hj ha=>pw_get hc.ap hj ha hx
   obtain ⟨t,htd⟩:∃ t,tubeOf w b = t:=⟨_,rfl⟩
   rw [htd] at w1 w3 e2
   (repeat' (first|refine stq ?_|(refine AL_do2 rfl ?_; first|refine ⟨_,op_call1 rfl rfl rfl rfl (k74),nrmA rfl ?_⟩|refine ⟨_,op_call1 rfl rfl rfl rfl (k75),nrmA rfl ?_⟩)|(with_reducible refine AL_id ?_); (fail_if_success (refine glq rfl rfl rfl ?_)); first|refine AL_gdec rfl rfl rfl (fun hg=>?_) (fun hg=>?_)|refine AL_gnot rfl rfl rfl (fun hg=>?_) (fun hg=>?_)|refine AL_gcases rfl rfl rfl (fun hg=>?_) (fun hg=>?_)))
   refine AL_do2 rfl ⟨_,op_slice_sl (lo:=0) (hi:=k) hT rfl rfl rfl rfl rfl rfl (by intro y hy; obtain ⟨_,_,rfl⟩:=List.mem_map.1 hy; rfl) (.inl ⟨rfl,rfl⟩) (.inr ⟨_,_,rfl,rfl⟩) (by omega) (by simp; omega),?_⟩
   rw [List.drop_zero,<- List.map_take]
   have hlt:(l.take k).length = k:=by simp; omega
   (repeat (refine stq ?_))
   refine AW_loopC (fun j:Nat=>j <= k) (fun j=>mkSt [(1,.pv (eBlanks l)),(2,.box 0 0),(12,.pv (eBlanks l)),(13,.pv (vi l.length)),(14,.pv (vi k)),(5,.pv (vi k)),(6,.box 1 0),(7,.pv (vi t.width)),(38,.pv (eBlanks (l.take k))),(39,.pv (vi (l.take k).length)),(40,.pv (vi j))] [(0,boW w),(1,.box ((eBlank b).map FV.pv))] 2) (fun j=>k - j) 0 (Nat.zero_le _) ?_ ?_
   ·(refine Le.mk ?_ ?_; all_goals (repeat' (first|exact trivial|refine sle ?_|refine ⟨?_,rfl,?_⟩|refine ⟨?_,by decide,rfl,?_⟩|fail)))
   ·intro j hj
    (repeat (refine stq ?_))
    refine AW_if rfl (fun hc2=>?_) (fun hc2=>?_)
    ·have hj':j < k:=by omega
     obtain ⟨a,ha⟩:∃ a,l[j]? = some a:=⟨l[j]'(by omega),by simp⟩
     have ha':(l.take k)[j]? = some a:=by rw [List.getElem?_take_of_lt hj']; exact ha
     have e3:=get_map eBlank ha'
     obtain ⟨q1,q2,q3⟩:=ok_range (hc.ok a (List.mem_of_getElem? ha))
     have hta:=tube_at q1
     have hTa:=hw.tt _ (List.mem_of_getElem? hta)
     have v1:=hTa.w1; have v3:=hTa.w3
     have e4:=get_map eTube hta
     have hb3:=inB_true q1
     obtain ⟨ar,ac⟩:=range_bd hw v1 q3
     have hA:=hap j a hj' ha
     rw [apBl,htd] at hA
     obtain ⟨u,hud⟩:∃ u,tubeOf w a = u:=⟨_,rfl⟩
     rw [hud] at v1 v3 e4 hA
     by_cases hR:a.row = b.row
     ·rw [if_pos hR,Bool.and_eq_true,decide_eq_true_eq,decide_eq_true_eq] at hA
      (repeat' (first|refine stq ?_|((first|(with_reducible refine AL_id ?_); (fail_if_success (refine glq rfl rfl rfl ?_)); first|refine AL_gdec rfl rfl rfl (fun hg=>?_) (fun hg=>?_)|refine AL_gnot rfl rfl rfl (fun hg=>?_) (fun hg=>?_)|refine AL_gcases rfl rfl rfl (fun hg=>?_) (fun hg=>?_)) <;> (try (exfalso; omega)))|refine AW_if rfl (fun hc=>absurd hc (by omega)) (fun _=>?_)|refine AW_if rfl (fun _=>?_) (fun hc=>absurd (by omega) hc)))
      all_goals (try (exfalso; omega))
      refine ⟨j + 1,hj',by omega,?_⟩
      (refine Le.mk ?_ ?_; all_goals (repeat' (first|exact trivial|refine sle ?_|refine ⟨?_,rfl,?_⟩|refine ⟨?_,by decide,rfl,?_⟩|fail)))
     ·rw [if_neg hR,decide_eq_true_eq] at hA
      (repeat' (first|refine stq ?_|((first|(with_reducible refine AL_id ?_); (fail_if_success (refine glq rfl rfl rfl ?_)); first|refine AL_gdec rfl rfl rfl (fun hg=>?_) (fun hg=>?_)|refine AL_gnot rfl rfl rfl (fun hg=>?_) (fun hg=>?_)|refine AL_gcases rfl rfl rfl (fun hg=>?_) (fun hg=>?_)) <;> (try (exfalso; omega)))|refine AW_if rfl (fun hc=>absurd hc (by omega)) (fun _=>?_)|refine AW_if rfl (fun _=>?_) (fun hc=>absurd (by omega) hc)))
      all_goals (try (exfalso; omega))
      refine ⟨j + 1,hj',by omega,?_⟩
      (refine Le.mk ?_ ?_; all_goals (repeat' (first|exact trivial|refine sle ?_|refine ⟨?_,rfl,?_⟩|refine ⟨?_,by decide,rfl,?_⟩|fail)))
    ·(repeat (refine stq ?_))
     refine ⟨k + 1,hk',by omega,?_⟩
     (refine Le.mk ?_ ?_; all_goals (repeat' (first|exact trivial|refine sle ?_|refine ⟨?_,rfl,?_⟩|refine ⟨?_,by decide,rfl,?_⟩|fail)))
  ·(repeat (refine stq ?_))
   exact ⟨_,_,rfl,rfl,rfl⟩
end Go.Abs
