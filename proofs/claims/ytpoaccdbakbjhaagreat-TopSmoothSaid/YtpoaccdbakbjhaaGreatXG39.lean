/- The slices of a tube in a cutting: what they surely give, and what they give in a truth. -/
import Derived.Test.YtpoaccdbakbjhaaGreatXG38
set_option linter.unusedVariables false
set_option linter.unusedSimpArgs false
namespace Go.Abs
open Go.Proofs
set_option maxRecDepth 100000
theorem sl_mono {w:Work} (hw:WorkP w) {b:Blank} (hb:inB b.tube 0 (w.tubes.length - 1) = true) {x y:Int} (h0:0 <= x) (h:x <= y):sliceI w b x <= sliceI w b y:= by
 have hTu:=hw.tt _ (List.mem_of_getElem? (tube_at hb))
 have h1:=hTu.n1
 have k0:=hw.k0
 rw [sliceI,sliceI,Int.tdiv_eq_ediv_of_nonneg (by omega),Int.tdiv_eq_ediv_of_nonneg (by omega)]
 exact Int.ediv_le_ediv (by omega) (by omega)
theorem minL_mono {f g:Place -> Int}:∀ (l:List Place) (n m:Int),n <= m -> (∀ p ∈ l,f p <= g p) -> l.foldl (fun n p=>min n (f p)) n <= l.foldl (fun n p=>min n (g p)) m
 | [],n,m,h,_=>h
 | p :: l,n,m,h,hp=>minL_mono l (min n (f p)) (min m (g p)) (by have:=hp p (.head _); omega) fun q hq=>hp q (.tail _ hq)
theorem low_truth {w:Work} (hw:WorkP w) {t:List (List Int)} (hs:sizedT w.map t = true) (hf:fitsT w.map t = true) {b:Blank} (hok:okB w b = true):lowI w b <= truthI w t b:= by
 obtain ⟨g1,g2,g3⟩:=ok_range hok
 have hG:=in_thick hw.map hs hf
 have hT2:=hG.thick
 have hN:=fits_num hs hf
 have hbd:0 <= leastT w (thickM w.map) b /\ leastT w (thickM w.map) b <= 60:=minL_bd _ 60 (by omega) (by omega) fun p hp=>by
  obtain ⟨i,hi⟩:=List.mem_iff_getElem?.1 hp
  obtain ⟨_,_,_,h,_⟩:=span_at hT2 (cells_there hw g1 g3 hi)
  exact h
 refine sl_mono hw g1 hbd.1 ?_
 refine minL_mono _ _ _ (Int.le_refl _) fun p hp=>?_
 obtain ⟨i,hi⟩:=List.mem_iff_getElem?.1 hp
 have hct:=cells_there hw g1 g3 hi
 obtain ⟨x,hx,hy,_⟩:=span_at hT2 hct
 have h:=hG.inn _ _ _ _ hx hy
 rw [Int.toNat_of_nonneg hct.1,Int.toNat_of_nonneg hct.2.2.1] at h
 exact h.2.1
def ownB (l:List Blank) (n:Int):List Blank:=l.filter fun b=>decide (b.tube = n)
theorem own_snoc {l:List Blank} {n:Int} {k:Nat} {b:Blank} (h:l[k]? = some b):ownB (l.take (k + 1)) n = ownB (l.take k) n ++ if b.tube = n then [b] else []:= by
 rw [List.take_add_one,h,ownB,ownB,List.filter_append]
 by_cases q:b.tube = n <;> simp [q]
theorem sum_bd {f:Blank -> Int} {B:Nat}:∀ l:List Blank,(∀ b ∈ l,0 <= f b /\ f b <= B) -> 0 <= sumI (l.map f) /\ sumI (l.map f) <= ((B * l.length:Nat):Int)
 | [],_=>by simp [sumI]
 | b :: l,h=>by
  have h1:=h b (.head _)
  have h2:=sum_bd l fun x hx=>h x (.tail _ hx)
  rw [List.map_cons,List.length_cons,Nat.mul_succ]
  show 0 <= f b + sumI (l.map f) /\ f b + sumI (l.map f) <= _
  omega
theorem worth_sum {w:Work} {n:Int} {tb:Tube} (ht:w.tubes[n.toNat]? = some tb) (f:Blank -> Int):∀ l:List Blank,(∀ b ∈ l,b.tube = n) -> sumI (worthL w f l) = tb.worth * sumI (l.map f)
 | [],_=>by simp [sumI,worthL]
 | b :: l,h=>by
  have h1:=h b (.head _)
  have h2:=worth_sum ht f l fun x hx=>h x (.tail _ hx)
  have h3:tubeOf w b = tb:=by rw [tubeOf,h1,ht]; rfl
  show (tubeOf w b).worth * f b + sumI (worthL w f l) = tb.worth * (f b + sumI (l.map f))
  rw [h2,h3,Int.mul_add]
theorem sum_mono {f g:Blank -> Int}:∀ l:List Blank,(∀ b ∈ l,f b <= g b) -> sumI (l.map f) <= sumI (l.map g)
 | [],_=>by simp
 | b :: l,h=>by
  have h1:=h b (.head _)
  have h2:=sum_mono l fun x hx=>h x (.tail _ hx)
  show f b + sumI (l.map f) <= g b + sumI (l.map g)
  omega
theorem truth_bd {w:Work} (hw:WorkP w) {t:List (List Int)} (hs:sizedT w.map t = true) (hf:fitsT w.map t = true) {b:Blank} (hok:okB w b = true):0 <= truthI w t b /\ truthI w t b <= 65:= by
 obtain ⟨g1,g2,g3⟩:=ok_range hok
 exact slice_bd hw g1 (minL_bd _ 60 (by omega) (by omega) fun p hp=>by
  obtain ⟨i,hi⟩:=List.mem_iff_getElem?.1 hp
  obtain ⟨_,_,_,h,_⟩:=num_at (fits_num hs hf) (cells_there hw g1 g3 hi)
  exact h)
set_option maxHeartbeats 8000000 in
theorem t12 (w:Work) (hw:WorkP w) (t:List (List Int)) (hs:sizedT w.map t = true) (hf:fitsT w.map t = true) (l:List Blank) (hl:l.length <= 48) (hc:CutP w l) (n:Int) (hn:inB n 0 (w.tubes.length - 1) = true) :
  ACalls Tryz.prog 12 [eWork w,eBlanks l,eRows t,vi n] (fun r=>r = .tup [vi (sumI ((ownB l n).map (lowI w))),vi (sumI ((ownB l n).map (truthI w t)))]):= by
 have h4:=hw.t4
 have hlb:∀ b,okB w b = true -> 0 <= lowI w b /\ lowI w b <= 65:=fun b hb=>low_bd hw hs hf hb
 have hk30:∀ b,okB w b = true -> ACalls Tryz.prog 30 [eWork w,eB b] (fun r=>r = .tup [eS ⟨lowI w b,highI w b⟩,vi 0]):=fun b hb=>t30 w hw t hs hf b hb
 have hcO:CutP w (ownB l n):=hc.filter _
 have hlO:(ownB l n).length <= 48:=Nat.le_trans (List.length_filter_le _ _) hl
 have k31:=t31 w hw t hs hf (ownB l n) (by omega) hcO
 obtain ⟨tb,htb⟩:∃ x,w.tubes[n.toNat]? = some x:=⟨w.tubes[n.toNat]'(by have:=inB_true hn; omega),by simp⟩
 have hb2:=inB_true hn
 have e2:=get_map eTube htb
 have hTb:=hw.tt _ (List.mem_of_getElem? htb)
 have o1:=hTb.o1; have o100:=hTb.o100
 rw [worth_sum htb (truthI w t) (ownB l n) (fun b hb=>of_decide_eq_true (List.mem_filter.1 hb).2)] at k31
 have htr:=sum_mono (ownB l n) fun b hb=>low_truth hw hs hf (hcO.ok b hb)
 have hsT:=sum_bd (f:=truthI w t) (B:=65) (ownB l n) fun b hb=>truth_bd hw hs hf (hcO.ok b hb)
 have hst:∀ k b,l[k]? = some b -> ownB (l.take (k + 1)) n = ownB (l.take k) n ++ if b.tube = n then [b] else []:=fun k b h=>own_snoc h
 have hsk:∀ k,0 <= sumI ((ownB (l.take k) n).map (lowI w)) /\ sumI ((ownB (l.take k) n).map (lowI w)) <= ((65 * (ownB (l.take k) n).length:Nat):Int):=fun k=>sum_bd _ fun b hb=>hlb b (hc.ok b (List.mem_of_mem_take (List.mem_filter.1 hb).1))
 have hlk:∀ k,(ownB (l.take k) n).length <= 48:=fun k=>Nat.le_trans (List.length_filter_le _ _) (by simp; omega)
 refine ACalls.of_body hT Tryz.func12 rfl (by kernel_rfl) rfl ?_
 (repeat (refine stq ?_))
 refine AW_own_nil (e:=91) (sz:=3) (t:=10) rfl rfl ?_
 (repeat (refine stq ?_))
 refine AW_loopC (fun k:Nat=>k <= l.length) (fun k=>mkSt [(1,.pv (eBlanks l)),(2,.pv (eRows t)),(3,.pv (vi n)),(4,.box 0 0),(10,.arr 1),(11,.pv (vi (sumI ((ownB (l.take k) n).map (lowI w))))),(12,.pv (vi k))] [(0,boW w),(1,.arr 91 3 ((ownB (l.take k) n).map eBlank))] 2) (fun k=>l.length - k) 0 (Nat.zero_le _) ?_ ?_
 ·(refine Le.mk ?_ ?_; all_goals (repeat' (first|exact trivial|refine sle ?_|refine ⟨?_,rfl,?_⟩|refine ⟨?_,by decide,rfl,?_⟩|fail)))
 ·intro k hk
  have hsk':=hsk k
  have hlk':=hlk k
  (repeat (refine stq ?_))
  refine AW_if rfl (fun hc1=>?_) (fun hc1=>?_)
  ·have hk':k < l.length:=by omega
   obtain ⟨b,hx⟩:∃ x,l[k]? = some x:=⟨l[k],by simp [hk']⟩
   have e1:=get_map eBlank hx
   have hob:=hc.ok b (List.mem_of_getElem? hx)
   have k30:=hk30 b hob
   have hbb:=hlb b hob
   have hs1:=hst k b hx
   obtain ⟨sp,hsp,hsl⟩:∃ sp:Span,(⟨lowI w b,highI w b⟩:Span) = sp /\ lowI w b = sp.low:=⟨_,rfl,rfl⟩
   rw [hsp] at k30
   rw [hsl] at hbb
   generalize hO:ownB (l.take k) n = O at *
   generalize hS:sumI (O.map (lowI w)) = S at *
   (repeat (refine stq ?_))
   refine AW_if rfl (fun hc2=>?_) (fun hc2=>?_)
   ·have hq:b.tube ≠ n:=by simpa using hc2
    rw [if_neg hq,List.append_nil] at hs1
    (repeat (refine stq ?_))
    refine ⟨k + 1,hk',by omega,?_⟩
    rw [hs1,hS]
    (refine Le.mk ?_ ?_; all_goals (repeat' (first|exact trivial|refine sle ?_|refine ⟨?_,rfl,?_⟩|refine ⟨?_,by decide,rfl,?_⟩|fail)))
   ·have hq:b.tube = n:=by simpa using hc2
    rw [if_pos hq] at hs1
    (repeat (refine stq ?_))
    (repeat (first|refine DG_next (D_allocE hT rfl rfl rfl rfl) ?_|refine DG_next (D_storeE hT rfl rfl rfl rfl rfl rfl rfl rfl rfl rfl) ?_|refine sdq ?_|refine DG_next (D_call_tup rfl rfl rfl rfl rfl (k30)) ?_))
    refine DG_end hM (by kernel_rfl) ?_
    (repeat' (first|refine stq ?_|((first|(with_reducible refine AL_id ?_); (fail_if_success (refine glq rfl rfl rfl ?_)); first|refine AL_gdec rfl rfl rfl (fun hg=>?_) (fun hg=>?_)|refine AL_gnot rfl rfl rfl (fun hg=>?_) (fun hg=>?_)|refine AL_gcases rfl rfl rfl (fun hg=>?_) (fun hg=>?_)) <;> (try (exfalso; omega)))|refine AW_if rfl (fun hc=>absurd hc (by omega)) (fun _=>?_)|refine AW_if rfl (fun _=>?_) (fun hc=>absurd (by omega) hc)))
    all_goals (try (exfalso; omega))
    (repeat (refine sdq ?_))
    refine DG_end hM (by kernel_rfl) ?_
    (repeat (refine stq ?_))
    refine ⟨k + 1,hk',by omega,?_⟩
    rw [hs1,List.map_append,List.map_append,sumI_append,hS,show sumI ([b].map (lowI w)) = sp.low by simp [sumI,hsl]]
    (refine Le.mkR [(0,0),(1,3)] ?_ ?_ rfl; all_goals (repeat' (first|exact trivial|refine sle ?_|refine ⟨?_,rfl,?_⟩|refine ⟨?_,by decide,rfl,?_⟩|fail)))
  ·have hkl:k = l.length:=by omega
   subst hkl
   rw [List.take_length] at hsk' hlk' ⊢
   generalize ownB l n = O at *
   generalize sumI (O.map (lowI w)) = S at *
   generalize sumI (O.map (truthI w t)) = R at *
   refine AW_pure (t:=10) rfl rfl ?_
   have hR:0 <= R /\ R <= 1000000:=by omega
   have hmod:(tb.worth * R).tmod tb.worth = 0:=Int.mul_tmod_right _ _
   have hdiv:IntKind.i64.wrap ((tb.worth * R).tdiv tb.worth) = R:= by
    rw [Int.mul_tdiv_cancel_left _ (by omega)]
    unfold IntKind.wrap; simp [IntKind.signed,IntKind.bits]; omega
   have h0:0 <= tb.worth * R:=Int.mul_nonneg (by omega) (by omega)
   generalize tb.worth * R = m at *
   (repeat' (first|refine stq ?_|(refine AL_do2 rfl ?_; first|refine ⟨_,op_call1 rfl rfl rfl rfl (k31),nrmA rfl ?_⟩|refine ⟨_,op_rem rfl rfl rfl rfl (by omega),?_⟩)|((first|(with_reducible refine AL_id ?_); (fail_if_success (refine glq rfl rfl rfl ?_)); first|refine AL_gdec rfl rfl rfl (fun hg=>?_) (fun hg=>?_)|refine AL_gnot rfl rfl rfl (fun hg=>?_) (fun hg=>?_)|refine AL_gcases rfl rfl rfl (fun hg=>?_) (fun hg=>?_)) <;> (try (exfalso; omega)))|refine AW_if rfl (fun hc=>absurd hc (by omega)) (fun _=>?_)|refine AW_if rfl (fun _=>?_) (fun hc=>absurd (by omega) hc)))
   all_goals (try (exfalso; omega))
   (repeat (first|refine DG_next (D_quo rfl rfl rfl rfl rfl (by omega) hdiv) ?_|refine sdq ?_))
   refine DG_end hM (by kernel_rfl) ?_
   (repeat (refine stq ?_))
   exact ⟨_,_,rfl,rfl,rfl⟩
end Go.Abs
namespace Go.Abs
open Go.Proofs
set_option maxRecDepth 100000
def rowV (c:UInt8):Int:=if c = 111 then 3 else if c = 35 then 2 else 1
def rowM (u:ByteArray):List Int:=u.data.toList.map rowV
set_option maxHeartbeats 4000000 in
theorem t115 (u:ByteArray) (hu:u.size <= 100):ACalls Tryz.prog 115 [.str u] (fun r=>r = .pv (eInts (rowM u))):= by
 have hul:u.data.toList.length = u.size:=by simp
 refine ACalls.of_body hT Tryz.func115 rfl (by kernel_rfl) rfl ?_
 (repeat (refine stq ?_))
 refine AW_own_nil (e:=68) (sz:=1) (t:=3) rfl rfl ?_
 (repeat (refine stq ?_))
 refine AW_loopC (fun k:Nat=>k <= u.size) (fun k=>mkSt [(0,.pv (.str u)),(3,.arr 0),(4,.pv (vi k))] [(0,.arr 68 1 ((rowM u).take k |>.map eInt))] 1) (fun k=>u.size - k) 0 (Nat.zero_le _) ?_ ?_
 ·(refine Le.mk ?_ ?_; all_goals (repeat' (first|exact trivial|refine sle ?_|refine ⟨?_,rfl,?_⟩|refine ⟨?_,by decide,rfl,?_⟩|fail)))
 ·intro k hk
  (repeat' (first|refine stq ?_|(refine AL_do2 rfl ?_; first|refine ⟨_,op_len_str hT rfl rfl rfl rfl rfl,?_⟩)|(with_reducible refine AL_id ?_); (fail_if_success (refine glq rfl rfl rfl ?_)); first|refine AL_gdec rfl rfl rfl (fun hg=>?_) (fun hg=>?_)|refine AL_gnot rfl rfl rfl (fun hg=>?_) (fun hg=>?_)|refine AL_gcases rfl rfl rfl (fun hg=>?_) (fun hg=>?_)))
  refine AW_if rfl (fun hc=>?_) (fun hc=>?_)
  ·have hk':k < u.size:=by omega
   obtain ⟨b,hb⟩:∃ b,u.data.toList[k]? = some b:=⟨u.data.toList[k]'(by omega),by simp⟩
   have hb':u[k]? = some b:= by
    obtain ⟨hh,rfl⟩:=List.getElem?_eq_some_iff.1 hb
    show (if h:k < u.size then some u[k] else none) = _
    rw [dif_pos hk']; rfl
   have hs:(rowM u).take (k + 1) = (rowM u).take k ++ [rowV b]:= by
    rw [List.take_add_one,rowM,List.getElem?_map,hb]; rfl
   have hln:((rowM u).take k).length <= 100:=by simp [rowM]; omega
   rw [rowV] at hs
   generalize (rowM u).take k = L at *
   by_cases h1:b = 111
   ·subst h1
    rw [if_pos rfl] at hs
    (repeat' (first|refine stq ?_|(refine AL_do2 rfl ?_; first|refine ⟨_,op_index_str hT rfl rfl rfl rfl rfl rfl (by omega) hb',?_⟩)|(with_reducible refine AL_id ?_); (fail_if_success (refine glq rfl rfl rfl ?_)); first|refine AL_gdec rfl rfl rfl (fun hg=>?_) (fun hg=>?_)|refine AL_gnot rfl rfl rfl (fun hg=>?_) (fun hg=>?_)|refine AL_gcases rfl rfl rfl (fun hg=>?_) (fun hg=>?_)))
    refine ⟨k + 1,hk',by omega,?_⟩
    rw [hs]
    (refine Le.mkR [(0,2)] ?_ ?_ rfl; all_goals (repeat' (first|exact trivial|refine sle ?_|refine ⟨?_,rfl,?_⟩|refine ⟨?_,by decide,rfl,?_⟩|fail)))
    rw [List.map_append]; rfl
   ·rw [if_neg h1] at hs
    by_cases h2:b = 35
    ·subst h2
     rw [if_pos rfl] at hs
     (repeat' (first|refine stq ?_|(refine AL_do2 rfl ?_; first|refine ⟨_,op_index_str hT rfl rfl rfl rfl rfl rfl (by omega) hb',?_⟩)|(with_reducible refine AL_id ?_); (fail_if_success (refine glq rfl rfl rfl ?_)); first|refine AL_gdec rfl rfl rfl (fun hg=>?_) (fun hg=>?_)|refine AL_gnot rfl rfl rfl (fun hg=>?_) (fun hg=>?_)|refine AL_gcases rfl rfl rfl (fun hg=>?_) (fun hg=>?_)))
     refine ⟨k + 1,hk',by omega,?_⟩
     rw [hs]
     (refine Le.mkR [(0,2)] ?_ ?_ rfl; all_goals (repeat' (first|exact trivial|refine sle ?_|refine ⟨?_,rfl,?_⟩|refine ⟨?_,by decide,rfl,?_⟩|fail)))
     rw [List.map_append]; rfl
    ·rw [if_neg h2] at hs
     have q1:b.toNat ≠ 111:=fun h=>h1 (UInt8.toNat_inj.1 h)
     have q2:b.toNat ≠ 35:=fun h=>h2 (UInt8.toNat_inj.1 h)
     (repeat' (first|refine stq ?_|(refine AL_do2 rfl ?_; first|refine ⟨_,op_index_str hT rfl rfl rfl rfl rfl rfl (by omega) hb',?_⟩)|((first|(with_reducible refine AL_id ?_); (fail_if_success (refine glq rfl rfl rfl ?_)); first|refine AL_gdec rfl rfl rfl (fun hg=>?_) (fun hg=>?_)|refine AL_gnot rfl rfl rfl (fun hg=>?_) (fun hg=>?_)|refine AL_gcases rfl rfl rfl (fun hg=>?_) (fun hg=>?_)) <;> (try (exfalso; omega)))|refine AW_if rfl (fun hc=>absurd hc (by omega)) (fun _=>?_)|refine AW_if rfl (fun _=>?_) (fun hc=>absurd (by omega) hc)))
     all_goals (try (exfalso; omega))
     refine ⟨k + 1,hk',by omega,?_⟩
     rw [hs]
     (refine Le.mkR [(0,2)] ?_ ?_ rfl; all_goals (repeat' (first|exact trivial|refine sle ?_|refine ⟨?_,rfl,?_⟩|refine ⟨?_,by decide,rfl,?_⟩|fail)))
     rw [List.map_append]; rfl
  ·have hkl:k = u.size:=by omega
   subst hkl
   rw [List.take_of_length_le (by simp [rowM])]
   refine AW_pure (t:=3) rfl rfl ?_
   (repeat (refine stq ?_))
   exact ⟨_,_,rfl,rfl,rfl⟩
theorem t116 (r c s f:Int):ACalls Tryz.prog 116 [vi r,vi c,vi s,vi f] (fun x=>x = .pv (.agg (eGauge ⟨r,c,s,f⟩))):= by
 refine ACalls.of_body hT Tryz.func116 rfl (by kernel_rfl) rfl ?_
 (repeat (refine stq ?_))
 exact ⟨_,_,rfl,rfl,rfl⟩
theorem t117 (r c:Int):ACalls Tryz.prog 117 [vi r,vi c] (fun x=>x = .pv (.agg (ePlace ⟨r,c⟩))):= by
 refine ACalls.of_body hT Tryz.func117 rfl (by kernel_rfl) rfl ?_
 (repeat (refine stq ?_))
 exact ⟨_,_,rfl,rfl,rfl⟩
def mEx:SMap:=⟨[[2,2,2,1],[2,3,2,2],[1,2,2,2]],2,1,[⟨0,0,12,1⟩,⟨0,2,9,1⟩,⟨1,3,5,1⟩,⟨2,1,10,2⟩,⟨2,3,8,1⟩],[⟨0,0,false⟩],[⟨0,0⟩,⟨1,2⟩,⟨1,3⟩,⟨2,2⟩,⟨2,3⟩]⟩
def wEx:Work:=⟨mEx,[⟨1,4,2⟩,⟨2,4,14⟩],1⟩
theorem t52:ACalls Tryz.prog 52 [] (fun x=>x = .pv (eMap mEx)):= by
 have k1:=t115 ⟨#[35,35,35,46]⟩ (by decide)
 have k2:=t115 ⟨#[35,111,35,35]⟩ (by decide)
 have k3:=t115 ⟨#[46,35,35,35]⟩ (by decide)
 have k4:=t116 0 0 12 1; have k5:=t116 0 2 9 1; have k6:=t116 1 3 5 1; have k7:=t116 2 1 10 2; have k8:=t116 2 3 8 1
 have p1:=t117 0 0; have p2:=t117 1 2; have p3:=t117 1 3; have p4:=t117 2 2; have p5:=t117 2 3
 rw [show rowM ⟨#[35,35,35,46]⟩ = [2,2,2,1] by decide] at k1
 rw [show rowM ⟨#[35,111,35,35]⟩ = [2,3,2,2] by decide] at k2
 rw [show rowM ⟨#[46,35,35,35]⟩ = [1,2,2,2] by decide] at k3
 refine ACalls.of_body hT Tryz.func52 rfl (by kernel_rfl) rfl ?_
 (repeat' (first|refine stq ?_|(refine AL_do2 rfl ?_; first|refine ⟨_,op_call1 rfl rfl rfl rfl (k1),nrmA rfl ?_⟩|refine ⟨_,op_call1 rfl rfl rfl rfl (k2),nrmA rfl ?_⟩|refine ⟨_,op_call1 rfl rfl rfl rfl (k3),nrmA rfl ?_⟩|refine ⟨_,op_call1 rfl rfl rfl rfl (k4),nrmA rfl ?_⟩|refine ⟨_,op_call1 rfl rfl rfl rfl (k5),nrmA rfl ?_⟩|refine ⟨_,op_call1 rfl rfl rfl rfl (k6),nrmA rfl ?_⟩|refine ⟨_,op_call1 rfl rfl rfl rfl (k7),nrmA rfl ?_⟩|refine ⟨_,op_call1 rfl rfl rfl rfl (k8),nrmA rfl ?_⟩|refine ⟨_,op_call1 rfl rfl rfl rfl (p1),nrmA rfl ?_⟩|refine ⟨_,op_call1 rfl rfl rfl rfl (p2),nrmA rfl ?_⟩|refine ⟨_,op_call1 rfl rfl rfl rfl (p3),nrmA rfl ?_⟩|refine ⟨_,op_call1 rfl rfl rfl rfl (p4),nrmA rfl ?_⟩|refine ⟨_,op_call1 rfl rfl rfl rfl (p5),nrmA rfl ?_⟩|refine ⟨_,op_buildSlice_p hT rfl rfl rfl rfl rfl rfl rfl rfl rfl,?_⟩)|(with_reducible refine AL_id ?_); (fail_if_success (refine glq rfl rfl rfl ?_)); first|refine AL_gdec rfl rfl rfl (fun hg=>?_) (fun hg=>?_)|refine AL_gnot rfl rfl rfl (fun hg=>?_) (fun hg=>?_)|refine AL_gcases rfl rfl rfl (fun hg=>?_) (fun hg=>?_)))
 exact ⟨_,_,rfl,rfl,rfl⟩
theorem t24:ACalls Tryz.prog 24 [] (fun x=>x = .pv (eWork wEx)):= by
 have k1:=t52
 refine ACalls.of_body hT Tryz.func24 rfl (by kernel_rfl) rfl ?_
 (repeat' (first|refine stq ?_|(refine AL_do2 rfl ?_; first|refine ⟨_,op_call1 rfl rfl rfl rfl (k1),nrmA rfl ?_⟩|refine ⟨_,op_buildSlice_p hT rfl rfl rfl rfl rfl rfl rfl rfl rfl,?_⟩)|(with_reducible refine AL_id ?_); (fail_if_success (refine glq rfl rfl rfl ?_)); first|refine AL_gdec rfl rfl rfl (fun hg=>?_) (fun hg=>?_)|refine AL_gnot rfl rfl rfl (fun hg=>?_) (fun hg=>?_)|refine AL_gcases rfl rfl rfl (fun hg=>?_) (fun hg=>?_)))
 exact ⟨_,_,rfl,rfl,rfl⟩
theorem mEx_ok:MapP mEx:= by
 constructor <;> decide
theorem wEx_ok:WorkP wEx:= by
 refine ⟨mEx_ok,by decide,by decide,fun t ht=>?_,by decide,by decide⟩
 simp only [wEx,List.mem_cons,List.not_mem_nil,or_false] at ht
 rcases ht with rfl|rfl <;> constructor <;> decide
def tEx:List (List Int):=(thickM mEx).map fun l=>l.map fun s=>s.low
theorem tEx_s:sizedT wEx.map tEx = true:=by decide +kernel
theorem tEx_f:fitsT wEx.map tEx = true:=by decide +kernel
theorem packEx:(packM wEx 0).worth = 24:=by decide +kernel
theorem t23Ex:ACalls Tryz.prog 23 [eWork wEx] (fun r=>r = .tup [eBlanks (packM wEx 0).blanks,vi 24,vi 0]):= by
 have h:=t23 wEx wEx_ok tEx tEx_s tEx_f
 rw [packEx] at h
 exact h
end Go.Abs
namespace Go.Abs
open Go.Proofs
set_option maxRecDepth 100000
structure OPack where
 holds:Int
 cost:Int
def eOP (p:OPack):List PV:=[vi p.holds,vi p.cost]
structure Pkd where
 counts:List Int
 cost:Int
 deriving DecidableEq
def ePk (p:Pkd):List PV:=[eInts p.counts,vi p.cost]
def ePK (p:Pkd):PV:=.agg (ePk p)
theorem t68 (x a b:Int):ACalls Tryz.prog 68 [vi x,vi a,vi b] (fun r=>r = .pv (.bool (inB x a b))):= by
 refine ACalls.of_body hT Tryz.func68 rfl (by kernel_rfl) rfl ?_
 (repeat' (first|refine stq ?_|((first|(with_reducible refine AL_id ?_); (fail_if_success (refine glq rfl rfl rfl ?_)); first|refine AL_gdec rfl rfl rfl (fun hg=>?_) (fun hg=>?_)|refine AL_gnot rfl rfl rfl (fun hg=>?_) (fun hg=>?_)|refine AL_gcases rfl rfl rfl (fun hg=>?_) (fun hg=>?_)) <;> (try (exfalso; omega)))|refine AW_if rfl (fun hc=>absurd hc (by omega)) (fun _=>?_)|refine AW_if rfl (fun _=>?_) (fun hc=>absurd (by omega) hc)))
 all_goals (first|exact ⟨_,_,rfl,rfl,by rw [inB]; simp; omega⟩|trace_state)
theorem t70 (p:OPack) (h1:inB p.holds 1 144 = true) (h2:inB p.cost 0 1000 = true):ACalls Tryz.prog 70 [.agg (eOP p)] (fun r=>r = .pv (.bool false)):= by
 have k1:=t68 p.holds 1 144
 have k2:=t68 p.cost 0 1000
 rw [h1] at k1
 rw [h2] at k2
 refine ACalls.of_body hT Tryz.func70 rfl (by kernel_rfl) rfl ?_
 (repeat' (first|refine stq ?_|(refine AL_do2 rfl ?_; first|refine ⟨_,op_call1 rfl rfl rfl rfl (k1),nrmA rfl ?_⟩|refine ⟨_,op_call1 rfl rfl rfl rfl (k2),nrmA rfl ?_⟩)|(with_reducible refine AL_id ?_); (fail_if_success (refine glq rfl rfl rfl ?_)); first|refine AL_gdec rfl rfl rfl (fun hg=>?_) (fun hg=>?_)|refine AL_gnot rfl rfl rfl (fun hg=>?_) (fun hg=>?_)|refine AL_gcases rfl rfl rfl (fun hg=>?_) (fun hg=>?_)))
 exact ⟨_,_,rfl,rfl,rfl⟩
set_option maxHeartbeats 4000000 in
theorem t136 (l:List OPack) (hl:l.length <= 1000) (h1:∀ p ∈ l,inB p.holds 1 144 = true) (h2:∀ p ∈ l,inB p.cost 0 1000 = true):ACalls Tryz.prog 136 [.sl (l.map eOP),.fn 70 []] (fun r=>r = .pv (vi (-1))):= by
 refine ACalls.of_body hT Tryz.func136 rfl (by kernel_rfl) rfl ?_
 (repeat (refine stq ?_))
 refine AW_loopC (fun k:Nat=>k <= l.length) (fun k=>mkSt [(0,.pv (.sl (l.map eOP))),(1,.pv (.fn 70 [])),(7,.pv (vi l.length)),(8,.pv (vi k))] [] 0) (fun k=>l.length - k) 0 (Nat.zero_le _) ?_ ?_
 ·(refine Le.mk ?_ ?_; all_goals (repeat' (first|exact trivial|refine sle ?_|refine ⟨?_,rfl,?_⟩|refine ⟨?_,by decide,rfl,?_⟩|fail)))
 ·intro k hk
  (repeat (refine stq ?_))
  refine AW_if rfl (fun hc=>?_) (fun hc=>?_)
  ·have hk':k < l.length:=by omega
   obtain ⟨x,hx⟩:∃ x,l[k]? = some x:=⟨l[k],by simp [hk']⟩
   have e1:=get_map eOP hx
   have hm:=List.mem_of_getElem? hx
   have k70:=t70 x (h1 x hm) (h2 x hm)
   (repeat' (first|refine stq ?_|(refine AL_do2 rfl ?_; first|refine ⟨_,op_call1 rfl rfl rfl rfl (k70),nrmA rfl ?_⟩)|(with_reducible refine AL_id ?_); (fail_if_success (refine glq rfl rfl rfl ?_)); first|refine AL_gdec rfl rfl rfl (fun hg=>?_) (fun hg=>?_)|refine AL_gnot rfl rfl rfl (fun hg=>?_) (fun hg=>?_)|refine AL_gcases rfl rfl rfl (fun hg=>?_) (fun hg=>?_)))
   refine ⟨k + 1,hk',by omega,?_⟩
   (refine Le.mk ?_ ?_; all_goals (repeat' (first|exact trivial|refine sle ?_|refine ⟨?_,rfl,?_⟩|refine ⟨?_,by decide,rfl,?_⟩|fail)))
  ·(repeat (refine stq ?_))
   exact ⟨_,_,rfl,rfl,rfl⟩
theorem t69 (l:List OPack) (hl:l.length <= 1000) (h1:∀ p ∈ l,inB p.holds 1 144 = true) (h2:∀ p ∈ l,inB p.cost 0 1000 = true):ACalls Tryz.prog 69 [.sl (l.map eOP),.fn 70 []] (fun r=>r = .pv (.bool false)):= by
 have k136:=t136 l hl h1 h2
 refine ACalls.of_body hT Tryz.func69 rfl (by kernel_rfl) rfl ?_
 (repeat' (first|refine stq ?_|(refine AL_do2 rfl ?_; first|refine ⟨_,op_call1 rfl rfl rfl rfl (k136),nrmA rfl ?_⟩)|(with_reducible refine AL_id ?_); (fail_if_success (refine glq rfl rfl rfl ?_)); first|refine AL_gdec rfl rfl rfl (fun hg=>?_) (fun hg=>?_)|refine AL_gnot rfl rfl rfl (fun hg=>?_) (fun hg=>?_)|refine AL_gcases rfl rfl rfl (fun hg=>?_) (fun hg=>?_)))
 exact ⟨_,_,rfl,rfl,rfl⟩
theorem sum_bdI:∀ l:List Int,(∀ x ∈ l,0 <= x /\ x <= 1000) -> 0 <= sumI l /\ sumI l <= 1000 * (l.length:Int)
 | [],_=>by simp [sumI]
 | b :: l,h=>by
  have h1:=h b (.head _)
  have h2:=sum_bdI l fun x hx=>h x (.tail _ hx)
  rw [List.length_cons]
  show 0 <= b + sumI l /\ b + sumI l <= _
  omega
set_option maxHeartbeats 4000000 in
theorem t189 (l:List Int) (hl:l.length <= 1000) (hb:∀ x ∈ l,0 <= x /\ x <= 1000):ACalls Tryz.prog 189 [eInts l] (fun r=>r = .pv (vi (sumI l))):= by
 have hsk:∀ k,0 <= sumI (l.take k) /\ sumI (l.take k) <= 1000 * 1000:=fun k=>by
  have h:=sum_bdI (l.take k) fun x hx=>hb x (List.mem_of_mem_take hx)
  have:(l.take k).length <= 1000:=by simp; omega
  omega
 refine ACalls.of_body hT Tryz.func189 rfl (by kernel_rfl) rfl ?_
 (repeat (refine stq ?_))
 refine AW_loopC (fun k:Nat=>k <= l.length) (fun k=>mkSt [(3,.pv (vi (sumI (l.take k)))),(6,.pv (eInts l)),(7,.pv (vi l.length)),(8,.pv (vi k))] [] 0) (fun k=>l.length - k) 0 (Nat.zero_le _) ?_ ?_
 ·(refine Le.mk ?_ ?_; all_goals (repeat' (first|exact trivial|refine sle ?_|refine ⟨?_,rfl,?_⟩|refine ⟨?_,by decide,rfl,?_⟩|fail)))
 ·intro k hk
  have hs0:=hsk k
  have hst:∀ x,l[k]? = some x -> sumI (l.take (k + 1)) = sumI (l.take k) + x:=fun x hx=>by
   rw [List.take_add_one,hx,sumI_append]; simp [sumI]
  generalize hS:sumI (l.take k) = S at *
  (repeat (refine stq ?_))
  refine AW_if rfl (fun hc=>?_) (fun hc=>?_)
  ·have hk':k < l.length:=by omega
   obtain ⟨x,hx⟩:∃ x,l[k]? = some x:=⟨l[k],by simp [hk']⟩
   have e1:=get_map eInt hx
   have hxb:=hb x (List.mem_of_getElem? hx)
   have hs:=hst x hx
   (repeat (refine stq ?_))
   refine ⟨k + 1,hk',by omega,?_⟩
   rw [hs]
   (refine Le.mk ?_ ?_; all_goals (repeat' (first|exact trivial|refine sle ?_|refine ⟨?_,rfl,?_⟩|refine ⟨?_,by decide,rfl,?_⟩|fail)))
  ·have hkl:k = l.length:=by omega
   subst hkl
   rw [List.take_length] at hS
   rw [hS]
   (repeat (refine stq ?_))
   exact ⟨_,_,rfl,rfl,rfl⟩
set_option maxHeartbeats 4000000 in
theorem t64 (l:List Int) (hl:l.length <= 1000):ACalls Tryz.prog 64 [eInts l] (fun r=>r = .own 3 1 (l.map eInt)):= by
 refine ACalls.of_body hT Tryz.func64 rfl (by kernel_rfl) rfl ?_
 (repeat (refine stq ?_))
 refine AL_doS rfl (op_eql_slnil hT rfl rfl rfl rfl rfl (fun el h=>by obtain ⟨b,_,rfl⟩:=List.mem_map.1 h; exact Nat.succ_pos _)) ?_
 rintro s' ⟨b,hb,rfl⟩
 refine AL_nil_then ?_
 refine AW_cond rfl (fun hc=>?_) (fun hc=>?_)
 ·have hl0:l = []:=by have:=hb hc; simpa using this
  subst hl0
  refine AW_seq ?_
  refine AW_region ?_
  refine AL_step hT rfl ?_
  refine AL_own_nil (e:=3) (sz:=1) (t:=2) rfl rfl ?_
  (repeat (refine stq ?_))
  exact ⟨_,_,rfl,rfl,rfl⟩
 ·(repeat (refine stq ?_))
  exact ⟨_,_,rfl,rfl,rfl⟩
def cmpN:List Int -> List Int -> Int
 | [],[]=>0
 | [],_ :: _=>-1
 | _ :: _,[]=>1
 | a :: l,b :: m=>if cpI a b = 0 then cmpN l m else cpI a b
theorem cmpN_drop {l m:List Int}:∀ k,k <= l.length -> k <= m.length -> (∀ (i:Nat) (a b:Int),i < k -> l[i]? = some a -> m[i]? = some b -> cpI a b = 0) -> cmpN l m = cmpN (l.drop k) (m.drop k)
 | 0,_,_,_=>by simp
 | k + 1,h1,h2,h=>by
  rw [cmpN_drop k (by omega) (by omega) fun i a b hi=>h i a b (by omega)]
  rw [List.drop_eq_getElem_cons (by omega:k < l.length),List.drop_eq_getElem_cons (by omega:k < m.length),cmpN,if_pos (h k _ _ (by omega) (by simp) (by simp))]
set_option maxHeartbeats 4000000 in
theorem t190 (l m:List Int) (hl:l.length <= 1000) (hm:m.length <= 1000):ACalls Tryz.prog 190 [eInts l,eInts m] (fun r=>r = .pv (vi (cmpN l m))):= by
 refine ACalls.of_body hT Tryz.func190 rfl (by kernel_rfl) rfl ?_
 (repeat (refine stq ?_))
 refine AW_loopC (fun k:Nat=>k <= l.length /\ k <= m.length /\ ∀ (i:Nat) (a b:Int),i < k -> l[i]? = some a -> m[i]? = some b -> cpI a b = 0) (fun k=>mkSt [(0,.pv (eInts l)),(1,.pv (eInts m)),(9,.pv (eInts l)),(10,.pv (vi l.length)),(11,.pv (vi k))] [] 0) (fun k=>l.length - k) 0
  ⟨Nat.zero_le _,Nat.zero_le _,fun i a b h=>by omega⟩ ?_ ?_
 ·(refine Le.mk ?_ ?_; all_goals (repeat' (first|exact trivial|refine sle ?_|refine ⟨?_,rfl,?_⟩|refine ⟨?_,by decide,rfl,?_⟩|fail)))
 ·rintro k ⟨hk,hk2,hall⟩
  (repeat (refine stq ?_))
  refine AW_if rfl (fun hc=>?_) (fun hc=>?_)
  ·have hk':k < l.length:=by omega
   obtain ⟨a,ha⟩:∃ x,l[k]? = some x:=⟨l[k],by simp [hk']⟩
   have e1:=get_map eInt ha
   obtain ⟨a1,a2⟩:=List.getElem?_eq_some_iff.1 ha
   (repeat (refine stq ?_))
   refine AW_if rfl (fun h=>?_) (fun h=>?_)
   ·(repeat (refine stq ?_))
    exact ⟨_,_,rfl,rfl,by rw [cmpN_drop k hk hk2 hall,List.drop_eq_getElem_cons a1,show m.drop k = [] from List.drop_eq_nil_of_le (by omega)]; rfl⟩
   ·have hk3:k < m.length:=by omega
    obtain ⟨b,hb⟩:∃ x,m[k]? = some x:=⟨m[k],by simp [hk3]⟩
    have e2:=get_map eInt hb
    obtain ⟨b1,b2⟩:=List.getElem?_eq_some_iff.1 hb
    have k178:=t178 a b
    have hcd:cmpN l m = if cpI a b = 0 then cmpN (l.drop (k + 1)) (m.drop (k + 1)) else cpI a b:= by
     rw [cmpN_drop k hk hk2 hall,List.drop_eq_getElem_cons a1,List.drop_eq_getElem_cons b1,cmpN,a2,b2]
    (repeat' (first|refine stq ?_|(refine AL_do2 rfl ?_; first|refine ⟨_,op_call1 rfl rfl rfl rfl (k178),nrmA rfl ?_⟩)|(with_reducible refine AL_id ?_); (fail_if_success (refine glq rfl rfl rfl ?_)); first|refine AL_gdec rfl rfl rfl (fun hg=>?_) (fun hg=>?_)|refine AL_gnot rfl rfl rfl (fun hg=>?_) (fun hg=>?_)|refine AL_gcases rfl rfl rfl (fun hg=>?_) (fun hg=>?_)))
    refine AW_if rfl (fun h2=>?_) (fun h2=>?_)
    ·(repeat (refine stq ?_))
     exact ⟨_,_,rfl,rfl,by rw [hcd,if_neg h2]⟩
    ·(repeat (refine stq ?_))
     refine ⟨k + 1,⟨hk',hk3,fun i x y hi hx hy=>?_⟩,by omega,?_⟩
     ·by_cases hik:i = k
      ·subst hik; rw [ha] at hx; rw [hb] at hy; cases hx; cases hy; omega
      ·exact hall i x y (by omega) hx hy
     ·(refine Le.mk ?_ ?_; all_goals (repeat' (first|exact trivial|refine sle ?_|refine ⟨?_,rfl,?_⟩|refine ⟨?_,by decide,rfl,?_⟩|fail)))
  ·have hkl:k = l.length:=by omega
   subst hkl
   (repeat (refine stq ?_))
   refine AW_if rfl (fun h=>?_) (fun h=>?_)
   ·(repeat (refine stq ?_))
    have h3:l.length < m.length:=by omega
    exact ⟨_,_,rfl,rfl,by rw [cmpN_drop l.length (Nat.le_refl _) hk2 hall,List.drop_length,List.drop_eq_getElem_cons h3]; rfl⟩
   ·(repeat (refine stq ?_))
    exact ⟨_,_,rfl,rfl,by rw [cmpN_drop l.length (Nat.le_refl _) hk2 hall,List.drop_length,show m.drop l.length = [] from List.drop_eq_nil_of_le (by omega)]; rfl⟩
structure PkP (p:Pkd):Prop where
 len:p.counts.length <= 1000
 bd:∀ x ∈ p.counts,0 <= x /\ x <= 1000
def betterP (a b:Pkd):Bool:=if a.cost ≠ b.cost then decide (a.cost < b.cost) else if sumI a.counts ≠ sumI b.counts then decide (sumI a.counts < sumI b.counts) else decide (cmpN a.counts b.counts < 0)
set_option maxHeartbeats 4000000 in
theorem t138 (a b:Pkd) (ha:PkP a) (hb:PkP b):ACalls Tryz.prog 138 [ePK a,ePK b] (fun r=>r = .pv (.bool (betterP a b))):= by
 have k1:=t189 a.counts ha.len ha.bd
 have k2:=t189 b.counts hb.len hb.bd
 have k3:=t190 a.counts b.counts ha.len hb.len
 rw [betterP]
 generalize sumI a.counts = m at *
 generalize sumI b.counts = n at *
 refine ACalls.of_body hT Tryz.func138 rfl (by kernel_rfl) rfl ?_
 (repeat (refine stq ?_))
 refine AW_if rfl (fun h=>?_) (fun h=>?_)
 ·(repeat (refine stq ?_))
  exact ⟨_,_,rfl,rfl,by rw [if_pos h]⟩
 ·rw [if_neg h]
  (repeat (refine stq ?_))
  (repeat (first|refine sdq ?_|refine DG_next (D_call rfl rfl rfl rfl rfl (k1)) ?_|refine DG_next (D_call rfl rfl rfl rfl rfl (k2)) ?_))
  refine DG_end hM (by kernel_rfl) ?_
  (repeat (refine stq ?_))
  refine AW_if rfl (fun h2=>?_) (fun h2=>?_)
  ·(repeat (refine stq ?_))
   exact ⟨_,_,rfl,rfl,by rw [if_pos h2]⟩
  ·rw [if_neg h2]
   (repeat' (first|refine stq ?_|(refine AL_do2 rfl ?_; first|refine ⟨_,op_call1 rfl rfl rfl rfl (k3),nrmA rfl ?_⟩)|(with_reducible refine AL_id ?_); (fail_if_success (refine glq rfl rfl rfl ?_)); first|refine AL_gdec rfl rfl rfl (fun hg=>?_) (fun hg=>?_)|refine AL_gnot rfl rfl rfl (fun hg=>?_) (fun hg=>?_)|refine AL_gcases rfl rfl rfl (fun hg=>?_) (fun hg=>?_)))
   exact ⟨_,_,rfl,rfl,rfl⟩
def bestP:Pkd -> List Pkd -> Pkd
 | out,[]=>out
 | out,x :: l=>bestP (if betterP x out then x else out) l
theorem bestP_snoc (l:List Pkd) (out x:Pkd):bestP out (l ++ [x]) = if betterP x (bestP out l) then x else bestP out l:= by
 induction l generalizing out with
 | nil=>rfl
 | cons y l ih=>rw [List.cons_append,bestP,bestP,ih]
theorem bestP_mem:∀ {l:List Pkd} {out:Pkd},bestP out l = out \/ bestP out l ∈ l
 | [],out=>.inl rfl
 | x :: l,out=>by
  rw [bestP]
  split
  ·rcases bestP_mem (l:=l) (out:=x) with h|h
   ·exact .inr (by rw [h]; exact .head _)
   ·exact .inr (.tail _ h)
  ·rcases bestP_mem (l:=l) (out:=out) with h|h
   ·exact .inl h
   ·exact .inr (.tail _ h)
def pkAt (x0:Pkd) (l0:List Pkd):Nat -> List FV
 | 0=>[.nils,.pv (vi 0)]
 | k + 1=>(ePk (bestP x0 (l0.take k))).map FV.pv
set_option maxHeartbeats 4000000 in
theorem t137 (x0:Pkd) (l0:List Pkd) (hl:l0.length <= 1000) (hb:∀ c ∈ x0 :: l0,PkP c):ACalls Tryz.prog 137 [.sl ((x0 :: l0).map ePk),.fn 138 []] (fun r=>r = .tup [ePK (bestP x0 l0),.bool true]):= by
 have k138:∀ a b,a ∈ x0 :: l0 -> b ∈ x0 :: l0 -> ACalls Tryz.prog 138 [ePK a,ePK b] (fun r=>r = .pv (.bool (betterP a b))):=fun a b h1 h2=>t138 a b (hb a h1) (hb b h2)
 have hg:∀ k x,l0[k]? = some x -> (x0 :: l0)[k + 1]? = some x:=fun k x h=>by simpa using h
 have hg0:(x0 :: l0)[0]? = some x0:=rfl
 have hmem:∀ x,x ∈ l0 -> x ∈ x0 :: l0:=fun x h=>.tail _ h
 have hm0:x0 ∈ x0 :: l0:=.head _
 have hLl:(x0 :: l0).length = l0.length + 1:=rfl
 generalize x0 :: l0 = L at *
 refine ACalls.of_body hT Tryz.func137 rfl (by kernel_rfl) rfl ?_
 (repeat (refine stq ?_))
 refine AW_loopC (fun k:Nat=>k <= L.length) (fun k=>mkSt [(0,.pv (.sl (L.map ePk))),(1,.pv (.fn 138 [])),(4,.box 0 0),(6,.box 1 0),(9,.pv (.sl (L.map ePk))),(10,.pv (vi L.length)),(11,.pv (vi k))] [(0,.box [.nils,.pv (vi 0)]),(1,.box (pkAt x0 l0 k))] 2) (fun k=>L.length - k) 0 (Nat.zero_le _) ?_ ?_
 ·(refine Le.mk ?_ ?_; all_goals (repeat' (first|exact trivial|refine sle ?_|refine ⟨?_,rfl,?_⟩|refine ⟨?_,by decide,rfl,?_⟩|fail)))
 ·intro k hk
  cases k with
  | zero =>
   have e0:=get_map ePk hg0
   (repeat (refine stq ?_))
   refine AW_if rfl (fun hc=>?_) (fun hc=>absurd (by omega) hc)
   (repeat (refine stq ?_))
   refine ⟨1,by omega,by omega,?_⟩
   (refine Le.mk ?_ ?_; all_goals (repeat' (first|exact trivial|refine sle ?_|refine ⟨?_,rfl,?_⟩|refine ⟨?_,by decide,rfl,?_⟩|fail)))
  | succ k =>
   have hB1:bestP x0 (l0.take k) ∈ L:= by
    rcases bestP_mem (l:=l0.take k) (out:=x0) with h|h
    ·rw [h]; exact hm0
    ·exact hmem _ (List.mem_of_mem_take h)
   have hst:∀ x,l0[k]? = some x -> bestP x0 (l0.take (k + 1)) = if betterP x (bestP x0 (l0.take k)) then x else bestP x0 (l0.take k):=fun x hx=>by
    rw [List.take_add_one,hx]; exact bestP_snoc _ _ _
   (repeat (refine stq ?_))
   refine AW_if rfl (fun hc=>?_) (fun hc=>?_)
   ·have hk':k < l0.length:=by omega
    obtain ⟨x,hx⟩:∃ x,l0[k]? = some x:=⟨l0[k],by simp [hk']⟩
    have e1:=get_map ePk (hg k x hx)
    have k138':=k138 x (bestP x0 (l0.take k)) (hmem _ (List.mem_of_getElem? hx)) hB1
    have hs:=hst x hx
    cases q:betterP x (bestP x0 (l0.take k)) with
    | true =>
     rw [q] at k138' hs
     rw [if_pos rfl] at hs
     (repeat' (first|refine stq ?_|(refine AL_do2 rfl ?_; first|refine ⟨_,op_call1 rfl rfl rfl rfl (k138'),nrmA rfl ?_⟩)|((first|(with_reducible refine AL_id ?_); (fail_if_success (refine glq rfl rfl rfl ?_)); first|refine AL_gdec rfl rfl rfl (fun hg=>?_) (fun hg=>?_)|refine AL_gnot rfl rfl rfl (fun hg=>?_) (fun hg=>?_)|refine AL_gcases rfl rfl rfl (fun hg=>?_) (fun hg=>?_)) <;> (try (exfalso; omega)))|refine AW_if rfl (fun hc=>absurd hc (by omega)) (fun _=>?_)|refine AW_if rfl (fun _=>?_) (fun hc=>absurd (by omega) hc)))
     all_goals (try (exfalso; omega))
     all_goals refine ⟨k + 2,by omega,by omega,?_⟩
     rw [show pkAt x0 l0 (k + 2) = (ePk (bestP x0 (l0.take (k + 1)))).map FV.pv from rfl,hs]
     (refine Le.mk ?_ ?_; all_goals (repeat' (first|exact trivial|refine sle ?_|refine ⟨?_,rfl,?_⟩|refine ⟨?_,by decide,rfl,?_⟩|fail)))
    | false =>
     rw [q] at k138' hs
     rw [if_neg (by simp)] at hs
     (repeat' (first|refine stq ?_|(refine AL_do2 rfl ?_; first|refine ⟨_,op_call1 rfl rfl rfl rfl (k138'),nrmA rfl ?_⟩)|((first|(with_reducible refine AL_id ?_); (fail_if_success (refine glq rfl rfl rfl ?_)); first|refine AL_gdec rfl rfl rfl (fun hg=>?_) (fun hg=>?_)|refine AL_gnot rfl rfl rfl (fun hg=>?_) (fun hg=>?_)|refine AL_gcases rfl rfl rfl (fun hg=>?_) (fun hg=>?_)) <;> (try (exfalso; omega)))|refine AW_if rfl (fun hc=>absurd hc (by omega)) (fun _=>?_)|refine AW_if rfl (fun _=>?_) (fun hc=>absurd (by omega) hc)))
     all_goals (try (exfalso; omega))
     all_goals refine ⟨k + 2,by omega,by omega,?_⟩
     rw [show pkAt x0 l0 (k + 2) = (ePk (bestP x0 (l0.take (k + 1)))).map FV.pv from rfl,hs]
     (refine Le.mk ?_ ?_; all_goals (repeat' (first|exact trivial|refine sle ?_|refine ⟨?_,rfl,?_⟩|refine ⟨?_,by decide,rfl,?_⟩|fail)))
   ·have hkl:k = l0.length:=by omega
    subst hkl
    (repeat' (first|refine stq ?_|((first|(with_reducible refine AL_id ?_); (fail_if_success (refine glq rfl rfl rfl ?_)); first|refine AL_gdec rfl rfl rfl (fun hg=>?_) (fun hg=>?_)|refine AL_gnot rfl rfl rfl (fun hg=>?_) (fun hg=>?_)|refine AL_gcases rfl rfl rfl (fun hg=>?_) (fun hg=>?_)) <;> (try (exfalso; omega)))|refine AW_if rfl (fun hc=>absurd hc (by omega)) (fun _=>?_)|refine AW_if rfl (fun _=>?_) (fun hc=>absurd (by omega) hc)))
    all_goals (try (exfalso; omega))
    refine ⟨_,_,rfl,rfl,?_⟩
    rw [List.take_length]
    rw [show decide ((L.length:Int) > 0) = true from decide_eq_true (by omega)]
    rfl
end Go.Abs
