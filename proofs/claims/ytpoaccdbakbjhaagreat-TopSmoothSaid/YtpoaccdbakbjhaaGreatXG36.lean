/- The widths that tubes have. -/
import Derived.Test.YtpoaccdbakbjhaaGreatXG35
set_option linter.unusedVariables false
set_option linter.unusedSimpArgs false
namespace Go.Abs
open Go.Proofs
set_option maxRecDepth 100000
def widthsM (w:Work):List Int:=compM (sortN (w.tubes.map (·.width)) (w.tubes.map (·.width)).length)
theorem widths_ok {w:Work} (hw:WorkP w):(∀ x ∈ widthsM w,1 <= x /\ x <= 3) /\ (widthsM w).length <= 4:= by
 have h1:∀ x ∈ sortN (w.tubes.map (·.width)) (w.tubes.map (·.width)).length,1 <= x /\ x <= 3:=fun x hx=>by
  have:=sortN_mem _ _ (Nat.le_refl _) x hx
  obtain ⟨t,ht,rfl⟩:=List.mem_map.1 this
  have:=hw.tt t ht
  exact ⟨this.w1,this.w3⟩
 have h2:=compM_mem h1
 refine ⟨h2.1,?_⟩
 have h3:=h2.2
 rw [sort_len] at h3
 have h5:(w.tubes.map (·.width)).length = w.tubes.length:=by simp
 have:=hw.t4
 exact Nat.le_trans h3 (by omega)
set_option maxHeartbeats 4000000 in
theorem t110 (w:Work) (hw:WorkP w) (th:List (List Span)):ACalls Tryz.prog 110 [eBnd w th] (fun r=>r = .own 3 1 ((widthsM w).map eInt)):= by
 have h4:=hw.t4
 have ew:widthsM w = compM (sortN (w.tubes.map (·.width)) (w.tubes.map (·.width)).length):=rfl
 have hwl:(w.tubes.map (·.width)).length <= 4:=by simpa using h4
 refine ACalls.of_body hT Tryz.func110 rfl (by kernel_rfl) rfl ?_
 (repeat (refine stq ?_))
 refine AW_own_nil (e:=3) (sz:=1) (t:=3) rfl rfl ?_
 (repeat (refine stq ?_))
 refine AW_loopC (fun k:Nat=>k <= w.tubes.length) (fun k=>mkSt [(3,.arr 1),(8,.pv (.sl (w.tubes.map eTube))),(9,.pv (vi w.tubes.length)),(10,.pv (vi k))] [(1,.arr 3 1 (((w.tubes.map (·.width)).take k).map eInt))] 2) (fun k=>w.tubes.length - k) 0 (Nat.zero_le _) ?_ ?_
 ·(refine Le.mk ?_ ?_; all_goals (repeat' (first|exact trivial|refine sle ?_|refine ⟨?_,rfl,?_⟩|refine ⟨?_,by decide,rfl,?_⟩|fail)))
 ·intro k hk
  (repeat (refine stq ?_))
  refine AW_if rfl (fun hc=>?_) (fun hc=>?_)
  ·have hk':k < w.tubes.length:=by omega
   obtain ⟨t,ht⟩:∃ x,w.tubes[k]? = some x:=⟨w.tubes[k],by simp [hk']⟩
   have e1:=get_map eTube ht
   have hs:(w.tubes.map (·.width)).take (k + 1) = (w.tubes.map (·.width)).take k ++ [t.width]:= by
    rw [List.take_add_one,List.getElem?_map,ht]; rfl
   have hln:((w.tubes.map (·.width)).take k).length <= 4:=by simp; omega
   generalize (w.tubes.map (·.width)).take k = u at *
   (repeat (refine stq ?_))
   refine ⟨k + 1,hk',by omega,?_⟩
   rw [hs]
   (refine Le.mkR [(1,4)] ?_ ?_ rfl; all_goals (repeat' (first|exact trivial|refine sle ?_|refine ⟨?_,rfl,?_⟩|refine ⟨?_,by decide,rfl,?_⟩|fail)))
   rw [List.map_append]; rfl
  ·have hkl:k = w.tubes.length:=by omega
   subst hkl
   rw [List.take_of_length_le (by simp)]
   rw [ew]
   generalize w.tubes.map (·.width) = L at *
   refine AW_pool0 3 1 ?_
   refine AW_poolIn (t:=3) (r:=1) (g:=2) rfl rfl rfl rfl fun v=>?_
   have k171:=t171 v L hwl
   have k172:=t172 v (sortN L L.length) (by rw [sort_len]; omega)
   generalize sortN L L.length = S at *
   (repeat (refine stq ?_))
   refine AL_doS rfl (op_callXs (objs:=[(0,.pool 3 1 [(v,some (L.map eInt))])]) (n:=1) [(0,2)] [0] [] (fun av=>k171) rfl rfl rfl rfl (by (repeat' (first|exact trivial|refine And.intro ?_ ?_)); all_goals (first|rfl|decide)) rfl (by (repeat' (first|exact trivial|refine And.intro ?_ ?_)); all_goals (first|rfl|decide)) rfl trivial (by simp) (fun av sf h=>by subst h; exact ⟨.inp ⟨_,_,_,_,_,_,rfl,rfl⟩,trivial⟩)) ?_
   rintro s' ⟨av',sf,rfl,rfl⟩
   (repeat (refine stq ?_))
   refine AL_doS rfl (op_callXs (objs:=[(0,.pool 3 1 [(v,some (S.map eInt))])]) (n:=1) [(0,2)] [] [] (fun av=>k172) rfl rfl rfl rfl (by (repeat' (first|exact trivial|refine And.intro ?_ ?_)); all_goals (first|rfl|decide)) rfl (by (repeat' (first|exact trivial|refine And.intro ?_ ?_)); all_goals (first|rfl|decide)) rfl trivial (by simp) (fun av sf h=>trivial)) ?_
   rintro s' ⟨av',sf,rfl,rfl⟩
   (repeat (refine stq ?_))
   exact ⟨_,_,rfl,rfl,rfl⟩
theorem t109 (w:Work) (hw:WorkP w) (th:List (List Span)):ACalls Tryz.prog 109 [eBnd w th] (fun r=>r = .pv (vi w.map.cells.length)):= by
 have h6:=hw.map.r6
 refine ACalls.of_body hT Tryz.func109 rfl (by kernel_rfl) rfl ?_
 (repeat (refine stq ?_))
 exact ⟨_,_,rfl,rfl,rfl⟩
theorem t174 (w:Work) (hw:WorkP w) (th:List (List Span)):ACalls Tryz.prog 174 [eBnd w th] (fun r=>r = .pv (vi (colsN w.map))):= by
 have h6:=hw.map.r6; have h1:=hw.map.r1; have h8:=hw.map.c8
 obtain ⟨x0,hx0⟩:∃ x,w.map.cells[0]? = some x:=⟨w.map.cells[0]'(by omega),by simp⟩
 have e0:(w.map.cells.map eRow)[(0:Int).toNat]? = some (eRow x0):=get_map eRow hx0
 have hx0l:=cols_row hw.map hx0
 rw [<- hx0l]
 refine ACalls.of_body hT Tryz.func174 rfl (by kernel_rfl) rfl ?_
 (repeat (refine stq ?_))
 exact ⟨_,_,rfl,rfl,rfl⟩
theorem t175 (w:Work) (th:List (List Span)) (row wide c:Int):ACalls Tryz.prog 175 [eBnd w th,vi row,vi wide,vi c] (fun r=>r = .pv (.fn 202 [.ptr (eBndC w th),.ptr [vi row],.ptr [vi c],.ptr [vi wide]])):= by
 refine ACalls.of_body hT Tryz.func175 rfl (by kernel_rfl) rfl ?_
 (repeat (refine stq ?_))
 exact ⟨_,_,rfl,rfl,rfl⟩
end Go.Abs
namespace Go.Abs
open Go.Proofs
set_option maxRecDepth 100000
def surelyI (w:Work) (b:Blank):Int:=(tubeOf w b).worth * lowI w b
def optAt (w:Work) (row wide c:Int) (k:Nat):List Blank:=match w.tubes[k]? with
 | some t=>if t.width = wide /\ canB w ⟨row,c,k⟩ = true then [⟨row,c,k⟩] else []
 | none=>[]
def optsN (w:Work) (row wide c:Int):Nat -> List Blank
 | 0=>[]
 | k + 1=>optsN w row wide c k ++ optAt w row wide c k
def optsM (w:Work) (row wide c:Int):List Blank:=optsN w row wide c w.tubes.length
theorem opts_pre (w:Work) (row wide c:Int) {k:Nat}:∀ n,k <= n -> ∃ r,optsN w row wide c n = optsN w row wide c k ++ r
 | 0,h=>by
  have:k = 0:=by omega
  subst this; exact ⟨[],by simp⟩
 | n + 1,h=>by
  by_cases hk:k = n + 1
  ·subst hk; exact ⟨[],by simp⟩
  ·obtain ⟨r,hr⟩:=opts_pre w row wide c (k:=k) n (by omega)
   refine ⟨r ++ optAt w row wide c n,?_⟩
   show optsN w row wide c n ++ optAt w row wide c n = _
   rw [hr,List.append_assoc]
theorem opts_get {w:Work} {row wide c:Int} {k:Nat} {b:Blank} (hk:k < w.tubes.length) (h:optAt w row wide c k = [b]):(optsM w row wide c)[(optsN w row wide c k).length]? = some b:= by
 obtain ⟨r,hr⟩:=opts_pre w row wide c (k:=k + 1) w.tubes.length (by omega)
 rw [optsM,hr,optsN,h]
 simp
theorem opts_ok {w:Work} {row wide c:Int}:∀ n,n <= w.tubes.length -> ∀ b ∈ optsN w row wide c n,okB w b = true /\ b.row = row /\ b.col = c /\ (tubeOf w b).width = wide
 | 0,_,b,h=>by simp [optsN] at h
 | n + 1,hn,b,h=>by
  rw [optsN] at h
  rcases List.mem_append.1 h with h|h
  ·exact opts_ok n (by omega) b h
  ·rw [optAt,show w.tubes[n]? = some (w.tubes[n]'(by omega)) by simp] at h
   simp only at h
   split at h
   ·rename_i hc
    rw [List.mem_singleton] at h
    subst h
    have hin:inB (n:Int) 0 (w.tubes.length - 1) = true:=inB_iff.2 (by omega)
    refine ⟨by rw [okB,Bool.and_eq_true]; exact ⟨hin,hc.2⟩,rfl,rfl,?_⟩
    have h3:w.tubes[n]? = some (tubeOf w ⟨row,c,n⟩):=tube_at (b:=⟨row,c,n⟩) hin
    rw [show w.tubes[n]? = some (w.tubes[n]'(by omega)) by simp] at h3
    rw [<- Option.some.inj h3]
    exact hc.1
   ·simp at h
theorem opts_len (w:Work) (row wide c:Int):∀ n,(optsN w row wide c n).length <= n
 | 0=>by simp [optsN]
 | n + 1=>by
  have:=opts_len w row wide c n
  rw [optsN,List.length_append]
  have:(optAt w row wide c n).length <= 1:= by
   rw [optAt]
   split
   ·split <;> simp
   ·simp
  omega
def optY (w:Work) (b:Blank):List PV:=[eB b,vi (surelyI w b)]
theorem low_bd {w:Work} (hw:WorkP w) {t:List (List Int)} (hs:sizedT w.map t = true) (hf:fitsT w.map t = true) {b:Blank} (hok:okB w b = true):0 <= lowI w b /\ lowI w b <= 65:= by
 obtain ⟨g1,g2,g3⟩:=ok_range hok
 have hT2:=(in_thick hw.map hs hf).thick
 refine slice_bd hw g1 (minL_bd _ 60 (by omega) (by omega) fun p hp=>?_)
 obtain ⟨i,hi⟩:=List.mem_iff_getElem?.1 hp
 obtain ⟨_,_,_,h,_⟩:=span_at hT2 (cells_there hw g1 g3 hi)
 exact h
theorem surely_bd {w:Work} (hw:WorkP w) {t:List (List Int)} (hs:sizedT w.map t = true) (hf:fitsT w.map t = true) {b:Blank} (hok:okB w b = true):0 <= surelyI w b /\ surelyI w b <= 6500:= by
 obtain ⟨g1,g2,g3⟩:=ok_range hok
 have hTu:=hw.tt _ (List.mem_of_getElem? (tube_at g1))
 have h1:=hTu.o1; have h3:=hTu.o100
 have h2:=low_bd hw hs hf hok
 have h5:0 <= (tubeOf w b).worth * lowI w b:=Int.mul_nonneg (by omega) h2.1
 have h6:(tubeOf w b).worth * lowI w b <= 100 * 65:=Int.mul_le_mul h3 h2.2 h2.1 (by omega)
 rw [surelyI]; omega
set_option maxHeartbeats 4000000 in
theorem it202 (w:Work) (hw:WorkP w) (t:List (List Int)) (hs:sizedT w.map t = true) (hf:fitsT w.map t = true) (row wide c:Int) :
  IterOK Tryz.prog 202 [.ptr (eBndC w (thickM w.map)),.ptr [vi row],.ptr [vi c],.ptr [vi wide]] ((optsM w row wide c).map (optY w)):= by
 intro E B hEL hE
 have h4:=hw.t4
 have hT2:=(in_thick hw.map hs hf).thick
 have hlb:∀ b,okB w b = true -> 0 <= lowI w b /\ lowI w b <= 65:=fun b hb=>low_bd hw hs hf hb
 have hk76:∀ b,okB w b = true -> ACalls Tryz.prog 76 [eBnd w (thickM w.map),eB b] (fun r=>r = .pv (vi (lowI w b))):=fun b hb=>by
  obtain ⟨g1,g2,g3⟩:=ok_range hb
  exact t76 w hw (thickM w.map) hT2 b g1 g3
 generalize thickM w.map = th at *
 refine ACallsX.of_body hT Tryz.func202 rfl (by kernel_rfl) rfl ?_
 (repeat (refine stq ?_))
 refine AW_loopC (fun i:Nat × (Nat -> Prop)=>i.1 <= w.tubes.length) (fun i=>mkSt [(0,.yld 0),(1,.pv (.ptr (eBndC w th))),(2,.pv (.ptr [vi row])),(3,.pv (.ptr [vi c])),(4,.pv (.ptr [vi wide])),(11,.pv (.sl (w.tubes.map eTube))),(12,.pv (vi w.tubes.length)),(13,.pv (vi i.1))] [(0,.ext E (optsN w row wide c i.1).length i.2)] 1)
  (fun i=>w.tubes.length - i.1) (0,B) (Nat.zero_le _) ?_ ?_
 ·(refine Le.mk ?_ ?_; all_goals (repeat' (first|exact trivial|refine sle ?_|refine ⟨?_,rfl,?_⟩|refine ⟨?_,by decide,rfl,?_⟩|fail)))
 ·rintro ⟨k,Bk⟩ hk
  simp only at hk
  dsimp only
  (repeat (refine stq ?_))
  refine AW_if rfl (fun hc=>?_) (fun hc=>?_)
  ·have hk':k < w.tubes.length:=by omega
   obtain ⟨u,hu⟩:∃ x,w.tubes[k]? = some x:=⟨w.tubes[k],by simp [hk']⟩
   have e1:=get_map eTube hu
   have hin:inB (k:Int) 0 (w.tubes.length - 1) = true:=inB_iff.2 (by omega)
   have k75:=t75 w hw ⟨row,c,k⟩ hin
   have hst:optsN w row wide c (k + 1) = optsN w row wide c k ++ optAt w row wide c k:=rfl
   have hoa:optAt w row wide c k = if u.width = wide /\ canB w ⟨row,c,k⟩ = true then [⟨row,c,k⟩] else []:=by rw [optAt,hu]
   by_cases hwd:u.width = wide
   ·cases q:canB w ⟨row,c,k⟩ with
    | true =>
     rw [q] at k75
     have hok:okB w ⟨row,c,k⟩ = true:=by rw [okB,Bool.and_eq_true]; exact ⟨hin,q⟩
     rw [if_pos ⟨hwd,q⟩] at hoa
     have hget:=opts_get hk' hoa
     have k76:=hk76 _ hok
     have k149:=t149 w hw th ⟨row,c,k⟩ hin (lowI w ⟨row,c,k⟩) (by have:=hlb _ hok; omega)
     have hx1:E.L[(optsN w row wide c k).length]? = some [eB ⟨row,c,k⟩,vi ((tubeOf w ⟨row,c,k⟩).worth * lowI w ⟨row,c,k⟩)]:= by
      rw [hEL,List.getElem?_map,hget]; rfl
     rw [hoa] at hst
     (repeat' (first|refine stq ?_|(refine AL_do2 rfl ?_; first|refine ⟨_,op_call1 rfl rfl rfl rfl (k75),nrmA rfl ?_⟩)|((first|(with_reducible refine AL_id ?_); (fail_if_success (refine glq rfl rfl rfl ?_)); first|refine AL_gdec rfl rfl rfl (fun hg=>?_) (fun hg=>?_)|refine AL_gnot rfl rfl rfl (fun hg=>?_) (fun hg=>?_)|refine AL_gcases rfl rfl rfl (fun hg=>?_) (fun hg=>?_)) <;> (try (exfalso; omega)))|refine AW_if rfl (fun hc=>absurd hc (by omega)) (fun _=>?_)|refine AW_if rfl (fun _=>?_) (fun hc=>absurd (by omega) hc)))
     all_goals (try (exfalso; omega))
     (repeat (first|refine sdq ?_|refine DG_next (D_call rfl rfl rfl rfl rfl (k76)) ?_|refine DG_next (D_call rfl rfl rfl rfl rfl (k149)) ?_))
     refine DG_end hM (by kernel_rfl) ?_
     (repeat (refine stq ?_))
     refine AL_doS rfl (op_yield hE rfl rfl rfl rfl rfl hx1) ?_
     rintro s' ⟨B',rfl⟩
     (repeat (refine stq ?_))
     refine ⟨(k + 1,B'),hk',by simp only; omega,?_⟩
     rw [hst,List.length_append]
     (refine Le.mk ?_ ?_; all_goals (repeat' (first|exact trivial|refine sle ?_|refine ⟨?_,rfl,?_⟩|refine ⟨?_,by decide,rfl,?_⟩|fail)))
    | false =>
     rw [q] at k75
     rw [if_neg (by rw [q]; simp)] at hoa
     rw [hoa,List.append_nil] at hst
     (repeat' (first|refine stq ?_|(refine AL_do2 rfl ?_; first|refine ⟨_,op_call1 rfl rfl rfl rfl (k75),nrmA rfl ?_⟩)|((first|(with_reducible refine AL_id ?_); (fail_if_success (refine glq rfl rfl rfl ?_)); first|refine AL_gdec rfl rfl rfl (fun hg=>?_) (fun hg=>?_)|refine AL_gnot rfl rfl rfl (fun hg=>?_) (fun hg=>?_)|refine AL_gcases rfl rfl rfl (fun hg=>?_) (fun hg=>?_)) <;> (try (exfalso; omega)))|refine AW_if rfl (fun hc=>absurd hc (by omega)) (fun _=>?_)|refine AW_if rfl (fun _=>?_) (fun hc=>absurd (by omega) hc)))
     all_goals (try (exfalso; omega))
     refine ⟨(k + 1,Bk),hk',by simp only; omega,?_⟩
     rw [hst]
     (refine Le.mk ?_ ?_; all_goals (repeat' (first|exact trivial|refine sle ?_|refine ⟨?_,rfl,?_⟩|refine ⟨?_,by decide,rfl,?_⟩|fail)))
   ·rw [if_neg (fun h=>hwd h.1)] at hoa
    rw [hoa,List.append_nil] at hst
    (repeat' (first|refine stq ?_|(refine AL_do2 rfl ?_; first|refine ⟨_,op_call1 rfl rfl rfl rfl (k75),nrmA rfl ?_⟩)|((first|(with_reducible refine AL_id ?_); (fail_if_success (refine glq rfl rfl rfl ?_)); first|refine AL_gdec rfl rfl rfl (fun hg=>?_) (fun hg=>?_)|refine AL_gnot rfl rfl rfl (fun hg=>?_) (fun hg=>?_)|refine AL_gcases rfl rfl rfl (fun hg=>?_) (fun hg=>?_)) <;> (try (exfalso; omega)))|refine AW_if rfl (fun hc=>absurd hc (by omega)) (fun _=>?_)|refine AW_if rfl (fun _=>?_) (fun hc=>absurd (by omega) hc)))
    all_goals (try (exfalso; omega))
    refine ⟨(k + 1,Bk),hk',by simp only; omega,?_⟩
    rw [hst]
    (refine Le.mk ?_ ?_; all_goals (repeat' (first|exact trivial|refine sle ?_|refine ⟨?_,rfl,?_⟩|refine ⟨?_,by decide,rfl,?_⟩|fail)))
  ·have hkl:k = w.tubes.length:=by omega
   subst hkl
   (repeat (refine stq ?_))
   refine ⟨_,mkSt [] [(0,.ext E ((optsM w row wide c).map (optY w)).length Bk)] 1,rfl,?_,Bk,rfl⟩
   rw [show ((optsM w row wide c).map (optY w)).length = (optsN w row wide c w.tubes.length).length by rw [List.length_map]; rfl]
   (refine Le.mk ?_ ?_; all_goals (repeat' (first|exact trivial|refine sle ?_|refine ⟨?_,rfl,?_⟩|refine ⟨?_,by decide,rfl,?_⟩|fail)))
end Go.Abs
namespace Go.Abs
def oneC (w:Work) (b:Blank):Cut:=⟨[b],surelyI w b⟩
def fromF (w:Work) (row wide:Int):Nat -> Nat -> Cut
 | 0,_=>⟨[],0⟩
 | n + 1,c=>if colsN w.map <= c then ⟨[],0⟩ else bestC (fromF w row wide n (c + 1) :: (optsM w row wide c).map fun b=>thenC (oneC w b) (fromF w row wide n (c + wide.toNat)))
def fromM (w:Work) (row wide:Int) (c:Nat):Cut:=fromF w row wide (colsN w.map - c) c
theorem fromF_out {w:Work} {row wide:Int} {n c:Nat} (h:colsN w.map <= c):fromF w row wide n c = ⟨[],0⟩:= by
 cases n with
 | zero=>rfl
 | succ n=>rw [fromF,if_pos h]
theorem fromF_eq {w:Work} {row wide:Int} (hw:1 <= wide):∀ (n m c:Nat),colsN w.map - c <= n -> colsN w.map - c <= m -> fromF w row wide n c = fromF w row wide m c
 | 0,m,c,h,_=>by rw [fromF_out (n:=m) (by omega),fromF]
 | n + 1,0,c,_,h=>by rw [fromF_out (n:=n + 1) (by omega),fromF]
 | n + 1,m + 1,c,h1,h2=>by
  by_cases hc:colsN w.map <= c
  ·rw [fromF_out hc,fromF_out hc]
  ·rw [fromF,fromF,if_neg hc,if_neg hc,fromF_eq hw n m (c + 1) (by omega) (by omega),fromF_eq hw n m (c + wide.toNat) (by omega) (by omega)]
theorem fromM_out {w:Work} {row wide:Int} {c:Nat} (h:colsN w.map <= c):fromM w row wide c = ⟨[],0⟩:=fromF_out h
theorem fromM_step {w:Work} {row wide:Int} (hw:1 <= wide) {c:Nat} (h:c < colsN w.map):fromM w row wide c = bestC (fromM w row wide (c + 1) :: (optsM w row wide c).map fun b=>thenC (oneC w b) (fromM w row wide (c + wide.toNat))):= by
 obtain ⟨n,hn⟩:∃ n,colsN w.map - c = n + 1:=⟨colsN w.map - c - 1,by omega⟩
 rw [fromM,hn,fromF,if_neg (by omega),fromM,fromM,fromF_eq hw n (colsN w.map - (c + 1)) (c + 1) (by omega) (by omega),fromF_eq hw n (colsN w.map - (c + wide.toNat)) (c + wide.toNat) (by omega) (by omega)]
structure BandP (w:Work) (row wide:Int) (c:Nat) (x:Cut):Prop where
 ok:∀ b ∈ x.blanks,okB w b = true /\ b.row = row /\ (tubeOf w b).width = wide /\ (c:Int) <= b.col
 ap:x.blanks.Pairwise fun a b=>a.col + wide <= b.col
 len:x.blanks.length <= colsN w.map - c
 w0:0 <= x.worth
 w1:x.worth <= 6500 * ((colsN w.map - c:Nat):Int)
theorem BandP.later {w:Work} {row wide:Int} {c c':Nat} {x:Cut} (h:BandP w row wide c' x) (hc:c <= c'):BandP w row wide c x:= by
 have h1:=h.len; have h2:=h.w1
 refine ⟨fun b hb=>?_,h.ap,by omega,h.w0,by omega⟩
 obtain ⟨g1,g2,g3,g4⟩:=h.ok b hb
 exact ⟨g1,g2,g3,by omega⟩
theorem BandP.nil (w:Work) (row wide:Int) (c:Nat):BandP w row wide c ⟨[],0⟩:=⟨fun b hb=>(by cases hb),List.Pairwise.nil,by simp,Int.le_refl 0,by show (0:Int) <= _; omega⟩
theorem opts_at {w:Work} {row wide:Int} {c:Int} {b:Blank} (hb:b ∈ optsM w row wide c):okB w b = true /\ b.row = row /\ b.col = c /\ (tubeOf w b).width = wide:=opts_ok _ (Nat.le_refl _) b hb
theorem fromM_band {w:Work} (hw:WorkP w) {t:List (List Int)} (hs:sizedT w.map t = true) (hf:fitsT w.map t = true) {row wide:Int} (hwd:1 <= wide):∀ (d c:Nat),colsN w.map - c <= d -> BandP w row wide c (fromM w row wide c)
 | 0,c,h=>by rw [fromM_out (by omega)]; exact .nil _ _ _ _
 | d + 1,c,h=>by
  by_cases hc:colsN w.map <= c
  ·rw [fromM_out hc]; exact .nil _ _ _ _
  ·have ih1:=fromM_band hw hs hf (row:=row) hwd d (c + 1) (by omega)
   have ih2:=fromM_band hw hs hf (row:=row) hwd d (c + wide.toNat) (by omega)
   rw [fromM_step hwd (by omega)]
   rcases List.mem_cons.1 (bestC_mem (x:=fromM w row wide (c + 1)) (l:=(optsM w row wide c).map fun b=>thenC (oneC w b) (fromM w row wide (c + wide.toNat)))) with h1|h1
   ·rw [h1]; exact ih1.later (by omega)
   ·obtain ⟨b,hb,he⟩:=List.mem_map.1 h1
    rw [<- he]
    obtain ⟨q1,q2,q3,q4⟩:=opts_at hb
    have hsb:=surely_bd hw hs hf q1
    obtain ⟨r1,r2,r3,r4,r5⟩:=ih2
    generalize fromM w row wide (c + wide.toNat) = x at *
    refine ⟨fun b' hb'=>?_,?_,?_,?_,?_⟩
    ·rcases List.mem_cons.1 (show b' ∈ b :: x.blanks from hb') with rfl|hb'
     ·exact ⟨q1,q2,q4,by omega⟩
     ·obtain ⟨g1,g2,g3,g4⟩:=r1 b' hb'
      exact ⟨g1,g2,g3,by omega⟩
    ·show (b :: x.blanks).Pairwise _
     refine List.pairwise_cons.2 ⟨fun b' hb'=>?_,r2⟩
     obtain ⟨g1,g2,g3,g4⟩:=r1 b' hb'
     omega
    ·show (b :: x.blanks).length <= _
     rw [List.length_cons]; omega
    ·show 0 <= surelyI w b + x.worth
     omega
    ·show surelyI w b + x.worth <= _
     omega
end Go.Abs
