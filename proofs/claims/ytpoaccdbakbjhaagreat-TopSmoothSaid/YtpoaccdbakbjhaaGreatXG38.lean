/- The best cutting, in plain Lean. -/
import Derived.Test.YtpoaccdbakbjhaaGreatXG37
import Derived.Test.YtpoaccdbakbjhaaGreatXG19
set_option linter.unusedVariables false
set_option linter.unusedSimpArgs false
namespace Go.Abs
def packL (w:Work) (r:Nat) (g:Nat -> Cut):List Int -> List Cut
 | []=>[]
 | x :: l=>(if (r:Int) + x <= w.map.cells.length then [thenC (bandM w r x) (g (r + x.toNat))] else []) ++ packL w r g l
theorem packL_append (w:Work) (r:Nat) (g:Nat -> Cut):∀ (l m:List Int),packL w r g (l ++ m) = packL w r g l ++ packL w r g m
 | [],m=>rfl
 | x :: l,m=>by rw [List.cons_append,packL,packL,packL_append w r g l m,List.append_assoc]
theorem packL_len (w:Work) (r:Nat) (g:Nat -> Cut):∀ (l:List Int),(packL w r g l).length <= l.length
 | []=>Nat.le_refl _
 | x :: l=>by
  have:=packL_len w r g l
  rw [packL,List.length_append,List.length_cons]
  split <;> simp <;> omega
theorem packL_congr {w:Work} {r:Nat} {g g':Nat -> Cut}:∀ (l:List Int),(∀ x ∈ l,g (r + x.toNat) = g' (r + x.toNat)) -> packL w r g l = packL w r g' l
 | [],_=>rfl
 | x :: l,h=>by rw [packL,packL,h x (.head _),packL_congr l fun y hy=>h y (.tail _ hy)]
theorem packL_mem {w:Work} {r:Nat} {g:Nat -> Cut}:∀ {l:List Int} {c:Cut},c ∈ packL w r g l -> ∃ x ∈ l,(r:Int) + x <= w.map.cells.length /\ c = thenC (bandM w r x) (g (r + x.toNat))
 | [],c,h=>by cases h
 | x :: l,c,h=>by
  rw [packL] at h
  rcases List.mem_append.1 h with h|h
  ·split at h
   ·rename_i hx
    rw [List.mem_singleton] at h
    exact ⟨x,.head _,hx,h⟩
   ·cases h
  ·obtain ⟨y,hy,h1⟩:=packL_mem h
   exact ⟨y,.tail _ hy,h1⟩
def packF (w:Work):Nat -> Nat -> Cut
 | 0,_=>⟨[],0⟩
 | n + 1,r=>if w.map.cells.length <= r then ⟨[],0⟩ else bestC (packF w n (r + 1) :: packL w r (packF w n) (widthsM w))
def packM (w:Work) (r:Nat):Cut:=packF w (w.map.cells.length - r) r
theorem packF_out {w:Work} {n r:Nat} (h:w.map.cells.length <= r):packF w n r = ⟨[],0⟩:= by
 cases n with
 | zero=>rfl
 | succ n=>rw [packF,if_pos h]
theorem packF_eq {w:Work} (hw:∀ x ∈ widthsM w,1 <= x):∀ (n m r:Nat),w.map.cells.length - r <= n -> w.map.cells.length - r <= m -> packF w n r = packF w m r
 | 0,m,r,h,_=>by rw [packF_out (n:=m) (by omega),packF]
 | n + 1,0,r,_,h=>by rw [packF_out (n:=n + 1) (by omega),packF]
 | n + 1,m + 1,r,h1,h2=>by
  by_cases hc:w.map.cells.length <= r
  ·rw [packF_out hc,packF_out hc]
  ·rw [packF,packF,if_neg hc,if_neg hc,packF_eq hw n m (r + 1) (by omega) (by omega),packL_congr (g':=packF w m) (widthsM w) fun x hx=>by
    have:=hw x hx
    exact packF_eq hw n m (r + x.toNat) (by omega) (by omega)]
theorem packM_out {w:Work} {r:Nat} (h:w.map.cells.length <= r):packM w r = ⟨[],0⟩:=packF_out h
theorem packM_step {w:Work} (hw:∀ x ∈ widthsM w,1 <= x) {r:Nat} (h:r < w.map.cells.length):packM w r = bestC (packM w (r + 1) :: packL w r (packM w) (widthsM w)):= by
 obtain ⟨n,hn⟩:∃ n,w.map.cells.length - r = n + 1:=⟨w.map.cells.length - r - 1,by omega⟩
 rw [packM,hn,packF,if_neg (by omega),packM,packF_eq hw n (w.map.cells.length - (r + 1)) (r + 1) (by omega) (by omega),packL_congr (g':=packM w) (widthsM w) fun x hx=>by
  have:=hw x hx
  exact packF_eq hw n (w.map.cells.length - (r + x.toNat)) (r + x.toNat) (by omega) (by omega)]
structure PackP (w:Work) (r:Nat) (x:Cut):Prop where
 ok:∀ b ∈ x.blanks,okB w b = true /\ (r:Int) <= b.row
 ap:x.blanks.Pairwise fun a b=>apBl w a b = true
 len:x.blanks.length <= (w.map.cells.length - r) * colsN w.map
 w0:0 <= x.worth
 w1:x.worth <= 6500 * (((w.map.cells.length - r) * colsN w.map:Nat):Int)
theorem PackP.nil (w:Work) (r:Nat):PackP w r ⟨[],0⟩:=⟨fun b hb=>(by cases hb),List.Pairwise.nil,by simp,Int.le_refl 0,by show (0:Int) <= _; omega⟩
theorem PackP.later {w:Work} {r r':Nat} {x:Cut} (h:PackP w r' x) (hr:r <= r'):PackP w r x:= by
 have h1:=h.len; have h2:=h.w1
 have h3:(w.map.cells.length - r') * colsN w.map <= (w.map.cells.length - r) * colsN w.map:=Nat.mul_le_mul_right _ (by omega)
 refine ⟨fun b hb=>?_,h.ap,by omega,h.w0,by omega⟩
 obtain ⟨g1,g2⟩:=h.ok b hb
 exact ⟨g1,by omega⟩
theorem pack_then {w:Work} {r:Nat} {wide:Int} {a x:Cut} (hwd:1 <= wide) (hr:(r:Int) + wide <= w.map.cells.length) (ha:BandP w r wide 0 a) (hx:PackP w (r + wide.toNat) x):PackP w r (thenC a x):= by
 obtain ⟨a1,a2,a3,a4,a5⟩:=ha
 obtain ⟨x1,x2,x3,x4,x5⟩:=hx
 rw [Nat.sub_zero] at a3 a5
 have hm:(w.map.cells.length - (r + wide.toNat)) * colsN w.map + colsN w.map <= (w.map.cells.length - r) * colsN w.map:= by
  have:=Nat.mul_le_mul_right (colsN w.map) (show w.map.cells.length - (r + wide.toNat) + 1 <= w.map.cells.length - r by omega)
  rw [Nat.succ_mul] at this; exact this
 refine ⟨fun b hb=>?_,?_,?_,?_,?_⟩
 ·rcases List.mem_append.1 (show b ∈ a.blanks ++ x.blanks from hb) with hb|hb
  ·obtain ⟨g1,g2,g3,g4⟩:=a1 b hb
   exact ⟨g1,by omega⟩
  ·obtain ⟨g1,g2⟩:=x1 b hb
   exact ⟨g1,by omega⟩
 ·show (a.blanks ++ x.blanks).Pairwise _
  refine List.pairwise_append.2 ⟨?_,x2,fun b hb b' hb'=>?_⟩
  ·refine List.Pairwise.imp_of_mem (fun {b b'} hb hb' h=>?_) a2
   obtain ⟨g1,g2,g3,g4⟩:=a1 b hb
   obtain ⟨q1,q2,q3,q4⟩:=a1 b' hb'
   rw [apBl,if_pos (by omega),g3,q3]
   simp; omega
  ·obtain ⟨g1,g2,g3,g4⟩:=a1 b hb
   obtain ⟨q1,q2⟩:=x1 b' hb'
   rw [apBl,if_neg (by omega),g3]
   simp; omega
 ·show (a.blanks ++ x.blanks).length <= (w.map.cells.length - r) * colsN w.map
  rw [List.length_append]; omega
 ·show 0 <= a.worth + x.worth
  omega
 ·show a.worth + x.worth <= _
  omega
theorem pack_ok {w:Work} (hw:WorkP w) {t:List (List Int)} (hs:sizedT w.map t = true) (hf:fitsT w.map t = true):∀ (d r:Nat),w.map.cells.length - r <= d -> PackP w r (packM w r)
 | 0,r,h=>by rw [packM_out (by omega)]; exact .nil _ _
 | d + 1,r,h=>by
  by_cases hc:w.map.cells.length <= r
  ·rw [packM_out hc]; exact .nil _ _
  ·have hwd:=(widths_ok hw).1
   rw [packM_step (fun x hx=>(hwd x hx).1) (by omega)]
   rcases List.mem_cons.1 (bestC_mem (x:=packM w (r + 1)) (l:=packL w r (packM w) (widthsM w))) with h1|h1
   ·rw [h1]; exact (pack_ok hw hs hf d (r + 1) (by omega)).later (by omega)
   ·obtain ⟨x,hx,hr,he⟩:=packL_mem h1
    rw [he]
    have hx1:=(hwd x hx).1
    exact pack_then hx1 hr (fromM_band hw hs hf hx1 _ 0 (Nat.le_refl _)) (pack_ok hw hs hf d (r + x.toNat) (by omega))
theorem pack_cut {w:Work} {r:Nat} {x:Cut} (h:PackP w r x):CutP w x.blanks:=⟨fun b hb=>(h.ok b hb).1,h.ap⟩
theorem pack_48 {w:Work} (hw:WorkP w) {r:Nat} {x:Cut} (h:PackP w r x):x.blanks.length <= 48 /\ x.worth <= 312000:= by
 have h1:=h.len; have h2:=h.w1; have h3:=hw.map.r6; have h4:=hw.map.c8
 have h5:(w.map.cells.length - r) * colsN w.map <= 6 * 8:=Nat.mul_le_mul (by omega) h4
 omega
end Go.Abs
namespace Go.Abs
open Go.Proofs
set_option maxRecDepth 100000
def allP (w:Work) (r k:Nat):List Cut:=packM w (r + 1) :: packL w r (packM w) ((widthsM w).take k)
theorem allP_succ {w:Work} {r k:Nat} {x:Int} (h:(widthsM w)[k]? = some x):allP w r (k + 1) = allP w r k ++ (if (r:Int) + x <= w.map.cells.length then [thenC (bandM w r x) (packM w (r + x.toNat))] else []):= by
 rw [allP,allP,List.take_add_one,h,packL_append]
 simp [packL]
set_option maxHeartbeats 8000000 in
theorem t51 (w:Work) (hw:WorkP w) (t:List (List Int)) (hs:sizedT w.map t = true) (hf:fitsT w.map t = true):∀ (d r:Nat),w.map.cells.length - r <= d -> r <= w.map.cells.length -> ACalls Tryz.prog 51 [eBnd w (thickM w.map),vi r] (fun x=>x = .pv (eC (packM w r)))
 | 0,r,h,hr=>by
  have h6:=hw.map.r6
  have k109:=t109 w hw (thickM w.map)
  rw [packM_out (by omega)]
  refine ACalls.of_body hT Tryz.func51 rfl (by kernel_rfl) rfl ?_
  (repeat' (first|refine stq ?_|(refine AL_do2 rfl ?_; first|refine ⟨_,op_call1 rfl rfl rfl rfl (k109),nrmA rfl ?_⟩)|(with_reducible refine AL_id ?_); (fail_if_success (refine glq rfl rfl rfl ?_)); first|refine AL_gdec rfl rfl rfl (fun hg=>?_) (fun hg=>?_)|refine AL_gnot rfl rfl rfl (fun hg=>?_) (fun hg=>?_)|refine AL_gcases rfl rfl rfl (fun hg=>?_) (fun hg=>?_)))
  refine AW_if rfl (fun _=>?_) (fun h=>absurd (by omega) h)
  (repeat (refine stq ?_))
  exact ⟨_,_,rfl,rfl,rfl⟩
 | d + 1,r,h,hr=>by
  have h6:=hw.map.r6
  have k109:=t109 w hw (thickM w.map)
  by_cases hc:w.map.cells.length <= r
  ·rw [packM_out hc]
   refine ACalls.of_body hT Tryz.func51 rfl (by kernel_rfl) rfl ?_
   (repeat' (first|refine stq ?_|(refine AL_do2 rfl ?_; first|refine ⟨_,op_call1 rfl rfl rfl rfl (k109),nrmA rfl ?_⟩)|(with_reducible refine AL_id ?_); (fail_if_success (refine glq rfl rfl rfl ?_)); first|refine AL_gdec rfl rfl rfl (fun hg=>?_) (fun hg=>?_)|refine AL_gnot rfl rfl rfl (fun hg=>?_) (fun hg=>?_)|refine AL_gcases rfl rfl rfl (fun hg=>?_) (fun hg=>?_)))
   refine AW_if rfl (fun _=>?_) (fun h=>absurd (by omega) h)
   (repeat (refine stq ?_))
   exact ⟨_,_,rfl,rfl,rfl⟩
  ·have hwd:=widths_ok hw
   have ih:=t51 w hw t hs hf d (r + 1) (by omega) (by omega)
   rw [show ((r + 1:Nat):Int) = (r:Int) + 1 by omega] at ih
   have ih2:∀ x ∈ widthsM w,(r:Int) + x <= w.map.cells.length -> ACalls Tryz.prog 51 [eBnd w (thickM w.map),vi ((r:Int) + x)] (fun y=>y = .pv (eC (packM w (r + x.toNat)))):=fun x hx hxr=>by
    have:=(hwd.1 x hx).1
    have:=t51 w hw t hs hf d (r + x.toNat) (by omega) (by omega)
    rw [show ((r + x.toNat:Nat):Int) = (r:Int) + x by omega] at this
    exact this
   have k110:=t110 w hw (thickM w.map)
   have hstep:=packM_step (fun x hx=>(hwd.1 x hx).1) (r:=r) (by omega)
   have hq:∀ r',PackP w r' (packM w r'):=fun r'=>pack_ok hw hs hf _ r' (Nat.le_refl _)
   refine ACalls.of_body hT Tryz.func51 rfl (by kernel_rfl) rfl ?_
   (repeat' (first|refine stq ?_|(refine AL_do2 rfl ?_; first|refine ⟨_,op_call1 rfl rfl rfl rfl (k109),nrmA rfl ?_⟩)|(with_reducible refine AL_id ?_); (fail_if_success (refine glq rfl rfl rfl ?_)); first|refine AL_gdec rfl rfl rfl (fun hg=>?_) (fun hg=>?_)|refine AL_gnot rfl rfl rfl (fun hg=>?_) (fun hg=>?_)|refine AL_gcases rfl rfl rfl (fun hg=>?_) (fun hg=>?_)))
   refine AW_if rfl (fun h=>absurd h (by omega)) (fun _=>?_)
   (repeat (refine stq ?_))
   refine AL_do2 rfl ⟨_,op_call1 rfl rfl rfl rfl (ih),?_⟩
   (repeat (refine stq ?_))
   refine AL_do2 rfl ⟨_,op_call1 rfl rfl rfl rfl (k110),?_⟩
   refine AL_pure (t:=19) rfl rfl ?_
   (repeat (refine stq ?_))
   refine AW_loopC (fun k:Nat=>k <= (widthsM w).length) (fun k=>mkSt [(1,.pv (vi r)),(2,.box 0 0),(4,.box 1 0),(5,.arr 2),(19,.pv (eInts (widthsM w))),(20,.pv (vi (widthsM w).length)),(21,.pv (vi k))] [(0,.box ((eBndC w (thickM w.map)).map FV.pv)),(1,.box [.nils,.pv (vi 0)]),(2,.arr 122 2 ((allP w r k).map eCut))] 3) (fun k=>(widthsM w).length - k) 0 (Nat.zero_le _) ?_ ?_
   ·(refine Le.mk ?_ ?_; all_goals (repeat' (first|exact trivial|refine sle ?_|refine ⟨?_,rfl,?_⟩|refine ⟨?_,by decide,rfl,?_⟩|fail)))
   ·intro k hk
    have hln:(allP w r k).length <= 5:= by
     have:=packL_len w r (packM w) ((widthsM w).take k)
     rw [List.length_take] at this
     rw [allP,List.length_cons]; omega
    have hst:∀ x,(widthsM w)[k]? = some x -> allP w r (k + 1) = allP w r k ++ (if (r:Int) + x <= w.map.cells.length then [thenC (bandM w r x) (packM w (r + x.toNat))] else []):=fun x hx=>allP_succ hx
    have hfin:allP w r (widthsM w).length = packM w (r + 1) :: packL w r (packM w) (widthsM w):=by rw [allP,List.take_length]
    generalize hA:allP w r k = A at *
    (repeat (refine stq ?_))
    refine AW_if rfl (fun hc1=>?_) (fun hc1=>?_)
    ·have hk':k < (widthsM w).length:=by omega
     obtain ⟨x,hx⟩:∃ x,(widthsM w)[k]? = some x:=⟨(widthsM w)[k],by simp [hk']⟩
     have hxm:=List.mem_of_getElem? hx
     have hxb:=hwd.1 x hxm
     have e1:=get_map eInt hx
     have hs2:=hst x hx
     (repeat' (first|refine stq ?_|(refine AL_do2 rfl ?_; first|refine ⟨_,op_call1 rfl rfl rfl rfl (k109),nrmA rfl ?_⟩)|(with_reducible refine AL_id ?_); (fail_if_success (refine glq rfl rfl rfl ?_)); first|refine AL_gdec rfl rfl rfl (fun hg=>?_) (fun hg=>?_)|refine AL_gnot rfl rfl rfl (fun hg=>?_) (fun hg=>?_)|refine AL_gcases rfl rfl rfl (fun hg=>?_) (fun hg=>?_)))
     refine AW_if rfl (fun hc2=>?_) (fun hc2=>?_)
     ·have k111:=t111 w hw t hs hf r x hxb
      have k51:=ih2 x hxm hc2
      have hb1:=fromM_band hw hs hf (row:=r) hxb.1 _ 0 (Nat.le_refl _)
      have b1:=hb1.len; have b2:=hb1.w0; have b3:=hb1.w1
      have h8:=hw.map.c8
      have hp1:=hq (r + x.toNat)
      have p1:=pack_48 hw hp1; have p2:=hp1.w0
      have k112:=t112 (bandM w r x) (packM w (r + x.toNat)) (by rw [bandM]; omega) (by omega) (by rw [bandM]; omega) (by omega)
      rw [if_pos hc2] at hs2
      (repeat (refine stq ?_))
      (repeat (first|refine sdq ?_|refine DG_next (D_call rfl rfl rfl rfl rfl (k111)) ?_|refine DG_next (D_call rfl rfl rfl rfl rfl (k51)) ?_|refine DG_next (D_call rfl rfl rfl rfl rfl (k112)) ?_))
      refine DG_end hM (by kernel_rfl) ?_
      (repeat (refine stq ?_))
      refine ⟨k + 1,hk',by omega,?_⟩
      rw [hs2]
      (refine Le.mkR [(2,3)] ?_ ?_ rfl; all_goals (repeat' (first|exact trivial|refine sle ?_|refine ⟨?_,rfl,?_⟩|refine ⟨?_,by decide,rfl,?_⟩|fail)))
      rw [List.map_append]; rfl
     ·rw [if_neg hc2,List.append_nil] at hs2
      (repeat (refine stq ?_))
      refine ⟨k + 1,hk',by omega,?_⟩
      rw [hs2]
      (refine Le.mk ?_ ?_; all_goals (repeat' (first|exact trivial|refine sle ?_|refine ⟨?_,rfl,?_⟩|refine ⟨?_,by decide,rfl,?_⟩|fail)))
    ·have hkl:k = (widthsM w).length:=by omega
     subst hkl
     rw [hfin] at hA
     have k113:=t113 (packM w (r + 1)) (packL w r (packM w) (widthsM w)) (by
      have:=packL_len w r (packM w) (widthsM w)
      rw [List.length_cons]; omega) (fun c hc=>by
      rcases List.mem_cons.1 hc with rfl|hc
      ·have:=(pack_48 hw (hq (r + 1))).1; omega
      ·obtain ⟨x,hx,hxr,rfl⟩:=packL_mem hc
       have h1:=(fromM_band hw hs hf (row:=r) (hwd.1 x hx).1 _ 0 (Nat.le_refl _)).len
       have h2:=(pack_48 hw (hq (r + x.toNat))).1
       have h8:=hw.map.c8
       simp only [thenC,bandM,List.length_append]
       omega)
     rw [<- hstep,hA] at k113
     (repeat (refine stq ?_))
     refine AL_pure (t:=45) rfl rfl ?_
     (repeat' (first|refine stq ?_|(refine AL_do2 rfl ?_; first|refine ⟨_,op_call1 rfl rfl rfl rfl (k113),nrmA rfl ?_⟩)|(with_reducible refine AL_id ?_); (fail_if_success (refine glq rfl rfl rfl ?_)); first|refine AL_gdec rfl rfl rfl (fun hg=>?_) (fun hg=>?_)|refine AL_gnot rfl rfl rfl (fun hg=>?_) (fun hg=>?_)|refine AL_gcases rfl rfl rfl (fun hg=>?_) (fun hg=>?_)))
     exact ⟨_,_,rfl,rfl,rfl⟩
theorem t23 (w:Work) (hw:WorkP w) (t:List (List Int)) (hs:sizedT w.map t = true) (hf:fitsT w.map t = true):ACalls Tryz.prog 23 [eWork w] (fun x=>x = .tup [eBlanks (packM w 0).blanks,vi (packM w 0).worth,vi 0]):= by
 have k49:=t49 w hw
 have k50:=t50 w hw t hs hf
 have k51:=t51 w hw t hs hf _ 0 (Nat.le_refl _) (Nat.zero_le _)
 generalize packM w 0 = c at *
 generalize thickM w.map = th at *
 refine ACalls.of_body hT Tryz.func23 rfl (by kernel_rfl) rfl ?_
 (repeat' (first|refine stq ?_|(refine AL_do2 rfl ?_; first|refine ⟨_,op_call1 rfl rfl rfl rfl (k49),nrmA rfl ?_⟩|refine ⟨_,op_call1 rfl rfl rfl rfl (k50),nrmA rfl ?_⟩|refine ⟨_,op_call1 rfl rfl rfl rfl (k51),nrmA rfl ?_⟩)|(with_reducible refine AL_id ?_); (fail_if_success (refine glq rfl rfl rfl ?_)); first|refine AL_gdec rfl rfl rfl (fun hg=>?_) (fun hg=>?_)|refine AL_gnot rfl rfl rfl (fun hg=>?_) (fun hg=>?_)|refine AL_gcases rfl rfl rfl (fun hg=>?_) (fun hg=>?_)))
 (repeat (refine sdq ?_))
 refine DG_end hM (by kernel_rfl) ?_
 (repeat (refine stq ?_))
 exact ⟨_,_,rfl,rfl,rfl⟩
end Go.Abs
namespace Go.Abs
open Go.Proofs
open Go.RowKit
set_option maxRecDepth 100000
theorem und184:Tryz.prog.underlying 184 = some (.struct (Tryz.prog.fieldsOf 184)):=by kernel_rfl
theorem held184:Tryz.prog.stoodInHeld 184 = false:=by kernel_rfl
theorem guard184:Tryz.prog.eqGuardType Tryz.prog.depth 184 = false:=by kernel_rfl
theorem und4:Tryz.prog.underlying 4 = some .bool:=by kernel_rfl
theorem fields184 : (Tryz.prog.fieldsOf 184).toList.map (fun f => (f.name == "_", f.type, f.offset)) = [(false, 3, 0), (false, 3, 1), (false, 4, 2)] := by kernel_rfl
theorem crack_eq (a b a' b':Int) (c c':Bool) (w:World):(Op.equalIn 10000 184 (.agg #[.int .i64 a,.int .i64 b,.bool c]) (.agg #[.int .i64 a',.int .i64 b',.bool c'])).run Tryz.prog w = .ok (decide (a = a') && (decide (b = b') && (c == c'))) w:= by
 rw [run_equalIn_struct w 9999 184 _ _ und184 held184]
 have hf:=fields184
 generalize (Tryz.prog.fieldsOf 184).toList = fs at hf
 obtain ⟨f0,f1,f2,rfl⟩:∃ f0 f1 f2,fs = [f0,f1,f2]:= by
  have hl:=congrArg List.length hf
  rw [List.length_map] at hl
  cases fs with
  | nil=>cases hl
  | cons f0 fs=>cases fs with
   | nil=>cases hl
   | cons f1 fs=>cases fs with
    | nil=>cases hl
    | cons f2 fs=>cases fs with
     | nil=>exact ⟨f0,f1,f2,rfl⟩
     | cons f3 fs=>simp at hl
 simp only [List.map_cons,List.map_nil,List.cons.injEq,Prod.mk.injEq,and_true] at hf
 obtain ⟨⟨n0,t0,o0⟩,⟨n1,t1,o1⟩,n2,t2,o2⟩:=hf
 have a3:=(hT.ty (show T 3 = some _ from rfl)).run_agg w
 have a4:=(hT.ty (show T 4 = some _ from rfl)).run_agg w
 have e3:∀ (d:Nat) (x y:Int),(Op.equalIn (d + 1) 3 (.int .i64 x) (.int .i64 y)).run Tryz.prog w = .ok (x == y) w:=fun d x y=>run_equalIn_int w d 3 .i64 .i64 x y und3
 have e4:∀ (d:Nat) (x y:Bool),(Op.equalIn (d + 1) 4 (.bool x) (.bool y)).run Tryz.prog w = .ok (x == y) w:=fun d x y=>run_equalIn_bool' w d 4 x y und4
 have m0 : f0.name ≠ "_" := by simpa using n0
 have m1 : f1.name ≠ "_" := by simpa using n1
 have m2 : f2.name ≠ "_" := by simpa using n2
 simp only [Op.eqFields,m0,m1,m2,t0,t1,t2,o0,o1,o2,ne_eq,not_false_eq_true,if_true,Sem.run_bind,Go.part,a3,a4,Result.andThen_ok]
 simp [e3,e4]
 by_cases h1:a = a' <;> by_cases h2:b = b' <;> by_cases h3:c = c' <;> simp [h1,h2,h3]
def sameK (k:Crack) (r c:Int) (d:Bool):Bool:=decide (k.row = r) && (decide (k.col = c) && (k.down == d))
theorem crack_val {w:World} {D:Nat -> Prop} {v:Value} {k:Crack} (h:Rep w D v (.agg (eCrack k))):v = .agg #[.int .i64 k.row,.int .i64 k.col,.bool k.down]:= by
 cases h with
 | agg vs cs hl hr =>
  have hl:vs.size = 3:=hl
  congr 1
  apply Array.ext
  ·exact hl
  ·intro j h1 h2
   have h3:j < 3:=by omega
   match j,h3 with
   | 0,_=>exact (hr 0 vs[0] (vi k.row) (by simp [hl]) rfl).inv_int
   | 1,_=>exact (hr 1 vs[1] (vi k.col) (by simp [hl]) rfl).inv_int
   | 2,_=>exact (hr 2 vs[2] (.bool k.down) (by simp [hl]) rfl).inv_bool
theorem op_eqlCrack {nt:Nat} {s:ASt} {o:Oper} {t':TypeId} {x y:Operand} {k:Crack} {r c:Int} {d:Bool} (ho:o.op = .binOp .eql 184 x y t') (hd:dstB nt o.dst = true) (hx:s.evD x = some (.agg (eCrack k))) (hy:s.evD y = some (.agg (eCrack ⟨r,c,d⟩))) :
  OpTo Tryz.prog nt o s (s.putO o.dst (some (.pv (.bool (sameK k r c d))))) :=
 OpTo.value hd fun W0 D0 D φ a w hI=>⟨.bool (sameK k r c d),by
  have e1:=crack_val (hI.evD hx)
  have e2:=crack_val (hI.evD hy)
  simp only [execOp,ho,Sem.run_bind,e1,e2]
  rw [run_eqGuard_agg _ _ _ _ _ _ _ guard184,Result.andThen_ok,run_eql_struct,crack_eq,Result.andThen_ok]; rfl,fun x' h=>by cases h; exact ⟨rfl,.pv _ _ (.bool _)⟩⟩
def crackN (m:SMap) (r c:Int) (d:Bool):Bool:=m.cracks.any fun k=>sameK k r c d
theorem t139 (m:SMap) (hm:MapP m) (r c:Int) (d:Bool):ACalls Tryz.prog 139 [eMap m,vi r,vi c,.bool d] (fun x=>x = .pv (.bool (crackN m r c d))):= by
 have k8:=hm.k8
 refine ACalls.of_body hT Tryz.func139 rfl (by kernel_rfl) rfl ?_
 (repeat (refine stq ?_))
 refine AW_loopC (fun i:Nat=>i <= m.cracks.length /\ (m.cracks.take i).any (fun k=>sameK k r c d) = false) (fun i=>mkSt [(1,.pv (vi r)),(2,.pv (vi c)),(3,.pv (.bool d)),(4,.box 0 0),(9,.pv (vi i))] [(0,boM m)] 1) (fun i=>m.cracks.length - i) 0 ⟨Nat.zero_le _,rfl⟩ ?_ ?_
 ·(refine Le.mk ?_ ?_; all_goals (repeat' (first|exact trivial|refine sle ?_|refine ⟨?_,rfl,?_⟩|refine ⟨?_,by decide,rfl,?_⟩|fail)))
 ·rintro i ⟨hi,hall⟩
  (repeat (refine stq ?_))
  refine AW_if rfl (fun hc=>?_) (fun hc=>?_)
  ·have hi':i < m.cracks.length:=by omega
   obtain ⟨k,hk⟩:∃ k,m.cracks[i]? = some k:=⟨m.cracks[i],by simp [hi']⟩
   have e1:=get_map eCrack hk
   have hst:(m.cracks.take (i + 1)).any (fun k=>sameK k r c d) = sameK k r c d:= by
    rw [List.take_add_one,hk,List.any_append,hall]; simp
   (repeat (refine stq ?_))
   refine AL_do2 rfl ⟨_,op_eqlCrack (k:=k) (r:=r) (c:=c) (d:=d) rfl rfl rfl rfl,?_⟩
   cases q:sameK k r c d with
   | true =>
    rw [q] at hst
    (repeat (refine stq ?_))
    have hy:crackN m r c d = true:= by
     rw [crackN,List.any_eq_true]
     exact ⟨k,List.mem_of_getElem? hk,q⟩
    exact ⟨_,_,rfl,rfl,by rw [hy]⟩
   | false =>
    rw [q] at hst
    (repeat (refine stq ?_))
    refine ⟨i + 1,⟨hi',hst⟩,by omega,?_⟩
    (refine Le.mk ?_ ?_; all_goals (repeat' (first|exact trivial|refine sle ?_|refine ⟨?_,rfl,?_⟩|refine ⟨?_,by decide,rfl,?_⟩|fail)))
  ·have hil:i = m.cracks.length:=by omega
   subst hil
   rw [List.take_length] at hall
   (repeat (refine stq ?_))
   exact ⟨_,_,rfl,rfl,by rw [crackN,hall]⟩
theorem t73 (w:Work) (hw:WorkP w) (a b:Blank) (ha:okB w a = true) (hb:okB w b = true) (hab:apBl w a b = true):ACalls Tryz.prog 73 [eWork w,eB a,eB b] (fun x=>x = .pv (.bool true)):= by
 obtain ⟨a1,a2,a3⟩:=ok_range ha
 obtain ⟨b1,b2,b3⟩:=ok_range hb
 have hta:=tube_at a1; have htb:=tube_at b1
 have hTa:=hw.tt _ (List.mem_of_getElem? hta); have hTb:=hw.tt _ (List.mem_of_getElem? htb)
 have v1:=hTa.w1; have v3:=hTa.w3; have u1:=hTb.w1; have u3:=hTb.w3
 have e1:=get_map_i eTube hta; have e2:=get_map_i eTube htb
 have i1:=inB_true a1; have i2:=inB_true b1
 have h4:=hw.t4; have m6:=hw.map.r6; have m8:=hw.map.c8
 obtain ⟨ar,ac⟩:=range_bd hw v1 a3
 obtain ⟨br,bc⟩:=range_bd hw u1 b3
 rw [apBl] at hab
 generalize tubeOf w a = ta at *
 generalize tubeOf w b = tb at *
 refine ACalls.of_body hT Tryz.func73 rfl (by kernel_rfl) rfl ?_
 (repeat (refine stq ?_))
 (repeat (refine sdq ?_))
 refine DG_end hM (by kernel_rfl) ?_
 by_cases hR:a.row = b.row
 ·rw [if_pos hR,Bool.and_eq_true,decide_eq_true_eq,decide_eq_true_eq] at hab
  (repeat' (first|refine stq ?_|((first|(with_reducible refine AL_id ?_); (fail_if_success (refine glq rfl rfl rfl ?_)); first|refine AL_gdec rfl rfl rfl (fun hg=>?_) (fun hg=>?_)|refine AL_gnot rfl rfl rfl (fun hg=>?_) (fun hg=>?_)|refine AL_gcases rfl rfl rfl (fun hg=>?_) (fun hg=>?_)) <;> (try (exfalso; omega)))|refine AW_if rfl (fun hc=>absurd hc (by omega)) (fun _=>?_)|refine AW_if rfl (fun _=>?_) (fun hc=>absurd (by omega) hc)))
  all_goals (try (exfalso; omega))
  exact ⟨_,_,rfl,rfl,by simp; omega⟩
 ·rw [if_neg hR,decide_eq_true_eq] at hab
  (repeat' (first|refine stq ?_|((first|(with_reducible refine AL_id ?_); (fail_if_success (refine glq rfl rfl rfl ?_)); first|refine AL_gdec rfl rfl rfl (fun hg=>?_) (fun hg=>?_)|refine AL_gnot rfl rfl rfl (fun hg=>?_) (fun hg=>?_)|refine AL_gcases rfl rfl rfl (fun hg=>?_) (fun hg=>?_)) <;> (try (exfalso; omega)))|refine AW_if rfl (fun hc=>absurd hc (by omega)) (fun _=>?_)|refine AW_if rfl (fun _=>?_) (fun hc=>absurd (by omega) hc)))
  all_goals (try (exfalso; omega))
  exact ⟨_,_,rfl,rfl,by simp; omega⟩
end Go.Abs
namespace Go.Abs
open Go.Proofs
set_option maxRecDepth 100000
theorem cellsL_get {b:Blank} {W r c:Nat} (hr:r < W) (hc:c < W):(cellsL b W)[W * r + c]? = some ⟨b.row + r,b.col + c⟩:= by
 have hlt:W * r + c < W * W:= by
  have:W * (r + 1) <= W * W:=Nat.mul_le_mul_left _ hr
  rw [Nat.mul_succ] at this; omega
 have h1:(W * r + c) / W = r:= by
  rw [Nat.mul_add_div (by omega),Nat.div_eq_of_lt hc]; omega
 have h2:(W * r + c) % W = c:= by
  rw [Nat.mul_add_mod,Nat.mod_eq_of_lt hc]
 simp [cellsL,List.getElem?_map,List.getElem?_range hlt,cellAt,h1,h2]
theorem can_solid {w:Work} {b:Blank} (h:canB w b = true) {i j:Nat} (hi:i < widthN w b) (hj:j < widthN w b):cellI w.map (b.row + i) (b.col + j) = 2:= by
 simp only [canB,Bool.and_eq_true,List.all_eq_true] at h
 have:=h.1.2 _ (List.mem_of_getElem? (cellsL_get hi hj))
 exact of_decide_eq_true this
theorem can_crack {w:Work} {b:Blank} (h:canB w b = true) {r c:Int} {d:Bool} (h1:hasB w b r c = true) (h2:hasB w b (if d then r + 1 else r) (if d then c else c + 1) = true):crackN w.map r c d = false:= by
 simp only [canB,Bool.and_eq_true,Bool.not_eq_true'] at h
 have hc:=h.2
 rw [crackN,List.any_eq_false]
 intro k hk hs
 simp only [sameK,Bool.and_eq_true,decide_eq_true_eq,beq_iff_eq] at hs
 obtain ⟨e1,e2,e3⟩:=hs
 rw [crackedB,List.any_eq_false] at hc
 refine hc k hk ?_
 rw [Bool.and_eq_true,beyondR,beyondC,e1,e2,e3]
 exact ⟨h1,h2⟩
set_option maxHeartbeats 8000000 in
theorem t72 (w:Work) (hw:WorkP w) (b:Blank) (hok:okB w b = true):ACalls Tryz.prog 72 [eWork w,eB b] (fun x=>x = .pv (.bool true)):= by
 obtain ⟨a1,a2,a3⟩:=ok_range hok
 have hta:=tube_at a1
 have hTa:=hw.tt _ (List.mem_of_getElem? hta)
 have v1:=hTa.w1; have v3:=hTa.w3
 have e1:=get_map_i eTube hta
 have i1:=inB_true a1
 have h4:=hw.t4; have m6:=hw.map.r6; have m8:=hw.map.c8
 obtain ⟨ar,ac⟩:=range_bd hw v1 a3
 have k17:=t17 w.map (by omega)
 have k16:=t16 w.map (by omega) (by omega)
 have hin:=a3
 simp only [inRange,Bool.and_eq_true] at hin
 have k19a:=t19 b.row 0 (w.map.cells.length - (tubeOf w b).width)
 have k19b:=t19 b.col 0 (colsN w.map - (tubeOf w b).width)
 rw [hin.1] at k19a
 rw [hin.2] at k19b
 have hW:(widthN w b:Int) = (tubeOf w b).width:=by unfold widthN; omega
 have hsol:∀ i j:Nat,i < widthN w b -> j < widthN w b -> cellI w.map (b.row + i) (b.col + j) = 2:=fun i j hi hj=>can_solid a2 hi hj
 have hcr1:∀ i j:Nat,i < widthN w b -> j + 1 < widthN w b -> crackN w.map (b.row + i) (b.col + j) false = false:=fun i j hi hj=>can_crack a2 (by
  rw [hasB,Bool.and_eq_true]; exact ⟨inB_iff.2 (by omega),inB_iff.2 (by omega)⟩) (by
  rw [hasB,Bool.and_eq_true]; exact ⟨inB_iff.2 (by simp; omega),inB_iff.2 (by simp; omega)⟩)
 have hcr2:∀ i j:Nat,i + 1 < widthN w b -> j < widthN w b -> crackN w.map (b.row + i) (b.col + j) true = false:=fun i j hi hj=>can_crack a2 (by
  rw [hasB,Bool.and_eq_true]; exact ⟨inB_iff.2 (by omega),inB_iff.2 (by omega)⟩) (by
  rw [hasB,Bool.and_eq_true]; exact ⟨inB_iff.2 (by simp; omega),inB_iff.2 (by simp; omega)⟩)
 generalize widthN w b = W at *
 generalize tubeOf w b = ta at *
 refine ACalls.of_body hT Tryz.func72 rfl (by kernel_rfl) rfl ?_
 (repeat (refine stq ?_))
 (repeat (first|refine DG_next (D_allocE hT rfl rfl rfl rfl) ?_|refine DG_next (D_storeE hT rfl rfl rfl rfl rfl rfl rfl rfl rfl rfl) ?_|refine sdq ?_))
 refine DG_end hM (by kernel_rfl) ?_
 (repeat (refine stq ?_))
 (repeat (first|refine sdq ?_|refine DG_next (D_call rfl rfl rfl rfl rfl (k17)) ?_|refine DG_next (D_call rfl rfl rfl rfl rfl (k16)) ?_|refine DG_next (D_call rfl rfl rfl rfl rfl (k19a)) ?_|refine DG_next (D_call rfl rfl rfl rfl rfl (k19b)) ?_))
 refine DG_end hM (by kernel_rfl) ?_
 (repeat (refine stq ?_))
 rw [<- hW]
 refine AW_loopC (fun i:Nat=>i <= W) (fun i=>mkSt [(2,.box 0 0),(3,.box 1 0),(5,.box 2 0),(6,.pv (vi W)),(7,.pv (vi (b.row + i)))] [(0,boW w),(1,.box ((eBlank b).map FV.pv)),(2,boM w.map)] 3) (fun i=>W - i) 0 (Nat.zero_le _) ?_ ?_
 ·have e0:b.row + ((0:Nat):Int) = b.row:=by simp
  rw [e0]
  (refine Le.mk ?_ ?_; all_goals (repeat' (first|exact trivial|refine sle ?_|refine ⟨?_,rfl,?_⟩|refine ⟨?_,by decide,rfl,?_⟩|fail)))
 ·intro i hi
  (repeat (refine stq ?_))
  refine AW_if rfl (fun hc=>?_) (fun hc=>?_)
  ·have hi':i < W:=by omega
   (repeat (refine stq ?_))
   refine AW_loopC (fun j:Nat=>j <= W) (fun j=>mkSt [(2,.box 0 0),(3,.box 1 0),(5,.box 2 0),(6,.pv (vi W)),(7,.pv (vi (b.row + i))),(8,.pv (vi (b.col + j)))] [(0,boW w),(1,.box ((eBlank b).map FV.pv)),(2,boM w.map)] 3) (fun j=>W - j) 0 (Nat.zero_le _) ?_ ?_
   ·have e0:b.col + ((0:Nat):Int) = b.col:=by simp
    rw [e0]
    (refine Le.mk ?_ ?_; all_goals (repeat' (first|exact trivial|refine sle ?_|refine ⟨?_,rfl,?_⟩|refine ⟨?_,by decide,rfl,?_⟩|fail)))
   ·intro j hj
    (repeat (refine stq ?_))
    refine AW_if rfl (fun hc2=>?_) (fun hc2=>?_)
    ·have hj':j < W:=by omega
     have k18:=t18 w.map hw.map.short (b.row + i) (b.col + j)
     rw [hsol i j hi' hj'] at k18
     have k139a:=t139 w.map hw.map (b.row + i) (b.col + j) false
     have k139b:=t139 w.map hw.map (b.row + i) (b.col + j) true
     have k139a':j + 1 < W -> ACalls Tryz.prog 139 [eMap w.map,vi (b.row + i),vi (b.col + j),.bool false] (fun x=>x = .pv (.bool false)):=fun h=>by have k:=k139a; rw [hcr1 i j hi' h] at k; exact k
     have k139b':i + 1 < W -> ACalls Tryz.prog 139 [eMap w.map,vi (b.row + i),vi (b.col + j),.bool true] (fun x=>x = .pv (.bool false)):=fun h=>by have k:=k139b; rw [hcr2 i j h hj'] at k; exact k
     clear k139a k139b
     (repeat' (first|refine stq ?_|(refine AL_do2 rfl ?_; first|refine ⟨_,op_call1 rfl rfl rfl rfl (k18),nrmA rfl ?_⟩|refine ⟨_,op_call1 rfl rfl rfl rfl (k139a' (by omega)),nrmA rfl ?_⟩|refine ⟨_,op_call1 rfl rfl rfl rfl (k139b' (by omega)),nrmA rfl ?_⟩)|(with_reducible refine AL_id ?_); (fail_if_success (refine glq rfl rfl rfl ?_)); first|refine AL_gdec rfl rfl rfl (fun hg=>?_) (fun hg=>?_)|refine AL_gnot rfl rfl rfl (fun hg=>?_) (fun hg=>?_)|refine AL_gcases rfl rfl rfl (fun hg=>?_) (fun hg=>?_)))
     all_goals (try (exfalso; omega))
     all_goals refine ⟨j + 1,hj',by omega,?_⟩
     all_goals have e0:b.col + ((j + 1:Nat):Int) = b.col + j + 1:=by omega
     all_goals rw [e0]
     all_goals (refine Le.mk ?_ ?_; all_goals (repeat' (first|exact trivial|refine sle ?_|refine ⟨?_,rfl,?_⟩|refine ⟨?_,by decide,rfl,?_⟩|fail)))
    ·(repeat (refine stq ?_))
     refine ⟨i + 1,hi',by omega,?_⟩
     have e0:b.row + ((i + 1:Nat):Int) = b.row + i + 1:=by omega
     rw [e0]
     (refine Le.mk ?_ ?_; all_goals (repeat' (first|exact trivial|refine sle ?_|refine ⟨?_,rfl,?_⟩|refine ⟨?_,by decide,rfl,?_⟩|fail)))
  ·(repeat (refine stq ?_))
   exact ⟨_,_,rfl,rfl,rfl⟩
set_option maxHeartbeats 8000000 in
theorem t29 (w:Work) (hw:WorkP w) (l:List Blank) (hl:l.length <= 1000) (hc:CutP w l):ACalls Tryz.prog 29 [eWork w,eBlanks l] (fun x=>x = .pv (.bool true)):= by
 have h4:=hw.t4
 refine ACalls.of_body hT Tryz.func29 rfl (by kernel_rfl) rfl ?_
 (repeat (refine stq ?_))
 refine AW_loopC (fun k:Nat=>k <= l.length) (fun k=>mkSt [(1,.pv (eBlanks l)),(2,.box 0 0),(5,.pv (vi k))] [(0,boW w)] 1) (fun k=>l.length - k) 0 (Nat.zero_le _) ?_ ?_
 ·(refine Le.mk ?_ ?_; all_goals (repeat' (first|exact trivial|refine sle ?_|refine ⟨?_,rfl,?_⟩|refine ⟨?_,by decide,rfl,?_⟩|fail)))
 ·intro k hk
  (repeat (refine stq ?_))
  refine AW_if rfl (fun hc1=>?_) (fun hc1=>?_)
  ·have hk':k < l.length:=by omega
   obtain ⟨b,hx⟩:∃ x,l[k]? = some x:=⟨l[k],by simp [hk']⟩
   have e1:=get_map eBlank hx
   have hob:=hc.ok b (List.mem_of_getElem? hx)
   obtain ⟨g1,g2,g3⟩:=ok_range hob
   have k8:=t8 w b.tube (by omega)
   have k72:=t72 w hw b hob
   rw [g1] at k8
   (repeat (refine stq ?_))
   (repeat (first|refine sdq ?_|refine DG_next (D_call rfl rfl rfl rfl rfl (k8)) ?_|refine DG_next (D_call rfl rfl rfl rfl rfl (k72)) ?_))
   refine DG_end hM (by kernel_rfl) ?_
   (repeat (refine stq ?_))
   refine AW_loopC (fun j:Nat=>j <= k) (fun j=>mkSt [(1,.pv (eBlanks l)),(2,.box 0 0),(5,.pv (vi k)),(6,.pv (vi j))] [(0,boW w)] 1) (fun j=>k - j) 0 (Nat.zero_le _) ?_ ?_
   ·(refine Le.mk ?_ ?_; all_goals (repeat' (first|exact trivial|refine sle ?_|refine ⟨?_,rfl,?_⟩|refine ⟨?_,by decide,rfl,?_⟩|fail)))
   ·intro j hj
    (repeat (refine stq ?_))
    refine AW_if rfl (fun hc2=>?_) (fun hc2=>?_)
    ·have hj':j < k:=by omega
     obtain ⟨a,ha⟩:∃ a,l[j]? = some a:=⟨l[j]'(by omega),by simp⟩
     have e2:=get_map eBlank ha
     have k73:=t73 w hw a b (hc.ok a (List.mem_of_getElem? ha)) hob (pw_get hc.ap hj' ha hx)
     (repeat (refine stq ?_))
     (repeat (first|refine sdq ?_|refine DG_next (D_call rfl rfl rfl rfl rfl (k73)) ?_))
     refine DG_end hM (by kernel_rfl) ?_
     (repeat (refine stq ?_))
     refine ⟨j + 1,hj',by omega,?_⟩
     (refine Le.mk ?_ ?_; all_goals (repeat' (first|exact trivial|refine sle ?_|refine ⟨?_,rfl,?_⟩|refine ⟨?_,by decide,rfl,?_⟩|fail)))
    ·(repeat (refine stq ?_))
     refine ⟨k + 1,hk',by omega,?_⟩
     (refine Le.mk ?_ ?_; all_goals (repeat' (first|exact trivial|refine sle ?_|refine ⟨?_,rfl,?_⟩|refine ⟨?_,by decide,rfl,?_⟩|fail)))
  ·(repeat (refine stq ?_))
   exact ⟨_,_,rfl,rfl,rfl⟩
end Go.Abs
