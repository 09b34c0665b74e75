/- The slip of a drum, as the reference writes it. -/
import Derived.Test.YtmplfjolcdlipaaGreatDoorJDrS
set_option linter.unusedVariables false
set_option linter.unusedSimpArgs false
namespace Go.Abs
open Go.Proofs
set_option linter.unusedVariables false
set_option linter.unusedSimpArgs false
set_option maxRecDepth 100000
theorem SmallL.sub {l m : List Int} (h : SmallL l) (hs : ∀ x ∈ m,x ∈ l) : SmallL m := fun x hx => h x (hs x hx)
theorem SmallL.sz {l : List Int} (h : SmallL l) (hl : l.length <= 1000) : (wordsR l).size <= 21 * l.length:= by
 have := lineB_sz (nm := ByteArray.empty) h
 have he : ByteArray.empty.size = 0 := rfl
 unfold wordsR; omega
theorem linesD_sz {d : Drum} (h1 : d.acids.length + d.strips.length + d.batches.length <= 700) (h2 : d.adds.length <= 700) (hn : SmallL (numsD d)) : SizesOK (linesD d):= by
 refine ⟨by simp [linesD,L3,L2,L1],by simp [linesD,L3,L2,L1]; omega,lines_sum h1 (fun x hx => ?_) ?_⟩
 ·have z1 : nmDrum.size = 4 := rfl
  have z2 : nmKnown.size = 6 := rfl
  have z3 : nmAcid.size = 4 := rfl
  have z4 : nmFall.size = 5 := rfl
  have z5 : nmAdd.size = 3 := rfl
  have z6 : nmStrip.size = 5 := rfl
  have z7 : nmBatch.size = 5 := rfl
  rcases hx with rfl | ⟨a,ha,rfl⟩ | ⟨s,hs,rfl⟩ | ⟨b,hb,rfl⟩
  ·have e1 := lineB_sz (nm := nmDrum) (nums := [d.hours]) (hn.sub (by simp [numsD]))
   have e2 := lineB_sz (nm := nmKnown) (nums := [d.known]) (hn.sub (by simp [numsD]))
   unfold hdL
   rw [app_size]
   simp only [List.length_cons,List.length_nil] at e1 e2; omega
  ·have e1 := lineB_sz (nm := nmAcid) (nums := acN a) (hn.sub fun x hx => by simp only [numsD,List.mem_cons,List.mem_append,List.mem_flatMap]; exact .inr (.inr (.inl ⟨a,ha,.inl hx⟩)))
   have e2 := lineB_sz (nm := nmFall) (nums := faN a) (hn.sub fun x hx => by simp only [numsD,List.mem_cons,List.mem_append,List.mem_flatMap]; exact .inr (.inr (.inl ⟨a,ha,.inr hx⟩)))
   unfold acL
   rw [app_size]
   simp only [acN,faN,List.length_cons,List.length_nil] at e1 e2 ⊢; omega
  ·have e1 := lineB_sz (nm := nmStrip) (nums := stN s) (hn.sub fun x hx => by simp only [numsD,List.mem_cons,List.mem_append,List.mem_flatMap]; exact .inr (.inr (.inr (.inr (.inl ⟨s,hs,hx⟩)))))
   simp only [stN,List.length_cons,List.length_nil] at e1 ⊢; omega
  ·have e1 := lineB_sz (nm := nmBatch) (nums := baN b) (hn.sub fun x hx => by simp only [numsD,List.mem_cons,List.mem_append,List.mem_flatMap]; exact .inr (.inr (.inr (.inr (.inr ⟨b,hb,hx⟩)))))
   simp only [baN,List.length_cons,List.length_nil] at e1 ⊢; omega
 ·have z5 : nmAdd.size = 3 := rfl
  have e1 := lineB_sz (nm := nmAdd) (nums := d.adds) (hn.sub fun x hx => by simp only [numsD,List.mem_cons,List.mem_append]; exact .inr (.inr (.inr (.inl hx))))
  omega
theorem sB_size (L : List ByteArray) : (sB L).size = sumSz L + L.length:= by
 induction L using snocInd with
 | h0 => simp [sB,sumSz]
 | h1 L x ih =>
  have h3 : nlB.size = 1 := rfl
  have h4 : sumSz [x] = x.size := by simp [sumSz]
  rw [sB_snoc,app_size,app_size,List.length_append,List.length_singleton,sum_app]
  omega
set_option maxHeartbeats 8000000 in
theorem f41w (d : Drum) (h1 : d.acids.length + d.strips.length + d.batches.length <= 700) (h2 : d.adds.length <= 700) (hn : SmallL (numsD d)) : ACalls Tryz.prog 41 [eDrum d] (fun r => r = .pv (.str (textD d))):= by
 have hOK := linesD_sz h1 h2 hn
 have z1 : nmDrum.size = 4 := rfl
 have z2 : nmKnown.size = 6 := rfl
 have z3 : nmAcid.size = 4 := rfl
 have z4 : nmFall.size = 5 := rfl
 have z5 : nmAdd.size = 3 := rfl
 have z6 : nmStrip.size = 5 := rfl
 have z7 : nmBatch.size = 5 := rfl
 have nA : SmallL [d.hours] := hn.sub (by simp [numsD])
 have nB : SmallL [d.known] := hn.sub (by simp [numsD])
 have sA := nA.sz (by simp)
 have sK := nB.sz (by simp)
 simp only [List.length_cons,List.length_nil] at sA sK
 have kA := f111 [d.hours] nA (by simp)
 have kB := f111 [d.known] nB (by simp)
 have hh : ((nmDrum ++ wordsR [d.hours]) ++ nmKnown) ++ wordsR [d.known] = hdL d := by rw [ByteArray.append_assoc,line_words,line_words]; rfl
 have y1 : (nmDrum ++ wordsR [d.hours]).size <= 100 := by rw [app_size]; omega
 have y2 : ((nmDrum ++ wordsR [d.hours]) ++ nmKnown).size <= 200 := by rw [app_size]; omega
 refine ACalls.of_body hT Tryz.func41 rfl (by kernel_rfl) rfl ?_
 (repeat (refine stq ?_))
 iterate 3 (refine sdq ?_)
 refine DG_next (D_call rfl rfl rfl rfl rfl kA) ?_
 refine DG_next (D_strcat (u := nmDrum) rfl rfl rfl rfl rfl (by omega)) ?_
 refine DG_next (D_strcat (v := nmKnown) rfl rfl rfl rfl rfl (by omega)) ?_
 iterate 3 (refine sdq ?_)
 refine DG_next (D_call rfl rfl rfl rfl rfl kB) ?_
 refine DG_next (D_strcat rfl rfl rfl rfl rfl (by omega)) ?_
 rw [hh]
 refine DG_next (D_buildSliceE (es := [eStrC (hdL d)]) hT rfl rfl rfl rfl rfl rfl rfl rfl rfl rfl) ?_
 refine sdq ?_
 refine DG_end hM (by kernel_rfl) ?_
 (repeat (refine stq ?_))
 refine AW_loopC (fun k : Nat => k <= d.acids.length) (fun k => mkSt [(1,.box 0 0),(3,.arr 1),(4,.pv (vi k))] [(0,boO d),(1,.arr 9 1 ((hdL d :: (d.acids.take k).map acL).map eStrC))] 2) (fun k => d.acids.length - k) 0 (Nat.zero_le _) ?_ ?_
 ·(refine Le.mk ?_ ?_; all_goals (repeat' (first | exact trivial | refine sle ?_ | refine ⟨?_,rfl,?_⟩ | refine ⟨?_,by decide,rfl,?_⟩ | fail)))
 ·intro k hk
  (repeat (refine stq ?_))
  refine AW_if rfl (fun hc => ?_) (fun hc => ?_)
  ·have hk' : k < d.acids.length := by omega
   obtain ⟨a,ha⟩ : ∃ a,d.acids[k]? = some a := ⟨d.acids[k],by simp [hk']⟩
   have e3 := get_map eAcid ha
   have hm := List.mem_of_getElem? ha
   have nC : SmallL [a.strength.low,a.strength.high] := hn.sub fun x hx => by simp only [numsD,List.mem_cons,List.mem_append,List.mem_flatMap]; exact .inr (.inr (.inl ⟨a,hm,.inl hx⟩))
   have nD : SmallL [a.fall.low,a.fall.high] := hn.sub fun x hx => by simp only [numsD,List.mem_cons,List.mem_append,List.mem_flatMap]; exact .inr (.inr (.inl ⟨a,hm,.inr hx⟩))
   have kC := f111 _ nC (by simp)
   have kD := f111 _ nD (by simp)
   have sC := nC.sz (by simp)
   have sD := nD.sz (by simp)
   simp only [List.length_cons,List.length_nil] at sC sD
   have y3 : (nmAcid ++ wordsR [a.strength.low,a.strength.high]).size <= 200 := by rw [app_size]; omega
   have y4 : ((nmAcid ++ wordsR [a.strength.low,a.strength.high]) ++ nmFall).size <= 300 := by rw [app_size]; omega
   have hh : ((nmAcid ++ wordsR [a.strength.low,a.strength.high]) ++ nmFall) ++ wordsR [a.fall.low,a.fall.high] = acL a := by rw [ByteArray.append_assoc,line_words,line_words]; rfl
   have hLl : (hdL d :: (d.acids.take k).map acL).length <= 1000 := by simp; omega
   have hsn : hdL d :: (d.acids.take (k + 1)).map acL = (hdL d :: (d.acids.take k).map acL) ++ [acL a] := by rw [map_take_succ _ ha]; rfl
   generalize hL : (hdL d :: (d.acids.take k).map acL) = L at hLl hsn ⊢
   (repeat (refine stq ?_))
   iterate 8 (refine sdq ?_)
   refine DG_next (D_call rfl rfl rfl rfl rfl kC) ?_
   refine DG_next (D_strcat (u := nmAcid) rfl rfl rfl rfl rfl (by omega)) ?_
   refine DG_next (D_strcat (v := nmFall) rfl rfl rfl rfl rfl (by omega)) ?_
   iterate 7 (refine sdq ?_)
   refine DG_next (D_call rfl rfl rfl rfl rfl kD) ?_
   refine DG_next (D_strcat rfl rfl rfl rfl rfl (by omega)) ?_
   rw [hh]
   iterate 3 (refine sdq ?_)
   refine DG_end hM (by kernel_rfl) ?_
   (repeat (refine stq ?_))
   refine ⟨k + 1,hk',by omega,?_⟩
   rw [hsn]
   (refine Le.mkR [(0,0),(1,3)] ?_ ?_ rfl; all_goals (repeat' (first | exact trivial | refine sle ?_ | refine ⟨?_,rfl,?_⟩ | refine ⟨?_,by decide,rfl,?_⟩ | fail)))
   show some (AObj.arr 9 1 (L.map eStrC ++ [eStrC (acL a)])) = some (AObj.arr 9 1 ((L ++ [acL a]).map eStrC))
   rw [List.map_append]; rfl
  ·have hk' : k = d.acids.length := by omega
   subst hk'
   rw [List.take_length]
   rw [show hdL d :: d.acids.map acL = L1 d from rfl]
   have nE : SmallL d.adds := hn.sub fun x hx => by simp only [numsD,List.mem_cons,List.mem_append]; exact .inr (.inr (.inr (.inl hx)))
   have kE := f111 d.adds nE (by omega)
   have sE := nE.sz (by omega)
   have hl1 : (L1 d).length <= 1000 := by simp [L1]; omega
   have hl2 : (L2 d).length = d.acids.length + 2 := by simp [L2,L1]
   have hl3 : (L3 d).length = d.acids.length + 2 + d.strips.length := by simp [L3,L2,L1]; omega
   have d2 : L2 d = L1 d ++ [lineB nmAdd d.adds] := rfl
   have d3 : L3 d = L2 d ++ d.strips.map fun s => lineB nmStrip (stN s) := rfl
   generalize L1 d = M1 at *
   (repeat' (first | refine stq ?_ | (refine AL_do2 rfl ?_; first | refine ⟨_,op_call1 rfl rfl rfl rfl (kE),nrmA rfl ?_⟩) | (with_reducible refine AL_id ?_); (fail_if_success (refine AL_glit rfl rfl rfl (by first | exact .inl (by with_reducible rfl) | exact .inr (by with_reducible rfl)) ?_)); first | refine AL_gdec rfl rfl rfl (fun hg => ?_) (fun hg => ?_) | refine AL_gnot rfl rfl rfl (fun hg => ?_) (fun hg => ?_) | refine AL_gcases rfl rfl rfl (fun hg => ?_) (fun hg => ?_)))
   refine AL_do2 rfl ⟨_,op_strcat (u := nmAdd) rfl rfl rfl rfl (by omega),?_⟩
   rw [line_words]
   (repeat (refine stq ?_))
   refine AW_loopC (fun k : Nat => k <= d.strips.length) (fun k => mkSt [(1,.box 0 0),(3,.arr 1),(6,.pv (vi k))] [(0,boO d),(1,.arr 9 1 ((L2 d ++ (d.strips.take k).map fun s => lineB nmStrip (stN s)).map eStrC))] 2) (fun k => d.strips.length - k) 0 (Nat.zero_le _) ?_ ?_
   ·(refine Le.mkR [(0,0),(1,3)] ?_ ?_ rfl; all_goals (repeat' (first | exact trivial | refine sle ?_ | refine ⟨?_,rfl,?_⟩ | refine ⟨?_,by decide,rfl,?_⟩ | fail)))
    show some (AObj.arr 9 1 (M1.map eStrC ++ [eStrC (lineB nmAdd d.adds)])) = some (AObj.arr 9 1 ((L2 d ++ (d.strips.take 0).map fun s => lineB nmStrip (stN s)).map eStrC))
    rw [d2]; simp
   ·intro k hk
    have hLl : (L2 d ++ (d.strips.take k).map fun s => lineB nmStrip (stN s)).length <= 1000 := by simp; omega
    generalize hL : (L2 d ++ (d.strips.take k).map fun s => lineB nmStrip (stN s)) = L at hLl ⊢
    (repeat (refine stq ?_))
    refine AW_if rfl (fun hc => ?_) (fun hc => ?_)
    ·have hk' : k < d.strips.length := by omega
     obtain ⟨s,hs⟩ : ∃ s,d.strips[k]? = some s := ⟨d.strips[k],by simp [hk']⟩
     have e3 := get_map eStrip hs
     have hm := List.mem_of_getElem? hs
     have nF : SmallL [s.hour,s.seen,s.off] := hn.sub fun x hx => by simp only [numsD,List.mem_cons,List.mem_append,List.mem_flatMap]; exact .inr (.inr (.inr (.inr (.inl ⟨s,hm,hx⟩))))
     have kF := f111 _ nF (by simp)
     have sF := nF.sz (by simp)
     simp only [List.length_cons,List.length_nil] at sF
     (repeat (refine stq ?_))
     iterate 20 (refine sdq ?_)
     refine DG_next (D_call rfl rfl rfl rfl rfl kF) ?_
     refine DG_next (D_strcat (u := nmStrip) rfl rfl rfl rfl rfl (by omega)) ?_
     rw [line_words]
     iterate 3 (refine sdq ?_)
     refine DG_end hM (by kernel_rfl) ?_
     (repeat (refine stq ?_))
     refine ⟨k + 1,hk',by omega,?_⟩
     (refine Le.mkR [(0,0),(1,2)] ?_ ?_ rfl; all_goals (repeat' (first | exact trivial | refine sle ?_ | refine ⟨?_,rfl,?_⟩ | refine ⟨?_,by decide,rfl,?_⟩ | fail)))
     show some (AObj.arr 9 1 (L.map eStrC ++ [eStrC (lineB nmStrip (stN s))])) = some (AObj.arr 9 1 ((L2 d ++ (d.strips.take (k + 1)).map fun s => lineB nmStrip (stN s)).map eStrC))
     rw [map_take_succ _ hs,<- List.append_assoc,hL,List.map_append]; rfl
    ·have hk' : k = d.strips.length := by omega
     subst hk'
     rw [List.take_length] at hL
     change L3 d = L at hL
     have d4 : linesD d = L3 d ++ d.batches.map fun b => lineB nmBatch (baN b) := rfl
     rw [hL] at d4 hl3
     (repeat (refine stq ?_))
     refine AW_loopC (fun k : Nat => k <= d.batches.length) (fun k => mkSt [(1,.box 0 0),(3,.arr 1),(7,.pv (vi k))] [(0,boO d),(1,.arr 9 1 ((L ++ (d.batches.take k).map fun b => lineB nmBatch (baN b)).map eStrC))] 2) (fun k => d.batches.length - k) 0 (Nat.zero_le _) ?_ ?_
     ·(refine Le.mk ?_ ?_; all_goals (repeat' (first | exact trivial | refine sle ?_ | refine ⟨?_,rfl,?_⟩ | refine ⟨?_,by decide,rfl,?_⟩ | fail)))
      show some (AObj.arr 9 1 (L.map eStrC)) = some (AObj.arr 9 1 ((L ++ (d.batches.take 0).map fun b => lineB nmBatch (baN b)).map eStrC)); simp
     ·intro k hk
      have hLl : (L ++ (d.batches.take k).map fun b => lineB nmBatch (baN b)).length <= 1000 := by simp; omega
      generalize hL2 : (L ++ (d.batches.take k).map fun b => lineB nmBatch (baN b)) = B at hLl ⊢
      (repeat (refine stq ?_))
      refine AW_if rfl (fun hc => ?_) (fun hc => ?_)
      ·have hk' : k < d.batches.length := by omega
       obtain ⟨b,hb⟩ : ∃ b,d.batches[k]? = some b := ⟨d.batches[k],by simp [hk']⟩
       have e3 := get_map eBatch hb
       have hm := List.mem_of_getElem? hb
       have nG : SmallL [b.rough,b.goal,b.thick,b.least,b.polish,b.eat] := hn.sub fun x hx => by simp only [numsD,List.mem_cons,List.mem_append,List.mem_flatMap]; exact .inr (.inr (.inr (.inr (.inr ⟨b,hm,hx⟩))))
       have kG := f111 _ nG (by simp)
       have sG := nG.sz (by simp)
       simp only [List.length_cons,List.length_nil] at sG
       (repeat' (first | refine stq ?_ | (refine AL_do2 rfl ?_; first | refine ⟨_,op_callB rfl rfl rfl rfl (kG) rfl,nrmA rfl ?_⟩) | (with_reducible refine AL_id ?_); (fail_if_success (refine AL_glit rfl rfl rfl (by first | exact .inl (by with_reducible rfl) | exact .inr (by with_reducible rfl)) ?_)); first | refine AL_gdec rfl rfl rfl (fun hg => ?_) (fun hg => ?_) | refine AL_gnot rfl rfl rfl (fun hg => ?_) (fun hg => ?_) | refine AL_gcases rfl rfl rfl (fun hg => ?_) (fun hg => ?_)))
       refine AL_do2 rfl ⟨_,op_strcat (u := nmBatch) rfl rfl rfl rfl (by omega),?_⟩
       rw [line_words]
       (repeat (refine stq ?_))
       refine ⟨k + 1,hk',by omega,?_⟩
       (refine Le.mkR [(0,0),(1,5)] ?_ ?_ rfl; all_goals (repeat' (first | exact trivial | refine sle ?_ | refine ⟨?_,rfl,?_⟩ | refine ⟨?_,by decide,rfl,?_⟩ | fail)))
       show some (AObj.arr 9 1 (B.map eStrC ++ [eStrC (lineB nmBatch (baN b))])) = some (AObj.arr 9 1 ((L ++ (d.batches.take (k + 1)).map fun b => lineB nmBatch (baN b)).map eStrC))
       rw [map_take_succ _ hb,<- List.append_assoc,hL2,List.map_append]; rfl
      ·have hk' : k = d.batches.length := by omega
       subst hk'
       rw [List.take_length] at hL2
       rw [hL2] at d4
       unfold textD
       have h32 : (linesD d).length <= 720 := by simp [linesD,L3,L2,L1]; omega
       rw [d4] at hOK h32 ⊢
       clear hL2 d4
       generalize B = L' at *
       obtain ⟨hne,hLl',hsum⟩ := hOK
       have hsz : ∀ x ∈ L',x.size <= 120000 := fun x hx => Nat.le_trans (sum_one hx) hsum
       (repeat (refine stq ?_))
       refine AW_loopC (fun i : Nat => i <= L'.length) (fun i => mkSt [(3,.arr 1),(9,.pv (.str (sB (L'.take i)))),(10,.pv (vi (checkI (L'.take i)))),(11,.pv (vi i))] [(1,.arr 9 1 (L'.map eStrC))] 2) (fun i => L'.length - i) 0 (Nat.zero_le _) ?_ ?_
       ·(refine Le.mk ?_ ?_; all_goals (repeat' (first | exact trivial | refine sle ?_ | refine ⟨?_,rfl,?_⟩ | refine ⟨?_,by decide,rfl,?_⟩ | fail)))
       ·intro i hi
        (repeat (refine stq ?_))
        refine AW_if rfl (fun hc => ?_) (fun hc => ?_)
        ·have hi' : i < L'.length := by omega
         obtain ⟨x,hx⟩ : ∃ x,L'[i]? = some x := ⟨L'[i],by simp [hi']⟩
         have e3 : (L'.map eStrC)[((i : Nat) : Int).toNat]? = some (eStrC x) := get_map eStrC hx
         have hxs := hsz x (List.mem_of_getElem? hx)
         have hcb := checkI_bd (L := L'.take i) (by simp; omega) fun y hy => hsz y (List.mem_of_mem_take hy)
         have hxl : x.data.toList.length = x.size := rfl
         have hss := sB_size (L'.take i)
         have hst := sum_take L' i
         have htl : (L'.take i).length <= 720 := by simp; omega
         (repeat (refine stq ?_))
         refine AW_loopC (fun j : Nat => j <= x.size) (fun j => mkSt [(3,.arr 1),(9,.pv (.str (sB (L'.take i)))),(10,.pv (vi (checkI (L'.take i) + bsum (x.data.toList.take j) 1))),(11,.pv (vi i)),(12,.pv (vi j))] [(1,.arr 9 1 (L'.map eStrC))] 2) (fun j => x.size - j) 0 (Nat.zero_le _) ?_ ?_
         ·(refine Le.mk ?_ ?_; all_goals (repeat' (first | exact trivial | refine sle ?_ | refine ⟨?_,rfl,?_⟩ | refine ⟨?_,by decide,rfl,?_⟩ | fail)))
          show some (FV.pv (vi (checkI (L'.take i)))) = some (FV.pv (vi (checkI (L'.take i) + bsum (x.data.toList.take 0) 1))); simp [bsum]
         ·intro j hj
          (repeat (refine stq ?_))
          refine AL_do2 rfl ⟨_,op_indexAddr_arr (k := .i64) (n := (i : Int)) (id := 1) (e' := 9) (sz := 1) (es := L'.map eStrC) hT rfl rfl rfl rfl rfl rfl rfl rfl (by omega) (by rw [Int.toNat_natCast,List.length_map]; omega) rfl,?_⟩
          refine AL_do2 rfl ⟨_,op_load_aptr (el := eStrC x) hT rfl rfl rfl rfl rfl e3 rfl,?_⟩
          (repeat' (first | refine stq ?_ | refine sty ?_ | (with_reducible refine AL_id ?_); (fail_if_success (refine AL_glit rfl rfl rfl (by first | exact .inl (by with_reducible rfl) | exact .inr (by with_reducible rfl)) ?_)); first | refine AL_gdec rfl rfl rfl (fun hg => ?_) (fun hg => ?_) | refine AL_gnot rfl rfl rfl (fun hg => ?_) (fun hg => ?_) | refine AL_gcases rfl rfl rfl (fun hg => ?_) (fun hg => ?_)))
          refine AW_if rfl (fun hc => ?_) (fun hc => ?_)
          ·have hj' : j < x.size := by omega
           obtain ⟨b,hb⟩ : ∃ b,x.data.toList[j]? = some b := ⟨x.data.toList[j],by simp [hxl,hj']⟩
           have hb' : x[((j : Nat) : Int).toNat]? = some b:= by
            rw [Int.toNat_natCast]
            rw [List.getElem?_eq_getElem (by omega)] at hb
            rw [getElem?_pos x j hj']
            have hb3 : x.data[j]'hj' = b := by simpa using hb
            exact congrArg some hb3
           have hsb := bsum_bd (x.data.toList.take j) 1 (by omega) (by simp; omega)
           have hj2 : ((x.data.toList.take j).length : Int) = j := by simp; omega
           have hsn : bsum (x.data.toList.take (j + 1)) 1 = bsum (x.data.toList.take j) 1 + (b.toNat : Int) * ((j : Int) + 1):= by
            rw [List.take_add_one,hb,bsum_append,hj2]
            simp only [Option.toList_some,bsum]
            rw [show (1 : Int) + j = j + 1 by omega]; omega
           have hbt : (b.toNat : Int) <= 255 := by have := b.toNat_lt; omega
           have hm1 : 0 <= (b.toNat : Int) * ((j : Int) + 1) := Int.mul_nonneg (by omega) (by omega)
           have hm2 : (b.toNat : Int) * ((j : Int) + 1) <= 255 * 120001 := Int.mul_le_mul hbt (by omega) (by omega) (by omega)
           have hw := byte_wrap b
           have hmul : -9223372036854775808 <= IntKind.i64.wrap (b.toNat : Int) * ((j : Int) + 1) /\ IntKind.i64.wrap (b.toNat : Int) * ((j : Int) + 1) <= 9223372036854775807 := by rw [hw]; omega
           have hmul2 : 0 <= IntKind.i64.wrap (b.toNat : Int) * ((j : Int) + 1) /\ IntKind.i64.wrap (b.toNat : Int) * ((j : Int) + 1) <= 255 * 120001 := by rw [hw]; omega
           (repeat (refine stq ?_))
           refine AL_do2 rfl ⟨_,op_indexAddr_arr (k := .i64) (n := (i : Int)) (id := 1) (e' := 9) (sz := 1) (es := L'.map eStrC) hT rfl rfl rfl rfl rfl rfl rfl rfl (by omega) (by rw [Int.toNat_natCast,List.length_map]; omega) rfl,?_⟩
           refine AL_do2 rfl ⟨_,op_load_aptr (el := eStrC x) hT rfl rfl rfl rfl rfl e3 rfl,?_⟩
           (repeat (refine stq ?_))
           refine AL_do2 rfl ⟨_,op_index_str hT rfl rfl rfl rfl rfl rfl (by omega) hb',?_⟩
           (repeat (refine stq ?_))
           refine ⟨j + 1,hj',by omega,?_⟩
           (refine Le.mk ?_ ?_; all_goals (repeat' (first | exact trivial | refine sle ?_ | refine ⟨?_,rfl,?_⟩ | refine ⟨?_,by decide,rfl,?_⟩ | fail)))
           show some (FV.pv (vi (checkI (L'.take i) + bsum (x.data.toList.take j) 1 + IntKind.i64.wrap (b.toNat : Int) * ((j : Int) + 1)))) = some (FV.pv (vi (checkI (L'.take i) + bsum (x.data.toList.take (j + 1)) 1)))
           rw [hsn,hw,Int.add_assoc]
          ·have hj' : j = x.size := by omega
           have hsn : checkI (L'.take (i + 1)) = checkI (L'.take i) + bsum (x.data.toList.take j) 1:= by
            rw [checkI,map_take_succ _ hx,sumI_append,hj',<- hxl,List.take_length]; simp [sumI,checkI,lineSum]
           have hsB : sB (L'.take (i + 1)) = (sB (L'.take i) ++ x) ++ nlB := by rw [List.take_add_one,hx]; exact sB_snoc _ _
           have hs2 : (sB (L'.take i) ++ x).size <= 250000 := by rw [app_size]; omega
           have hn1 : nlB.size = 1 := rfl
           rw [<- hsn]
           (repeat (refine stq ?_))
           refine AL_do2 rfl ⟨_,op_indexAddr_arr (k := .i64) (n := (i : Int)) (id := 1) (e' := 9) (sz := 1) (es := L'.map eStrC) hT rfl rfl rfl rfl rfl rfl rfl rfl (by omega) (by rw [Int.toNat_natCast,List.length_map]; omega) rfl,?_⟩
           refine AL_do2 rfl ⟨_,op_load_aptr (el := eStrC x) hT rfl rfl rfl rfl rfl e3 rfl,?_⟩
           (repeat (refine stq ?_))
           refine AL_do2 rfl ⟨_,op_strcat (u := sB (L'.take i)) (v := x) rfl rfl rfl rfl (by omega),?_⟩
           refine AL_do2 rfl ⟨_,op_strcat (u := sB (L'.take i) ++ x) (v := nlB) rfl rfl rfl rfl (by omega),?_⟩
           rw [<- hsB]
           (repeat (refine stq ?_))
           refine ⟨i + 1,hi',by omega,?_⟩
           (refine Le.mk ?_ ?_; all_goals (repeat' (first | exact trivial | refine sle ?_ | refine ⟨?_,rfl,?_⟩ | refine ⟨?_,by decide,rfl,?_⟩ | fail)))
        ·have hi' : i = L'.length := by omega
         rw [hi',List.take_length]
         have hcb := checkI_bd hLl' hsz
         have hss := sB_size L'
         obtain ⟨c,hc,hc2⟩ : ∃ c : Nat,(checkI L').tmod 103 = c /\ c < 103 := ⟨((checkI L').tmod 103).toNat,by
          have := Int.tmod_nonneg 103 hcb.1; omega,by
          have := Int.tmod_nonneg 103 hcb.1; have := Int.tmod_lt_of_pos (checkI L') (b := 103) (by omega); omega⟩
         have hcm : checkI L' % 103 = (c : Int) := by rw [<- hc,Int.tmod_eq_emod_of_nonneg hcb.1]
         have hq1 : IntKind.i64.wrap ((c : Int).tdiv 100) = ((c / 100 : Nat) : Int) := by rw [show (c : Int).tdiv 100 = ((c / 100 : Nat) : Int) from rfl,nat_wrap (by omega)]
         have hq2 : (IntKind.i64.wrap ((c : Int).tdiv 10)).tmod 10 = ((c / 10 % 10 : Nat) : Int) := by rw [show (c : Int).tdiv 10 = ((c / 10 : Nat) : Int) from rfl,nat_wrap (by omega)]; rfl
         have hq3 : (c : Int).tmod 10 = ((c % 10 : Nat) : Int) := rfl
         have i1 := itoa_size (n := c / 100) (by omega)
         have i2 := itoa_size (n := c / 10 % 10) (by omega)
         have i3 := itoa_size (n := c % 10) (by omega)
         have e0 : endB.size = 4 := rfl
         have n0 : nlB.size = 1 := rfl
         have k1 : ACalls Tryz.prog 112 [vi (c / 100 : Nat)] (fun r => r = .pv (.str (itoaB (c / 100 : Nat)))) := f112 (c / 100) (by omega)
         have k2 : ACalls Tryz.prog 112 [vi (c / 10 % 10 : Nat)] (fun r => r = .pv (.str (itoaB (c / 10 % 10 : Nat)))) := f112 (c / 10 % 10) (by omega)
         have k3 : ACalls Tryz.prog 112 [vi (c % 10 : Nat)] (fun r => r = .pv (.str (itoaB (c % 10 : Nat)))) := f112 (c % 10) (by omega)
         have w0 : (sB L' ++ endB).size <= 251000 := by rw [app_size]; omega
         have w1 : ((sB L' ++ endB) ++ itoaB (c / 100 : Nat)).size <= 251010 := by rw [app_size]; omega
         have w2 : (((sB L' ++ endB) ++ itoaB (c / 100 : Nat)) ++ itoaB (c / 10 % 10 : Nat)).size <= 251020 := by rw [app_size]; omega
         have w3 : ((((sB L' ++ endB) ++ itoaB (c / 100 : Nat)) ++ itoaB (c / 10 % 10 : Nat)) ++ itoaB (c % 10 : Nat)).size <= 251030 := by rw [app_size]; omega
         (repeat (refine stq ?_))
         refine AL_do2 rfl ⟨_,op_rem rfl rfl rfl rfl (by decide),?_⟩
         rw [hc]
         (repeat (refine stq ?_))
         refine AL_do2 rfl ⟨_,op_strcat (u := sB L') (v := endB) rfl rfl rfl rfl (by omega),?_⟩
         (repeat (refine stq ?_))
         refine AL_do2 rfl ⟨_,op_quo rfl rfl rfl rfl (by decide),?_⟩
         rw [hq1]
         (repeat' (first | refine stq ?_ | (refine AL_do2 rfl ?_; first | refine ⟨_,op_call1 rfl rfl rfl rfl (k1),nrmA rfl ?_⟩) | (with_reducible refine AL_id ?_); (fail_if_success (refine AL_glit rfl rfl rfl (by first | exact .inl (by with_reducible rfl) | exact .inr (by with_reducible rfl)) ?_)); first | refine AL_gdec rfl rfl rfl (fun hg => ?_) (fun hg => ?_) | refine AL_gnot rfl rfl rfl (fun hg => ?_) (fun hg => ?_) | refine AL_gcases rfl rfl rfl (fun hg => ?_) (fun hg => ?_)))
         refine AL_do2 rfl ⟨_,op_strcat (u := sB L' ++ endB) (v := itoaB (c / 100 : Nat)) rfl rfl rfl rfl (by omega),?_⟩
         (repeat (refine stq ?_))
         refine AL_do2 rfl ⟨_,op_quo rfl rfl rfl rfl (by decide),?_⟩
         refine AL_do2 rfl ⟨_,op_rem rfl rfl rfl rfl (by decide),?_⟩
         rw [hq2]
         (repeat' (first | refine stq ?_ | (refine AL_do2 rfl ?_; first | refine ⟨_,op_call1 rfl rfl rfl rfl (k2),nrmA rfl ?_⟩) | (with_reducible refine AL_id ?_); (fail_if_success (refine AL_glit rfl rfl rfl (by first | exact .inl (by with_reducible rfl) | exact .inr (by with_reducible rfl)) ?_)); first | refine AL_gdec rfl rfl rfl (fun hg => ?_) (fun hg => ?_) | refine AL_gnot rfl rfl rfl (fun hg => ?_) (fun hg => ?_) | refine AL_gcases rfl rfl rfl (fun hg => ?_) (fun hg => ?_)))
         refine AL_do2 rfl ⟨_,op_strcat (u := (sB L' ++ endB) ++ itoaB (c / 100 : Nat)) (v := itoaB (c / 10 % 10 : Nat)) rfl rfl rfl rfl (by omega),?_⟩
         (repeat (refine stq ?_))
         refine AL_do2 rfl ⟨_,op_rem rfl rfl rfl rfl (by decide),?_⟩
         rw [hq3]
         (repeat' (first | refine stq ?_ | (refine AL_do2 rfl ?_; first | refine ⟨_,op_call1 rfl rfl rfl rfl (k3),nrmA rfl ?_⟩) | (with_reducible refine AL_id ?_); (fail_if_success (refine AL_glit rfl rfl rfl (by first | exact .inl (by with_reducible rfl) | exact .inr (by with_reducible rfl)) ?_)); first | refine AL_gdec rfl rfl rfl (fun hg => ?_) (fun hg => ?_) | refine AL_gnot rfl rfl rfl (fun hg => ?_) (fun hg => ?_) | refine AL_gcases rfl rfl rfl (fun hg => ?_) (fun hg => ?_)))
         refine AL_do2 rfl ⟨_,op_strcat (u := ((sB L' ++ endB) ++ itoaB (c / 100 : Nat)) ++ itoaB (c / 10 % 10 : Nat)) (v := itoaB (c % 10 : Nat)) rfl rfl rfl rfl (by omega),?_⟩
         refine AL_do2 rfl ⟨_,op_strcat (u := (((sB L' ++ endB) ++ itoaB (c / 100 : Nat)) ++ itoaB (c / 10 % 10 : Nat)) ++ itoaB (c % 10 : Nat)) (v := nlB) rfl rfl rfl rfl (by omega),?_⟩
         (repeat (refine stq ?_))
         refine ⟨_,_,rfl,rfl,?_⟩
         unfold textOf endL
         rw [hcm,<- sB_join]
         rw [show (c : Int) / 100 = ((c / 100 : Nat) : Int) from rfl,show (c : Int) / 10 % 10 = ((c / 10 % 10 : Nat) : Int) from rfl,show (c : Int) % 10 = ((c % 10 : Nat) : Int) from rfl]
         show RV.pv (.str _) = RV.pv (.str _)
         simp only [ByteArray.append_assoc]
theorem f41 (d : Drum) (h1 : d.acids.length <= 10) (h2 : d.adds.length <= 20) (h3 : d.strips.length <= 10) (h4 : d.batches.length <= 10) (hn : SmallL (numsD d)) : ACalls Tryz.prog 41 [eDrum d] (fun r => r = .pv (.str (textD d))) := f41w d (by omega) (by omega) hn
end Go.Abs
