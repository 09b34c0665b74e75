/- Which blanks can be cut, as the program has it. -/
import Derived.Test.YtpoaccdbakbjhaaGreatXG27
import Derived.Test.YtpoaccdbakbjhaaGreatXG23
set_option linter.unusedVariables false
set_option linter.unusedSimpArgs false
namespace Go.Abs
open Go.Proofs
set_option maxRecDepth 100000
def widthN (w:Work) (b:Blank):Nat:=(tubeOf w b).width.toNat
def inRange (w:Work) (b:Blank):Bool:=inB b.row 0 (w.map.cells.length - (tubeOf w b).width) && inB b.col 0 (colsN w.map - (tubeOf w b).width)
def solidB (m:SMap) (p:Place):Bool:=decide (cellI m p.row p.col = 2)
def crackedB (w:Work) (b:Blank):Bool:=w.map.cracks.any fun k=>hasB w b k.row k.col && hasB w b (beyondR k) (beyondC k)
def canB (w:Work) (b:Blank):Bool:=inRange w b && (cellsL b (widthN w b)).all (solidB w.map) && !crackedB w b
theorem t83 (w:Work) (b:Blank):ACalls Tryz.prog 83 [eWork w,eB b] (fun r=>r = .pv (.fn 151 [.ptr (eWorkC w),.ptr (eBlank b)])):= by
 refine ACalls.of_body hT Tryz.func83 rfl (by kernel_rfl) rfl ?_
 (repeat (refine stq ?_))
 exact ⟨_,_,rfl,rfl,rfl⟩
set_option maxHeartbeats 4000000 in
theorem t75n (w:Work) (hw:WorkP w) (b:Blank) (hb:inB b.tube 0 (w.tubes.length - 1) = true) (hn:inRange w b = false):ACalls Tryz.prog 75 [eWork w,eB b] (fun r=>r = .pv (.bool (canB w b))):= by
 have ec:canB w b = false:=by rw [canB,hn]; rfl
 rw [ec]
 have hm:=hw.map
 have g1:=hm.r1; have g6:=hm.r6; have g8:=hm.c8; have gc:=hm.c1
 have ht:=tube_at hb
 have hTu:=hw.tt _ (List.mem_of_getElem? ht)
 have h1:=hTu.w1; have h3:=hTu.w3; have h4:=hw.t4
 have hb2:=inB_true hb
 have e1:=get_map eTube ht
 obtain ⟨x0,hx0⟩:∃ x,w.map.cells[0]? = some x:=⟨w.map.cells[0]'(by omega),by simp⟩
 have e0:(w.map.cells.map eRow)[(0:Int).toNat]? = some (eRow x0):=get_map eRow hx0
 have hx0l:=cols_row hm hx0
 rw [inRange,<- hx0l] at hn
 obtain ⟨t,htd⟩:∃ t,tubeOf w b = t:=⟨_,rfl⟩
 rw [htd] at h1 h3 e1 hn
 have k1:=t103 b.row 0 (w.map.cells.length - t.width)
 have k2:=t103 b.col 0 (x0.length - t.width)
 refine ACalls.of_body hT Tryz.func75 rfl (by kernel_rfl) rfl ?_
 cases q1:inB b.row 0 (w.map.cells.length - t.width) with
 | false =>
  rw [q1] at k1
  (repeat (refine stq ?_))
  (repeat' (first|refine DG_next (StepOK.skipU rfl rfl) ?_|((refine DG_cmp hT rfl (fun hg=>?_) (fun hg=>?_)) <;> (try (exfalso; omega)))|refine DG_next (D_shl rfl rfl rfl rfl rfl (by omega)) ?_|refine DG_next (D_shr rfl rfl rfl rfl rfl (by omega)) ?_|refine sdq ?_|((refine DG_callC (D_call rfl rfl rfl rfl rfl (k1)) (fun hg=>?_) (fun hg=>?_)) <;> (try (exfalso; first|contradiction|omega)))|refine DG_next (D_call rfl rfl rfl rfl rfl (k1)) ?_))
  all_goals refine DG_end hM (by kernel_rfl) ?_
  all_goals (repeat (refine stq ?_))
  all_goals exact ⟨_,_,rfl,rfl,rfl⟩
 | true =>
  rw [q1] at k1 hn
  have q2:inB b.col 0 (x0.length - t.width) = false:=by simpa using hn
  rw [q2] at k2
  (repeat (refine stq ?_))
  (repeat' (first|refine DG_next (StepOK.skipU rfl rfl) ?_|((refine DG_cmp hT rfl (fun hg=>?_) (fun hg=>?_)) <;> (try (exfalso; omega)))|refine DG_next (D_shl rfl rfl rfl rfl rfl (by omega)) ?_|refine DG_next (D_shr rfl rfl rfl rfl rfl (by omega)) ?_|refine sdq ?_|((refine DG_callC (D_call rfl rfl rfl rfl rfl (k1)) (fun hg=>?_) (fun hg=>?_)) <;> (try (exfalso; first|contradiction|omega)))|refine DG_next (D_call rfl rfl rfl rfl rfl (k1)) ?_|((refine DG_callC (D_call rfl rfl rfl rfl rfl (k2)) (fun hg=>?_) (fun hg=>?_)) <;> (try (exfalso; first|contradiction|omega)))|refine DG_next (D_call rfl rfl rfl rfl rfl (k2)) ?_))
  all_goals refine DG_end hM (by kernel_rfl) ?_
  all_goals (repeat (refine stq ?_))
  all_goals exact ⟨_,_,rfl,rfl,rfl⟩
theorem range_bd {w:Work} (hw:WorkP w) {b:Blank} (hx:1 <= (tubeOf w b).width) (h:inRange w b = true):(0 <= b.row /\ b.row <= 1000) /\ (0 <= b.col /\ b.col <= 1000):= by
 have h1:=hw.map.r6; have h2:=hw.map.c8
 simp only [inRange,Bool.and_eq_true] at h
 have g1:=inB_true h.1
 have g2:=inB_true h.2
 omega
abbrev canO (w:Work) (b:Blank) (av:Nat -> Value) (r:Bool):List (Nat × AObj):=[(0,boW w),(1,.box ((eBlank b).map FV.pv)),(2,.box [.pv (.bool r)]),(3,boM w.map),(4,.anc (av 2) (.box 0 0)),(5,.anc (av 3) (.box 1 0)),(6,.anc (av 4) (.box 2 0)),(7,.anc (av 5) (.box 3 0))]
set_option maxHeartbeats 4000000 in
theorem t75y (w:Work) (hw:WorkP w) (b:Blank) (hb:inB b.tube 0 (w.tubes.length - 1) = true) (hn:inRange w b = true) (hs:(cellsL b (widthN w b)).all (solidB w.map) = true):ACalls Tryz.prog 75 [eWork w,eB b] (fun r=>r = .pv (.bool (canB w b))):= by
 have ec:canB w b = !crackedB w b:=by rw [canB,hn,hs]; simp
 rw [ec]
 have hm:=hw.map
 have g1:=hm.r1; have g6:=hm.r6; have g8:=hm.c8; have gc:=hm.c1; have gk:=hm.k8
 have ht:=tube_at hb
 have hTu:=hw.tt _ (List.mem_of_getElem? ht)
 have h1:=hTu.w1; have h3:=hTu.w3; have h4:=hw.t4
 obtain ⟨br,bc⟩:=range_bd hw h1 hn
 have hb2:=inB_true hb
 have e1:=get_map eTube ht
 obtain ⟨x0,hx0⟩:∃ x,w.map.cells[0]? = some x:=⟨w.map.cells[0]'(by omega),by simp⟩
 have e0:(w.map.cells.map eRow)[(0:Int).toNat]? = some (eRow x0):=get_map eRow hx0
 have hx0l:=cols_row hm hx0
 rw [inRange,<- hx0l,Bool.and_eq_true] at hn
 have hit:=it151 w hw b hb br bc (widthN w b) (by unfold widthN; omega)
 have k4:=u141 w.map.cracks 142 [.ptr (eWorkC w),.ptr (eBlank b)] (fun k=>hasB w b k.row k.col && hasB w b (beyondR k) (beyondC k)) (by omega) (fun x hx=>t142 w hw b hb br bc x (hm.kk x hx))
 have k4:ACalls Tryz.prog 141 [.sl (w.map.cracks.map eCrack),.fn 142 [.ptr (eWorkC w),.ptr (eBlank b)]] (fun r=>r = .pv (.bool (crackedB w b))):=k4
 generalize crackedB w b = cb at *
 generalize widthN w b = W at *
 obtain ⟨t,htd⟩:∃ t,tubeOf w b = t:=⟨_,rfl⟩
 rw [htd] at h1 h3 e1 hn
 have k1:=t103 b.row 0 (w.map.cells.length - t.width)
 have k2:=t103 b.col 0 (x0.length - t.width)
 rw [hn.1] at k1
 rw [hn.2] at k2
 have k83:=t83 w b
 refine ACalls.of_body hT Tryz.func75 rfl (by kernel_rfl) rfl ?_
 (repeat (refine stq ?_))
 (repeat' (first|refine DG_next (StepOK.skipU rfl rfl) ?_|((refine DG_cmp hT rfl (fun hg=>?_) (fun hg=>?_)) <;> (try (exfalso; omega)))|refine DG_next (D_shl rfl rfl rfl rfl rfl (by omega)) ?_|refine DG_next (D_shr rfl rfl rfl rfl rfl (by omega)) ?_|refine sdq ?_|((refine DG_callC (D_call rfl rfl rfl rfl rfl (k1)) (fun hg=>?_) (fun hg=>?_)) <;> (try (exfalso; first|contradiction|omega)))|refine DG_next (D_call rfl rfl rfl rfl rfl (k1)) ?_|((refine DG_callC (D_call rfl rfl rfl rfl rfl (k2)) (fun hg=>?_) (fun hg=>?_)) <;> (try (exfalso; first|contradiction|omega)))|refine DG_next (D_call rfl rfl rfl rfl rfl (k2)) ?_))
 all_goals refine DG_end hM (by kernel_rfl) ?_
 (repeat' (first|refine stq ?_|(refine AL_do2 rfl ?_; first|refine ⟨_,op_call1 rfl rfl rfl rfl (k83),nrmA rfl ?_⟩)|(with_reducible refine AL_id ?_); (fail_if_success (refine glq rfl rfl rfl ?_)); first|refine AL_gdec rfl rfl rfl (fun hg=>?_) (fun hg=>?_)|refine AL_gnot rfl rfl rfl (fun hg=>?_) (fun hg=>?_)|refine AL_gcases rfl rfl rfl (fun hg=>?_) (fun hg=>?_)))
 refine AW_range (gf:=151) (caps:=[.ptr (eWorkC w),.ptr (eBlank b)]) (L:=cellsY b W) [2,3,4,5] [(2,.box 0 0),(3,.box 1 0),(4,.box 2 0),(5,.box 3 0)] (fun av k (_:Unit)=>canO w b av false) (fun _ _=>True) 8 [4,5,6,7] () trivial
  ?_ hit.1 ?_ ?_ ?_ ?_ ?_ ?_
 ·rfl
 ·intro p hp
  simp only [List.mem_cons,List.not_mem_nil,or_false] at hp; rcases hp with rfl|rfl <;> rfl
 ·intro x hx
  simp only [cellsY,List.mem_map] at hx
  obtain ⟨y,_,rfl⟩:=hx; rfl
 ·intro av j i
  ((repeat' (first|exact trivial|refine And.intro ?_ ?_)); all_goals (first|rfl|decide))
 ·intro av
  (refine Le.mk ?_ ?_; all_goals (repeat' (first|exact trivial|refine sle ?_|refine ⟨?_,rfl,?_⟩|refine ⟨?_,by decide,rfl,?_⟩|fail)))
 ·intro av k _ x _ hx
  obtain ⟨p,hp,rfl⟩:∃ p,(cellsL b W)[k]? = some p /\ placeY p = x:= by
   rw [cellsY,List.getElem?_map,Option.map_eq_some_iff] at hx; exact hx
  have hsp:solidB w.map p = true:=List.all_eq_true.1 hs p (List.mem_of_getElem? hp)
  have hsp2:=hsp
  simp only [solidB,decide_eq_true_eq] at hsp2
  have hth:thereB w.map p.row p.col = true:= by
   cases q:thereB w.map p.row p.col with
   | true=>rfl
   | false=>rw [cell_there hm q] at hsp2; omega
  have k140:=t140 w.map hm p.row p.col 2
  rw [hth,decide_eq_true hsp2] at k140
  (repeat' (first|refine stq ?_|(refine AL_do2 rfl ?_; first|refine ⟨_,op_call1 rfl rfl rfl rfl (k140),nrmA rfl ?_⟩)|(with_reducible refine AL_id ?_); (fail_if_success (refine glq rfl rfl rfl ?_)); first|refine AL_gdec rfl rfl rfl (fun hg=>?_) (fun hg=>?_)|refine AL_gnot rfl rfl rfl (fun hg=>?_) (fun hg=>?_)|refine AL_gcases rfl rfl rfl (fun hg=>?_) (fun hg=>?_)))
  refine roundQ_intro () trivial ?_
  (refine Le.mk ?_ ?_; all_goals (repeat' (first|exact trivial|refine sle ?_|refine ⟨?_,rfl,?_⟩|refine ⟨?_,by decide,rfl,?_⟩|fail)))
 ·intro av _ _
  (repeat' (first|refine stq ?_|(refine AL_do2 rfl ?_; first|refine ⟨_,op_callB rfl rfl rfl rfl (k4) rfl,nrmA rfl ?_⟩|refine ⟨_,op_call1 rfl rfl rfl rfl (k4),nrmA rfl ?_⟩)|(with_reducible refine AL_id ?_); (fail_if_success (refine glq rfl rfl rfl ?_)); first|refine AL_gdec rfl rfl rfl (fun hg=>?_) (fun hg=>?_)|refine AL_gnot rfl rfl rfl (fun hg=>?_) (fun hg=>?_)|refine AL_gcases rfl rfl rfl (fun hg=>?_) (fun hg=>?_)))
  exact ⟨_,_,rfl,rfl,rfl⟩
set_option maxHeartbeats 4000000 in
theorem t75x (w:Work) (hw:WorkP w) (b:Blank) (hb:inB b.tube 0 (w.tubes.length - 1) = true) (hn:inRange w b = true) (n:Nat) (pn:Place) (hpn:(cellsL b (widthN w b))[n]? = some pn) (hsn:solidB w.map pn = false) (hbe:∀ (i:Nat) (p:Place),i < n -> (cellsL b (widthN w b))[i]? = some p -> solidB w.map p = true):ACalls Tryz.prog 75 [eWork w,eB b] (fun r=>r = .pv (.bool (canB w b))):= by
 have ec:canB w b = false:= by
  have:(cellsL b (widthN w b)).all (solidB w.map) = false:= by
   rw [List.all_eq_false]; exact ⟨pn,List.mem_of_getElem? hpn,by simp [hsn]⟩
  rw [canB,this]; simp
 rw [ec]
 have hm:=hw.map
 have g1:=hm.r1; have g6:=hm.r6; have g8:=hm.c8; have gc:=hm.c1; have gk:=hm.k8
 have ht:=tube_at hb
 have hTu:=hw.tt _ (List.mem_of_getElem? ht)
 have h1:=hTu.w1; have h3:=hTu.w3; have h4:=hw.t4
 obtain ⟨br,bc⟩:=range_bd hw h1 hn
 have hb2:=inB_true hb
 have e1:=get_map eTube ht
 obtain ⟨x0,hx0⟩:∃ x,w.map.cells[0]? = some x:=⟨w.map.cells[0]'(by omega),by simp⟩
 have e0:(w.map.cells.map eRow)[(0:Int).toNat]? = some (eRow x0):=get_map eRow hx0
 have hx0l:=cols_row hm hx0
 rw [inRange,<- hx0l,Bool.and_eq_true] at hn
 have hit:=it151 w hw b hb br bc (widthN w b) (by unfold widthN; omega)
 generalize widthN w b = W at *
 obtain ⟨t,htd⟩:∃ t,tubeOf w b = t:=⟨_,rfl⟩
 rw [htd] at h1 h3 e1 hn
 have k1:=t103 b.row 0 (w.map.cells.length - t.width)
 have k2:=t103 b.col 0 (x0.length - t.width)
 rw [hn.1] at k1
 rw [hn.2] at k2
 have k83:=t83 w b
 refine ACalls.of_body hT Tryz.func75 rfl (by kernel_rfl) rfl ?_
 (repeat (refine stq ?_))
 (repeat' (first|refine DG_next (StepOK.skipU rfl rfl) ?_|((refine DG_cmp hT rfl (fun hg=>?_) (fun hg=>?_)) <;> (try (exfalso; omega)))|refine DG_next (D_shl rfl rfl rfl rfl rfl (by omega)) ?_|refine DG_next (D_shr rfl rfl rfl rfl rfl (by omega)) ?_|refine sdq ?_|((refine DG_callC (D_call rfl rfl rfl rfl rfl (k1)) (fun hg=>?_) (fun hg=>?_)) <;> (try (exfalso; first|contradiction|omega)))|refine DG_next (D_call rfl rfl rfl rfl rfl (k1)) ?_|((refine DG_callC (D_call rfl rfl rfl rfl rfl (k2)) (fun hg=>?_) (fun hg=>?_)) <;> (try (exfalso; first|contradiction|omega)))|refine DG_next (D_call rfl rfl rfl rfl rfl (k2)) ?_))
 all_goals refine DG_end hM (by kernel_rfl) ?_
 (repeat' (first|refine stq ?_|(refine AL_do2 rfl ?_; first|refine ⟨_,op_call1 rfl rfl rfl rfl (k83),nrmA rfl ?_⟩)|(with_reducible refine AL_id ?_); (fail_if_success (refine glq rfl rfl rfl ?_)); first|refine AL_gdec rfl rfl rfl (fun hg=>?_) (fun hg=>?_)|refine AL_gnot rfl rfl rfl (fun hg=>?_) (fun hg=>?_)|refine AL_gcases rfl rfl rfl (fun hg=>?_) (fun hg=>?_)))
 have hnl:n < (cellsL b W).length:=(List.getElem?_eq_some_iff.1 hpn).1
 have hYl:((cellsY b W).take n).length = n:=by rw [List.length_take,cellsY,List.length_map]; omega
 refine AW_rangeX (gf:=151) (caps:=[.ptr (eWorkC w),.ptr (eBlank b)]) (L:=(cellsY b W).take n) (xL:=placeY pn) [2,3,4,5] [(2,.box 0 0),(3,.box 1 0),(4,.box 2 0),(5,.box 3 0)] (fun av k (_:Unit)=>canO w b av false) (fun _ _=>True) 8 [4,5,6,7] () trivial
  ?_ (hit.2 n (placeY pn) (by rw [cellsY,List.getElem?_map,hpn]; rfl)) ?_ ?_ ?_ ?_ ?_ ?_ ?_ ?_
 ·rfl
 ·intro p hp
  simp only [List.mem_cons,List.not_mem_nil,or_false] at hp; rcases hp with rfl|rfl <;> rfl
 ·intro x hx
  have hx:=List.mem_of_mem_take hx
  simp only [cellsY,List.mem_map] at hx
  obtain ⟨y,_,rfl⟩:=hx; rfl
 ·rfl
 ·intro av j i
  ((repeat' (first|exact trivial|refine And.intro ?_ ?_)); all_goals (first|rfl|decide))
 ·intro av
  (refine Le.mk ?_ ?_; all_goals (repeat' (first|exact trivial|refine sle ?_|refine ⟨?_,rfl,?_⟩|refine ⟨?_,by decide,rfl,?_⟩|fail)))
 ·intro av k _ x _ hx
  have hk:k < n:=by have:=(List.getElem?_eq_some_iff.1 hx).1; omega
  rw [List.getElem?_take_of_lt hk] at hx
  obtain ⟨p,hp,rfl⟩:∃ p,(cellsL b W)[k]? = some p /\ placeY p = x:= by
   rw [cellsY,List.getElem?_map,Option.map_eq_some_iff] at hx; exact hx
  have hsp:solidB w.map p = true:=hbe k p hk hp
  have hsp2:=hsp
  simp only [solidB,decide_eq_true_eq] at hsp2
  have hth:thereB w.map p.row p.col = true:= by
   cases q:thereB w.map p.row p.col with
   | true=>rfl
   | false=>rw [cell_there hm q] at hsp2; omega
  have k140:=t140 w.map hm p.row p.col 2
  rw [hth,decide_eq_true hsp2] at k140
  (repeat' (first|refine stq ?_|(refine AL_do2 rfl ?_; first|refine ⟨_,op_call1 rfl rfl rfl rfl (k140),nrmA rfl ?_⟩)|(with_reducible refine AL_id ?_); (fail_if_success (refine glq rfl rfl rfl ?_)); first|refine AL_gdec rfl rfl rfl (fun hg=>?_) (fun hg=>?_)|refine AL_gnot rfl rfl rfl (fun hg=>?_) (fun hg=>?_)|refine AL_gcases rfl rfl rfl (fun hg=>?_) (fun hg=>?_)))
  refine roundQ_intro () trivial ?_
  (refine Le.mk ?_ ?_; all_goals (repeat' (first|exact trivial|refine sle ?_|refine ⟨?_,rfl,?_⟩|refine ⟨?_,by decide,rfl,?_⟩|fail)))
 ·intro av _ _
  have hsn2:decide (cellI w.map pn.row pn.col = 2) = false:=hsn
  have k140:=t140 w.map hm pn.row pn.col 2
  rw [hsn2,Bool.and_false] at k140
  (repeat' (first|refine stq ?_|(refine AL_do2 rfl ?_; first|refine ⟨_,op_call1 rfl rfl rfl rfl (k140),nrmA rfl ?_⟩)|(with_reducible refine AL_id ?_); (fail_if_success (refine glq rfl rfl rfl ?_)); first|refine AL_gdec rfl rfl rfl (fun hg=>?_) (fun hg=>?_)|refine AL_gnot rfl rfl rfl (fun hg=>?_) (fun hg=>?_)|refine AL_gcases rfl rfl rfl (fun hg=>?_) (fun hg=>?_)))
  refine lastQ_intro () trivial ?_
  (refine Le.mk ?_ ?_; all_goals (repeat' (first|exact trivial|refine sle ?_|refine ⟨?_,rfl,?_⟩|refine ⟨?_,by decide,rfl,?_⟩|fail)))
 ·intro av _ _
  exact ⟨_,_,rfl,rfl,rfl⟩
theorem first_no {α:Type} {p:α -> Bool}:∀ {l:List α},l.all p = false -> ∃ (n:Nat) (x:α),l[n]? = some x /\ p x = false /\ ∀ (i:Nat) (y:α),i < n -> l[i]? = some y -> p y = true
 | [],h=>by simp at h
 | x :: l,h=>by
  cases hx:p x with
  | false=>exact ⟨0,x,rfl,hx,fun i y hi _=>by omega⟩
  | true =>
   rw [List.all_cons,hx,Bool.true_and] at h
   obtain ⟨n,y,h1,h2,h3⟩:=first_no h
   refine ⟨n + 1,y,h1,h2,fun i z hi hz=>?_⟩
   cases i with
   | zero=>cases hz; exact hx
   | succ i=>exact h3 i z (by omega) hz
theorem t75 (w:Work) (hw:WorkP w) (b:Blank) (hb:inB b.tube 0 (w.tubes.length - 1) = true):ACalls Tryz.prog 75 [eWork w,eB b] (fun r=>r = .pv (.bool (canB w b))):= by
 cases hn:inRange w b with
 | false=>exact t75n w hw b hb hn
 | true =>
  cases hs:(cellsL b (widthN w b)).all (solidB w.map) with
  | true=>exact t75y w hw b hb hn hs
  | false =>
   obtain ⟨n,p,h1,h2,h3⟩:=first_no hs
   exact t75x w hw b hb hn n p h1 h2 h3
end Go.Abs
namespace Go.Abs
open Go.Proofs
set_option maxRecDepth 100000
def eSpanRow (l:List Span):List PV:=[eSpans l]
def eThick (t:List (List Span)):PV:=.sl (t.map eSpanRow)
def eBndC (w:Work) (t:List (List Span)):List PV:=eWorkC w ++ [eThick t]
def eBnd (w:Work) (t:List (List Span)):PV:=.agg (eBndC w t)
def sliceI (w:Work) (b:Blank) (n:Int):Int:=(n + w.kerf).tdiv ((tubeOf w b).need + w.kerf)
theorem t84 (w:Work) (hw:WorkP w) (th:List (List Span)) (b:Blank) (hb:inB b.tube 0 (w.tubes.length - 1) = true) (n:Int) (hn:0 <= n /\ n <= 1000):ACalls Tryz.prog 84 [eBnd w th,eB b,vi n] (fun r=>r = .pv (vi (sliceI w b n))):= by
 have ht:=tube_at hb
 have hTu:=hw.tt _ (List.mem_of_getElem? ht)
 have h1:=hTu.n1; have h3:=hTu.n60; have h4:=hw.t4; have k0:=hw.k0; have k5:=hw.k5
 have hb2:=inB_true hb
 have e1:=get_map eTube ht
 rw [sliceI]
 obtain ⟨t,htd⟩:∃ t,tubeOf w b = t:=⟨_,rfl⟩
 rw [htd] at h1 h3 e1 ⊢
 have hq0:0 <= (n + w.kerf).tdiv (t.need + w.kerf):=Int.tdiv_nonneg (by omega) (by omega)
 have hq1:(n + w.kerf).tdiv (t.need + w.kerf) <= n + w.kerf:= by
  rw [Int.tdiv_eq_ediv_of_nonneg (by omega)]
  exact Int.ediv_le_self _ (by omega)
 have hwr:IntKind.i64.wrap ((n + w.kerf).tdiv (t.need + w.kerf)) = (n + w.kerf).tdiv (t.need + w.kerf):= by
  generalize (n + w.kerf).tdiv (t.need + w.kerf) = q at *
  unfold IntKind.wrap; simp [IntKind.signed,IntKind.bits]; omega
 refine ACalls.of_body hT Tryz.func84 rfl (by kernel_rfl) rfl ?_
 (repeat (refine stq ?_))
 (repeat (refine sdq ?_))
 refine DG_next (D_quo rfl rfl rfl rfl rfl (by omega) hwr) ?_
 refine DG_end hM (by kernel_rfl) ?_
 (repeat (refine stq ?_))
 exact ⟨_,_,rfl,rfl,rfl⟩
theorem t149 (w:Work) (hw:WorkP w) (th:List (List Span)) (b:Blank) (hb:inB b.tube 0 (w.tubes.length - 1) = true) (n:Int) (hn:0 <= n /\ n <= 1000):ACalls Tryz.prog 149 [eBnd w th,eB b,vi n] (fun r=>r = .pv (vi ((tubeOf w b).worth * n))):= by
 have ht:=tube_at hb
 have hTu:=hw.tt _ (List.mem_of_getElem? ht)
 have h1:=hTu.o1; have h3:=hTu.o100; have h4:=hw.t4
 have hb2:=inB_true hb
 have e1:=get_map eTube ht
 obtain ⟨t,htd⟩:∃ t,tubeOf w b = t:=⟨_,rfl⟩
 rw [htd] at h1 h3 e1 ⊢
 have hmul:-9223372036854775808 <= t.worth * n /\ t.worth * n <= 9223372036854775807:= by
  have h5:0 <= t.worth * n:=Int.mul_nonneg (by omega) hn.1
  have h6:t.worth * n <= 100 * 1000:=Int.mul_le_mul h3 hn.2 hn.1 (by omega)
  omega
 refine ACalls.of_body hT Tryz.func149 rfl (by kernel_rfl) rfl ?_
 (repeat (refine stq ?_))
 exact ⟨_,_,rfl,rfl,rfl⟩
end Go.Abs
namespace Go.Abs
open Go.Proofs
set_option maxRecDepth 100000
structure ThickP (m:SMap) (th:List (List Span)):Prop where
 len:th.length = m.cells.length
 row:∀ l ∈ th,l.length = colsN m
 sp:∀ l ∈ th,∀ s ∈ l,0 <= s.low /\ s.low <= s.high /\ s.high <= 60
def spanT (th:List (List Span)) (p:Place):Span:=(atG th p.row p.col).getD ⟨0,0⟩
def minL (f:Place -> Int) (l:List Place):Int:=l.foldl (fun n p=>min n (f p)) 60
theorem minL_succ {f:Place -> Int} {l:List Place} {k:Nat} {p:Place} (h:l[k]? = some p):minL f (l.take (k + 1)) = min (minL f (l.take k)) (f p):= by
 rw [List.take_add_one,h]; simp [minL,List.foldl_append]
theorem minL_bd {f:Place -> Int}:∀ (l:List Place) (n:Int),0 <= n -> n <= 60 -> (∀ p ∈ l,0 <= f p) -> 0 <= l.foldl (fun n p=>min n (f p)) n /\ l.foldl (fun n p=>min n (f p)) n <= 60
 | [],n,h0,h1,_=>⟨h0,h1⟩
 | p :: l,n,h0,h1,h=>by
  have hp:=h p (.head _)
  exact minL_bd l (min n (f p)) (by omega) (by omega) fun q hq=>h q (.tail _ hq)
theorem cells_there {w:Work} (hw:WorkP w) {b:Blank} (hb:inB b.tube 0 (w.tubes.length - 1) = true) (hn:inRange w b = true) {k:Nat} {p:Place} (hp:(cellsL b (widthN w b))[k]? = some p):0 <= p.row /\ p.row < w.map.cells.length /\ 0 <= p.col /\ p.col < colsN w.map:= by
 have hTu:=hw.tt _ (List.mem_of_getElem? (tube_at hb))
 have h1:=hTu.w1; have h3:=hTu.w3
 simp only [inRange,Bool.and_eq_true] at hn
 have g1:=inB_true hn.1
 have g2:=inB_true hn.2
 have hk:k < widthN w b * widthN w b:=by have:=(List.getElem?_eq_some_iff.1 hp).1; simpa [cellsL] using this
 have hW:(widthN w b:Int) = (tubeOf w b).width:=by unfold widthN; omega
 have hW1:0 < widthN w b:=by omega
 have hd:k / widthN w b < widthN w b:=Nat.div_lt_of_lt_mul hk
 have hmd:k % widthN w b < widthN w b:=Nat.mod_lt _ hW1
 simp only [cellsL,List.getElem?_map,List.getElem?_range hk,Option.map_some,Option.some.injEq] at hp
 subst hp
 simp only [cellAt]
 generalize k / widthN w b = q at *
 generalize k % widthN w b = r at *
 clear hk
 omega
theorem span_at {m:SMap} {th:List (List Span)} (hT2:ThickP m th) {p:Place} (h:0 <= p.row /\ p.row < m.cells.length /\ 0 <= p.col /\ p.col < colsN m):∃ x,th[p.row.toNat]? = some x /\ x[p.col.toNat]? = some (spanT th p) /\ 0 <= (spanT th p).low /\ (spanT th p).low <= (spanT th p).high /\ (spanT th p).high <= 60:= by
 have hl:=hT2.len
 obtain ⟨x,hx⟩:∃ x,th[p.row.toNat]? = some x:=⟨th[p.row.toNat]'(by omega),by simp⟩
 have hxl:=hT2.row x (List.mem_of_getElem? hx)
 obtain ⟨y,hy⟩:∃ y,x[p.col.toNat]? = some y:=⟨x[p.col.toNat]'(by omega),by simp⟩
 have e:spanT th p = y:=by rw [spanT,atG_in h.1 h.2.2.1 hx,hy]; rfl
 rw [e]
 exact ⟨x,hx,hy,hT2.sp x (List.mem_of_getElem? hx) y (List.mem_of_getElem? hy)⟩
abbrev leO (w:Work) (th:List (List Span)) (b:Blank) (av:Nat -> Value) (n:Int):List (Nat × AObj):=[(0,.box ((eBndC w th).map FV.pv)),(1,.box ((eBlank b).map FV.pv)),(2,.box [.pv (vi n)]),(3,.anc (av 2) (.box 0 0)),(4,.anc (av 3) (.box 1 0)),(5,.anc (av 5) (.box 2 0))]
end Go.Abs
namespace Go.Abs
open Go.Proofs
set_option maxRecDepth 100000
def leastT (w:Work) (th:List (List Span)) (b:Blank):Int:=minL (fun p=>(spanT th p).low) (cellsL b (widthN w b))
set_option maxHeartbeats 4000000 in
theorem t76 (w:Work) (hw:WorkP w) (th:List (List Span)) (hT2:ThickP w.map th) (b:Blank) (hb:inB b.tube 0 (w.tubes.length - 1) = true) (hn:inRange w b = true):ACalls Tryz.prog 76 [eBnd w th,eB b] (fun r=>r = .pv (vi (sliceI w b (leastT w th b)))):= by
 have ht:=tube_at hb
 have hTu:=hw.tt _ (List.mem_of_getElem? ht)
 have h1:=hTu.w1
 have g6:=hw.map.r6; have g8:=hw.map.c8; have hl:=hT2.len
 obtain ⟨br,bc⟩:=range_bd hw h1 hn
 have hit:=it151 w hw b hb br bc (widthN w b) (by unfold widthN; omega)
 have hth:∀ (k:Nat) (p:Place),(cellsL b (widthN w b))[k]? = some p -> 0 <= p.row /\ p.row < w.map.cells.length /\ 0 <= p.col /\ p.col < colsN w.map:=fun k p hp=>cells_there hw hb hn hp
 have hbd:0 <= leastT w th b /\ leastT w th b <= 60:=minL_bd _ 60 (by omega) (by omega) fun p hp=>by
  obtain ⟨i,hi⟩:=List.mem_iff_getElem?.1 hp
  obtain ⟨_,_,_,h,_⟩:=span_at hT2 (hth i p hi)
  exact h
 have k84:=t84 w hw th b hb (leastT w th b) (by omega)
 have k83:=t83 w b
 rw [leastT] at k84 ⊢
 generalize widthN w b = W at *
 refine ACalls.of_body hT Tryz.func76 rfl (by kernel_rfl) rfl ?_
 (repeat' (first|refine stq ?_|(refine AL_do2 rfl ?_; first|refine ⟨_,op_call1 rfl rfl rfl rfl (k83),nrmA rfl ?_⟩)|(with_reducible refine AL_id ?_); (fail_if_success (refine glq rfl rfl rfl ?_)); first|refine AL_gdec rfl rfl rfl (fun hg=>?_) (fun hg=>?_)|refine AL_gnot rfl rfl rfl (fun hg=>?_) (fun hg=>?_)|refine AL_gcases rfl rfl rfl (fun hg=>?_) (fun hg=>?_)))
 refine AW_range (gf:=151) (caps:=[.ptr (eWorkC w),.ptr (eBlank b)]) (L:=cellsY b W) [2,3,5] [(2,.box 0 0),(3,.box 1 0),(5,.box 2 0)] (fun av k (_:Unit)=>leO w th b av (minL (fun p=>(spanT th p).low) ((cellsL b W).take k))) (fun _ _=>True) 6 [3,4,5] () trivial
  ?_ hit.1 ?_ ?_ ?_ ?_ ?_ ?_
 ·rfl
 ·intro p hp
  simp only [List.mem_cons,List.not_mem_nil,or_false] at hp; rcases hp with rfl|rfl <;> rfl
 ·intro x hx
  simp only [cellsY,List.mem_map] at hx
  obtain ⟨y,_,rfl⟩:=hx; rfl
 ·intro av j i
  ((repeat' (first|exact trivial|refine And.intro ?_ ?_)); all_goals (first|rfl|decide))
 ·intro av
  (refine Le.mk ?_ ?_; all_goals (repeat' (first|exact trivial|refine sle ?_|refine ⟨?_,rfl,?_⟩|refine ⟨?_,by decide,rfl,?_⟩|fail)))
 ·intro av k _ x _ hx
  obtain ⟨p,hp,rfl⟩:∃ p,(cellsL b W)[k]? = some p /\ placeY p = x:= by
   rw [cellsY,List.getElem?_map,Option.map_eq_some_iff] at hx; exact hx
  have hb4:=hth k p hp
  obtain ⟨y,hy1,hy2,_⟩:=span_at hT2 hb4
  have e1:=get_map eSpanRow hy1
  have e2:=get_map eSpan hy2
  have hs:=minL_succ (f:=fun p=>(spanT th p).low) hp
  generalize minL (fun p=>(spanT th p).low) ((cellsL b W).take k) = M at *
  (repeat (refine stq ?_))
  (repeat (refine sdq ?_))
  refine DG_end hM (by kernel_rfl) ?_
  (repeat (refine stq ?_))
  refine roundQ_intro () trivial ?_
  rw [hs]
  (refine Le.mk ?_ ?_; all_goals (repeat' (first|exact trivial|refine sle ?_|refine ⟨?_,rfl,?_⟩|refine ⟨?_,by decide,rfl,?_⟩|fail)))
 ·intro av _ _
  rw [show (cellsY b W).length = (cellsL b W).length by simp [cellsY],List.take_length]
  (repeat' (first|refine stq ?_|(refine AL_do2 rfl ?_; first|refine ⟨_,op_call1 rfl rfl rfl rfl (k84),nrmA rfl ?_⟩)|(with_reducible refine AL_id ?_); (fail_if_success (refine glq rfl rfl rfl ?_)); first|refine AL_gdec rfl rfl rfl (fun hg=>?_) (fun hg=>?_)|refine AL_gnot rfl rfl rfl (fun hg=>?_) (fun hg=>?_)|refine AL_gcases rfl rfl rfl (fun hg=>?_) (fun hg=>?_)))
  exact ⟨_,_,rfl,rfl,rfl⟩
def mostT (w:Work) (th:List (List Span)) (b:Blank):Int:=minL (fun p=>(spanT th p).high) (cellsL b (widthN w b))
set_option maxHeartbeats 4000000 in
theorem t77 (w:Work) (hw:WorkP w) (th:List (List Span)) (hT2:ThickP w.map th) (b:Blank) (hb:inB b.tube 0 (w.tubes.length - 1) = true) (hn:inRange w b = true):ACalls Tryz.prog 77 [eBnd w th,eB b] (fun r=>r = .pv (vi (sliceI w b (mostT w th b)))):= by
 have ht:=tube_at hb
 have hTu:=hw.tt _ (List.mem_of_getElem? ht)
 have h1:=hTu.w1
 have g6:=hw.map.r6; have g8:=hw.map.c8; have hl:=hT2.len
 obtain ⟨br,bc⟩:=range_bd hw h1 hn
 have hit:=it151 w hw b hb br bc (widthN w b) (by unfold widthN; omega)
 have hth:∀ (k:Nat) (p:Place),(cellsL b (widthN w b))[k]? = some p -> 0 <= p.row /\ p.row < w.map.cells.length /\ 0 <= p.col /\ p.col < colsN w.map:=fun k p hp=>cells_there hw hb hn hp
 have hbd:0 <= mostT w th b /\ mostT w th b <= 60:=minL_bd _ 60 (by omega) (by omega) fun p hp=>by
  obtain ⟨i,hi⟩:=List.mem_iff_getElem?.1 hp
  obtain ⟨_,_,_,h,h',_⟩:=span_at hT2 (hth i p hi)
  exact Int.le_trans h h'
 have k84:=t84 w hw th b hb (mostT w th b) (by omega)
 have k83:=t83 w b
 rw [mostT] at k84 ⊢
 generalize widthN w b = W at *
 refine ACalls.of_body hT Tryz.func77 rfl (by kernel_rfl) rfl ?_
 (repeat' (first|refine stq ?_|(refine AL_do2 rfl ?_; first|refine ⟨_,op_call1 rfl rfl rfl rfl (k83),nrmA rfl ?_⟩)|(with_reducible refine AL_id ?_); (fail_if_success (refine glq rfl rfl rfl ?_)); first|refine AL_gdec rfl rfl rfl (fun hg=>?_) (fun hg=>?_)|refine AL_gnot rfl rfl rfl (fun hg=>?_) (fun hg=>?_)|refine AL_gcases rfl rfl rfl (fun hg=>?_) (fun hg=>?_)))
 refine AW_range (gf:=151) (caps:=[.ptr (eWorkC w),.ptr (eBlank b)]) (L:=cellsY b W) [2,3,5] [(2,.box 0 0),(3,.box 1 0),(5,.box 2 0)] (fun av k (_:Unit)=>leO w th b av (minL (fun p=>(spanT th p).high) ((cellsL b W).take k))) (fun _ _=>True) 6 [3,4,5] () trivial
  ?_ hit.1 ?_ ?_ ?_ ?_ ?_ ?_
 ·rfl
 ·intro p hp
  simp only [List.mem_cons,List.not_mem_nil,or_false] at hp; rcases hp with rfl|rfl <;> rfl
 ·intro x hx
  simp only [cellsY,List.mem_map] at hx
  obtain ⟨y,_,rfl⟩:=hx; rfl
 ·intro av j i
  ((repeat' (first|exact trivial|refine And.intro ?_ ?_)); all_goals (first|rfl|decide))
 ·intro av
  (refine Le.mk ?_ ?_; all_goals (repeat' (first|exact trivial|refine sle ?_|refine ⟨?_,rfl,?_⟩|refine ⟨?_,by decide,rfl,?_⟩|fail)))
 ·intro av k _ x _ hx
  obtain ⟨p,hp,rfl⟩:∃ p,(cellsL b W)[k]? = some p /\ placeY p = x:= by
   rw [cellsY,List.getElem?_map,Option.map_eq_some_iff] at hx; exact hx
  have hb4:=hth k p hp
  obtain ⟨y,hy1,hy2,_⟩:=span_at hT2 hb4
  have e1:=get_map eSpanRow hy1
  have e2:=get_map eSpan hy2
  have hs:=minL_succ (f:=fun p=>(spanT th p).high) hp
  generalize minL (fun p=>(spanT th p).high) ((cellsL b W).take k) = M at *
  (repeat (refine stq ?_))
  (repeat (refine sdq ?_))
  refine DG_end hM (by kernel_rfl) ?_
  (repeat (refine stq ?_))
  refine roundQ_intro () trivial ?_
  rw [hs]
  (refine Le.mk ?_ ?_; all_goals (repeat' (first|exact trivial|refine sle ?_|refine ⟨?_,rfl,?_⟩|refine ⟨?_,by decide,rfl,?_⟩|fail)))
 ·intro av _ _
  rw [show (cellsY b W).length = (cellsL b W).length by simp [cellsY],List.take_length]
  (repeat' (first|refine stq ?_|(refine AL_do2 rfl ?_; first|refine ⟨_,op_call1 rfl rfl rfl rfl (k84),nrmA rfl ?_⟩)|(with_reducible refine AL_id ?_); (fail_if_success (refine glq rfl rfl rfl ?_)); first|refine AL_gdec rfl rfl rfl (fun hg=>?_) (fun hg=>?_)|refine AL_gnot rfl rfl rfl (fun hg=>?_) (fun hg=>?_)|refine AL_gcases rfl rfl rfl (fun hg=>?_) (fun hg=>?_)))
  exact ⟨_,_,rfl,rfl,rfl⟩
end Go.Abs
namespace Go.Abs
open Go.Proofs
set_option maxRecDepth 100000
theorem t150 (l:List Int) (hl:l.length <= 1000) (hb:bdU 1000000 l):ACalls Tryz.prog 150 [eInts l] (fun r=>r = .pv (vi (sumI l))):= by
 refine ACalls.of_body hT Tryz.func150 rfl (by kernel_rfl) rfl ?_
 (repeat (refine stq ?_))
 refine AW_loopC (fun k:Nat=>k <= l.length) (fun k=>mkSt [(3,.pv (vi (sumI (l.take k)))),(6,.pv (eInts l)),(7,.pv (vi l.length)),(8,.pv (vi k))] [] 0) (fun k=>l.length - k) 0 (Nat.zero_le _) ?_ ?_
 ·(refine Le.mk ?_ ?_; all_goals (repeat' (first|exact trivial|refine sle ?_|refine ⟨?_,rfl,?_⟩|refine ⟨?_,by decide,rfl,?_⟩|fail)))
 ·intro k hk
  (repeat (refine stq ?_))
  refine AW_if rfl (fun hc=>?_) (fun hc=>?_)
  ·have hk':k < l.length:=by omega
   obtain ⟨x,hx⟩:∃ x,l[k]? = some x:=⟨l[k],by simp [hk']⟩
   have e1:=get_map eInt hx
   have hs:sumI (l.take (k + 1)) = sumI (l.take k) + x:=by rw [List.take_add_one,hx,sumI_append]; simp [sumI]
   have hxb:=hb x (List.mem_of_getElem? hx)
   have hsb:=sumI_bdU (c:=1000000) (l:=l.take k) fun y hy=>hb y (List.mem_of_mem_take hy)
   rw [List.length_take] at hsb
   generalize sumI (l.take k) = u at *
   (repeat (refine stq ?_))
   refine ⟨k + 1,hk',by omega,?_⟩
   rw [hs]
   (refine Le.mk ?_ ?_; all_goals (repeat' (first|exact trivial|refine sle ?_|refine ⟨?_,rfl,?_⟩|refine ⟨?_,by decide,rfl,?_⟩|fail)))
  ·have hk':k = l.length:=by omega
   subst hk'
   rw [List.take_length]
   (repeat (refine stq ?_))
   exact ⟨_,_,rfl,rfl,rfl⟩
def worthL (w:Work) (f:Blank -> Int) (l:List Blank):List Int:=l.map fun b=>(tubeOf w b).worth * f b
theorem worthL_succ {w:Work} {f:Blank -> Int} {l:List Blank} {k:Nat} {b:Blank} (h:l[k]? = some b):worthL w f (l.take (k + 1)) = worthL w f (l.take k) ++ [(tubeOf w b).worth * f b]:= by
 rw [List.take_add_one,h]; simp [worthL]
set_option maxHeartbeats 4000000 in
theorem t81 (w:Work) (hw:WorkP w) (th:List (List Span)) (l:List Blank) (hl:l.length <= 1000) (hb:∀ b ∈ l,inB b.tube 0 (w.tubes.length - 1) = true) (g:Nat) (caps:List PV) (f:Blank -> Int) (hf:∀ b ∈ l,0 <= f b /\ f b <= 1000) (hg:∀ b ∈ l,ACalls Tryz.prog g ([eB b] ++ caps) (fun r=>r = .pv (vi (f b)))) :
  ACalls Tryz.prog 81 [eBnd w th,eBlanks l,.fn g caps] (fun r=>r = .pv (vi (sumI (worthL w f l)))):= by
 refine ACalls.of_body hT Tryz.func81 rfl (by kernel_rfl) rfl ?_
 (repeat (refine stq ?_))
 refine AW_own_nil (e:=3) (sz:=1) (t:=7) rfl rfl ?_
 (repeat (refine stq ?_))
 refine AW_loopC (fun k:Nat=>k <= l.length) (fun k=>mkSt [(2,.pv (.fn g caps)),(3,.box 0 0),(7,.arr 1),(11,.pv (eBlanks l)),(12,.pv (vi l.length)),(13,.pv (vi k))] [(0,.box ((eBndC w th).map FV.pv)),(1,.arr 3 1 ((worthL w f (l.take k)).map eInt))] 2) (fun k=>l.length - k) 0 (Nat.zero_le _) ?_ ?_
 ·(refine Le.mk ?_ ?_; all_goals (repeat' (first|exact trivial|refine sle ?_|refine ⟨?_,rfl,?_⟩|refine ⟨?_,by decide,rfl,?_⟩|fail)))
 ·intro k hk
  (repeat (refine stq ?_))
  refine AW_if rfl (fun hc=>?_) (fun hc=>?_)
  ·have hk':k < l.length:=by omega
   obtain ⟨b,hx⟩:∃ x,l[k]? = some x:=⟨l[k],by simp [hk']⟩
   have e1:=get_map eBlank hx
   have hm:=List.mem_of_getElem? hx
   have kg:=hg b hm
   have k149:=t149 w hw th b (hb b hm) (f b) (hf b hm)
   have hs:=worthL_succ (w:=w) (f:=f) hx
   have hln:(worthL w f (l.take k)).length <= 1000:=by simp [worthL]; omega
   generalize worthL w f (l.take k) = u at *
   (repeat' (first|refine stq ?_|(refine AL_do2 rfl ?_; first|refine ⟨_,op_call1 rfl rfl rfl rfl (kg),nrmA rfl ?_⟩|refine ⟨_,op_call1 rfl rfl rfl rfl (k149),nrmA rfl ?_⟩)|(with_reducible refine AL_id ?_); (fail_if_success (refine glq rfl rfl rfl ?_)); first|refine AL_gdec rfl rfl rfl (fun hg=>?_) (fun hg=>?_)|refine AL_gnot rfl rfl rfl (fun hg=>?_) (fun hg=>?_)|refine AL_gcases rfl rfl rfl (fun hg=>?_) (fun hg=>?_)))
   refine ⟨k + 1,hk',by omega,?_⟩
   rw [hs]
   (refine Le.mkR [(0,0),(1,4)] ?_ ?_ rfl; all_goals (repeat' (first|exact trivial|refine sle ?_|refine ⟨?_,rfl,?_⟩|refine ⟨?_,by decide,rfl,?_⟩|fail)))
   rw [List.map_append]; rfl
  ·have hk':k = l.length:=by omega
   subst hk'
   rw [List.take_length]
   have k150:=t150 (worthL w f l) (by simpa [worthL] using hl) (fun x hx=>by
    simp only [worthL,List.mem_map] at hx
    obtain ⟨b,hm,rfl⟩:=hx
    have hTu:=hw.tt _ (List.mem_of_getElem? (tube_at (hb b hm)))
    have h1:=hTu.o1; have h3:=hTu.o100
    have h2:=hf b hm
    have h5:0 <= (tubeOf w b).worth * f b:=Int.mul_nonneg (by omega) h2.1
    have h6:(tubeOf w b).worth * f b <= 100 * 1000:=Int.mul_le_mul h3 h2.2 h2.1 (by omega)
    omega)
   have hln:(worthL w f l).length <= 1000:=by simpa [worthL] using hl
   generalize worthL w f l = u at *
   refine AW_pure (t:=7) rfl rfl ?_
   (repeat' (first|refine stq ?_|(refine AL_do2 rfl ?_; first|refine ⟨_,op_call1 rfl rfl rfl rfl (k150),nrmA rfl ?_⟩)|(with_reducible refine AL_id ?_); (fail_if_success (refine glq rfl rfl rfl ?_)); first|refine AL_gdec rfl rfl rfl (fun hg=>?_) (fun hg=>?_)|refine AL_gnot rfl rfl rfl (fun hg=>?_) (fun hg=>?_)|refine AL_gcases rfl rfl rfl (fun hg=>?_) (fun hg=>?_)))
   exact ⟨_,_,rfl,rfl,rfl⟩
end Go.Abs
namespace Go.Abs
open Go.Proofs
set_option maxRecDepth 100000
abbrev boO (d:Drum):AObj:=.box ((eDrumC d).map FV.pv)
theorem f103 (x lo hi:Int):ACalls Tryz.prog 44 [vi x,vi lo,vi hi] (fun r=>r = .pv (.bool (inB x lo hi))):= by
 refine ACalls.of_body hT Tryz.func44 rfl (by kernel_rfl) rfl ?_
 (repeat' (first|refine stq ?_|(with_reducible refine AL_id ?_); (fail_if_success (refine glq rfl rfl rfl ?_)); first|refine AL_gdec rfl rfl rfl (fun hg=>?_) (fun hg=>?_)|refine AL_gnot rfl rfl rfl (fun hg=>?_) (fun hg=>?_)|refine AL_gcases rfl rfl rfl (fun hg=>?_) (fun hg=>?_)))
 all_goals exact ⟨_,_,rfl,rfl,by simp_all [inB]; try omega⟩
theorem f107 (s:Span) (most:Int):ACalls Tryz.prog 46 [eS s,vi most] (fun r=>r = .pv (.bool (spanB s most))):= by
 refine ACalls.of_body hT Tryz.func46 rfl (by kernel_rfl) rfl ?_
 (repeat' (first|refine stq ?_|(with_reducible refine AL_id ?_); (fail_if_success (refine glq rfl rfl rfl ?_)); first|refine AL_gdec rfl rfl rfl (fun hg=>?_) (fun hg=>?_)|refine AL_gnot rfl rfl rfl (fun hg=>?_) (fun hg=>?_)|refine AL_gcases rfl rfl rfl (fun hg=>?_) (fun hg=>?_)))
 all_goals exact ⟨_,_,rfl,rfl,by simp_all [spanB]; try omega⟩
def powI:Nat -> Int
 | 0=>1
 | n + 1=>2 * powI n
theorem powI_bd:∀ (n:Nat),n <= 60 -> 1 <= powI n /\ powI n <= 2 ^ 60
 | n,h=>by
  have key:∀ (n:Nat),powI n = 2 ^ n:= by
   intro n
   induction n with
   | zero=>rfl
   | succ n ih=>rw [powI,ih,Int.pow_succ]; omega
  rw [key]
  have h1:(2:Nat) ^ n <= 2 ^ 60:=Nat.pow_le_pow_right (by decide) h
  have h2:1 <= (2:Nat) ^ n:=Nat.one_le_two_pow
  have h3:(2:Int) ^ n = ((2 ^ n:Nat):Int):=by simp
  rw [h3]
  constructor
  ·omega
  ·have:((2:Int) ^ 60) = ((2 ^ 60:Nat):Int):=by simp
   rw [this]; omega
theorem powI_eq:∀ (n:Nat),powI n = 2 ^ n
 | 0=>rfl
 | n + 1=>by rw [powI,powI_eq n,Int.pow_succ]; omega
theorem f106 (n:Nat) (hn:n <= 60):ACalls Tryz.prog 45 [vi n] (fun r=>r = .pv (vi (powI n))):= by
 refine ACalls.of_body hT Tryz.func45 rfl (by kernel_rfl) rfl ?_
 (repeat (refine stq ?_))
 refine AW_loopC (fun k:Nat=>k <= n) (fun k=>mkSt [(0,.pv (vi n)),(3,.pv (vi (powI k))),(4,.pv (vi k))] [] 0) (fun k=>n - k) 0 (Nat.zero_le _) ?_ ?_
 ·(refine Le.mk ?_ ?_; all_goals (repeat' (first|exact trivial|refine sle ?_|refine ⟨?_,rfl,?_⟩|refine ⟨?_,by decide,rfl,?_⟩|fail)))
 ·intro k hk
  (repeat (refine stq ?_))
  refine AW_if rfl (fun hc=>?_) (fun hc=>?_)
  ·have hb:=powI_bd k (by omega)
   have hm:-9223372036854775808 <= 2 * powI k /\ 2 * powI k <= 9223372036854775807:= by
    have:(2:Int) ^ 60 = 1152921504606846976:=by decide
    omega
   (repeat (refine stq ?_))
   refine ⟨k + 1,by omega,by omega,?_⟩
   (refine Le.mk ?_ ?_; all_goals (repeat' (first|exact trivial|refine sle ?_|refine ⟨?_,rfl,?_⟩|refine ⟨?_,by decide,rfl,?_⟩|fail)))
  ·have hk':k = n:=by omega
   subst hk'
   (repeat (refine stq ?_))
   exact ⟨_,_,rfl,rfl,rfl⟩
def hasT:Bool:=(List.range 32).all fun s=>(List.range 6).all fun i=>decide ((IntKind.i64.wrap ((s:Int).tdiv (powI i))).tmod 2 = 1) == hasI (s:Int) i
theorem has_t:hasT = true:=by decide +kernel
theorem f68 (set:Int) (n:Nat) (h0:0 <= set) (h1:set < 32) (hn:n < 6):ACalls Tryz.prog 47 [vi set,vi n] (fun r=>r = .pv (.bool (hasI set n))):= by
 obtain ⟨m,rfl⟩:∃ m:Nat,set = m:=⟨set.toNat,by omega⟩
 have ht:=List.all_eq_true.1 (List.all_eq_true.1 has_t m (List.mem_range.2 (by omega))) n (List.mem_range.2 hn)
 have ht:decide ((IntKind.i64.wrap ((m:Int).tdiv (powI n))).tmod 2 = 1) = hasI (m:Int) n:=by simpa using ht
 have hb:=powI_bd n (by omega)
 have hne:powI n ≠ 0:=by omega
 refine ACalls.of_body hT Tryz.func47 rfl (by kernel_rfl) rfl ?_
 (repeat' (first|refine stq ?_|(refine AL_do2 rfl ?_; first|refine ⟨_,op_call1 rfl rfl rfl rfl (f106 n (by omega)),nrmA rfl ?_⟩)|(with_reducible refine AL_id ?_); (fail_if_success (refine glq rfl rfl rfl ?_)); first|refine AL_gdec rfl rfl rfl (fun hg=>?_) (fun hg=>?_)|refine AL_gnot rfl rfl rfl (fun hg=>?_) (fun hg=>?_)|refine AL_gcases rfl rfl rfl (fun hg=>?_) (fun hg=>?_)))
 refine AL_do2 rfl ⟨_,op_quo rfl rfl rfl rfl hne,?_⟩
 refine AL_do2 rfl ⟨_,op_rem rfl rfl rfl rfl (by decide),?_⟩
 (repeat (refine stq ?_))
 exact ⟨_,_,rfl,rfl,by rw [<- ht]⟩
def spanBd (s:Span):Prop:=-100000 <= s.low /\ s.low <= 100000 /\ -100000 <= s.high /\ s.high <= 100000
theorem f139 (a:Acid) (add:Int) (s:Span) (ha:AcidP a) (h0:0 <= add /\ add <= 100) (hs:spanBd s):ACalls Tryz.prog 48 [.agg (eAcid a),vi add,eS s] (fun r=>r = .pv (eS (afterS a add s))):= by
 obtain ⟨b1,b2,b3,b4⟩:=hs
 have:=ha.f0; have:=ha.f1; have:=ha.f2
 refine ACalls.of_body hT Tryz.func48 rfl (by kernel_rfl) rfl ?_
 (repeat (refine stq ?_))
 exact ⟨_,_,rfl,rfl,rfl⟩
end Go.Abs
