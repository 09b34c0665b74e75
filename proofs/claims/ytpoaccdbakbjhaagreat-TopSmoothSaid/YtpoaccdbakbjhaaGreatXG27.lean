/- Small functions of the program's shell. -/
import Derived.Test.YtpoaccdbakbjhaaGreatXG25
import Derived.Test.YtpoaccdbakbjhaaGreatXG26
set_option linter.unusedVariables false
set_option linter.unusedSimpArgs false
namespace Go.Abs
open Go.Proofs
set_option maxRecDepth 100000
theorem t74 (w:Work) (hw:w.tubes.length <= 1000) (b:Blank):ACalls Tryz.prog 74 [eWork w,eB b] (fun x=>x = .pv (.bool (inB b.tube 0 (w.tubes.length - 1)))):= by
 have k1:=t103 b.tube 0 (w.tubes.length - 1)
 refine ACalls.of_body hT Tryz.func74 rfl (by kernel_rfl) rfl ?_
 (repeat' (first|refine stq ?_|(refine AL_do2 rfl ?_; first|refine ⟨_,op_call1 rfl rfl rfl rfl (k1),nrmA rfl ?_⟩)|(with_reducible refine AL_id ?_); (fail_if_success (refine glq rfl rfl rfl ?_)); first|refine AL_gdec rfl rfl rfl (fun hg=>?_) (fun hg=>?_)|refine AL_gnot rfl rfl rfl (fun hg=>?_) (fun hg=>?_)|refine AL_gcases rfl rfl rfl (fun hg=>?_) (fun hg=>?_)))
 exact ⟨_,_,rfl,rfl,rfl⟩
def tubeOf (w:Work) (b:Blank):Tube:=(w.tubes[b.tube.toNat]?).getD ⟨1,1,1⟩
theorem tube_at {w:Work} {b:Blank} (h:inB b.tube 0 (w.tubes.length - 1) = true):w.tubes[b.tube.toNat]? = some (tubeOf w b):= by
 have:=inB_true h
 have hx:w.tubes[b.tube.toNat]? = some (w.tubes[b.tube.toNat]'(by omega)):=by simp
 rw [tubeOf,hx]; rfl
def hasB (w:Work) (b:Blank) (r c:Int):Bool:=inB r b.row (b.row + ((tubeOf w b).width - 1)) && inB c b.col (b.col + ((tubeOf w b).width - 1))
theorem t144 (w:Work) (hw:WorkP w) (b:Blank) (hb:inB b.tube 0 (w.tubes.length - 1) = true) (hr:0 <= b.row /\ b.row <= 1000) (hc:0 <= b.col /\ b.col <= 1000) (r c:Int):ACalls Tryz.prog 144 [eWork w,eB b,vi r,vi c] (fun x=>x = .pv (.bool (hasB w b r c))):= by
 have hb2:=inB_true hb
 have ht:=tube_at hb
 have hTu:=hw.tt _ (List.mem_of_getElem? ht)
 have h1:=hTu.w1; have h3:=hTu.w3
 have h4:=hw.t4
 have e1:=get_map eTube ht
 rw [hasB]
 obtain ⟨t,htd⟩:∃ t,tubeOf w b = t:=⟨_,rfl⟩
 rw [htd] at h1 h3 e1 ⊢
 have k1:=t103 r b.row (b.row + (t.width - 1))
 have k2:=t103 c b.col (b.col + (t.width - 1))
 refine ACalls.of_body hT Tryz.func144 rfl (by kernel_rfl) rfl ?_
 cases q1:inB r b.row (b.row + (t.width - 1))
 all_goals
  rw [q1] at k1
  (repeat' (first|refine stq ?_|(refine AL_do2 rfl ?_; first|refine ⟨_,op_call1 rfl rfl rfl rfl (k1),nrmA rfl ?_⟩|refine ⟨_,op_call1 rfl rfl rfl rfl (k2),nrmA rfl ?_⟩)|(with_reducible refine AL_id ?_); (fail_if_success (refine glq rfl rfl rfl ?_)); first|refine AL_gdec rfl rfl rfl (fun hg=>?_) (fun hg=>?_)|refine AL_gnot rfl rfl rfl (fun hg=>?_) (fun hg=>?_)|refine AL_gcases rfl rfl rfl (fun hg=>?_) (fun hg=>?_)))
  all_goals (try (exfalso; simp at hg; done))
  exact ⟨_,_,rfl,rfl,by simp⟩
theorem t142 (w:Work) (hw:WorkP w) (b:Blank) (hb:inB b.tube 0 (w.tubes.length - 1) = true) (hr:0 <= b.row /\ b.row <= 1000) (hc:0 <= b.col /\ b.col <= 1000) (k:Crack) (hk:crackB w.map k = true) :
  ACalls Tryz.prog 142 [.agg (eCrack k),.ptr (eWorkC w),.ptr (eBlank b)] (fun x=>x = .pv (.bool (hasB w b k.row k.col && hasB w b (beyondR k) (beyondC k)))):= by
 simp only [crackB,Bool.and_eq_true] at hk
 have hbd:=there_bd hk.1
 have:=hw.map.r6; have:=hw.map.c8
 have k0:=t143 k (by omega) (by omega) (by omega) (by omega)
 have k1:=t144 w hw b hb hr hc k.row k.col
 have k2:=t144 w hw b hb hr hc (beyondR k) (beyondC k)
 refine ACalls.of_body hT Tryz.func142 rfl (by kernel_rfl) rfl ?_
 cases q1:hasB w b k.row k.col
 all_goals
  rw [q1] at k1
  (repeat' (first|refine stq ?_|(refine AL_do2 rfl ?_; first|refine ⟨_,op_call1 rfl rfl rfl rfl (k0),nrmA rfl ?_⟩|refine ⟨_,op_call1 rfl rfl rfl rfl (k1),nrmA rfl ?_⟩|refine ⟨_,op_call1 rfl rfl rfl rfl (k2),nrmA rfl ?_⟩)|(with_reducible refine AL_id ?_); (fail_if_success (refine glq rfl rfl rfl ?_)); first|refine AL_gdec rfl rfl rfl (fun hg=>?_) (fun hg=>?_)|refine AL_gnot rfl rfl rfl (fun hg=>?_) (fun hg=>?_)|refine AL_gcases rfl rfl rfl (fun hg=>?_) (fun hg=>?_)))
  all_goals (try (exfalso; simp at hg; done))
  exact ⟨_,_,rfl,rfl,by simp⟩
end Go.Abs
namespace Go.Abs
open Go.Proofs
set_option maxRecDepth 100000
def cellAt (b:Blank) (W i:Nat):Place:=⟨b.row + (i / W:Nat),b.col + (i % W:Nat)⟩
def cellsL (b:Blank) (W:Nat):List Place:=(List.range (W * W)).map (cellAt b W)
def placeY (p:Place):List PV:=[vi p.row,vi p.col]
def cellsY (b:Blank) (W:Nat):List (List PV):=(cellsL b W).map placeY
theorem cellsY_get {b:Blank} {W r c:Nat} (hr:r < W) (hc:c < W):(cellsY b W)[W * r + c]? = some [vi (b.row + r),vi (b.col + c)]:= by
 have hlt:W * r + c < W * W:= by
  have:W * (r + 1) <= W * W:=Nat.mul_le_mul_left _ hr
  rw [Nat.mul_succ] at this; omega
 have h1:(W * r + c) / W = r:= by
  rw [Nat.mul_add_div (by omega),Nat.div_eq_of_lt hc]; omega
 have h2:(W * r + c) % W = c:= by
  rw [Nat.mul_add_mod,Nat.mod_eq_of_lt hc]
 simp [cellsY,cellsL,List.getElem?_map,List.getElem?_range hlt,placeY,cellAt,h1,h2]
theorem cellsY_len {b:Blank} {W:Nat}:(cellsY b W).length = W * W:=by simp [cellsY,cellsL]
set_option maxHeartbeats 4000000 in
theorem it151a (w:Work) (hw:WorkP w) (b:Blank) (hb:inB b.tube 0 (w.tubes.length - 1) = true) (hr:0 <= b.row /\ b.row <= 1000) (hc:0 <= b.col /\ b.col <= 1000) (W:Nat) (hW:(tubeOf w b).width = W) :
  IterOK Tryz.prog 151 [.ptr (eWorkC w),.ptr (eBlank b)] (cellsY b W):= by
 intro E B hEL hE
 have ht:=tube_at hb
 have hTu:=hw.tt _ (List.mem_of_getElem? ht)
 have h1:=hTu.w1; have h3:=hTu.w3; have h4:=hw.t4
 have hb2:=inB_true hb
 have e1:=get_map eTube ht
 obtain ⟨t,htd⟩:∃ t,tubeOf w b = t:=⟨_,rfl⟩
 rw [htd] at h1 h3 e1 hW
 rw [hW] at h1 h3
 refine ACallsX.of_body hT Tryz.func151 rfl (by kernel_rfl) rfl ?_
 (repeat (refine stq ?_))
 rw [hW]
 refine AW_loopC (fun i:Nat × (Nat -> Prop)=>i.1 <= W) (fun i=>mkSt [(0,.yld 0),(1,.pv (.ptr (eWorkC w))),(2,.pv (.ptr (eBlank b))),(4,.pv (vi W)),(14,.pv (vi W)),(15,.pv (vi i.1))] [(0,.ext E (W * i.1) i.2)] 1)
  (fun i=>W - i.1) (0,B) (Nat.zero_le _) ?_ ?_
 ·(refine Le.mk ?_ ?_; all_goals (repeat' (first|exact trivial|refine sle ?_|refine ⟨?_,rfl,?_⟩|refine ⟨?_,by decide,rfl,?_⟩|fail)))
 ·rintro ⟨r,Br⟩ hrW
  simp only at hrW
  dsimp only
  (repeat (refine stq ?_))
  refine AW_if rfl (fun hc1=>?_) (fun hc1=>?_)
  ·have hr':r < W:=by omega
   (repeat (refine stq ?_))
   refine AW_loopC (fun i:Nat × (Nat -> Prop)=>i.1 <= W) (fun i=>mkSt [(0,.yld 0),(1,.pv (.ptr (eWorkC w))),(2,.pv (.ptr (eBlank b))),(4,.pv (vi W)),(14,.pv (vi W)),(15,.pv (vi r)),(5,.pv (vi r)),(18,.pv (vi W)),(19,.pv (vi i.1))] [(0,.ext E (W * r + i.1) i.2)] 1)
    (fun i=>W - i.1) (0,Br) (Nat.zero_le _) ?_ ?_
   ·(refine Le.mk ?_ ?_; all_goals (repeat' (first|exact trivial|refine sle ?_|refine ⟨?_,rfl,?_⟩|refine ⟨?_,by decide,rfl,?_⟩|fail)))
   ·rintro ⟨c,Bc⟩ hcW
    simp only at hcW
    dsimp only
    (repeat (refine stq ?_))
    refine AW_if rfl (fun hc2=>?_) (fun hc2=>?_)
    ·have hc':c < W:=by omega
     have hx1:E.L[W * r + c]? = some [vi (b.row + r),vi (b.col + c)]:=by rw [hEL]; exact cellsY_get hr' hc'
     (repeat (refine stq ?_))
     refine AL_doS rfl (op_yield hE rfl rfl rfl rfl rfl hx1) ?_
     rintro s' ⟨B',rfl⟩
     (repeat (refine stq ?_))
     refine ⟨(c + 1,B'),hc',by simp only; omega,?_⟩
     (refine Le.mk ?_ ?_; all_goals (repeat' (first|exact trivial|refine sle ?_|refine ⟨?_,rfl,?_⟩|refine ⟨?_,by decide,rfl,?_⟩|fail)))
    ·have hcW':c = W:=by omega
     subst hcW'
     (repeat (refine stq ?_))
     refine ⟨(r + 1,Bc),hr',by simp only; omega,?_⟩
     (refine Le.mk ?_ ?_; all_goals (repeat' (first|exact trivial|refine sle ?_|refine ⟨?_,rfl,?_⟩|refine ⟨?_,by decide,rfl,?_⟩|fail)))
  ·have hrW':r = W:=by omega
   subst hrW'
   (repeat (refine stq ?_))
   refine ⟨_,mkSt [] [(0,.ext E (cellsY b r).length Br)] 1,rfl,?_,Br,rfl⟩
   rw [cellsY_len]
   (refine Le.mk ?_ ?_; all_goals (repeat' (first|exact trivial|refine sle ?_|refine ⟨?_,rfl,?_⟩|refine ⟨?_,by decide,rfl,?_⟩|fail)))
set_option maxHeartbeats 4000000 in
theorem it151x (w:Work) (hw:WorkP w) (b:Blank) (hb:inB b.tube 0 (w.tubes.length - 1) = true) (hr:0 <= b.row /\ b.row <= 1000) (hc:0 <= b.col /\ b.col <= 1000) (W:Nat) (hW:(tubeOf w b).width = W)
  (n:Nat) (x:List PV) (hx:(cellsY b W)[n]? = some x):IterOKX Tryz.prog 151 [.ptr (eWorkC w),.ptr (eBlank b)] ((cellsY b W).take n) x:= by
 intro E B hEL hE hE2
 have hn:n < W * W:=by have:=(List.getElem?_eq_some_iff.1 hx).1; rwa [cellsY_len] at this
 have hLl:E.L.length = n:=by rw [hEL,List.length_take,cellsY_len]; omega
 have ht:=tube_at hb
 have hTu:=hw.tt _ (List.mem_of_getElem? ht)
 have h1:=hTu.w1; have h3:=hTu.w3; have h4:=hw.t4
 have hb2:=inB_true hb
 have e1:=get_map eTube ht
 obtain ⟨t,htd⟩:∃ t,tubeOf w b = t:=⟨_,rfl⟩
 rw [htd] at h1 h3 e1 hW
 rw [hW] at h1 h3
 refine ACallsX.of_body hT Tryz.func151 rfl (by kernel_rfl) rfl ?_
 (repeat (refine stq ?_))
 rw [hW]
 refine AW_loopC (fun i:Nat × (Nat -> Prop)=>i.1 <= W /\ W * i.1 <= n) (fun i=>mkSt [(0,.yld 0),(1,.pv (.ptr (eWorkC w))),(2,.pv (.ptr (eBlank b))),(4,.pv (vi W)),(14,.pv (vi W)),(15,.pv (vi i.1))] [(0,.ext E (W * i.1) i.2)] 1)
  (fun i=>W - i.1) (0,B) ⟨Nat.zero_le _,Nat.zero_le _⟩ ?_ ?_
 ·(refine Le.mk ?_ ?_; all_goals (repeat' (first|exact trivial|refine sle ?_|refine ⟨?_,rfl,?_⟩|refine ⟨?_,by decide,rfl,?_⟩|fail)))
 ·rintro ⟨r,Br⟩ ⟨hrW,hrn⟩
  simp only at hrW hrn
  dsimp only
  (repeat (refine stq ?_))
  refine AW_if rfl (fun hc1=>?_) (fun hc1=>?_)
  ·have hr':r < W:=by omega
   (repeat (refine stq ?_))
   refine AW_loopC (fun i:Nat × (Nat -> Prop)=>i.1 <= W /\ W * r + i.1 <= n) (fun i=>mkSt [(0,.yld 0),(1,.pv (.ptr (eWorkC w))),(2,.pv (.ptr (eBlank b))),(4,.pv (vi W)),(14,.pv (vi W)),(15,.pv (vi r)),(5,.pv (vi r)),(18,.pv (vi W)),(19,.pv (vi i.1))] [(0,.ext E (W * r + i.1) i.2)] 1)
    (fun i=>W - i.1) (0,Br) ⟨Nat.zero_le _,hrn⟩ ?_ ?_
   ·(refine Le.mk ?_ ?_; all_goals (repeat' (first|exact trivial|refine sle ?_|refine ⟨?_,rfl,?_⟩|refine ⟨?_,by decide,rfl,?_⟩|fail)))
   ·rintro ⟨c,Bc⟩ ⟨hcW,hcn⟩
    simp only at hcW hcn
    dsimp only
    (repeat (refine stq ?_))
    refine AW_if rfl (fun hc2=>?_) (fun hc2=>?_)
    ·have hc':c < W:=by omega
     have hx0:(cellsY b W)[W * r + c]? = some [vi (b.row + r),vi (b.col + c)]:=cellsY_get hr' hc'
     (repeat (refine stq ?_))
     by_cases hlt:W * r + c < n
     ·have hx1:E.L[W * r + c]? = some [vi (b.row + r),vi (b.col + c)]:=by rw [hEL,List.getElem?_take_of_lt hlt]; exact hx0
      refine AL_doS rfl (op_yield hE rfl rfl rfl rfl rfl hx1) ?_
      rintro s' ⟨B',rfl⟩
      (repeat (refine stq ?_))
      refine ⟨(c + 1,B'),⟨hc',by simp only; omega⟩,by simp only; omega,?_⟩
      (refine Le.mk ?_ ?_; all_goals (repeat' (first|exact trivial|refine sle ?_|refine ⟨?_,rfl,?_⟩|refine ⟨?_,by decide,rfl,?_⟩|fail)))
     ·have hen:W * r + c = n:=by omega
      have hxx:x = [vi (b.row + r),vi (b.col + c)]:=by rw [<- hen,hx0] at hx; cases hx; rfl
      subst hxx
      refine AL_doS rfl (op_yieldL hE2 rfl rfl rfl rfl rfl (by rw [hLl]; exact hen)) ?_
      rintro s' ⟨B',rfl⟩
      (repeat (refine stq ?_))
      refine ⟨_,mkSt [] [(0,.ext E (E.L.length + 1) B')] 1,rfl,?_,B',by rw [hLl,List.length_take,cellsY_len,Nat.min_eq_left (by omega)]; rfl⟩
      (refine Le.mk ?_ ?_; all_goals (repeat' (first|exact trivial|refine sle ?_|refine ⟨?_,rfl,?_⟩|refine ⟨?_,by decide,rfl,?_⟩|fail)))
    ·have hcW':c = W:=by omega
     subst hcW'
     (repeat (refine stq ?_))
     refine ⟨(r + 1,Bc),⟨hr',hcn⟩,by simp only; omega,?_⟩
     (refine Le.mk ?_ ?_; all_goals (repeat' (first|exact trivial|refine sle ?_|refine ⟨?_,rfl,?_⟩|refine ⟨?_,by decide,rfl,?_⟩|fail)))
  ·exfalso
   have hrW':r = W:=by omega
   subst hrW'
   omega
theorem it151 (w:Work) (hw:WorkP w) (b:Blank) (hb:inB b.tube 0 (w.tubes.length - 1) = true) (hr:0 <= b.row /\ b.row <= 1000) (hc:0 <= b.col /\ b.col <= 1000) (W:Nat) (hW:(tubeOf w b).width = W) :
  IterAll Tryz.prog 151 [.ptr (eWorkC w),.ptr (eBlank b)] (cellsY b W):=⟨it151a w hw b hb hr hc W hW,it151x w hw b hb hr hc W hW⟩
end Go.Abs
