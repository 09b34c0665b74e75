/- Whether a path keeps a hand's limits. -/
import Derived.Test.YtpoaccdbakbjhaaGreatXG44
import Derived.Test.YtpoaccdbakbjhaaGreatXG31
import Derived.Test.YtpoaccdbakbjhaaGreatXG24
set_option linter.unusedVariables false
set_option linter.unusedSimpArgs false
namespace Go.Abs
open Go.Proofs
set_option maxRecDepth 100000
theorem most_succ {h:SHouse} {path:List Int} {k:Nat} {ks:List Int} (hk:(keysL h)[k]? = some ks):mostN h path (k + 1) = max (mostN h path k) (brI path (mostL h (failOf ks))):= by
 rw [mostN,mostN,List.take_add_one,hk,List.foldl_append]; rfl
abbrev dayO (h:SHouse) (l:Nat):AObj:=dustO (keysL h) (dustF h) l 0
set_option maxHeartbeats 4000000 in
theorem t131 (h:SHouse) (hh:HouseP h) (hK:KeysP (keysL h)) (l:Nat) (path:List Int) (hp:pathOK h path) :
  ACallsX Tryz.prog 131 [.agg ((eWalkC h (keysL h) l path).map FV.pv)] [(0,dayO h l)] 1 (fun sf=>sf = mkSt [(0,.pv (vi (mostI h path)))] [(0,dayO h l)] 1) (fun _ _=>False):= by
 have hst:∀ k ks,(keysL h)[k]? = some ks -> mostN h path (k + 1) = max (mostN h path k) (brI path (mostL h (failOf ks))):=fun k ks hk=>most_succ hk
 have k188:∀ ks,ACalls Tryz.prog 188 [.agg (eWalkC h (keysL h) l path),eLists (mostL h (failOf ks))] (fun r=>r = .pv (vi (brI path (mostL h (failOf ks))))):=fun ks=>t188 h hh (keysL h) l path hp _ (most_rows hh _)
 have h3:=hK.len
 have hkl:(keysL h).length <= 100000:= by
  have sl:=hh.sl; have h4:=hh.h4; have r2:=hh.r2; have f4:=hh.f4
  rw [keysL,List.length_map,fails_len]
  have h1:h.fans.length * h.sets.length <= 4 * 4:=Nat.mul_le_mul f4 (by omega)
  have h2:h.rooms.length * h.sets.length <= 2 * 4:=Nat.mul_le_mul (by omega) (by omega)
  omega
 have e0:mostI h path = mostN h path (keysL h).length:=rfl
 rw [e0]
 have hF:∀ ks,dustF h ks = .agg [eLists (leastL h (failOf ks)),eLists (mostL h (failOf ks))]:=fun ks=>rfl
 refine ACallsX.of_body hT Tryz.func131 rfl (by kernel_rfl) rfl ?_
 (repeat (refine stq ?_))
 refine AW_loopC (fun k:Nat=>k <= (keysL h).length) (fun k=>mkSt [(1,.box 1 0),(3,.pv (vi (mostN h path k))),(8,.pv (eKeys (keysL h))),(9,.pv (vi (keysL h).length)),(10,.pv (vi k))] [(0,dayO h l),(1,.box ((eWalkC h (keysL h) l path).map FV.pv))] 2) (fun k=>(keysL h).length - k) 0 (Nat.zero_le _) ?_ ?_
 ·(refine Le.mk ?_ ?_; all_goals (repeat' (first|exact trivial|refine sle ?_|refine ⟨?_,rfl,?_⟩|refine ⟨?_,by decide,rfl,?_⟩|fail)))
 ·intro k hk
  (repeat (refine stq ?_))
  refine AW_if rfl (fun hc=>?_) (fun hc=>?_)
  ·have hk':k < (keysL h).length:=by omega
   obtain ⟨ks,hks⟩:∃ x,(keysL h)[k]? = some x:=⟨(keysL h)[k],by simp [hk']⟩
   have e1:=get_map (fun ks:List Int=>ks.map vi) hks
   have hs:=hst k ks hks
   have hk3:=h3 ks (List.mem_of_getElem? hks)
   obtain ⟨a,b,c,habc⟩:∃ a b c,ks = [a,b,c]:=by match ks,hk3 with|[a,b,c],_=>exact ⟨a,b,c,rfl⟩
   subst habc
   have kx:=k188 [a,b,c]
   have hFk:=hF [a,b,c]
   generalize brI path (mostL h (failOf [a,b,c])) = bk at *
   generalize mostN h path k = mk at *
   (repeat (refine stq ?_))
   (repeat (first|refine DG_next (D_lookDust (id:=0) rfl hK hks rfl rfl rfl rfl rfl) ?_|refine sdq ?_|refine DG_next (D_call rfl rfl rfl rfl rfl (kx)) ?_))
   refine DG_end hM (by kernel_rfl) ?_
   (repeat (refine stq ?_))
   refine ⟨k + 1,hk',by omega,?_⟩
   rw [hs]
   (refine Le.mk ?_ ?_; all_goals (repeat' (first|exact trivial|refine sle ?_|refine ⟨?_,rfl,?_⟩|refine ⟨?_,by decide,rfl,?_⟩|fail)))
  ·have hkl:k = (keysL h).length:=by omega
   subst hkl
   (repeat (refine stq ?_))
   refine ⟨_,mkSt [(0,.pv (vi (mostN h path (keysL h).length)))] [(0,dayO h l)] 1,rfl,?_,rfl⟩
   (refine Le.mk ?_ ?_; all_goals (repeat' (first|exact trivial|refine sle ?_|refine ⟨?_,rfl,?_⟩|refine ⟨?_,by decide,rfl,?_⟩|fail)))
def keepsB (h:SHouse) (x:SHand) (path:List Int):Bool:=decide (workedI path <= x.hours) && decide (mostI h path <= x.dust)
set_option maxHeartbeats 4000000 in
theorem t58 (h:SHouse) (hh:HouseP h) (hK:KeysP (keysL h)) (l:Nat) (x:SHand) (path:List Int) (hp:pathOK h path) :
  ACallsX Tryz.prog 58 [.agg ((eDayC h (keysL h) l).map FV.pv),.agg ((eHand x).map FV.pv),.pv (eInts path)] [(0,dayO h l)] 1 (fun sf=>sf = mkSt [(0,.pv (.bool (keepsB h x path)))] [(0,dayO h l)] 1) (fun _ _=>False):= by
 have sl:=hh.sl; have h4:=hh.h4
 have hpl:=hp.1
 have k65:=t65 path (by omega)
 have k131:=t131 h hh hK l path hp
 rw [keepsB]
 generalize workedI path = wk at *
 generalize mostI h path = ms at *
 by_cases hw:wk <= x.hours
 ·rw [decide_eq_true hw,Bool.true_and]
  refine ACallsX.of_body hT Tryz.func58 rfl (by kernel_rfl) rfl ?_
  (repeat (refine stq ?_))
  refine sdq ?_
  refine DG_next (D_call rfl rfl rfl rfl rfl k65) ?_
  iterate 2 (refine sdq ?_)
  refine DG_cmp hT rfl (fun hg=>?_) (fun hg=>?_)
  all_goals (try (exfalso; omega))
  (repeat (first|refine DG_next (D_callExt (id:=0) (fun _=>rfl) (fun _=>rfl) rfl rfl rfl rfl rfl (fun s1=>(by (repeat' (first|exact trivial|refine And.intro ?_ ?_)); all_goals (first|rfl|decide))) rfl rfl k131) ?_|refine sdq ?_))
  refine DG_end hM (by kernel_rfl) ?_
  (repeat (refine stq ?_))
  refine ⟨_,mkSt [(0,.pv (.bool (decide (ms <= x.dust))))] [(0,dayO h l)] 1,rfl,?_,rfl⟩
  (refine Le.mk ?_ ?_; all_goals (repeat' (first|exact trivial|refine sle ?_|refine ⟨?_,rfl,?_⟩|refine ⟨?_,by decide,rfl,?_⟩|fail)))
 ·rw [decide_eq_false hw,Bool.false_and]
  refine ACallsX.of_body hT Tryz.func58 rfl (by kernel_rfl) rfl ?_
  (repeat (refine stq ?_))
  refine sdq ?_
  refine DG_next (D_call rfl rfl rfl rfl rfl k65) ?_
  iterate 2 (refine sdq ?_)
  refine DG_cmp hT rfl (fun hg=>?_) (fun hg=>?_)
  all_goals (try (exfalso; omega))
  (repeat (refine sdq ?_))
  refine DG_end hM (by kernel_rfl) ?_
  (repeat (refine stq ?_))
  refine ⟨_,mkSt [(0,.pv (.bool false))] [(0,dayO h l)] 1,rfl,?_,rfl⟩
  (refine Le.mk ?_ ?_; all_goals (repeat' (first|exact trivial|refine sle ?_|refine ⟨?_,rfl,?_⟩|refine ⟨?_,by decide,rfl,?_⟩|fail)))
end Go.Abs
namespace Go.Abs
open Go.Proofs
set_option maxRecDepth 100000
abbrev eK1 (ks:List Int):List PV:=ks.map vi
abbrev zero7:List FV:=[.pv (vi 0),.nils,.nils,.nils,.nils,.nils,.pv .nilMap]
abbrev dyO (h:SHouse) (l:Nat) (av:Nat -> Value) (q:Nat) (tk:List (List Int)):List (Nat × AObj):=[(0,.box ((eHouseC h).map FV.pv)),(1,.box zero7),(2,dustO (keysL h) (dustF h) l q),(3,.box ((eHouseC h).map FV.pv ++ [.arr 4,.pv (rawM l)])),(4,.arr 213 3 (tk.map eK1)),
 (5,.anc (av 1) (.box 0 0)),(6,.anc (av 2) (.box 1 0)),(7,.anc (av 3) (.box 3 0))]
set_option maxHeartbeats 8000000 in
theorem t54 (h:SHouse) (hh:HouseP h) (hK:KeysP (keysL h)):ACallsX Tryz.prog 54 [.pv (eHouse h)] [] 0 (fun sf=>∃ l,sf = mkSt [(0,.agg ((eDayC h (keysL h) l).map FV.pv))] [(0,dayO h l)] 1) (fun _ _=>False):= by
 have k126:=t126 h
 have hit:=it184 h hh
 have hkl:(keysL h).length <= 100000:= by
  have sl:=hh.sl; have h4:=hh.h4; have r2:=hh.r2; have f4:=hh.f4
  rw [keysL,List.length_map,fails_len]
  have h1:h.fans.length * h.sets.length <= 4 * 4:=Nat.mul_le_mul f4 (by omega)
  have h2:h.rooms.length * h.sets.length <= 2 * 4:=Nat.mul_le_mul (by omega) (by omega)
  omega
 refine ACallsX.of_body hT Tryz.func54 rfl (by kernel_rfl) rfl ?_
 (repeat (refine stq ?_))
 refine AL_doS rfl (op_makeDust (keysL h) (dustF h) rfl rfl) ?_
 rintro s' ⟨l,rfl⟩
 (repeat' (first|refine stq ?_|(refine AL_do2 rfl ?_; first|refine ⟨_,op_call1 rfl rfl rfl rfl (k126),nrmA rfl ?_⟩)|(with_reducible refine AL_id ?_); (fail_if_success (refine glq rfl rfl rfl ?_)); first|refine AL_gdec rfl rfl rfl (fun hg=>?_) (fun hg=>?_)|refine AL_gnot rfl rfl rfl (fun hg=>?_) (fun hg=>?_)|refine AL_gcases rfl rfl rfl (fun hg=>?_) (fun hg=>?_)))
 refine AW_nilBox (b:=3) (i:=5) (e:=213) (sz:=3) rfl rfl ?_
 refine AW_range (gf:=184) (caps:=[.ptr (eHouseC h)]) (L:=(failsL h).map eF1) [1,2,3] [(1,.box 0 0),(2,.box 1 0),(3,.box 3 0)]
  (fun av k (_:Unit)=>dyO h l av ((keysL h).length - k) ((keysL h).take k)) (fun _ _=>True) 8 [5,6,7] () trivial ?_ hit ?_ ?_ ?_ ?_ ?_ ?_
 ·rfl
 ·intro p hp
  simp only [List.mem_cons,List.not_mem_nil,or_false] at hp; rcases hp with rfl <;> rfl
 ·intro x hx
  obtain ⟨y,_,rfl⟩:=List.mem_map.1 hx; rfl
 ·intro av j i
  ((repeat' (first|exact trivial|refine And.intro ?_ ?_)); all_goals (first|rfl|decide))
 ·intro av
  (refine Le.mk ?_ ?_; all_goals (repeat' (first|exact trivial|refine sle ?_|refine ⟨?_,rfl,?_⟩|refine ⟨?_,by decide,rfl,?_⟩|fail)))
 ·intro av k _ x _ hx
  obtain ⟨f,hf,rfl⟩:∃ f,(failsL h)[k]? = some f /\ eF1 f = x:= by
   rw [List.getElem?_map,Option.map_eq_some_iff] at hx; exact hx
  have hk':k < (keysL h).length:=by rw [keysL,List.length_map]; exact (List.getElem?_eq_some_iff.1 hf).1
  have hks:(keysL h)[k]? = some (toldL f):=by rw [keysL,List.getElem?_map,hf]; rfl
  have k127:=t127 f
  have k128:=t128 h hh f (fails_ok hh f (List.mem_of_getElem? hf))
  have htk:(keysL h).take (k + 1) = (keysL h).take k ++ [toldL f]:=by rw [List.take_add_one,hks]; rfl
  have htl:((keysL h).take k).length <= 100000:=by rw [List.length_take]; omega
  have hdu:FV.pv (dustF h (toldL f)) = .pv (.agg (dustP h f)):=by rw [dustF,failOf_told]
  obtain ⟨q,hq⟩:∃ q,(keysL h).length - k = q + 1:=⟨(keysL h).length - k - 1,by omega⟩
  have hq2:(keysL h).length - (k + 1) = q:=by omega
  have hks2:(keysL h)[(keysL h).length - (q + 1)]? = some (toldL f):=by rw [show (keysL h).length - (q + 1) = k by omega]; exact hks
  obtain ⟨a,b,c,habc⟩:∃ a b c,toldL f = [a,b,c]:=by cases f <;> exact ⟨_,_,_,rfl⟩
  obtain ⟨t,_,p,he,_,_⟩:=kdraws f
  have hdv:(PV.agg (dustP h f)) = dustF h (toldL f):=by rw [dustF,failOf_told]
  simp only [eFailed,he] at k128
  rw [he,habc] at k127
  rw [habc] at hks2 htk hdv
  rw [eF1,he]
  dsimp only
  rw [hq]
  generalize hgt:(keysL h).take k = tk at *
  (repeat' (first|refine stq ?_|(refine AL_do2 rfl ?_; first|refine ⟨_,op_call1 rfl rfl rfl rfl (k127),nrmA rfl ?_⟩)|(with_reducible refine AL_id ?_); (fail_if_success (refine glq rfl rfl rfl ?_)); first|refine AL_gdec rfl rfl rfl (fun hg=>?_) (fun hg=>?_)|refine AL_gnot rfl rfl rfl (fun hg=>?_) (fun hg=>?_)|refine AL_gcases rfl rfl rfl (fun hg=>?_) (fun hg=>?_)))
  (repeat (first|refine sdq ?_|refine DG_next (D_call rfl rfl rfl rfl rfl (k128)) ?_))
  refine DG_end hM (by kernel_rfl) ?_
  refine AL_do2 rfl ⟨_,op_updateDust (id:=2) (k:=q) hK (by omega) hks2 rfl rfl rfl rfl rfl rfl hdv,?_⟩
  (repeat (refine stq ?_))
  refine roundQ_intro () trivial ?_
  dsimp only
  rw [hq2,htk]
  (refine Le.mkR [(4,10)] ?_ ?_ rfl; all_goals (repeat' (first|exact trivial|refine sle ?_|refine ⟨?_,rfl,?_⟩|refine ⟨?_,by decide,rfl,?_⟩|fail)))
  rw [List.map_append]; rfl
 ·intro av _ _
  rw [show ((failsL h).map eF1).length = (keysL h).length by simp [keysL]]
  rw [List.take_length,Nat.sub_self]
  refine AW_arrBox (b:=3) 5 rfl rfl rfl rfl ?_
  (repeat (refine stq ?_))
  refine ⟨_,mkSt [(0,.agg ((eDayC h (keysL h) l).map FV.pv))] [(0,dayO h l)] 1,rfl,?_,l,rfl⟩
  (refine Le.mkR [(0,2)] ?_ ?_ rfl; all_goals (repeat' (first|exact trivial|refine sle ?_|refine ⟨?_,rfl,?_⟩|refine ⟨?_,by decide,rfl,?_⟩|fail)))
end Go.Abs
namespace Go.Abs
open Go.Proofs
open Go.RowKit
set_option maxRecDepth 100000
section
variable {P:Program} {T:Nat -> Option TyI} {nt:Nat} {s:ASt} {o:Oper} {ops:Array Oper}
def poolApp (s:ASt) (d g e sz k:Nat) (v:Value) (es ys:List (List PV)) (l:List (Value × Option (List (List PV)))):ASt:=⟨(d,some (.arr (s.nxt + 2))) :: s.env,(s.nxt + 2,some (.arr e sz (es ++ ys))) :: (g,some (.pool e sz (l.set k (v,none)))) :: s.objs,s.nxt + 3⟩
theorem op_appendPool {t e g sz d tm:Nat} (k:Nat) {x:Operand} {ti ei:TyI} {v:Value} {es ys:List (List PV)} {l:List (Value × Option (List (List PV)))} (hT:TabOK P T) (ho:o.op = .call { callee:=.builtin .append,args:=#[.tmp tm,x],argTypes:=#[t,t] }) (hd:dstB nt o.dst = true) (hdd:o.dst = some d) (hdt:Nat.beq d tm = false)
  (ht:T t = some ti) (hk:ti.kind = .slice e) (he:T e = some ei) (hpos:Nat.blt 0 ei.size = true) (hzl:Nat.beq ei.zero.length ei.size = true) (hx0:s.get tm = some (.pv (.raw v))) (hg:s.obj g = some (.pool e sz l)) (hkk:l[k]? = some (v,some es)) (hsz:Nat.beq sz ei.size = true)
  (hy:s.srcS x = some ys) (hxt:x ≠ .tmp tm) (hyl:∀ y ∈ ys,y.length = sz) (hmax:es.length + ys.length <= 1099511627776) (hby:Nat.ble ei.bytes 128 = true) :
  OpTo P nt o s (poolApp s d g e sz k v es ys l):= by
 have hdt':d ≠ tm:=fun h=>by subst h; simp at hdt
 intro ro W0 D0 D φ a w hI K Q hK
 have hgn:=(hI.objs g _ hg).1
 obtain ⟨φ1,hI1⟩:=hI.poolOut hx0 hg hkk
 generalize hs1:(((s.setObj g (some (.pool e sz (l.set k (v,none))))).newObj (.arr e sz es)).newObj (.anc v (.arr s.nxt))).put tm (some (.arr s.nxt)) = s1 at hI1
 have hn1:s1.nxt = s.nxt + 2:=by rw [<- hs1]; rfl
 have henv1:s1.env = (tm,some (.arr s.nxt)) :: s.env:=by rw [<- hs1]; rfl
 have hobj1:s1.objs = (s.nxt + 1,some (.anc v (.arr s.nxt))) :: (s.nxt,some (.arr e sz es)) :: (g,some (.pool e sz (l.set k (v,none)))) :: s.objs:=by rw [<- hs1]; rfl
 have hev:s1.ev (.tmp tm) = some (.arr s.nxt):= by
  show look s1.env tm = _
  rw [henv1,look_cons_eq]
 have hevx:s1.ev x = s.ev x:= by
  cases x with
  | tmp t' =>
   show look s1.env t' = look s.env t'
   rw [henv1,look_cons_ne _ _ (fun h=>hxt (by rw [h]))]
  | _=>rfl
 have hsrc:s1.srcOf x = some ys:=srcS_src (by unfold ASt.srcS; rw [hevx]; exact hy)
 refine op_append (s:=s1) (id:=s.nxt) (es:=es) hT ho hd ht hk he hpos hzl hev (by show look s1.objs s.nxt = _; rw [hobj1,look_cons_ne _ _ (by omega),look_cons_eq]) hsz hsrc hyl hmax hby ro W0 D0 D φ1 a w hI1 K Q fun D' φ' a' w' hI'=>?_
 rw [hdd] at hI'
 generalize hS:((s1.setObj s.nxt none).newObj (.arr e sz (es ++ ys))).putO (some d) (some (.arr s1.nxt)) = S at hI'
 have hSe:S.env = (d,some (.arr (s.nxt + 2))) :: s1.env:=by rw [<- hS,<- hn1]; rfl
 have hSo:S.objs = (s.nxt + 2,some (.arr e sz (es ++ ys))) :: (s.nxt,none) :: s1.objs:=by rw [<- hS,<- hn1]; rfl
 have hSn:S.nxt = s.nxt + 3:=by rw [<- hS]; show s1.nxt + 1 = _; omega
 have hanc:S.obj (s.nxt + 1) = some (.anc v (.arr s.nxt)):= by
  show look S.objs (s.nxt + 1) = _
  rw [hSo,look_cons_ne _ _ (by omega),look_cons_ne _ _ (by omega),hobj1,look_cons_eq]
 have hav:FRep w' D' φ' v (.arr s.nxt):=(hI'.objs _ _ hanc).2.2
 have hSt:S.get tm = some (.arr s.nxt):= by
  show look S.env tm = _
  rw [hSe,look_cons_ne _ _ hdt',henv1,look_cons_eq]
 have hI2:=hI'.reread (y:=.pv (.raw v)) hSt fun u _ hu=>⟨rfl,by
  cases hu with
  | arr _ n c a h1 =>
   have hv:v = .slice a n c:= by
    cases hav with
    | arr _ n' c' a' h2=>rw [h1] at h2; exact h2.symm
   rw [hv]
   exact .pv _ _ (.raw _ rfl)⟩
 refine hK D' φ' a' w' (hI2.weaken ?_ ?_ ?_ ?_)
 ·intro t' x' hx'
  have hx':look ((d,some (.arr (s.nxt + 2))) :: s.env) t' = some x':=hx'
  rw [ASt.get_put]
  by_cases h1:tm = t'
  ·subst h1
   rw [look_cons_ne _ _ hdt'] at hx'
   rw [if_pos rfl]
   exact hx0.symm.trans hx'
  ·rw [if_neg h1]
   show look S.env t' = _
   rw [hSe]
   by_cases h2:d = t'
   ·subst h2; rw [look_cons_eq] at hx' ⊢; exact hx'
   ·rw [look_cons_ne _ _ h2] at hx' ⊢
    rw [henv1,look_cons_ne _ _ h1]; exact hx'
 ·intro id ob ho'
  have ho':look ((s.nxt + 2,some (.arr e sz (es ++ ys))) :: (g,some (.pool e sz (l.set k (v,none)))) :: s.objs) id = some ob:=ho'
  show look S.objs id = _
  rw [hSo]
  by_cases h1:s.nxt + 2 = id
  ·subst h1; rw [look_cons_eq] at ho' ⊢; exact ho'
  ·rw [look_cons_ne _ _ h1] at ho' ⊢
   have hlt:id < s.nxt:= by
    by_cases h2:g = id
    ·omega
    ·rw [look_cons_ne _ _ h2] at ho'
     exact (hI.objs id ob ho').1
   rw [look_cons_ne _ _ (by omega),hobj1,look_cons_ne _ _ (by omega),look_cons_ne _ _ (by omega)]
   exact ho'
 ·intro t' x' hx'
  have hx':look ((d,some (.arr (s.nxt + 2))) :: s.env) t' = some x':=hx'
  by_cases h2:d = t'
  ·subst h2; rw [look_cons_eq] at hx'; cases hx'; simp [FV.lt,poolApp]
  ·rw [look_cons_ne _ _ h2] at hx'
   exact FV.lt_mono (by show s.nxt <= s.nxt + 3; omega) x' (hI.env t' x' hx').1
 ·intro id ob ho'
  have ho':look ((s.nxt + 2,some (.arr e sz (es ++ ys))) :: (g,some (.pool e sz (l.set k (v,none)))) :: s.objs) id = some ob:=ho'
  by_cases h1:s.nxt + 2 = id
  ·subst h1; rw [look_cons_eq] at ho'; cases ho'; exact ⟨by show s.nxt + 2 < s.nxt + 3; omega,rfl⟩
  ·rw [look_cons_ne _ _ h1] at ho'
   by_cases h2:g = id
   ·subst h2; rw [look_cons_eq] at ho'; cases ho'; exact ⟨by show g < s.nxt + 3; omega,rfl⟩
   ·rw [look_cons_ne _ _ h2] at ho'
    obtain ⟨q1,q2,_⟩:=hI.objs id ob ho'
    exact ⟨by show id < s.nxt + 3; omega,AObj.lt_mono (by show s.nxt <= s.nxt + 3; omega) ob q2⟩
theorem D_appendPool {t e g sz d tm:Nat} (k:Nat) {x:Operand} {ti ei:TyI} {v:Value} {es ys:List (List PV)} {l:List (Value × Option (List (List PV)))} (hT:TabOK P T) (hgu:guardT ops s o = true) (ho:o.op = .call { callee:=.builtin .append,args:=#[.tmp tm,x],argTypes:=#[t,t] }) (hd:dstB nt o.dst = true) (hdd:o.dst = some d) (hdt:Nat.beq d tm = false)
  (ht:T t = some ti) (hk:ti.kind = .slice e) (he:T e = some ei) (hpos:Nat.blt 0 ei.size = true) (hzl:Nat.beq ei.zero.length ei.size = true) (hx0:s.get tm = some (.pv (.raw v))) (hg:s.obj g = some (.pool e sz l)) (hgn:g < s.nxt) (hkk:l[k]? = some (v,some es)) (hsz:Nat.beq sz ei.size = true)
  (hy:s.srcS x = some ys) (hxt:x ≠ .tmp tm) (hyl:∀ y ∈ ys,y.length = sz) (hmax:es.length + ys.length <= 1099511627776) (hby:Nat.ble ei.bytes 128 = true) :
  StepOK P nt ops o s ⟨some (.arr (s.nxt + 2)),true,[],[g]⟩ (poolApp s d g e sz k v es ys l):= by
 refine StepOK.mkE hgu (by rw [hdd]; rfl) (by show s.nxt <= s.nxt + 3; omega) (fun id hid hm=>?_) fun fr s1 s2 h1 h2 h3 h4 h5 h6 h7=>?_
 ·show look ((s.nxt + 2,some (.arr e sz (es ++ ys))) :: (g,some (.pool e sz (l.set k (v,none)))) :: s.objs) id = look s.objs id
  rw [look_cons_ne _ _ (by omega),look_cons_ne _ _ (fun h=>hm (by simp [h]))]
 ·have hgf:g ∉ fr:=fun hf=>(h3 g hf).2 (by simp)
  have hg1:s1.obj g = some (.pool e sz l):=by rw [h4 g hgf]; exact hg
  have e0:s1.get tm = s.get tm:=h1 tm (by simp [ho,Op.operands,Call.operands,opTmps])
  have hys:s1.srcS x = some ys:=by unfold ASt.srcS; rw [ev_agree h1 (by simp [ho,Op.operands,Call.operands])]; exact hy
  have h8:=op_appendPool (s:=s1) k hT ho hd hdd hdt ht hk he hpos hzl (by rw [e0]; exact hx0) hg1 hkk hsz hys hxt hyl hmax hby
  refine h8.ext (fun t'=>?_) (fun id=>?_) ?_
  ·show look s2.env t' = look ((d,some (.arr (s1.nxt + 2))) :: s1.env) t'
   rw [h5,hdd,h2]; rfl
  ·rw [h7]
   show _ = look ((s1.nxt + 2,some (.arr e sz (es ++ ys))) :: (g,some (.pool e sz (l.set k (v,none)))) :: s1.objs) id
   rw [h2]
   by_cases hid:id ∈ fr
   ·rw [if_pos hid,look_cons_ne _ _ (by have:=(h3 id hid).1; omega),look_cons_ne _ _ (fun h=>hgf (by rw [h]; exact hid))]; rfl
   ·rw [if_neg hid]
    show look ((s.nxt + 2,some (.arr e sz (es ++ ys))) :: (g,some (.pool e sz (l.set k (v,none)))) :: s.objs) id = _
    by_cases q1:s.nxt + 2 = id
    ·subst q1; rw [look_cons_eq,look_cons_eq]
    ·rw [look_cons_ne _ _ q1,look_cons_ne _ _ q1]
     by_cases q2:g = id
     ·subst q2; rw [look_cons_eq,look_cons_eq]
     ·rw [look_cons_ne _ _ q2,look_cons_ne _ _ q2]
      exact (h4 id hid).symm
  ·rw [h6]; show s.nxt + 3 = s1.nxt + 3; rw [h2]
end
end Go.Abs
namespace Go.Abs
open Go.Proofs
open Go.RowKit
set_option maxRecDepth 100000
abbrev nilV:PV:=.raw (.slice none 0 0)
section
variable {P:Program} {T:Nat -> Option TyI} {nt:Nat} {s:ASt} {o:Oper} {ops:Array Oper}
theorem op_makeSliceNil {t e n:Nat} {x y:Operand} {ti ei:TyI} {k k':IntKind} (hT:TabOK P T) (ho:o.op = .makeSlice t x y) (hd:dstB nt o.dst = true) (ht:T t = some ti) (hk:ti.kind = .slice e) (he:T e = some ei)
  (hs1:ei.size = 1) (hz:ei.zero = [.nils]) (hx:s.ev x = some (.pv (.int k (n:Int)))) (hy:s.ev y = some (.pv (.int k' (n:Int)))) (hmax:n <= 1099511627776) (hby:Nat.ble ei.bytes 128 = true) :
  OpTo P nt o s ((s.newObj (.arr e ei.size (List.replicate n [nilV]))).putO o.dst (some (.arr s.nxt))):= by
 intro ro W0 D0 D φ a w hI K Q hK
 have hund:=(hT.ty ht).slice hk
 obtain ⟨info,z,i1,i2,i3,i4,i5⟩:=(hT.ty he).info
 have hzl':[nilV].length = ei.size:=hs1.symm
 have hby':=Nat.le_of_ble_eq_true hby
 have hbytes:(info.bytes:Int) * (n:Int) <= 281474976710656:= by
  have:info.bytes * n <= 128 * 1099511627776:=by rw [i3]; exact Nat.mul_le_mul hby' hmax
  have h2:((info.bytes * n:Nat):Int) <= 281474976710656:=by omega
  rwa [Int.natCast_mul] at h2
 have hr:=run_make (P:=P) w t e info z hund i1 i4 k k' n n (by omega) (Int.le_refl _) hbytes (by omega)
 simp only [Int.toNat_natCast] at hr
 have hrun:(execOp a.eval o).run P w = .ok (.value (.slice (some ⟨w.heap.size,0,none⟩) n n)) (w.alloc (.cells (madeCells z.cells (n * info.size)) e)):= by
  simp only [execOp,ho,hI.ev_int hx,hI.ev_int hy,Sem.run_bind,hr,Result.andThen_ok,Sem.run_pure]
 refine wpIn_of (by rw [ho]; intro c hc; cases hc) ?_
 unfold Oper.wp
 rw [hrun]
 obtain ⟨z1,z2,z3⟩:=zrepL_ok i5
 have hzc:z.cells.size = ei.size:=by simp [hz] at z1; omega
 have hN:=new_arr hI (madeCells z.cells (n * info.size)) e ei.size (List.replicate n [nilV]) (by rw [size_madeCells]; simp [i2]) (by simp only [maxLen,List.length_replicate]; omega) ⟨fun i el hi=>by
   have:=List.getElem?_replicate (a:=[nilV]) (n:=n) (i:=i)
   rw [this] at hi; split at hi <;> cases hi; exact hzl',fun i j el p hi hp=>by
   have:=List.getElem?_replicate (a:=[nilV]) (n:=n) (i:=i)
   rw [this] at hi
   split at hi <;> cases hi
   rename_i hin
   have hj:j < ei.size:=by rw [<- hzl']; exact (List.getElem?_eq_some_iff.1 hp).1
   have hjz:j < z.cells.size:=by omega
   have hj0:j = 0:=by omega
   subst hj0
   have hp':p = nilV:=by simpa using hp.symm
   subst hp'
   have hzp:ei.zero[0]? = some .nils:=by rw [hz]; rfl
   obtain ⟨l1,l2⟩:=z3 0 z.cells[0] .nils (by simp [hjz]) hzp
   refine ⟨rfl,z.cells[0],?_,by rw [inv_nils (l2 w D φ)]; exact .raw _ rfl⟩
   have hlt:i * ei.size + 0 < n * info.size:= by
    rw [i2]
    have h2:=Nat.mul_le_mul_right ei.size (show i + 1 <= n by omega)
    rw [Nat.add_mul] at h2; omega
   have hmod:(i * ei.size + 0) % z.cells.size = 0:= by
    rw [hzc,Nat.mul_comm,Nat.mul_add_mod]; exact Nat.mod_eq_of_lt hj
   rw [Nat.add_zero] at hlt hmod
   simp [madeCells,hlt,hmod,hjz]⟩
 have hl:(List.replicate n [nilV]).length = n:=by simp
 rw [hl] at hN
 refine hK D _ _ _ (hN.put o.dst (dstB_lt hd) _ _ fun x' hx'=>?_)
 cases hx'
 exact ⟨by simp [FV.lt,ASt.newObj],.arr _ _ _ _ (addH_new _ _ _)⟩
theorem Inv.poolN {W0:World} {D0:Bas} {D:Nat -> Prop} {φ:Nat -> Value} {a:Act} {w:World} (hI:Inv W0 D0 nt s D φ a w) (e sz n:Nat):Inv W0 D0 nt (s.newObj (.pool e sz (List.replicate n (.slice none 0 0,some [])))) D (addH φ s.nxt (.bool false)) a w:= by
 refine hI.chg s.nxt (fun _=>False) (Below.refl _ _) (fun _ _ _=>rfl) (fun _ h=>h) (fun b hb=>.inl hb) (fun id hid=>addH_old φ _ hid) (Nat.le_succ _) (fun t x hx=>hx) ?_ ?_
 ·intro id ob2 hne ho
  rw [ASt.obj_newObj,if_neg (fun e=>hne e.symm)] at ho
  exact ⟨fun hf=>hf,ho⟩
 ·intro ob2 ho
  rw [ASt.obj_newObj,if_pos rfl] at ho
  cases ho
  have key:∀ v es,(v,some es) ∈ List.replicate n ((.slice none 0 0:Value),(some []:Option (List (List PV)))) -> v = .slice none 0 0 /\ es = []:=fun v es h=>by
   have:=List.eq_of_mem_replicate h
   cases this; exact ⟨rfl,rfl⟩
  refine ⟨Nat.lt_succ_self _,rfl,⟨addH_new _ _ _,fun v es h=>?_,fun i j v u es fs b h1 h2 h3 h4=>?_⟩,fun b hb=>?_⟩
  ·obtain ⟨rfl,rfl⟩:=key v es h
   exact ⟨[],World.ownsRow_nil _ _ _ _,⟨by simp,by simp⟩⟩
  ·obtain ⟨rfl,rfl⟩:=key v es (List.mem_of_getElem? h1)
   simp [blk] at h3
  ·obtain ⟨v,es,h,hb⟩:=hb
   obtain ⟨rfl,rfl⟩:=key v es h
   simp [blk] at hb
theorem AW_poolN {c:Code} {Q:Exit -> ASt -> Prop} (e sz n:Nat) (h:AW P nt c Q (s.newObj (.pool e sz (List.replicate n (.slice none 0 0,some []))))):AW P nt c Q s:=fun ro W0 D0 D φ a w hr hI=>h ro W0 D0 D _ a w hr (hI.poolN e sz n)
theorem Inv.poolSel {W0:World} {D0:Bas} {D:Nat -> Prop} {φ:Nat -> Value} {a:Act} {w:World} (hI:Inv W0 D0 nt s D φ a w) {g e sz:Nat} {l l':List (Value × Option (List (List PV)))} (hg:s.obj g = some (.pool e sz l)) (idx:Nat -> Nat) (hsel:∀ i x,l'[i]? = some x -> l[idx i]? = some x) (hinj:∀ i j,i < l'.length -> j < l'.length -> idx i = idx j -> i = j) :
  Inv W0 D0 nt (s.setObj g (some (.pool e sz l'))) D φ a w:= by
 obtain ⟨hgn,_,g0,g1,g2⟩:=hI.objs g _ hg
 have hmem:∀ x,x ∈ l' -> x ∈ l:=fun x hx=>by
  obtain ⟨i,hi⟩:=List.mem_iff_getElem?.1 hx
  exact List.mem_of_getElem? (hsel i x hi)
 refine hI.chg g (fun j=>j = g) (Below.refl _ _) (fun _ _ _=>rfl) (fun _ h=>h) (fun b hb=>.inl hb) (fun _ _=>rfl) (Nat.le_refl _) (fun t x hx=>hx) ?_ ?_
 ·intro id ob hid ho
  rw [ASt.obj_setObj,if_neg (fun e=>hid e.symm)] at ho
  exact ⟨hid,ho⟩
 ·intro ob ho
  rw [ASt.obj_setObj,if_pos rfl] at ho
  cases ho
  refine ⟨hgn,rfl,⟨g0,fun v es h=>g1 v es (hmem _ h),fun i j v u es fs b h1 h2 h3 h4=>?_⟩,fun b hb=>?_⟩
  ·exact hinj i j (List.getElem?_eq_some_iff.1 h1).1 (List.getElem?_eq_some_iff.1 h2).1 (g2 _ _ v u es fs b (hsel i _ h1) (hsel j _ h2) h3 h4)
  ·obtain ⟨v,es,h,hb⟩:=hb
   have hb2:oblk φ g (.pool e sz l) b:=⟨v,es,hmem _ h,hb⟩
   obtain ⟨q1,q2,q3⟩:=hI.own g _ b hg hb2
   exact ⟨q1,q3,.inr ⟨g,_,rfl,hg,hb2⟩⟩
theorem AL_poolSel {rest:List Oper} {Q:Exit -> ASt -> Prop} (g:Nat) {e sz:Nat} {l l':List (Value × Option (List (List PV)))} (hg:s.obj g = some (.pool e sz l)) (idx:Nat -> Nat) (hsel:∀ i x,l'[i]? = some x -> l[idx i]? = some x) (hinj:∀ i j,i < l'.length -> j < l'.length -> idx i = idx j -> i = j)
  (h:AL P nt ops rest Q (s.setObj g (some (.pool e sz l')))):AL P nt ops rest Q s:=fun ro W0 D0 D φ a w hr hI=>h ro W0 D0 D φ a w hr (hI.poolSel hg idx hsel hinj)
end
end Go.Abs
namespace Go.Abs
open Go.RowKit
def andNotR (k:IntKind) (m n:Int):Int:=k.wrap ((BitVec.ofInt k.bits m &&& ~~~BitVec.ofInt k.bits n).toNat:Int)
section
variable {P:Program} {T:Nat -> Option TyI} {nt:Nat} {s:ASt} {o:Oper} {ops:Array Oper}
theorem op_andNot {t t':TypeId} {x y:Operand} {k:IntKind} {m n:Int} (ho:o.op = .binOp .andNot t x y t') (hd:dstB nt o.dst = true)
  (hx:s.ev x = some (.pv (.int k m))) (hy:s.ev y = some (.pv (.int k n))):OpTo P nt o s (s.putO o.dst (some (.pv (.int k (andNotR k m n))))) :=
 OpTo.value hd fun W0 D0 D φ a w hI=>⟨.int k (andNotR k m n),by
  simp only [execOp,ho,hI.ev_int hx,hI.ev_int hy,eqGuard,binOp,Op.intBits,ne_eq,not_true_eq_false,if_false,Sem.run_bind,Sem.run_pure,Result.andThen_ok,Bool.not_true,Bool.not_false,Bool.false_eq_true,if_true]; rfl,fun x' h=>by cases h; exact ⟨rfl,.pv _ _ (.int _ _)⟩⟩
end
end Go.Abs
