/- The dust of a room, hour by hour. -/
import Derived.Test.YtpoaccdbakbjhaaGreatXG42
set_option linter.unusedVariables false
set_option linter.unusedSimpArgs false
namespace Go.Abs
open Go.Proofs
set_option maxRecDepth 100000
theorem kdraws (f : SFail) : ∃ t g p, eFl f = .iface t p ∧ (∀ (v : Value) (vs : Array Value) (w : World), (callMethod (.iface t v) "nacre/shift.draws" vs).run Tryz.prog w = .ok (.enter g (#[v] ++ vs)) w) ∧ ∀ x hour : Int, ACalls Tryz.prog g [p, vi x, vi hour] (fun r => r = .pv (.bool (drawsB f x hour))) := by
 cases f with
 | nothing=>exact ⟨276,245,_,rfl,by intro v vs w; kernel_rfl,fun x hour=>t245 x hour⟩
 | fan n i=>exact ⟨278,247,_,rfl,by intro v vs w; kernel_rfl,fun x hour=>t247 n i x hour⟩
 | machine n i=>exact ⟨279,249,_,rfl,by intro v vs w; kernel_rfl,fun x hour=>t249 n i x hour⟩
theorem drawn_succ {h:SHouse} {f:SFail} {x:Int} {hour k:Nat} {y:SFan} (hy:h.fans[k]? = some y):drawnL h f x hour (k + 1) = drawnL h f x hour k ++ if y.room = x /\ drawsB f k hour = true then [y.draw] else []:= by
 rw [drawnL,drawnL,List.take_add_one,List.getElem?_mapIdx,hy,List.filter_append,List.map_append]
 congr 1
 by_cases q:y.room = x
 ·cases q2:drawsB f k hour <;> simp [q,q2]
 ·simp [q]
theorem drawn_mem {h:SHouse} (hh:HouseP h) {f:SFail} {x:Int} {hour k:Nat}:∀ y ∈ drawnL h f x hour k,0 <= y /\ y <= 50:=fun y hy=>by
 rw [drawnL] at hy
 obtain ⟨p,hp,rfl⟩:=List.mem_map.1 hy
 have h1:=List.mem_of_mem_take (List.mem_filter.1 hp).1
 obtain ⟨i,hi,he⟩:=List.mem_mapIdx.1 h1
 have:=hh.fan h.fans[i] (by simp)
 rw [<- he]
 exact this.2.2
theorem drawn_len {h:SHouse} {f:SFail} {x:Int} {hour k:Nat}:(drawnL h f x hour k).length <= k:= by
 rw [drawnL,List.length_map]
 refine Nat.le_trans (List.length_filter_le _ _) ?_
 rw [List.length_take]; omega
theorem now_bd {h:SHouse} (hh:HouseP h) {f:SFail} {x c:Int} (hx:0 <= x /\ x <= 1) (hc:0 <= c /\ c <= 50):∀ i:Nat,0 <= nowF h f x c i /\ nowF h f x c i <= 50 + 50 * i
 | 0=>by
  have r2:=hh.r2
  obtain ⟨y,hy⟩:∃ y,h.rooms[x.toNat]? = some y:=⟨h.rooms[x.toNat]'(by omega),by simp⟩
  have hyb:=hh.room y (List.mem_of_getElem? hy)
  rw [nowF,startR,hy]
  simp only [Option.map_some,Option.getD_some]; omega
 | i + 1=>by
  have ih:=now_bd hh (f:=f) hx hc i
  have hs:=(sum_bdI (drawnL h f x i h.fans.length) fun y hy=>by have:=drawn_mem hh y hy; omega).1
  rw [nowF]
  split <;> omega
set_option maxHeartbeats 8000000 in
theorem t185 (h:SHouse) (hh:HouseP h) (f:SFail) (hf:failOK h f) (x:Int) (hx:roomOK x) (g:Nat) (caps:List PV) (c:Int) (hc:0 <= c /\ c <= 50) (hg:∀ y:Int,ACalls Tryz.prog g ([vi y] ++ caps) (fun r=>r = .pv (vi c))) :
  ACalls Tryz.prog 185 [eFailed h f,vi x,.fn g caps] (fun r=>r = .pv (eInts (roomM h f x c h.sets.length))):= by
 have sl:=hh.sl; have h4:=hh.h4; have r2:=hh.r2; have f4:=hh.f4
 have hx2:0 <= x /\ x <= 1:=by rcases hx with h|h <;> omega
 have hk205:∀ hour:Nat,hour < h.sets.length -> ACalls Tryz.prog 205 [eFailed h f,vi x,vi hour] (fun r=>r = .pv (.bool (runsB h f x hour))):=fun hour hi=>t205 h hh f hf x hx hour hi
 obtain ⟨t,gd,p,he,hm,hd⟩:=kdraws f
 simp only [eFailed,he] at hk205 ⊢
 obtain ⟨y0,hy0⟩:∃ y,h.rooms[x.toNat]? = some y:=⟨h.rooms[x.toNat]'(by omega),by simp⟩
 have e1:=get_map eRoom hy0
 have hn0:nowF h f x c 0 = y0.start:=by rw [nowF,startR,hy0]; rfl
 have hbd:=now_bd hh (f:=f) hx2 hc
 refine ACalls.of_body hT Tryz.func185 rfl (by kernel_rfl) rfl ?_
 (repeat (refine stq ?_))
 refine AW_own_nil (e:=3) (sz:=1) (t:=7) rfl rfl ?_
 (repeat (refine stq ?_))
 refine AW_loopC (fun i:Nat=>i <= h.sets.length) (fun i=>mkSt [(1,.pv (vi x)),(2,.pv (.fn g caps)),(3,.box 0 0),(7,.arr 1),(8,.pv (vi (nowF h f x c i))),(22,.pv (vi h.sets.length)),(23,.pv (vi i))] [(0,.box ((eHouseC h ++ [PV.iface t p]).map FV.pv)),(1,.arr 3 1 ((roomM h f x c i).map eInt))] 2) (fun i=>h.sets.length - i) 0 (Nat.zero_le _) ?_ ?_
 ·rw [hn0,sl]
  (refine Le.mk ?_ ?_; all_goals (repeat' (first|exact trivial|refine sle ?_|refine ⟨?_,rfl,?_⟩|refine ⟨?_,by decide,rfl,?_⟩|fail)))
 ·intro i hi
  have hb:=hbd i
  have hrs:=roomM_succ (h:=h) (f:=f) (x:=x) (c:=c) (k:=i)
  have hrl:(roomM h f x c i).length = i:=by simp [roomM]
  have hns:nowF h f x c (i + 1) = max 0 ((nowF h f x c i + if runsB h f x i then c else 0) - sumI (drawnL h f x i h.fans.length)):=rfl
  rw [hns] at hrs
  (repeat (refine stq ?_))
  refine AW_if rfl (fun hc=>?_) (fun hc=>?_)
  ·have hi':i < h.sets.length:=by omega
   have k205:=hk205 i hi'
   have hdl:=drawn_len (h:=h) (f:=f) (x:=x) (hour:=i) (k:=h.fans.length)
   have hdm:=drawn_mem hh (f:=f) (x:=x) (hour:=i) (k:=h.fans.length)
   have k206:=t206 (drawnL h f x i h.fans.length) (by omega) (fun y hy=>by have:=hdm y hy; omega)
   have hsb:=sum_bdI (drawnL h f x i h.fans.length) fun y hy=>by have:=hdm y hy; omega
   have hds:∀ k y,h.fans[k]? = some y -> drawnL h f x i (k + 1) = drawnL h f x i k ++ if y.room = x /\ drawsB f k i = true then [y.draw] else []:=fun k y hy=>drawn_succ hy
   have hdk:∀ k,(drawnL h f x i k).length <= k:=fun k=>drawn_len
   have hd0:drawnL h f x i 0 = []:=by simp [drawnL]
   generalize drawnL h f x i = DL at *
   generalize sumI (DL h.fans.length) = DS at *
   have hgi:=hg i
   cases q:runsB h f x i with
   | true =>
    rw [q] at k205 hrs hns
    rw [if_pos rfl] at hrs hns
    obtain ⟨nw,hnw⟩:∃ nw,nowF h f x c i + c = nw:=⟨_,rfl⟩
    rw [hnw] at hrs hns
    have hnb:0 <= nw /\ nw <= 100 + 50 * i:=by omega
    (repeat' (first|refine stq ?_|(refine AL_do2 rfl ?_; first|refine ⟨_,op_call1 rfl rfl rfl rfl (k205),nrmA rfl ?_⟩|refine ⟨_,op_call1 rfl rfl rfl rfl (hgi),nrmA rfl ?_⟩)|(with_reducible refine AL_id ?_); (fail_if_success (refine glq rfl rfl rfl ?_)); first|refine AL_gdec rfl rfl rfl (fun hg=>?_) (fun hg=>?_)|refine AL_gnot rfl rfl rfl (fun hg=>?_) (fun hg=>?_)|refine AL_gcases rfl rfl rfl (fun hg=>?_) (fun hg=>?_)))
    refine AW_own_nil (e:=3) (sz:=1) (t:=10) rfl rfl ?_
    (repeat (refine stq ?_))
    refine AW_loopC (fun k:Nat=>k <= h.fans.length) (fun k=>mkSt [(1,.pv (vi x)),(2,.pv (.fn g caps)),(3,.box 0 0),(7,.arr 1),(8,.pv (vi nw)),(22,.pv (vi h.sets.length)),(23,.pv (vi i)),(9,.pv (vi i)),(10,.arr 2),(37,.pv (.sl (h.fans.map eFan))),(38,.pv (vi h.fans.length)),(39,.pv (vi k))] [(0,.box ((eHouseC h ++ [PV.iface t p]).map FV.pv)),(1,.arr 3 1 ((roomM h f x c i).map eInt)),(2,.arr 3 1 ((DL k).map eInt))] 3) (fun k=>h.fans.length - k) 0 (Nat.zero_le _) ?_ ?_
    ·rw [hd0,<- hnw]
     (refine Le.mk ?_ ?_; all_goals (repeat' (first|exact trivial|refine sle ?_|refine ⟨?_,rfl,?_⟩|refine ⟨?_,by decide,rfl,?_⟩|fail)))
    ·intro k hk
     have hdk':=hdk k
     (repeat (refine stq ?_))
     refine AW_if rfl (fun hc2=>?_) (fun hc2=>?_)
     ·have hk':k < h.fans.length:=by omega
      obtain ⟨y,hy⟩:∃ y,h.fans[k]? = some y:=⟨h.fans[k],by simp [hk']⟩
      have e2:=get_map eFan hy
      have hs:=hds k y hy
      by_cases hyx:y.room = x
      ·have hdr:=hd k i
       cases q2:drawsB f k i with
       | true =>
        rw [q2] at hdr
        rw [if_pos ⟨hyx,q2⟩] at hs
        (repeat' (first|refine stq ?_|((first|(with_reducible refine AL_id ?_); (fail_if_success (refine glq rfl rfl rfl ?_)); first|refine AL_gdec rfl rfl rfl (fun hg=>?_) (fun hg=>?_)|refine AL_gnot rfl rfl rfl (fun hg=>?_) (fun hg=>?_)|refine AL_gcases rfl rfl rfl (fun hg=>?_) (fun hg=>?_)) <;> (try (exfalso; omega)))|refine AW_if rfl (fun hc=>absurd hc (by omega)) (fun _=>?_)|refine AW_if rfl (fun _=>?_) (fun hc=>absurd (by omega) hc)))
        all_goals (try (exfalso; omega))
        refine AL_do2 rfl ⟨_,op_invokeA rfl rfl rfl rfl hm hdr,?_⟩
        (repeat (refine stq ?_))
        refine ⟨k + 1,hk',by omega,?_⟩
        rw [hs]
        (refine Le.mkR [(2,5)] ?_ ?_ rfl; all_goals (repeat' (first|exact trivial|refine sle ?_|refine ⟨?_,rfl,?_⟩|refine ⟨?_,by decide,rfl,?_⟩|fail)))
        rw [List.map_append (f:=eInt)]; rfl
       | false =>
        rw [q2] at hdr
        rw [if_neg (fun hh=>by rw [q2] at hh; cases hh.2),List.append_nil] at hs
        (repeat' (first|refine stq ?_|((first|(with_reducible refine AL_id ?_); (fail_if_success (refine glq rfl rfl rfl ?_)); first|refine AL_gdec rfl rfl rfl (fun hg=>?_) (fun hg=>?_)|refine AL_gnot rfl rfl rfl (fun hg=>?_) (fun hg=>?_)|refine AL_gcases rfl rfl rfl (fun hg=>?_) (fun hg=>?_)) <;> (try (exfalso; omega)))|refine AW_if rfl (fun hc=>absurd hc (by omega)) (fun _=>?_)|refine AW_if rfl (fun _=>?_) (fun hc=>absurd (by omega) hc)))
        all_goals (try (exfalso; omega))
        refine AL_do2 rfl ⟨_,op_invokeA rfl rfl rfl rfl hm hdr,?_⟩
        (repeat (refine stq ?_))
        refine ⟨k + 1,hk',by omega,?_⟩
        rw [hs]
        (refine Le.mk ?_ ?_; all_goals (repeat' (first|exact trivial|refine sle ?_|refine ⟨?_,rfl,?_⟩|refine ⟨?_,by decide,rfl,?_⟩|fail)))
      ·rw [if_neg (fun hh=>hyx hh.1),List.append_nil] at hs
       (repeat' (first|refine stq ?_|((first|(with_reducible refine AL_id ?_); (fail_if_success (refine glq rfl rfl rfl ?_)); first|refine AL_gdec rfl rfl rfl (fun hg=>?_) (fun hg=>?_)|refine AL_gnot rfl rfl rfl (fun hg=>?_) (fun hg=>?_)|refine AL_gcases rfl rfl rfl (fun hg=>?_) (fun hg=>?_)) <;> (try (exfalso; omega)))|refine AW_if rfl (fun hc=>absurd hc (by omega)) (fun _=>?_)|refine AW_if rfl (fun _=>?_) (fun hc=>absurd (by omega) hc)))
       all_goals (try (exfalso; omega))
       refine ⟨k + 1,hk',by omega,?_⟩
       rw [hs]
       (refine Le.mk ?_ ?_; all_goals (repeat' (first|exact trivial|refine sle ?_|refine ⟨?_,rfl,?_⟩|refine ⟨?_,by decide,rfl,?_⟩|fail)))
     ·have hkl:k = h.fans.length:=by omega
      subst hkl
      refine AW_pure (t:=10) rfl rfl ?_
      (repeat' (first|refine stq ?_|(refine AL_do2 rfl ?_; first|refine ⟨_,op_call1 rfl rfl rfl rfl (k206),nrmA rfl ?_⟩)|(with_reducible refine AL_id ?_); (fail_if_success (refine glq rfl rfl rfl ?_)); first|refine AL_gdec rfl rfl rfl (fun hg=>?_) (fun hg=>?_)|refine AL_gnot rfl rfl rfl (fun hg=>?_) (fun hg=>?_)|refine AL_gcases rfl rfl rfl (fun hg=>?_) (fun hg=>?_)))
      refine ⟨i + 1,hi',by omega,?_⟩
      rw [hrs,hns]
      (refine Le.mkR [(1,4)] ?_ ?_ rfl; all_goals (repeat' (first|exact trivial|refine sle ?_|refine ⟨?_,rfl,?_⟩|refine ⟨?_,by decide,rfl,?_⟩|fail)))
      rw [List.map_append (f:=eInt)]; rfl
   | false =>
    rw [q] at k205 hrs hns
    rw [if_neg (by simp),Int.add_zero] at hrs hns
    obtain ⟨nw,hnw⟩:∃ nw,nowF h f x c i = nw:=⟨_,rfl⟩
    rw [hnw] at hrs hns
    have hnb:0 <= nw /\ nw <= 100 + 50 * i:=by omega
    (repeat' (first|refine stq ?_|(refine AL_do2 rfl ?_; first|refine ⟨_,op_call1 rfl rfl rfl rfl (k205),nrmA rfl ?_⟩)|(with_reducible refine AL_id ?_); (fail_if_success (refine glq rfl rfl rfl ?_)); first|refine AL_gdec rfl rfl rfl (fun hg=>?_) (fun hg=>?_)|refine AL_gnot rfl rfl rfl (fun hg=>?_) (fun hg=>?_)|refine AL_gcases rfl rfl rfl (fun hg=>?_) (fun hg=>?_)))
    refine AW_own_nil (e:=3) (sz:=1) (t:=10) rfl rfl ?_
    (repeat (refine stq ?_))
    refine AW_loopC (fun k:Nat=>k <= h.fans.length) (fun k=>mkSt [(1,.pv (vi x)),(2,.pv (.fn g caps)),(3,.box 0 0),(7,.arr 1),(8,.pv (vi nw)),(22,.pv (vi h.sets.length)),(23,.pv (vi i)),(9,.pv (vi i)),(10,.arr 2),(37,.pv (.sl (h.fans.map eFan))),(38,.pv (vi h.fans.length)),(39,.pv (vi k))] [(0,.box ((eHouseC h ++ [PV.iface t p]).map FV.pv)),(1,.arr 3 1 ((roomM h f x c i).map eInt)),(2,.arr 3 1 ((DL k).map eInt))] 3) (fun k=>h.fans.length - k) 0 (Nat.zero_le _) ?_ ?_
    ·rw [hd0,<- hnw]
     (refine Le.mk ?_ ?_; all_goals (repeat' (first|exact trivial|refine sle ?_|refine ⟨?_,rfl,?_⟩|refine ⟨?_,by decide,rfl,?_⟩|fail)))
    ·intro k hk
     have hdk':=hdk k
     (repeat (refine stq ?_))
     refine AW_if rfl (fun hc2=>?_) (fun hc2=>?_)
     ·have hk':k < h.fans.length:=by omega
      obtain ⟨y,hy⟩:∃ y,h.fans[k]? = some y:=⟨h.fans[k],by simp [hk']⟩
      have e2:=get_map eFan hy
      have hs:=hds k y hy
      by_cases hyx:y.room = x
      ·have hdr:=hd k i
       cases q2:drawsB f k i with
       | true =>
        rw [q2] at hdr
        rw [if_pos ⟨hyx,q2⟩] at hs
        (repeat' (first|refine stq ?_|((first|(with_reducible refine AL_id ?_); (fail_if_success (refine glq rfl rfl rfl ?_)); first|refine AL_gdec rfl rfl rfl (fun hg=>?_) (fun hg=>?_)|refine AL_gnot rfl rfl rfl (fun hg=>?_) (fun hg=>?_)|refine AL_gcases rfl rfl rfl (fun hg=>?_) (fun hg=>?_)) <;> (try (exfalso; omega)))|refine AW_if rfl (fun hc=>absurd hc (by omega)) (fun _=>?_)|refine AW_if rfl (fun _=>?_) (fun hc=>absurd (by omega) hc)))
        all_goals (try (exfalso; omega))
        refine AL_do2 rfl ⟨_,op_invokeA rfl rfl rfl rfl hm hdr,?_⟩
        (repeat (refine stq ?_))
        refine ⟨k + 1,hk',by omega,?_⟩
        rw [hs]
        (refine Le.mkR [(2,5)] ?_ ?_ rfl; all_goals (repeat' (first|exact trivial|refine sle ?_|refine ⟨?_,rfl,?_⟩|refine ⟨?_,by decide,rfl,?_⟩|fail)))
        rw [List.map_append (f:=eInt)]; rfl
       | false =>
        rw [q2] at hdr
        rw [if_neg (fun hh=>by rw [q2] at hh; cases hh.2),List.append_nil] at hs
        (repeat' (first|refine stq ?_|((first|(with_reducible refine AL_id ?_); (fail_if_success (refine glq rfl rfl rfl ?_)); first|refine AL_gdec rfl rfl rfl (fun hg=>?_) (fun hg=>?_)|refine AL_gnot rfl rfl rfl (fun hg=>?_) (fun hg=>?_)|refine AL_gcases rfl rfl rfl (fun hg=>?_) (fun hg=>?_)) <;> (try (exfalso; omega)))|refine AW_if rfl (fun hc=>absurd hc (by omega)) (fun _=>?_)|refine AW_if rfl (fun _=>?_) (fun hc=>absurd (by omega) hc)))
        all_goals (try (exfalso; omega))
        refine AL_do2 rfl ⟨_,op_invokeA rfl rfl rfl rfl hm hdr,?_⟩
        (repeat (refine stq ?_))
        refine ⟨k + 1,hk',by omega,?_⟩
        rw [hs]
        (refine Le.mk ?_ ?_; all_goals (repeat' (first|exact trivial|refine sle ?_|refine ⟨?_,rfl,?_⟩|refine ⟨?_,by decide,rfl,?_⟩|fail)))
      ·rw [if_neg (fun hh=>hyx hh.1),List.append_nil] at hs
       (repeat' (first|refine stq ?_|((first|(with_reducible refine AL_id ?_); (fail_if_success (refine glq rfl rfl rfl ?_)); first|refine AL_gdec rfl rfl rfl (fun hg=>?_) (fun hg=>?_)|refine AL_gnot rfl rfl rfl (fun hg=>?_) (fun hg=>?_)|refine AL_gcases rfl rfl rfl (fun hg=>?_) (fun hg=>?_)) <;> (try (exfalso; omega)))|refine AW_if rfl (fun hc=>absurd hc (by omega)) (fun _=>?_)|refine AW_if rfl (fun _=>?_) (fun hc=>absurd (by omega) hc)))
       all_goals (try (exfalso; omega))
       refine ⟨k + 1,hk',by omega,?_⟩
       rw [hs]
       (refine Le.mk ?_ ?_; all_goals (repeat' (first|exact trivial|refine sle ?_|refine ⟨?_,rfl,?_⟩|refine ⟨?_,by decide,rfl,?_⟩|fail)))
     ·have hkl:k = h.fans.length:=by omega
      subst hkl
      refine AW_pure (t:=10) rfl rfl ?_
      (repeat' (first|refine stq ?_|(refine AL_do2 rfl ?_; first|refine ⟨_,op_call1 rfl rfl rfl rfl (k206),nrmA rfl ?_⟩)|(with_reducible refine AL_id ?_); (fail_if_success (refine glq rfl rfl rfl ?_)); first|refine AL_gdec rfl rfl rfl (fun hg=>?_) (fun hg=>?_)|refine AL_gnot rfl rfl rfl (fun hg=>?_) (fun hg=>?_)|refine AL_gcases rfl rfl rfl (fun hg=>?_) (fun hg=>?_)))
      refine ⟨i + 1,hi',by omega,?_⟩
      rw [hrs,hns]
      (refine Le.mkR [(1,4)] ?_ ?_ rfl; all_goals (repeat' (first|exact trivial|refine sle ?_|refine ⟨?_,rfl,?_⟩|refine ⟨?_,by decide,rfl,?_⟩|fail)))
      rw [List.map_append (f:=eInt)]; rfl
  ·have hil:i = h.sets.length:=by omega
   subst hil
   refine AW_pure (t:=7) rfl rfl ?_
   (repeat (refine stq ?_))
   exact ⟨_,_,rfl,rfl,rfl⟩
end Go.Abs
