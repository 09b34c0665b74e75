/- The dust of a house, if something fails. -/
import Derived.Test.YtpoaccdbakbjhaaGreatXG43
import Derived.Test.YtpoaccdbakbjhaaGreatXG38
import Derived.WideKeyRuns
set_option linter.unusedVariables false
set_option linter.unusedSimpArgs false
namespace Go.Abs
open Go.Proofs
set_option maxRecDepth 100000
def leastL (h:SHouse) (f:SFail):List (List Int):=h.rooms.mapIdx fun i r=>roomM h f i r.low h.sets.length
def mostL (h:SHouse) (f:SFail):List (List Int):=h.rooms.mapIdx fun i r=>roomM h f i r.high h.sets.length
theorem idx_succ {α β:Type} {l:List α} {f:Nat -> α -> β} {k:Nat} {x:α} (h:l[k]? = some x):(l.mapIdx f).take (k + 1) = (l.mapIdx f).take k ++ [f k x]:= by
 rw [List.take_add_one,List.getElem?_mapIdx,h]; rfl
def dustP (h:SHouse) (f:SFail):List PV:=[eLists (leastL h f),eLists (mostL h f)]
abbrev eL1 (x:List Int):List PV:=[eInts x]
set_option maxHeartbeats 8000000 in
theorem t128 (h:SHouse) (hh:HouseP h) (f:SFail) (hf:failOK h f):ACalls Tryz.prog 128 [eFailed h f] (fun r=>r = .pv (.agg (dustP h f))):= by
 have sl:=hh.sl; have h4:=hh.h4; have r2:=hh.r2
 have k185:∀ (k:Nat) (g:Nat) (caps:List PV) (c:Int),k < 2 -> 0 <= c /\ c <= 50 -> (∀ y:Int,ACalls Tryz.prog g ([vi y] ++ caps) (fun r=>r = .pv (vi c))) -> ACalls Tryz.prog 185 [eFailed h f,vi k,.fn g caps] (fun r=>r = .pv (eInts (roomM h f k c h.sets.length))):=fun k g caps c hk hc hg=>t185 h hh f hf k (by unfold roomOK; omega) g caps c hc hg
 obtain ⟨t,gd,p,he,hm,hd⟩:=kdraws f
 have hl1:∀ k x,h.rooms[k]? = some x -> (leastL h f).take (k + 1) = (leastL h f).take k ++ [roomM h f k x.low h.sets.length]:=fun k x hx=>idx_succ hx
 have hl2:∀ k x,h.rooms[k]? = some x -> (mostL h f).take (k + 1) = (mostL h f).take k ++ [roomM h f k x.high h.sets.length]:=fun k x hx=>idx_succ hx
 have n1:(leastL h f).length = 2:=by rw [leastL,List.length_mapIdx]; exact r2
 have n2:(mostL h f).length = 2:=by rw [mostL,List.length_mapIdx]; exact r2
 simp only [eFailed,he] at k185 ⊢
 rw [dustP]
 generalize leastL h f = A at *
 generalize mostL h f = B at *
 refine ACalls.of_body hT Tryz.func128 rfl (by kernel_rfl) rfl ?_
 (repeat (refine stq ?_))
 refine AW_nilBox (b:=2) (i:=0) (e:=33) (sz:=1) rfl rfl ?_
 refine AW_nilBox (b:=2) (i:=1) (e:=33) (sz:=1) rfl rfl ?_
 (repeat (refine stq ?_))
 refine AW_loopC (fun k:Nat=>k <= h.rooms.length) (fun k=>mkSt [(1,.box 0 0),(2,.box 1 0),(3,.box 2 0),(8,.pv (.sl (h.rooms.map eRoom))),(9,.pv (vi h.rooms.length)),(10,.pv (vi k))] [(0,.box ((eHouseC h ++ [PV.iface t p]).map FV.pv)),(1,.box [.nils,.nils]),(2,.box [.arr 3,.arr 4]),(3,.arr 33 1 ((A.take k).map eL1)),(4,.arr 33 1 ((B.take k).map eL1))] 5) (fun k=>h.rooms.length - k) 0 (Nat.zero_le _) ?_ ?_
 ·(refine Le.mk ?_ ?_; all_goals (repeat' (first|exact trivial|refine sle ?_|refine ⟨?_,rfl,?_⟩|refine ⟨?_,by decide,rfl,?_⟩|fail)))
 ·intro k hk
  (repeat (refine stq ?_))
  refine AW_if rfl (fun hc=>?_) (fun hc=>?_)
  ·have hk':k < h.rooms.length:=by omega
   obtain ⟨r,hr⟩:∃ x,h.rooms[k]? = some x:=⟨h.rooms[k],by simp [hk']⟩
   have e1:=get_map eRoom hr
   have hrb:=hh.room r (List.mem_of_getElem? hr)
   have k1:=k185 k 186 [.ptr (eRoom r)] r.low (by omega) (by omega) (t186 r)
   have k2:=k185 k 187 [.ptr (eRoom r)] r.high (by omega) (by omega) (t187 r)
   have hs1:=hl1 k r hr
   have hs2:=hl2 k r hr
   have hA:(A.take k).length <= 2:=by rw [List.length_take]; omega
   have hB:(B.take k).length <= 2:=by rw [List.length_take]; omega
   iterate 13 (refine stq ?_)
   refine AW_boxPtr 5 (ps:=eRoom r) rfl rfl ?_
   (repeat (refine stq ?_))
   (repeat (first|refine sdq ?_|refine DG_next (D_call rfl rfl rfl rfl rfl (k1)) ?_))
   refine DG_end hM (by kernel_rfl) ?_
   (repeat (refine stq ?_))
   (repeat (first|refine sdq ?_|refine DG_next (D_call rfl rfl rfl rfl rfl (k2)) ?_))
   refine DG_end hM (by kernel_rfl) ?_
   (repeat (refine stq ?_))
   refine ⟨k + 1,hk',by omega,?_⟩
   rw [hs1,hs2]
   (refine Le.mkR [(3,6),(4,7)] ?_ ?_ rfl; all_goals (repeat' (first|exact trivial|refine sle ?_|refine ⟨?_,rfl,?_⟩|refine ⟨?_,by decide,rfl,?_⟩|fail)))
   all_goals (rw [List.map_append (f:=eL1)]; rfl)
  ·have hkl:k = h.rooms.length:=by omega
   subst hkl
   rw [List.take_of_length_le (by omega),List.take_of_length_le (by omega)]
   refine AW_arrBox (b:=2) 0 rfl rfl rfl rfl ?_
   refine AW_arrBox (b:=2) 1 rfl rfl rfl rfl ?_
   (repeat (refine stq ?_))
   exact ⟨_,_,rfl,rfl,rfl⟩
end Go.Abs
namespace Go.Abs
open Go.Proofs
set_option maxRecDepth 100000
def gridF (N H:Nat) (c:Nat -> Nat -> SFail):List SFail:=(List.range (N * H)).map fun q=>c (q / H) (q % H)
theorem grid_len (N H:Nat) (c:Nat -> Nat -> SFail):(gridF N H c).length = N * H:=by simp [gridF]
theorem grid_get {N H:Nat} {c:Nat -> Nat -> SFail} {n i:Nat} (hn:n < N) (hi:i < H):(gridF N H c)[n * H + i]? = some (c n i):= by
 have hlt:n * H + i < N * H:= by
  have:(n + 1) * H <= N * H:=Nat.mul_le_mul_right _ hn
  rw [Nat.succ_mul] at this; omega
 have h1:(n * H + i) / H = n:=by rw [Nat.add_comm,Nat.mul_comm,Nat.add_mul_div_left _ _ (by omega),Nat.div_eq_of_lt hi]; omega
 have h2:(n * H + i) % H = i:=by rw [Nat.add_comm,Nat.mul_comm,Nat.add_mul_mod_self_left,Nat.mod_eq_of_lt hi]
 rw [gridF,List.getElem?_map,List.getElem?_range hlt]
 simp [h1,h2]
def failsL (h:SHouse):List SFail:=.nothing :: (gridF h.fans.length h.sets.length (fun n i=>.fan n i) ++ gridF h.rooms.length h.sets.length (fun n i=>.machine n i))
theorem fails_fan {h:SHouse} {n i:Nat} (hn:n < h.fans.length) (hi:i < h.sets.length):(failsL h)[1 + n * h.sets.length + i]? = some (.fan n i):= by
 have h1:n * h.sets.length + i < h.fans.length * h.sets.length:= by
  have:(n + 1) * h.sets.length <= h.fans.length * h.sets.length:=Nat.mul_le_mul_right _ hn
  rw [Nat.succ_mul] at this; omega
 rw [failsL,show 1 + n * h.sets.length + i = (n * h.sets.length + i) + 1 by omega,List.getElem?_cons_succ,List.getElem?_append_left (by rw [grid_len]; exact h1)]
 exact grid_get hn hi
theorem fails_mach {h:SHouse} {n i:Nat} (hn:n < h.rooms.length) (hi:i < h.sets.length):(failsL h)[1 + h.fans.length * h.sets.length + n * h.sets.length + i]? = some (.machine n i):= by
 rw [failsL,show 1 + h.fans.length * h.sets.length + n * h.sets.length + i = (h.fans.length * h.sets.length + (n * h.sets.length + i)) + 1 by omega,List.getElem?_cons_succ,List.getElem?_append_right (by rw [grid_len]; omega),grid_len,Nat.add_sub_cancel_left]
 exact grid_get hn hi
theorem fails_len (h:SHouse):(failsL h).length = 1 + h.fans.length * h.sets.length + h.rooms.length * h.sets.length:= by
 rw [failsL,List.length_cons,List.length_append,grid_len,grid_len]; omega
theorem fails_ok {h:SHouse} (hh:HouseP h):∀ f ∈ failsL h,failOK h f:=fun f hf=>by
 have sl:=hh.sl; have h4:=hh.h4; have r2:=hh.r2; have f4:=hh.f4; have h1:=hh.h1
 rw [failsL,List.mem_cons,List.mem_append] at hf
 rcases hf with rfl|hf|hf
 ·trivial
 ·rw [gridF] at hf
  obtain ⟨q,hq,rfl⟩:=List.mem_map.1 hf
  have h1:q < h.fans.length * h.sets.length:=by simpa using hq
  have h2:q / h.sets.length < h.fans.length:=Nat.div_lt_of_lt_mul (by rw [Nat.mul_comm]; exact h1)
  have h3:q % h.sets.length < h.sets.length:=Nat.mod_lt _ (by omega)
  generalize q / h.sets.length = a at *
  generalize q % h.sets.length = b at *
  simp only [failOK]; omega
 ·rw [gridF] at hf
  obtain ⟨q,hq,rfl⟩:=List.mem_map.1 hf
  have h1:q < h.rooms.length * h.sets.length:=by simpa using hq
  have h2:q / h.sets.length < h.rooms.length:=Nat.div_lt_of_lt_mul (by rw [Nat.mul_comm]; exact h1)
  have h3:q % h.sets.length < h.sets.length:=Nat.mod_lt _ (by omega)
  generalize q / h.sets.length = a at *
  generalize q % h.sets.length = b at *
  simp only [failOK]; omega
abbrev eF1 (f:SFail):List PV:=[eFl f]
theorem t126 (h:SHouse):ACalls Tryz.prog 126 [eHouse h] (fun r=>r = .pv (.fn 184 [.ptr (eHouseC h)])):= by
 refine ACalls.of_body hT Tryz.func126 rfl (by kernel_rfl) rfl ?_
 (repeat (refine stq ?_))
 exact ⟨_,_,rfl,rfl,rfl⟩
set_option maxHeartbeats 8000000 in
theorem it184 (h:SHouse) (hh:HouseP h):IterOK Tryz.prog 184 [.ptr (eHouseC h)] ((failsL h).map eF1):= by
 intro E B hEL hE
 have sl:=hh.sl; have h4:=hh.h4; have r2:=hh.r2; have f4:=hh.f4
 have hx0:E.L[0]? = some (eF1 .nothing):=by rw [hEL]; rfl
 have hxf:∀ n i:Nat,n < h.fans.length -> i < h.sets.length -> E.L[1 + n * h.sets.length + i]? = some (eF1 (.fan n i)):=fun n i hn hi=>by rw [hEL,List.getElem?_map,fails_fan hn hi]; rfl
 have hxm:∀ n i:Nat,n < h.rooms.length -> i < h.sets.length -> E.L[1 + h.fans.length * h.sets.length + n * h.sets.length + i]? = some (eF1 (.machine n i)):=fun n i hn hi=>by rw [hEL,List.getElem?_map,fails_mach hn hi]; rfl
 refine ACallsX.of_body hT Tryz.func184 rfl (by kernel_rfl) rfl ?_
 (repeat (refine stq ?_))
 refine AL_do2 rfl ⟨_,op_mkiface hT rfl rfl rfl rfl rfl,?_⟩
 refine AL_doS rfl (op_yield hE rfl rfl rfl rfl rfl hx0) ?_
 rintro s' ⟨B1,rfl⟩
 (repeat (refine stq ?_))
 refine AW_loopC (fun i:Nat × (Nat -> Prop)=>i.1 <= h.fans.length) (fun i=>mkSt [(0,.yld 0),(1,.pv (.ptr (eHouseC h))),(13,.pv (.sl (h.fans.map eFan))),(14,.pv (vi h.fans.length)),(15,.pv (vi i.1))] [(0,.ext E (1 + i.1 * h.sets.length) i.2)] 1) (fun i=>h.fans.length - i.1) (0,B1) (Nat.zero_le _) ?_ ?_
 ·dsimp only
  rw [Nat.zero_mul]
  (refine Le.mk ?_ ?_; all_goals (repeat' (first|exact trivial|refine sle ?_|refine ⟨?_,rfl,?_⟩|refine ⟨?_,by decide,rfl,?_⟩|fail)))
 ·rintro ⟨n,Bn⟩ hn
  simp only at hn
  dsimp only
  (repeat (refine stq ?_))
  refine AW_if rfl (fun hc=>?_) (fun hc=>?_)
  ·have hn':n < h.fans.length:=by omega
   (repeat (refine stq ?_))
   refine AW_loopC (fun i:Nat × (Nat -> Prop)=>i.1 <= h.sets.length) (fun i=>mkSt [(0,.yld 0),(1,.pv (.ptr (eHouseC h))),(13,.pv (.sl (h.fans.map eFan))),(14,.pv (vi h.fans.length)),(15,.pv (vi n)),(3,.pv (vi n)),(19,.pv (vi h.sets.length)),(20,.pv (vi i.1))] [(0,.ext E (1 + n * h.sets.length + i.1) i.2)] 1) (fun i=>h.sets.length - i.1) (0,Bn) (Nat.zero_le _) ?_ ?_
   ·rw [sl]
    (refine Le.mk ?_ ?_; all_goals (repeat' (first|exact trivial|refine sle ?_|refine ⟨?_,rfl,?_⟩|refine ⟨?_,by decide,rfl,?_⟩|fail)))
   ·rintro ⟨i,Bi⟩ hi
    simp only at hi
    dsimp only
    (repeat (refine stq ?_))
    refine AW_if rfl (fun hc2=>?_) (fun hc2=>?_)
    ·have hi':i < h.sets.length:=by omega
     have hx:=hxf n i hn' hi'
     (repeat (refine stq ?_))
     refine AL_do2 rfl ⟨_,op_mkiface hT rfl rfl rfl rfl rfl,?_⟩
     refine AL_doS rfl (op_yield hE rfl rfl rfl rfl rfl hx) ?_
     rintro s' ⟨B2,rfl⟩
     (repeat (refine stq ?_))
     refine ⟨(i + 1,B2),hi',by simp only; omega,?_⟩
     (refine Le.mk ?_ ?_; all_goals (repeat' (first|exact trivial|refine sle ?_|refine ⟨?_,rfl,?_⟩|refine ⟨?_,by decide,rfl,?_⟩|fail)))
    ·have hil:i = h.sets.length:=by omega
     subst hil
     (repeat (refine stq ?_))
     refine ⟨(n + 1,Bi),hn',by simp only; omega,?_⟩
     dsimp only
     rw [Nat.succ_mul,<- Nat.add_assoc]
     (refine Le.mk ?_ ?_; all_goals (repeat' (first|exact trivial|refine sle ?_|refine ⟨?_,rfl,?_⟩|refine ⟨?_,by decide,rfl,?_⟩|fail)))
  ·have hnl:n = h.fans.length:=by omega
   subst hnl
   (repeat (refine stq ?_))
   refine AW_loopC (fun i:Nat × (Nat -> Prop)=>i.1 <= h.rooms.length) (fun i=>mkSt [(0,.yld 0),(1,.pv (.ptr (eHouseC h))),(33,.pv (.sl (h.rooms.map eRoom))),(34,.pv (vi h.rooms.length)),(35,.pv (vi i.1))] [(0,.ext E (1 + h.fans.length * h.sets.length + i.1 * h.sets.length) i.2)] 1) (fun i=>h.rooms.length - i.1) (0,Bn) (Nat.zero_le _) ?_ ?_
   ·dsimp only
    rw [Nat.zero_mul]
    (refine Le.mk ?_ ?_; all_goals (repeat' (first|exact trivial|refine sle ?_|refine ⟨?_,rfl,?_⟩|refine ⟨?_,by decide,rfl,?_⟩|fail)))
   ·rintro ⟨n,Bn⟩ hn
    simp only at hn
    dsimp only
    (repeat (refine stq ?_))
    refine AW_if rfl (fun hc=>?_) (fun hc=>?_)
    ·have hn':n < h.rooms.length:=by omega
     (repeat (refine stq ?_))
     refine AW_loopC (fun i:Nat × (Nat -> Prop)=>i.1 <= h.sets.length) (fun i=>mkSt [(0,.yld 0),(1,.pv (.ptr (eHouseC h))),(33,.pv (.sl (h.rooms.map eRoom))),(34,.pv (vi h.rooms.length)),(35,.pv (vi n)),(5,.pv (vi n)),(39,.pv (vi h.sets.length)),(40,.pv (vi i.1))] [(0,.ext E (1 + h.fans.length * h.sets.length + n * h.sets.length + i.1) i.2)] 1) (fun i=>h.sets.length - i.1) (0,Bn) (Nat.zero_le _) ?_ ?_
     ·rw [sl]
      (refine Le.mk ?_ ?_; all_goals (repeat' (first|exact trivial|refine sle ?_|refine ⟨?_,rfl,?_⟩|refine ⟨?_,by decide,rfl,?_⟩|fail)))
     ·rintro ⟨i,Bi⟩ hi
      simp only at hi
      dsimp only
      (repeat (refine stq ?_))
      refine AW_if rfl (fun hc2=>?_) (fun hc2=>?_)
      ·have hi':i < h.sets.length:=by omega
       have hx:=hxm n i hn' hi'
       (repeat (refine stq ?_))
       refine AL_do2 rfl ⟨_,op_mkiface hT rfl rfl rfl rfl rfl,?_⟩
       refine AL_doS rfl (op_yield hE rfl rfl rfl rfl rfl hx) ?_
       rintro s' ⟨B2,rfl⟩
       (repeat (refine stq ?_))
       refine ⟨(i + 1,B2),hi',by simp only; omega,?_⟩
       (refine Le.mk ?_ ?_; all_goals (repeat' (first|exact trivial|refine sle ?_|refine ⟨?_,rfl,?_⟩|refine ⟨?_,by decide,rfl,?_⟩|fail)))
      ·have hil:i = h.sets.length:=by omega
       subst hil
       (repeat (refine stq ?_))
       refine ⟨(n + 1,Bi),hn',by simp only; omega,?_⟩
       dsimp only
       rw [Nat.succ_mul,<- Nat.add_assoc]
       (refine Le.mk ?_ ?_; all_goals (repeat' (first|exact trivial|refine sle ?_|refine ⟨?_,rfl,?_⟩|refine ⟨?_,by decide,rfl,?_⟩|fail)))
    ·have hnl:n = h.rooms.length:=by omega
     subst hnl
     (repeat (refine stq ?_))
     refine ⟨_,mkSt [] [(0,.ext E ((failsL h).map eF1).length Bn)] 1,rfl,?_,Bn,rfl⟩
     rw [List.length_map,fails_len]
     (refine Le.mk ?_ ?_; all_goals (repeat' (first|exact trivial|refine sle ?_|refine ⟨?_,rfl,?_⟩|refine ⟨?_,by decide,rfl,?_⟩|fail)))
end Go.Abs
namespace Go.Abs
open Go.Proofs
open Go.RowKit
open Go.ChangeMaps (setBlock)
set_option maxRecDepth 100000
theorem wide213:(match Tryz.prog.underlying 213 with|some (.array _ _)|some (.struct _)=>true|_=>false) = true:=by kernel_rfl
theorem check213 (em:Bool) (a b c:Int) (w:World):(Instr.checkKey em 10000 213 (intsV [a,b,c])).run Tryz.prog w = .ok () w:= by
 kernel_rfl
theorem und213:Tryz.prog.underlying 213 = some (.struct (Tryz.prog.fieldsOf 213)):=by kernel_rfl
theorem held213:Tryz.prog.stoodInHeld 213 = false:=by kernel_rfl
theorem und211:Tryz.prog.underlying 211 = some (.int .i64):=by kernel_rfl
theorem fields213 : (Tryz.prog.fieldsOf 213).toList.map (fun f => (f.name == "_", f.type, f.offset)) = [(false, 211, 0), (false, 3, 1), (false, 3, 2)] := by kernel_rfl
theorem eq213 (a b c a' b' c':Int) (w:World):(Op.equalIn 10000 213 (.agg #[.int .i64 a,.int .i64 b,.int .i64 c]) (.agg #[.int .i64 a',.int .i64 b',.int .i64 c'])).run Tryz.prog w = .ok (decide (a = a') && (decide (b = b') && decide (c = c'))) w:= by
 rw [run_equalIn_struct w 9999 213 _ _ und213 held213]
 have hf:=fields213
 generalize (Tryz.prog.fieldsOf 213).toList = fs at hf
 obtain ⟨f0,f1,f2,rfl⟩:∃ f0 f1 f2,fs = [f0,f1,f2]:= by
  have hl:=congrArg List.length hf
  rw [List.length_map] at hl
  cases fs with
  | nil=>cases hl
  | cons f0 fs=>cases fs with
   | nil=>cases hl
   | cons f1 fs=>cases fs with
    | nil=>cases hl
    | cons f2 fs=>cases fs with
     | nil=>exact ⟨f0,f1,f2,rfl⟩
     | cons f3 fs=>simp at hl
 simp only [List.map_cons,List.map_nil,List.cons.injEq,Prod.mk.injEq,and_true] at hf
 obtain ⟨⟨n0,t0,o0⟩,⟨n1,t1,o1⟩,n2,t2,o2⟩:=hf
 have a3:=(hT.ty (show T 3 = some _ from rfl)).run_agg w
 have a4:=(hT.ty (show T 211 = some _ from rfl)).run_agg w
 have e3:∀ (d:Nat) (x y:Int),(Op.equalIn (d + 1) 3 (.int .i64 x) (.int .i64 y)).run Tryz.prog w = .ok (x == y) w:=fun d x y=>run_equalIn_int w d 3 .i64 .i64 x y und3
 have e4:∀ (d:Nat) (x y:Int),(Op.equalIn (d + 1) 211 (.int .i64 x) (.int .i64 y)).run Tryz.prog w = .ok (x == y) w:=fun d x y=>run_equalIn_int w d 211 .i64 .i64 x y und211
 have m0 : f0.name ≠ "_" := by simpa using n0
 have m1 : f1.name ≠ "_" := by simpa using n1
 have m2 : f2.name ≠ "_" := by simpa using n2
 simp only [Op.eqFields,m0,m1,m2,t0,t1,t2,o0,o1,o2,ne_eq,not_false_eq_true,if_true,Sem.run_bind,Go.part,a3,a4,Result.andThen_ok]
 simp [e3,e4]
 by_cases h1:a = a' <;> by_cases h2:b = b' <;> by_cases h3:c = c' <;> simp [h1,h2,h3]
theorem eqK (x y:List Int) (hx:x.length = 3) (hy:y.length = 3) (w:World):(Op.equal 213 (intsV x) (intsV y)).run Tryz.prog w = .ok (decide (x = y)) w:= by
 obtain ⟨a,b,c,rfl⟩:∃ a b c,x = [a,b,c]:=by match x,hx with|[a,b,c],_=>exact ⟨a,b,c,rfl⟩
 obtain ⟨a',b',c',rfl⟩:∃ a b c,y = [a,b,c]:=by match y,hy with|[a,b,c],_=>exact ⟨a,b,c,rfl⟩
 refine (eq213 a b c a' b' c' w).trans ?_
 by_cases h1:a = a' <;> by_cases h2:b = b' <;> by_cases h3:c = c' <;> simp [h1,h2,h3]
theorem checkK (em:Bool) (x:List Int) (hx:x.length = 3) (w:World):(Instr.checkKey em 10000 213 (intsV x)).run Tryz.prog w = .ok () w:= by
 obtain ⟨a,b,c,rfl⟩:∃ a b c,x = [a,b,c]:=by match x,hx with|[a,b,c],_=>exact ⟨a,b,c,rfl⟩
 exact check213 em a b c w
def DustP (K:List (List Int)) (f:List Int -> PV) (k:Nat) (es:Array MapEntry) (w:World) (D:Nat -> Prop):Prop:=es.size = k /\ ∀ (i:Nat) e,es.toList[i]? = some e -> ∃ x,K[i]? = some x /\ e.key = intsV x /\ Rep w D e.val (f x)
theorem ask_none {K:List (List Int)} (h3:∀ x ∈ K,x.length = 3) {x:List Int} (hx:x.length = 3) {w:World}:∀ (l:List MapEntry) (i:Nat),(∀ e ∈ l,∃ y ∈ K,e.key = intsV y /\ y ≠ x) -> (Instr.findAsking 213 (intsV x) l i).run Tryz.prog w = .ok none w
 | [],i,_=>by simp [Instr.findAsking]
 | e :: l,i,h=>by
  obtain ⟨y,hy,hk,hne⟩:=h e (.head _)
  have he:=eqK x y hx (h3 y hy) w
  rw [decide_eq_false (fun q=>hne q.symm)] at he
  have ih:=ask_none h3 hx (w:=w) l (i + 1) fun e' h'=>h e' (.tail _ h')
  simp [Instr.findAsking,hk,Sem.run_bind,he,ih]
theorem ask_some {K:List (List Int)} (h3:∀ x ∈ K,x.length = 3) {x:List Int} (hx:x.length = 3) {w:World}:∀ (l:List MapEntry) (i j:Nat) (e:MapEntry),l[j]? = some e -> e.key = intsV x -> (∀ (m:Nat) e',m < j -> l[m]? = some e' -> ∃ y ∈ K,e'.key = intsV y /\ y ≠ x) -> (Instr.findAsking 213 (intsV x) l i).run Tryz.prog w = .ok (some (i + j,e.val)) w
 | [],i,j,e,hj,_,_=>by simp at hj
 | e0 :: l,i,0,e,hj,hk,_=>by
  have:e0 = e:=by simpa using hj
  subst this
  have he:=eqK x x hx hx w
  rw [decide_eq_true rfl] at he
  simp [Instr.findAsking,hk,Sem.run_bind,he]
 | e0 :: l,i,j + 1,e,hj,hk,h=>by
  obtain ⟨y,hy,hk0,hne⟩:=h 0 e0 (by omega) rfl
  have he:=eqK x y hx (h3 y hy) w
  rw [decide_eq_false (fun q=>hne q.symm)] at he
  have ih:=ask_some h3 hx (w:=w) l (i + 1) j e (by simpa using hj) hk fun m e' hm h'=>h (m + 1) e' (by omega) (by simpa using h')
  simp [Instr.findAsking,hk0,Sem.run_bind,he,ih]
  omega
def dustE (K:List (List Int)) (f:List Int -> PV) (l:Nat):Ext:=⟨[],l,fun k B D w=>(∀ b,B b ↔ b = l) /\ ∃ es clock,w.heap[l]? = some (.map es clock) /\ DustP K f (K.length - k) es w D⟩
abbrev dustO (K:List (List Int)) (f:List Int -> PV) (l k:Nat):AObj:=.ext (dustE K f l) k (fun b=>b = l)
theorem DustP.mono {K:List (List Int)} {f:List Int -> PV} {k:Nat} {es:Array MapEntry} {w w':World} {D D':Nat -> Prop} (h:DustP K f k es w D) (hw:∀ b,D b -> w'.heap[b]? = w.heap[b]?) (hD:∀ b,D b -> D' b):DustP K f k es w' D':=⟨h.1,fun i e he=>by
 obtain ⟨x,h1,h2,h3⟩:=h.2 i e he
 exact ⟨x,h1,h2,h3.mono hw hD⟩⟩
theorem dustE_mono (K:List (List Int)) (f:List Int -> PV) (l:Nat):(dustE K f l).Mono:=fun k B D D' w w' h hD hw hB=>by
 obtain ⟨h1,es,clock,h2,h3⟩:=h
 exact ⟨h1,es,clock,by rw [hB l ((h1 l).2 rfl)]; exact h2,h3.mono hw hD⟩
structure KeysP (K:List (List Int)):Prop where
 len:∀ x ∈ K,x.length = 3
 nd:∀ (i j:Nat) (x y:List Int),K[i]? = some x -> K[j]? = some y -> i ≠ j -> x ≠ y
section
variable {nt:Nat} {s:ASt} {o:Oper} {ops:Array Oper} {rest:List Oper}
theorem op_makeDust (K:List (List Int)) (f:List Int -> PV) {t:Nat} (ho:o.op = .makeMap t none) (hd:dstB nt o.dst = true):OpToS Tryz.prog nt o s (fun s'=>∃ l,s' = (s.newObj (dustO K f l K.length)).putO o.dst (some (.pv (rawM l)))):= by
 intro ro W0 D0 D φ a w hI KK Q hK
 have hrun:(execOp a.eval o).run Tryz.prog w = .ok (.value (.map (some w.heap.size))) (w.alloc (.map #[] 0)):= by
  simp [execOp,ho,Instr.makeMap]
 refine wpIn_of (by rw [ho]; intro c hc; cases hc) ?_
 unfold Oper.wp
 rw [hrun]
 have hbel:Below w.heap.size w (w.alloc (.map #[] 0)):=(Below.refl _ w).alloc (Nat.le_refl _) _
 have hN:Inv W0 D0 nt (s.newObj (dustO K f w.heap.size K.length)) D (addH φ s.nxt (.map (some w.heap.size))) a (w.alloc (.map #[] 0)):= by
  refine hI.chg s.nxt (fun _=>False) (hbel.mono (Nat.zero_le _)) (fun b hlt _=>hbel.block b hlt) (fun _ h=>h) (fun b h=>.inl h) (fun id hid=>addH_old φ _ hid) (Nat.le_succ _) (fun t x hx=>hx) ?_ ?_
  ·intro id ob2 hne ho
   rw [ASt.obj_newObj,if_neg (fun e=>hne e.symm)] at ho
   exact ⟨fun hf=>hf,ho⟩
  ·intro ob2 ho
   rw [ASt.obj_newObj,if_pos rfl] at ho
   cases ho
   refine ⟨Nat.lt_succ_self _,rfl,⟨dustE_mono K f _,addH_new _ _ _,rfl,fun b=>Iff.rfl,#[],0,heap_alloc_new w _,?_,fun i e he=>by simp at he⟩,fun b hb=>?_⟩
   ·rw [Nat.sub_self]; rfl
   ·have hb:b = w.heap.size:=hb
    subst hb
    exact ⟨fun h=>Nat.lt_irrefl _ (hI.dlt _ h),by simp,.inl (Nat.le_refl _)⟩
 refine hK _ D _ _ _ ⟨w.heap.size,rfl⟩ (hN.put o.dst (dstB_lt hd) _ _ fun x' hx'=>?_)
 cases hx'
 exact ⟨by simp [FV.lt,ASt.newObj],.pv _ _ (.raw _ rfl)⟩
theorem op_updateDust {K:List (List Int)} {f:List Int -> PV} {l k id:Nat} {B:Nat -> Prop} {x y z:Operand} {ks:List Int} {p:PV} (hK3:KeysP K) (hk:k + 1 <= K.length) (hks:K[K.length - (k + 1)]? = some ks) (ho:o.op = .mapUpdate 127 x y z) (hd:dstB nt o.dst = true)
  (hx:s.ev x = some (.pv (rawM l))) (hob:s.obj id = some (.ext (dustE K f l) (k + 1) B)) (hy:s.evD y = some (.agg (ks.map vi))) (hz:s.evD z = some p) (hp:p = f ks):OpTo Tryz.prog nt o s ((s.setObj id (some (.ext (dustE K f l) k B))).putO o.dst none):= by
 subst hp
 intro ro W0 D0 D φ a w hI KK Q hK
 obtain ⟨hid,_,hmono,hφ,hBl,hB,es,clock,h2,h3⟩:=hI.objs id _ hob
 have hv:a.eval x = .map (some l):=(hI.ev hx).2.inv_pv.inv_raw
 have hzr:=hI.evD hz
 have hyv:=ints_of (hI.evD hy)
 have hkl:=hK3.len ks (List.mem_of_getElem? hks)
 obtain ⟨hsz,hes⟩:=h3
 have hall:∀ e ∈ es.toList,∃ y ∈ K,e.key = intsV y /\ y ≠ ks:=fun e he=>by
  obtain ⟨i,hi⟩:=List.mem_iff_getElem?.1 he
  obtain ⟨x',g1,g2,_⟩:=hes i e hi
  have hil:i < es.size:=by have:=(List.getElem?_eq_some_iff.1 hi).1; simpa using this
  exact ⟨x',List.mem_of_getElem? g1,g2,hK3.nd _ _ _ _ g1 hks (by omega)⟩
 have hf:(Instr.findKey 213 (intsV ks) es.toList).run Tryz.prog w = .ok none w:= by
  rw [run_findKey_eq w wide213]
  exact ask_none hK3.len hkl es.toList 0 hall
 have hck:=checkK false ks hkl w
 have hset:∀ o',(setObj l o').run Tryz.prog w = .ok () (setBlock w l o'):=fun o'=>by simp [setObj,Sem.run,h2,setBlock]
 have hrun:(Instr.mapUpdate 127 (.map (some l)) (intsV ks) (a.eval z)).run Tryz.prog w = .ok () (setBlock w l (.map (es.push { key:=intsV ks,val:=a.eval z,born:=clock }) (clock + 1))):= by
  simp [Instr.mapUpdate,underlying,und127,getObj,Sem.run,h2,hck,hf,hset]
  try simp [Sem.run_bind,hck,hf,hset]
 generalize hes':es.push { key:=intsV ks,val:=a.eval z,born:=clock } = es' at *
 have hlD:∀ b,D b -> b ≠ l:=fun b hb e=>(hI.own id _ l hob hBl).1 (e ▸ hb)
 have hDs:∀ b,D b -> (setBlock w l (.map es' (clock + 1))).heap[b]? = w.heap[b]?:=fun b hb=>setBlock_other (hlD b hb)
 have hM2:DustP K f (K.length - k) es' (setBlock w l (.map es' (clock + 1))) D:= by
  subst hes'
  refine ⟨by rw [Array.size_push,hsz]; omega,fun i e he=>?_⟩
  rw [Array.toList_push] at he
  by_cases hi:i < es.toList.length
  ·rw [List.getElem?_append_left hi] at he
   obtain ⟨x',g1,g2,g3⟩:=hes i e he
   exact ⟨x',g1,g2,g3.mono hDs (fun _ h=>h)⟩
  ·rw [List.getElem?_append_right (by omega)] at he
   have h0:i - es.toList.length = 0:= by
    have:=(List.getElem?_eq_some_iff.1 he).1
    simp only [List.length_singleton] at this; omega
   rw [h0] at he
   cases he
   refine ⟨ks,?_,rfl,hzr.mono hDs (fun _ h=>h)⟩
   rw [show i = K.length - (k + 1) by simp at hi h0; omega]
   exact hks
 have hr:(execOp a.eval o).run Tryz.prog w = .ok .skip (setBlock w l (.map es' (clock + 1))) \/ ∃ v,(execOp a.eval o).run Tryz.prog w = .ok (.value v) (setBlock w l (.map es' (clock + 1))):= by
  simp only [execOp,ho,hv,hyv,Sem.run_bind,hrun,Result.andThen_ok,Sem.run_pure]
  first|exact .inl trivial|exact .inl rfl|exact .inr ⟨_,rfl⟩
 have hN:Inv W0 D0 nt (s.setObj id (some (.ext (dustE K f l) k B))) D φ a (setBlock w l (.map es' (clock + 1))):= by
  refine hI.chg id (fun j=>j = id) ⟨rfl,rfl,rfl,by simp [setBlock],fun k hk=>absurd hk (Nat.not_lt_zero _)⟩ ?_ (fun _ h=>h) (fun b' hb'=>.inl hb') (fun _ _=>rfl) (Nat.le_refl _) (fun t x hx=>hx) ?_ ?_
  ·intro b' _ hne
   exact setBlock_other (fun e=>hne id _ rfl hob (by show B b'; rw [e]; exact hBl))
  ·intro id' ob' hne ho'
   rw [ASt.obj_setObj,if_neg (fun e=>hne e.symm)] at ho'
   exact ⟨hne,ho'⟩
  ·intro ob' ho'
   rw [ASt.obj_setObj,if_pos rfl] at ho'
   cases ho'
   refine ⟨hid,rfl,⟨hmono,hφ,hBl,hB,es',clock + 1,setBlock_same h2,hM2⟩,fun b' hb'=>?_⟩
   have hb2:oblk φ id (.ext (dustE K f l) (k + 1) B) b':=hb'
   obtain ⟨g1,g2,g3⟩:=hI.own id _ b' hob hb2
   exact ⟨g1,by simpa [setBlock] using g3,.inr ⟨id,_,rfl,hob,hb2⟩⟩
 refine wpIn_of (by rw [ho]; intro c hc; cases hc) ?_
 unfold Oper.wp
 rcases hr with hr|⟨v,hr⟩
 ·rw [hr]; exact hK D φ _ _ (hN.put o.dst (dstB_lt hd) undef none (fun _ h=>by cases h))
 ·rw [hr]; exact hK D φ _ _ (hN.put o.dst (dstB_lt hd) v none (fun _ h=>by cases h))
theorem op_lookDust {K:List (List Int)} {f:List Int -> PV} {l i id:Nat} {B:Nat -> Prop} {x y:Operand} {ks:List Int} (hK3:KeysP K) (hks:K[i]? = some ks) (ho:o.op = .lookup 127 x y false) (hd:dstB nt o.dst = true)
  (hx:s.ev x = some (.pv (rawM l))) (hob:s.obj id = some (.ext (dustE K f l) 0 B)) (hy:s.evD y = some (.agg (ks.map vi))):OpTo Tryz.prog nt o s (s.putO o.dst (some (.pv (f ks)))):= by
 intro ro W0 D0 D φ a w hI KK Q hK
 obtain ⟨hid,_,hmono,hφ,hBl,hB,es,clock,h2,h3⟩:=hI.objs id _ hob
 have hv:a.eval x = .map (some l):=(hI.ev hx).2.inv_pv.inv_raw
 have hyv:=ints_of (hI.evD hy)
 have hkl:=hK3.len ks (List.mem_of_getElem? hks)
 obtain ⟨hsz,hes⟩:=h3
 have hil:i < es.toList.length:= by
  have:=(List.getElem?_eq_some_iff.1 hks).1
  simp; omega
 obtain ⟨e,he⟩:∃ e,es.toList[i]? = some e:=⟨es.toList[i],by simp⟩
 obtain ⟨x',g1,g2,g3⟩:=hes i e he
 rw [hks] at g1
 cases g1
 have hf:(Instr.findKey 213 (intsV ks) es.toList).run Tryz.prog w = .ok (some (i,e.val)) w:= by
  rw [run_findKey_eq w wide213]
  have:=ask_some hK3.len hkl (w:=w) es.toList 0 i e he g2 fun m e' hm h'=>by
   obtain ⟨x2,q1,q2,_⟩:=hes m e' h'
   exact ⟨x2,List.mem_of_getElem? q1,q2,hK3.nd _ _ _ _ q1 hks (by omega)⟩
  rw [Nat.zero_add] at this
  exact this
 have hck:=checkK es.isEmpty ks hkl w
 refine wpIn_of (by rw [ho]; intro c hc; cases hc) ?_
 unfold Oper.wp
 have hr:(execOp a.eval o).run Tryz.prog w = .ok (.value e.val) w:= by
  simp [execOp,ho,hv,hyv,Instr.lookup,underlying,und127,getObj,Sem.run,h2,hck,hf]
  try simp [Sem.run_bind,hck,hf]
 rw [hr]
 refine hK D φ _ w (hI.put o.dst (dstB_lt hd) _ _ fun x' hx'=>?_)
 cases hx'
 exact ⟨rfl,.pv _ _ g3⟩
theorem D_lookDust {K:List (List Int)} {f:List Int -> PV} {l i id:Nat} {B:Nat -> Prop} {x y:Operand} {ks:List Int} (hg:guardT ops s o = true) (hK3:KeysP K) (hks:K[i]? = some ks) (ho:o.op = .lookup 127 x y false) (hd:dstB nt o.dst = true)
  (hx:s.ev x = some (.pv (rawM l))) (hob:s.obj id = some (.ext (dustE K f l) 0 B)) (hy:s.evS y = some (.agg (ks.map vi))):StepOK Tryz.prog nt ops o s ⟨some (.pv (f ks)),false,[id],[]⟩ (s.putO o.dst (some (.pv (f ks)))) :=
 StepOK.mkP hg fun s1 h1 h2=>op_lookDust hK3 hks ho hd (by rw [ev_agree h1 (by simp [ho,Op.operands])]; exact hx) (by rw [h2 id (by simp)]; exact hob) (evS_D (by rw [evS_local h1 (by simp [ho,Op.operands])]; exact hy))
end
end Go.Abs
namespace Go.Abs
open Go.Proofs
set_option maxRecDepth 100000
def atLL (L:List (List Int)) (r:Int) (i:Nat):Int:=(((L[r.toNat]?).getD [])[i]?).getD 0
def brN (path:List Int) (L:List (List Int)):Nat -> Int
 | 0=>0
 | i + 1=>brN path L i + match path[i]? with
  | some r=>if r = -1 then 0 else atLL L r i
  | none=>0
def brI (path:List Int) (L:List (List Int)):Int:=brN path L path.length
structure RowsP (h:SHouse) (L:List (List Int)):Prop where
 len:L.length = 2
 row:∀ l ∈ L,l.length = h.sets.length /\ ∀ x ∈ l,0 <= x /\ x <= 1000
theorem br_bd {h:SHouse} {path:List Int} {L:List (List Int)} (hp:pathOK h path) (hL:RowsP h L):∀ i:Nat,i <= path.length -> 0 <= brN path L i /\ brN path L i <= 1000 * i /\ (∀ r,path[i]? = some r -> r ≠ -1 -> ∃ l,L[r.toNat]? = some l /\ 0 <= r /\ l[i]? = some (atLL L r i) /\ 0 <= atLL L r i /\ atLL L r i <= 1000):= by
 have key:∀ i:Nat,∀ r,path[i]? = some r -> r ≠ -1 -> ∃ l,L[r.toNat]? = some l /\ 0 <= r /\ l[i]? = some (atLL L r i) /\ 0 <= atLL L r i /\ atLL L r i <= 1000:=fun i r hr hne=>by
  have hro:=(hp.2 r (List.mem_of_getElem? hr)).resolve_left hne
  have h2:=hL.len
  have hi:i < path.length:=(List.getElem?_eq_some_iff.1 hr).1
  have hrb:0 <= r /\ r <= 1:=by rcases hro with h|h <;> omega
  obtain ⟨l,hl⟩:∃ l,L[r.toNat]? = some l:=⟨L[r.toNat]'(by omega),by simp⟩
  have hlr:=hL.row l (List.mem_of_getElem? hl)
  have hpl:=hp.1
  obtain ⟨x,hx⟩:∃ x,l[i]? = some x:=⟨l[i]'(by omega),by simp⟩
  have hxb:=hlr.2 x (List.mem_of_getElem? hx)
  have e:atLL L r i = x:=by rw [atLL,hl]; simp [hx]
  rw [e]
  exact ⟨l,hl,hrb.1,hx,hxb⟩
 intro i
 induction i with
 | zero=>intro _; exact ⟨by rw [brN]; omega,by rw [brN]; omega,key 0⟩
 | succ i ih =>
  intro hi
  obtain ⟨b1,b2,b3⟩:=ih (by omega)
  obtain ⟨r,hr⟩:∃ r,path[i]? = some r:=⟨path[i]'(by omega),by simp⟩
  refine ⟨?_,?_,key (i + 1)⟩
  all_goals
   rw [brN,hr]
   by_cases h:r = -1
   ·simp only [if_pos h]; omega
   ·obtain ⟨_,_,_,_,q1,q2⟩:=b3 r hr h
    simp only [if_neg h]; omega
def eKeys (K:List (List Int)):PV:=.sl (K.map fun ks=>ks.map vi)
def eDayC (h:SHouse) (K:List (List Int)) (l:Nat):List PV:=eHouseC h ++ [eKeys K,rawM l]
def eWalkC (h:SHouse) (K:List (List Int)) (l:Nat) (path:List Int):List PV:=eDayC h K l ++ [eInts path]
set_option maxHeartbeats 4000000 in
theorem t188 (h:SHouse) (hh:HouseP h) (K:List (List Int)) (l:Nat) (path:List Int) (hp:pathOK h path) (L:List (List Int)) (hL:RowsP h L):ACalls Tryz.prog 188 [.agg (eWalkC h K l path),eLists L] (fun r=>r = .pv (vi (brI path L))):= by
 have sl:=hh.sl; have h4:=hh.h4
 have hpl:=hp.1
 have hbr:=br_bd hp hL
 refine ACalls.of_body hT Tryz.func188 rfl (by kernel_rfl) rfl ?_
 (repeat (refine stq ?_))
 refine AW_loopC (fun i:Nat=>i <= path.length) (fun i=>mkSt [(1,.pv (eLists L)),(5,.pv (vi (brN path L i))),(9,.pv (eInts path)),(10,.pv (vi path.length)),(11,.pv (vi i))] [] 0) (fun i=>path.length - i) 0 (Nat.zero_le _) ?_ ?_
 ·(refine Le.mk ?_ ?_; all_goals (repeat' (first|exact trivial|refine sle ?_|refine ⟨?_,rfl,?_⟩|refine ⟨?_,by decide,rfl,?_⟩|fail)))
 ·intro i hi
  obtain ⟨b1,b2,b3⟩:=hbr i hi
  have hst:∀ r,path[i]? = some r -> brN path L (i + 1) = brN path L i + if r = -1 then 0 else atLL L r i:=fun r hr=>by rw [brN,hr]
  generalize hB:brN path L i = B at *
  (repeat (refine stq ?_))
  refine AW_if rfl (fun hc=>?_) (fun hc=>?_)
  ·have hi':i < path.length:=by omega
   obtain ⟨r,hr⟩:∃ r,path[i]? = some r:=⟨path[i]'(by omega),by simp⟩
   have e1:=get_map eInt hr
   have hs:=hst r hr
   by_cases hr1:r = -1
   ·rw [if_pos hr1,Int.add_zero] at hs
    (repeat' (first|refine stq ?_|((first|(with_reducible refine AL_id ?_); (fail_if_success (refine glq rfl rfl rfl ?_)); first|refine AL_gdec rfl rfl rfl (fun hg=>?_) (fun hg=>?_)|refine AL_gnot rfl rfl rfl (fun hg=>?_) (fun hg=>?_)|refine AL_gcases rfl rfl rfl (fun hg=>?_) (fun hg=>?_)) <;> (try (exfalso; omega)))|refine AW_if rfl (fun hc=>absurd hc (by omega)) (fun _=>?_)|refine AW_if rfl (fun _=>?_) (fun hc=>absurd (by omega) hc)))
    all_goals (try (exfalso; omega))
    refine ⟨i + 1,hi',by omega,?_⟩
    rw [hs]
    (refine Le.mk ?_ ?_; all_goals (repeat' (first|exact trivial|refine sle ?_|refine ⟨?_,rfl,?_⟩|refine ⟨?_,by decide,rfl,?_⟩|fail)))
   ·rw [if_neg hr1] at hs
    obtain ⟨y,hy,hr0,hyx,c1,c2⟩:=b3 r hr hr1
    have e2:=get_map (fun x=>[eInts x]) hy
    have e3:=get_map eInt hyx
    generalize atLL L r i = v at *
    (repeat' (first|refine stq ?_|((first|(with_reducible refine AL_id ?_); (fail_if_success (refine glq rfl rfl rfl ?_)); first|refine AL_gdec rfl rfl rfl (fun hg=>?_) (fun hg=>?_)|refine AL_gnot rfl rfl rfl (fun hg=>?_) (fun hg=>?_)|refine AL_gcases rfl rfl rfl (fun hg=>?_) (fun hg=>?_)) <;> (try (exfalso; omega)))|refine AW_if rfl (fun hc=>absurd hc (by omega)) (fun _=>?_)|refine AW_if rfl (fun _=>?_) (fun hc=>absurd (by omega) hc)))
    all_goals (try (exfalso; omega))
    refine ⟨i + 1,hi',by omega,?_⟩
    rw [hs]
    (refine Le.mk ?_ ?_; all_goals (repeat' (first|exact trivial|refine sle ?_|refine ⟨?_,rfl,?_⟩|refine ⟨?_,by decide,rfl,?_⟩|fail)))
  ·have hil:i = path.length:=by omega
   subst hil
   (repeat (refine stq ?_))
   exact ⟨_,_,rfl,rfl,by rw [brI,hB]⟩
def failOf:List Int -> SFail
 | [2,n,i]=>.fan n i
 | [3,n,i]=>.machine n i
 | _=>.nothing
theorem failOf_told (f:SFail):failOf (toldL f) = f:=by cases f <;> rfl
def keysL (h:SHouse):List (List Int):=(failsL h).map toldL
def dustF (h:SHouse) (ks:List Int):PV:=.agg (dustP h (failOf ks))
def mostN (h:SHouse) (path:List Int) (k:Nat):Int:=((keysL h).take k).foldl (fun m ks=>max m (brI path (mostL h (failOf ks)))) 0
def mostI (h:SHouse) (path:List Int):Int:=mostN h path (keysL h).length
theorem most_rows {h:SHouse} (hh:HouseP h) (f:SFail):RowsP h (mostL h f):= by
 have sl:=hh.sl; have h4:=hh.h4; have r2:=hh.r2
 refine ⟨by rw [mostL,List.length_mapIdx]; exact r2,fun l hl=>?_⟩
 rw [mostL] at hl
 obtain ⟨i,hi,rfl⟩:=List.mem_mapIdx.1 hl
 have hr:=hh.room h.rooms[i] (by simp)
 refine ⟨by simp [roomM],fun x hx=>?_⟩
 rw [roomM] at hx
 obtain ⟨q,hq,rfl⟩:=List.mem_map.1 hx
 have hq':q < h.sets.length:=by simpa using hq
 have:=now_bd hh (f:=f) (x:=i) (c:=h.rooms[i].high) (by omega) (by omega) (q + 1)
 omega
end Go.Abs
