/- What may fail in a house. -/
import Derived.Test.YtpoaccdbakbjhaaGreatXG41
import Derived.Test.YtpoaccdbakbjhaaGreatXG16
set_option linter.unusedVariables false
set_option linter.unusedSimpArgs false
namespace Go.Abs
open Go.Proofs
set_option maxRecDepth 100000
section
variable {P:Program} {T:Nat -> Option TyI} {nt:Nat} {s:ASt} {o:Oper}
theorem op_invokeA {x:Operand} {name:String} {args:Array Operand} {ts:Array TypeId} {t:Nat} {g:FuncId} {p:PV} {ps:List PV} {r:RV} (ho:o.op = .call { callee:=.invoke x name,args,argTypes:=ts }) (hd:dstB nt o.dst = true) (hx:s.evD x = some (.iface t p)) (ha:mapO s.evD args.toList = some ps)
  (hm:∀ (v:Value) (vs:Array Value) (w:World),(callMethod (.iface t v) name vs).run P w = .ok (.enter g (#[v] ++ vs)) w) (hc:ACalls P g (p :: ps) (fun r'=>r' = r)):OpTo P nt o s (s.bind o.dst r):= by
 refine OpToS.one ?_
 intro ro W0 D0 D φ a w hI K Q hK
 have hr:=hI.evD hx
 generalize hv:a.eval x = v at hr
 cases hr with
 | iface t v p hr =>
  refine wpIn_of (by rw [ho]; intro c hc; cases hc) ?_
  unfold Oper.wp
  have hrun:(execOp a.eval o).run P w = .ok (.enter g (#[v] ++ args.map a.eval)) w:= by
   simp only [execOp,ho,resolve,hv,Sem.run_bind,Sem.run_pure,Result.andThen_ok,invoke]
   have e1:(#[Value.iface t v] ++ args.map a.eval)[0]? = some (Value.iface t v):=by rw [Array.getElem?_append_left (by simp)]; rfl
   have e2:(#[Value.iface t v] ++ args.map a.eval).extract 1 (#[Value.iface t v] ++ args.map a.eval).size = args.map a.eval:=by simp
   rw [e1,e2]
   exact hm v (args.map a.eval) w
  rw [hrun]
  have h1:RepL w D #[v] [p]:=⟨rfl,fun j u q hu hq=>by
   match j with
   | 0=>simp at hu hq; subst hu; subst hq; exact hr
   | j + 1=>simp at hq⟩
  refine (hc.2 w D _ hI.dlt (h1.append (evD_args hI ha))).mono ?_
  rintro e w' ⟨v',r',D',rfl,h2,h3,h4,h5,h6,rfl⟩
  obtain ⟨φ',hI'⟩:=hI.bind h2 h3 (fun b hb=>by
   rcases h4 b hb with h|h
   ·exact .inl h
   ·exact .inr ⟨h5 b hb,h⟩) h6 o.dst hd
  exact hK _ _ _ _ _ rfl hI'
end
inductive SFail where
 | nothing
 | fan (n hour:Int)
 | machine (n hour:Int)
def eFl:SFail -> PV
 | .nothing=>.iface 276 (.agg [])
 | .fan n i=>.iface 278 (.agg [vi n,vi i])
 | .machine n i=>.iface 279 (.agg [vi n,vi i])
def toldL:SFail -> List Int
 | .nothing=>[1,0,0]
 | .fan n i=>[2,n,i]
 | .machine n i=>[3,n,i]
theorem t127 (f:SFail):ACalls Tryz.prog 127 [eFl f] (fun r=>r = .pv (.agg ((toldL f).map vi))):= by
 cases f with
 | nothing =>
  refine ACalls.of_body hT Tryz.func127 rfl (by kernel_rfl) rfl ?_
  (repeat (refine stq ?_))
  refine AL_do2 rfl ⟨_,op_assert_f (fvs:=[.pv (vi 0),.pv (vi 0)]) hT rfl rfl rfl rfl rfl rfl (by kernel_rfl),?_⟩
  (repeat (refine stq ?_))
  refine AL_do2 rfl ⟨_,op_assert_f (fvs:=[.pv (vi 0),.pv (vi 0)]) hT rfl rfl rfl rfl rfl rfl (by kernel_rfl),?_⟩
  (repeat (refine stq ?_))
  exact ⟨_,_,rfl,rfl,rfl⟩
 | fan n i =>
  refine ACalls.of_body hT Tryz.func127 rfl (by kernel_rfl) rfl ?_
  (repeat (refine stq ?_))
  refine AL_do2 rfl ⟨_,op_assert hT rfl rfl rfl rfl rfl,?_⟩
  (repeat (refine stq ?_))
  exact ⟨_,_,rfl,rfl,rfl⟩
 | machine n i =>
  refine ACalls.of_body hT Tryz.func127 rfl (by kernel_rfl) rfl ?_
  (repeat (refine stq ?_))
  refine AL_do2 rfl ⟨_,op_assert_f (fvs:=[.pv (vi 0),.pv (vi 0)]) hT rfl rfl rfl rfl rfl rfl (by kernel_rfl),?_⟩
  (repeat (refine stq ?_))
  refine AL_do2 rfl ⟨_,op_assert hT rfl rfl rfl rfl rfl,?_⟩
  (repeat (refine stq ?_))
  exact ⟨_,_,rfl,rfl,rfl⟩
def drawsB:SFail -> Int -> Int -> Bool
 | .nothing,_,_=>true
 | .fan n i,x,hour=>decide (x ≠ n) || decide (hour < i)
 | .machine _ _,_,_=>true
theorem t245 (x hour:Int):ACalls Tryz.prog 245 [.agg [],vi x,vi hour] (fun r=>r = .pv (.bool true)):= by
 refine ACalls.of_body hT Tryz.func245 rfl (by kernel_rfl) rfl ?_
 (repeat (refine stq ?_))
 exact ⟨_,_,rfl,rfl,rfl⟩
theorem t246 (h:SHouse) (x hour:Int):ACalls Tryz.prog 246 [.agg [],eHouse h,vi x,vi hour] (fun r=>r = .pv (.bool false)):= by
 refine ACalls.of_body hT Tryz.func246 rfl (by kernel_rfl) rfl ?_
 (repeat (refine stq ?_))
 exact ⟨_,_,rfl,rfl,rfl⟩
theorem t247 (n i x hour:Int):ACalls Tryz.prog 247 [.agg [vi n,vi i],vi x,vi hour] (fun r=>r = .pv (.bool (decide (x ≠ n) || decide (hour < i)))):= by
 refine ACalls.of_body hT Tryz.func247 rfl (by kernel_rfl) rfl ?_
 by_cases h:x = n
 ·rw [decide_eq_false (fun hh=>hh h),Bool.false_or]
  (repeat' (first|refine stq ?_|((first|(with_reducible refine AL_id ?_); (fail_if_success (refine glq rfl rfl rfl ?_)); first|refine AL_gdec rfl rfl rfl (fun hg=>?_) (fun hg=>?_)|refine AL_gnot rfl rfl rfl (fun hg=>?_) (fun hg=>?_)|refine AL_gcases rfl rfl rfl (fun hg=>?_) (fun hg=>?_)) <;> (try (exfalso; omega)))|refine AW_if rfl (fun hc=>absurd hc (by omega)) (fun _=>?_)|refine AW_if rfl (fun _=>?_) (fun hc=>absurd (by omega) hc)))
  all_goals (try (exfalso; omega))
  exact ⟨_,_,rfl,rfl,rfl⟩
 ·rw [decide_eq_true h,Bool.true_or]
  (repeat' (first|refine stq ?_|((first|(with_reducible refine AL_id ?_); (fail_if_success (refine glq rfl rfl rfl ?_)); first|refine AL_gdec rfl rfl rfl (fun hg=>?_) (fun hg=>?_)|refine AL_gnot rfl rfl rfl (fun hg=>?_) (fun hg=>?_)|refine AL_gcases rfl rfl rfl (fun hg=>?_) (fun hg=>?_)) <;> (try (exfalso; omega)))|refine AW_if rfl (fun hc=>absurd hc (by omega)) (fun _=>?_)|refine AW_if rfl (fun _=>?_) (fun hc=>absurd (by omega) hc)))
  all_goals (try (exfalso; omega))
  exact ⟨_,_,rfl,rfl,rfl⟩
theorem t248 (h:SHouse) (n i x hour:Int):ACalls Tryz.prog 248 [.agg [vi n,vi i],eHouse h,vi x,vi hour] (fun r=>r = .pv (.bool false)):= by
 refine ACalls.of_body hT Tryz.func248 rfl (by kernel_rfl) rfl ?_
 (repeat (refine stq ?_))
 exact ⟨_,_,rfl,rfl,rfl⟩
theorem t249 (n i x hour:Int):ACalls Tryz.prog 249 [.agg [vi n,vi i],vi x,vi hour] (fun r=>r = .pv (.bool true)):= by
 refine ACalls.of_body hT Tryz.func249 rfl (by kernel_rfl) rfl ?_
 (repeat (refine stq ?_))
 exact ⟨_,_,rfl,rfl,rfl⟩
def outR (h:SHouse) (x:Int):Int:=((h.rooms[x.toNat]?).map (·.out)).getD 0
def standsB (h:SHouse):SFail -> Int -> Int -> Bool
 | .nothing,_,_=>false
 | .fan _ _,_,_=>false
 | .machine n i,x,hour=>decide (x = n) && inB hour i (i + outR h x - 1)
theorem t250 (h:SHouse) (hh:HouseP h) (n i x hour:Int) (hx:0 <= x /\ x <= 1) (hi:0 <= i /\ i <= 4):ACalls Tryz.prog 250 [.agg [vi n,vi i],eHouse h,vi x,vi hour] (fun r=>r = .pv (.bool (decide (x = n) && inB hour i (i + outR h x - 1)))):= by
 have r2:=hh.r2
 obtain ⟨y,hy⟩:∃ y,h.rooms[x.toNat]? = some y:=⟨h.rooms[x.toNat]'(by omega),by simp⟩
 have e1:=get_map eRoom hy
 have hyb:=hh.room y (List.mem_of_getElem? hy)
 rw [outR,hy]
 show ACalls Tryz.prog 250 _ (fun r=>r = .pv (.bool (decide (x = n) && inB hour i (i + y.out - 1))))
 have k118:=t118 hour i (i + y.out - 1)
 generalize inB hour i (i + y.out - 1) = b at *
 by_cases hxn:x = n
 ·rw [decide_eq_true hxn,Bool.true_and]
  refine ACalls.of_body hT Tryz.func250 rfl (by kernel_rfl) rfl ?_
  (repeat (refine stq ?_))
  iterate 3 (refine sdq ?_)
  refine DG_cmp hT rfl (fun hg=>?_) (fun hg=>?_)
  all_goals (try (exfalso; omega))
  (repeat (first|refine sdq ?_|refine DG_next (D_call rfl rfl rfl rfl rfl (k118)) ?_))
  refine DG_end hM (by kernel_rfl) ?_
  (repeat (refine stq ?_))
  exact ⟨_,_,rfl,rfl,rfl⟩
 ·rw [decide_eq_false hxn,Bool.false_and]
  refine ACalls.of_body hT Tryz.func250 rfl (by kernel_rfl) rfl ?_
  (repeat (refine stq ?_))
  iterate 3 (refine sdq ?_)
  refine DG_cmp hT rfl (fun hg=>?_) (fun hg=>?_)
  all_goals (try (exfalso; omega))
  (repeat (first|refine sdq ?_|refine DG_next (D_call rfl rfl rfl rfl rfl (k118)) ?_))
  refine DG_end hM (by kernel_rfl) ?_
  (repeat (refine stq ?_))
  exact ⟨_,_,rfl,rfl,rfl⟩
def failOK (h:SHouse):SFail -> Prop
 | .nothing=>True
 | .fan n i=>0 <= n /\ n <= 4 /\ 0 <= i /\ i <= 4
 | .machine n i=>0 <= n /\ n <= 1 /\ 0 <= i /\ i <= 4
def runsB (h:SHouse) (f:SFail) (x:Int) (hour:Nat):Bool:=hasR ((h.sets[hour]?).getD 0) x && !standsB h f x hour
def eFailed (h:SHouse) (f:SFail):PV:=.agg (eHouseC h ++ [eFl f])
set_option maxHeartbeats 4000000 in
theorem t205 (h:SHouse) (hh:HouseP h) (f:SFail) (hf:failOK h f) (x:Int) (hx:roomOK x) (hour:Nat) (hi:hour < h.sets.length):ACalls Tryz.prog 205 [eFailed h f,vi x,vi hour] (fun r=>r = .pv (.bool (runsB h f x hour))):= by
 have sl:=hh.sl; have h4:=hh.h4
 obtain ⟨s,hs⟩:∃ x,h.sets[hour]? = some x:=⟨h.sets[hour],by simp [hi]⟩
 have e1:=get_map eInt hs
 have k57:=t57 s x (hh.set s (List.mem_of_getElem? hs)) hx
 rw [runsB,hs]
 show ACalls Tryz.prog 205 _ (fun r=>r = .pv (.bool (hasR s x && !standsB h f x hour)))
 cases q:hasR s x with
 | false =>
  rw [q] at k57
  cases f
  all_goals (
   refine ACalls.of_body hT Tryz.func205 rfl (by kernel_rfl) rfl ?_
   (repeat' (first|refine stq ?_|(refine AL_do2 rfl ?_; first|refine ⟨_,op_call1 rfl rfl rfl rfl (k57),nrmA rfl ?_⟩)|(with_reducible refine AL_id ?_); (fail_if_success (refine glq rfl rfl rfl ?_)); first|refine AL_gdec rfl rfl rfl (fun hg=>?_) (fun hg=>?_)|refine AL_gnot rfl rfl rfl (fun hg=>?_) (fun hg=>?_)|refine AL_gcases rfl rfl rfl (fun hg=>?_) (fun hg=>?_)))
   exact ⟨_,_,rfl,rfl,rfl⟩)
 | true =>
  rw [q] at k57
  rw [Bool.true_and]
  cases f with
  | nothing =>
   have k:=t246 h x hour
   refine ACalls.of_body hT Tryz.func205 rfl (by kernel_rfl) rfl ?_
   (repeat' (first|refine stq ?_|(refine AL_do2 rfl ?_; first|refine ⟨_,op_call1 rfl rfl rfl rfl (k57),nrmA rfl ?_⟩)|(with_reducible refine AL_id ?_); (fail_if_success (refine glq rfl rfl rfl ?_)); first|refine AL_gdec rfl rfl rfl (fun hg=>?_) (fun hg=>?_)|refine AL_gnot rfl rfl rfl (fun hg=>?_) (fun hg=>?_)|refine AL_gcases rfl rfl rfl (fun hg=>?_) (fun hg=>?_)))
   refine AL_do2 rfl ⟨_,op_invokeA rfl rfl rfl rfl (by intro v vs w; kernel_rfl) k,?_⟩
   (repeat (refine stq ?_))
   exact ⟨_,_,rfl,rfl,rfl⟩
  | fan n i =>
   have k:=t248 h n i x hour
   refine ACalls.of_body hT Tryz.func205 rfl (by kernel_rfl) rfl ?_
   (repeat' (first|refine stq ?_|(refine AL_do2 rfl ?_; first|refine ⟨_,op_call1 rfl rfl rfl rfl (k57),nrmA rfl ?_⟩)|(with_reducible refine AL_id ?_); (fail_if_success (refine glq rfl rfl rfl ?_)); first|refine AL_gdec rfl rfl rfl (fun hg=>?_) (fun hg=>?_)|refine AL_gnot rfl rfl rfl (fun hg=>?_) (fun hg=>?_)|refine AL_gcases rfl rfl rfl (fun hg=>?_) (fun hg=>?_)))
   refine AL_do2 rfl ⟨_,op_invokeA rfl rfl rfl rfl (by intro v vs w; kernel_rfl) k,?_⟩
   (repeat (refine stq ?_))
   exact ⟨_,_,rfl,rfl,rfl⟩
  | machine n i =>
   have k:=t250 h hh n i x hour (by rcases hx with h|h <;> omega) hf.2.2
   refine ACalls.of_body hT Tryz.func205 rfl (by kernel_rfl) rfl ?_
   (repeat' (first|refine stq ?_|(refine AL_do2 rfl ?_; first|refine ⟨_,op_call1 rfl rfl rfl rfl (k57),nrmA rfl ?_⟩)|(with_reducible refine AL_id ?_); (fail_if_success (refine glq rfl rfl rfl ?_)); first|refine AL_gdec rfl rfl rfl (fun hg=>?_) (fun hg=>?_)|refine AL_gnot rfl rfl rfl (fun hg=>?_) (fun hg=>?_)|refine AL_gcases rfl rfl rfl (fun hg=>?_) (fun hg=>?_)))
   refine AL_do2 rfl ⟨_,op_invokeA rfl rfl rfl rfl (by intro v vs w; kernel_rfl) k,?_⟩
   (repeat (refine stq ?_))
   exact ⟨_,_,rfl,rfl,rfl⟩
theorem t186 (r:SRoom) (x:Int):ACalls Tryz.prog 186 [vi x,.ptr (eRoom r)] (fun y=>y = .pv (vi r.low)):= by
 refine ACalls.of_body hT Tryz.func186 rfl (by kernel_rfl) rfl ?_
 (repeat (refine stq ?_))
 exact ⟨_,_,rfl,rfl,rfl⟩
theorem t187 (r:SRoom) (x:Int):ACalls Tryz.prog 187 [vi x,.ptr (eRoom r)] (fun y=>y = .pv (vi r.high)):= by
 refine ACalls.of_body hT Tryz.func187 rfl (by kernel_rfl) rfl ?_
 (repeat (refine stq ?_))
 exact ⟨_,_,rfl,rfl,rfl⟩
def drawnL (h:SHouse) (f:SFail) (x:Int) (hour:Nat) (k:Nat):List Int:=(((h.fans.mapIdx fun i y=>(i,y)).take k).filter fun p=>decide (p.2.room = x) && drawsB f p.1 hour).map fun p=>p.2.draw
def startR (h:SHouse) (x:Int):Int:=((h.rooms[x.toNat]?).map (·.start)).getD 0
def nowF (h:SHouse) (f:SFail) (x:Int) (c:Int):Nat -> Int
 | 0=>startR h x
 | i + 1=>max 0 ((nowF h f x c i + if runsB h f x i then c else 0) - sumI (drawnL h f x i h.fans.length))
def roomM (h:SHouse) (f:SFail) (x c:Int) (k:Nat):List Int:=(List.range k).map fun i=>nowF h f x c (i + 1)
theorem roomM_succ {h:SHouse} {f:SFail} {x c:Int} {k:Nat}:roomM h f x c (k + 1) = roomM h f x c k ++ [nowF h f x c (k + 1)]:= by
 rw [roomM,roomM,List.range_succ,List.map_append]; rfl
end Go.Abs
