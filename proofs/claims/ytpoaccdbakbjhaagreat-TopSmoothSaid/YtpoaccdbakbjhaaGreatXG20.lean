/- slices.Repeat. -/
import Derived.Test.YtpoaccdbakbjhaaGreatXG19
import Derived.Test.YtpoaccdbakbjhaaGreatXG15
set_option linter.unusedVariables false
set_option linter.unusedSimpArgs false
namespace Go.Abs
open Go.Proofs
set_option maxRecDepth 100000
def w64 (x:Int):Int:=IntKind.u64.wrap x
def mulHi (x y:Int):Int :=
 let m (a:Int):Int:=andR .u64 a 4294967295
 let h (a:Int):Int:=shrR .u64 a 32
 let t:=w64 (w64 (h x * m y) + h (w64 (m x * m y)))
 let w1:=w64 (m t + w64 (m x * h y))
 w64 (w64 (w64 (h x * h y) + h t) + h w1)
theorem f207 (x y:Int):ACalls Tryz.prog 220 [.int .u64 x,.int .u64 y] (fun r=>r = .tup [.int .u64 (mulHi x y),.int .u64 (w64 (x * y))]):= by
 refine ACalls.of_body hT Tryz.func220 rfl (by kernel_rfl) rfl ?_
 (repeat (refine stp ?_))
 exact ⟨_,_,rfl,rfl,rfl⟩
theorem f194 (x y:Int):ACalls Tryz.prog 207 [.int .u64 x,.int .u64 y] (fun r=>r = .tup [.int .u64 (mulHi x y),.int .u64 (w64 (x * y))]):= by
 refine ACalls.of_body hT Tryz.func207 rfl (by kernel_rfl) rfl ?_
 (repeat (refine stp ?_))
 refine AW_cond_cf ?_
 (repeat' (first|refine stp ?_|(refine AL_do2 rfl ?_; first|refine ⟨_,op_call1 rfl rfl rfl rfl (f207 x y),?_⟩)|refine AL_gdec rfl rfl rfl (fun hg=>?_) (fun hg=>?_)|refine AL_gnot rfl rfl rfl (fun hg=>?_) (fun hg=>?_)|refine AL_gcases rfl rfl rfl (fun hg=>?_) (fun hg=>?_)))
 exact ⟨_,_,rfl,rfl,rfl⟩
theorem mul_small {n:Nat} (h:1 <= n /\ n <= 12):mulHi (w64 1) (w64 n) = 0 /\ w64 (w64 1 * w64 n) = n:= by
 rcases n with _|_|_|_|_|_|_|_|_|_|_|_|_|n <;> first|omega|(exact ⟨by decide,by decide⟩)
theorem f194s {n:Nat} (h:1 <= n /\ n <= 12):ACalls Tryz.prog 207 [.int .u64 (w64 1),.int .u64 (w64 n)] (fun r=>r = .tup [.int .u64 0,.int .u64 n]):= by
 have:=f194 (w64 1) (w64 n)
 rw [(mul_small h).1,(mul_small h).2] at this
 exact this
theorem splice_rep (el zp:List PV) {n k:Nat} (hk:k <= n) (m:Nat) (hm:m = min k (n - k)) :
  splice (List.replicate k el ++ List.replicate (n - k) zp) k ((((List.replicate k el ++ List.replicate (n - k) zp).drop 0).take k).take m) = List.replicate (k + m) el ++ List.replicate (n - (k + m)) zp:= by
 have h1:((List.replicate k el ++ List.replicate (n - k) zp).drop 0).take k = List.replicate k el:= by
  rw [List.drop_zero,List.take_append_of_le_length (by simp)]; simp
 rw [h1]
 have h2:(List.replicate k el).take m = List.replicate m el:=by rw [List.take_replicate,Nat.min_eq_left (by omega)]
 rw [h2,splice,List.take_append_of_le_length (by simp),List.length_replicate,List.take_replicate,Nat.min_self,List.drop_append,List.drop_replicate,List.length_replicate,List.drop_replicate,show k - (k + m) = 0 by omega,show n - k - (k + m - k) = n - (k + m) by omega,
  List.replicate_append_replicate,List.replicate_zero,List.nil_append]
theorem splice_first (el zp:List PV) {n:Nat} (h:1 <= n):splice (List.replicate n zp) 0 [el] = List.replicate 1 el ++ List.replicate (n - 1) zp:= by
 obtain ⟨m,rfl⟩:∃ m,n = m + 1:=⟨n - 1,by omega⟩
 simp [splice]
set_option maxHeartbeats 4000000 in
theorem f187 (s:Span) (n:Nat) (hn:1 <= n /\ n <= 12):ACalls Tryz.prog 194 [eSpans [s],vi n] (fun r=>r = .own 56 2 ((List.replicate n s).map eSpan)):= by
 refine ACalls.of_body hT Tryz.func194 rfl (by kernel_rfl) rfl ?_
 (repeat' (first|refine stp ?_|(refine AL_do2 rfl ?_; first|refine ⟨_,op_call1 rfl rfl rfl rfl (f194s hn),?_⟩)|refine AL_gdec rfl rfl rfl (fun hg=>?_) (fun hg=>?_)|refine AL_gnot rfl rfl rfl (fun hg=>?_) (fun hg=>?_)|refine AL_gcases rfl rfl rfl (fun hg=>?_) (fun hg=>?_)))
 refine AW_if rfl (fun hc2=>by omega) (fun hc2=>?_)
 have hwr:IntKind.i64.wrap (n:Int) = n:=by unfold IntKind.wrap; simp [IntKind.signed,IntKind.bits]; omega
 (repeat (refine stp ?_))
 rw [hwr]
 refine AL_do2 rfl ⟨_,op_makeSlice (n:=n) (zp:=[vi 0,vi 0]) hT rfl rfl rfl rfl rfl rfl rfl rfl rfl rfl (by omega) rfl,?_⟩
 (repeat (refine stp ?_))
 refine AL_do2 rfl ⟨_,op_copy_pure (t:=98) (id:=0) (m:=1) hT rfl rfl rfl rfl rfl rfl rfl (by decide) rfl rfl rfl (by intro z hz; simp at hz; subst hz; rfl) (by simp; omega) (by omega),?_⟩
 (repeat (refine stp ?_))
 refine AW_arr_sub (t:=7) (n:=n) rfl rfl (by rw [splice_length _ _ _ (by simp; omega)]; simp) (by omega) ?_
 refine AW_loopC (fun k:Nat=>1 <= k /\ k <= n) (fun k=>mkSt [(7,.sub 0 2 0 n),(8,.pv (vi k))] [(0,.arr 56 2 (List.replicate k (eSpan s) ++ List.replicate (n - k) [vi 0,vi 0]))] 1) (fun k=>n - k) 1 ⟨by omega,by omega⟩ ?_ ?_
 ·(refine Le.mkR [(0,0)] ?_ ?_ rfl; all_goals (repeat' (first|exact trivial|refine sle ?_|refine ⟨?_,rfl,?_⟩|refine ⟨?_,by decide,rfl,?_⟩|fail)))
  show some (AObj.arr 56 2 (splice (List.replicate n [vi 0,vi 0]) 0 [eSpan s])) = _
  rw [splice_first _ _ hn.1]; rfl
 ·rintro k ⟨hk1,hk2⟩
  have hlen:(List.replicate k (eSpan s) ++ List.replicate (n - k) [vi 0,vi 0]).length = n:=by simp; omega
  (repeat (refine stp ?_))
  refine AL_do2 rfl ⟨_,op_len_sub hT rfl rfl rfl rfl rfl,?_⟩
  (repeat (refine stp ?_))
  refine AW_if rfl (fun hc3=>?_) (fun hc3=>?_)
  ·(repeat (refine stp ?_))
   (repeat (refine sdr ?_))
   obtain ⟨m,hm⟩:∃ m,m = min k (n - k):=⟨_,rfl⟩
   refine DG_next (D_slice_sub (lo:=k) (hi:=n) hT rfl rfl rfl rfl rfl rfl rfl rfl (.inr ⟨_,_,rfl,rfl⟩) (.inl ⟨rfl,rfl⟩) (by omega) (by omega) (by omega)) ?_
   (repeat (refine sdr ?_))
   refine DG_next (D_slice_sub (lo:=0) (hi:=k) hT rfl rfl rfl rfl rfl rfl rfl rfl (.inl ⟨rfl,rfl⟩) (.inr ⟨_,_,rfl,rfl⟩) (by omega) (by omega) (by omega)) ?_
   (repeat (refine sdr ?_))
   refine DG_next (D_copy_sub (t:=98) (id:=0) (sz:=2) (lo:=k) (n:=n - k) (lo2:=0) (n2:=k) (m:=m) hT rfl rfl rfl rfl rfl rfl rfl rfl (by decide) rfl rfl rfl hm (by omega) (by omega) (by omega)) ?_
   rw [splice_rep _ _ hk2 m hm]
   (repeat (refine sdr ?_))
   refine DG_end hM (by kernel_rfl) ?_
   (repeat (refine stp ?_))
   refine ⟨k + m,⟨by omega,by omega⟩,by omega,?_⟩
   (refine Le.mkR [(0,0)] ?_ ?_ rfl; all_goals (repeat' (first|exact trivial|refine sle ?_|refine ⟨?_,rfl,?_⟩|refine ⟨?_,by decide,rfl,?_⟩|fail)))
  ·have hkn:k = n:=by omega
   subst hkn
   refine AW_sub_arr (t:=7) rfl rfl hlen ?_
   (repeat (refine stp ?_))
   exact ⟨_,_,rfl,rfl,by simp⟩
end Go.Abs
namespace Go.Abs
open Go.RowKit
def GOpToZ (P:Program) (nt:Nat) (ops:Array Oper) (Z:Exit -> ASt -> Prop) (o:Oper) (s s':ASt):Prop:=∀ ro W0 D0 D φ a w,Inv W0 D0 nt s D φ a w -> ∀ (K:Act -> World -> Prop),
 (∀ D' φ' a' w',Inv W0 D0 nt s' D' φ' a' w' -> K a' w') -> if Region.wanted o (yielded ops a.tmps) then o.wpIn (FW ro) 0 P a w K (Lift W0 D0 nt Z) else K (a.put o.dst undef) w
structure StepZ (P:Program) (nt:Nat) (ops:Array Oper) (Z:Exit -> ASt -> Prop) (o:Oper) (s:ASt) (e:DEnt) (s':ASt):Prop where
 env:s'.env = putE s.env o.dst e.x
 pure:e.eff = false -> s'.objs = (e.mods.map fun id=>(id,s'.obj id)) ++ s.objs /\ s'.nxt = s.nxt
 eff:e.eff = true -> s.nxt <= s'.nxt /\ ∀ id,id < s.nxt -> id ∉ e.mods -> s'.obj id = s.obj id
 evP:e.eff = false -> ∀ s1,(∀ t ∈ needs ops o,s1.get t = s.get t) -> (∀ id ∈ e.rids,s1.obj id = s.obj id) -> (∀ id ∈ e.mods,s1.obj id = s.obj id) -> GOpToZ P nt ops Z o s1 ⟨putE s1.env o.dst e.x,(e.mods.map fun id=>(id,s'.obj id)) ++ s1.objs,s1.nxt⟩
 evE:e.eff = true -> ∀ (fr:List Nat) (s1 s2:ASt),(∀ t ∈ needs ops o,s1.get t = s.get t) -> s1.nxt = s.nxt -> (∀ id ∈ fr,id < s.nxt /\ id ∉ e.mods) -> (∀ id,id ∉ fr -> s1.obj id = s.obj id) →
  s2.env = putE s1.env o.dst e.x -> s2.nxt = s'.nxt -> (∀ id,s2.obj id = if id ∈ fr then s1.obj id else s'.obj id) -> GOpToZ P nt ops Z o s1 s2
theorem GOpTo.toZ {P:Program} {nt:Nat} {ops:Array Oper} {o:Oper} {s s':ASt} (h:GOpTo P nt ops o s s') (Z:Exit -> ASt -> Prop):GOpToZ P nt ops Z o s s':=fun ro W0 D0 D φ a w hI K hK=>h ro W0 D0 D φ a w hI K _ hK
theorem StepOK.toZ {P:Program} {nt:Nat} {ops:Array Oper} {o:Oper} {s s':ASt} {e:DEnt} (h:StepOK P nt ops o s e s') (Z:Exit -> ASt -> Prop):StepZ P nt ops Z o s e s' :=
 ⟨h.env,h.pure,h.eff,fun he s1 h1 h2 h3=>(h.evP he s1 h1 h2 h3).toZ Z,fun he fr s1 s2 h1 h2 h3 h4 h5 h6 h7=>(h.evE he fr s1 s2 h1 h2 h3 h4 h5 h6 h7).toZ Z⟩
def DRunZ (P:Program) (nt:Nat) (ops:Array Oper) (Z:Exit -> ASt -> Prop) (s0:ASt) (k:Nat) (s:ASt) (l:List DEnt):Prop :=
 l.length = k /\ ∃ st:Nat -> ASt,st 0 = s0 /\ st k = s /\ ∀ i,i < k -> ∃ o e,ops[i]? = some o /\ l[i]? = some e /\ StepZ P nt ops Z o (st i) e (st (i + 1))
theorem DRun.snocZ {P:Program} {nt:Nat} {ops:Array Oper} {Z:Exit -> ASt -> Prop} {s0:ASt} {k:Nat} {s s':ASt} {l:List DEnt} {o:Oper} {e:DEnt} (h:DRun P nt ops s0 k s l) (ho:ops[k]? = some o) (hs:StepZ P nt ops Z o s e s'):DRunZ P nt ops Z s0 (k + 1) s' (l ++ [e]):= by
 obtain ⟨h1,st,h2,h3,h4⟩:=h
 refine ⟨by simp [h1],fun i=>if i = k + 1 then s' else st i,by simp [h2],by simp,fun i hi=>?_⟩
 by_cases hk:i = k
 ·subst hk
  refine ⟨o,e,ho,by rw [List.getElem?_append_right (by omega)]; simp [h1],?_⟩
  simp only [if_true,if_neg (show ¬ i = i + 1 by omega)]
  rw [h3]; exact hs
 ·obtain ⟨o',e',g1,g2,g3⟩:=h4 i (by omega)
  refine ⟨o',e',g1,by rw [List.getElem?_append_left (by omega)]; exact g2,?_⟩
  show StepZ P nt ops Z o' (if i = k + 1 then s' else st i) e' (if i + 1 = k + 1 then s' else st (i + 1))
  rw [if_neg (by omega),if_neg (by omega)]
  exact g3.toZ Z
section
variable {P:Program} {nt:Nat} {ops:Array Oper}
theorem AW_drawZ {id h:Nat} {l:List DEnt} {s0 s:ASt} {opl:List Oper} {Q:Exit -> ASt -> Prop} (hm:P.follows .mixedOrders = true) (hr:DRunZ P nt opl.toArray Q s0 h s l) (hok:drawOK opl.toArray h s0.nxt l = true)
  (htail:AL P nt opl.toArray (opl.drop h) Q s):AW P nt (.region id opl.toArray true) Q s0:= by
 generalize hops:opl.toArray = ops at *
 have hopl:opl = ops.toList:=by rw [<- hops]
 subst hopl
 clear hops
 intro ro W0 D0 D φ a w hRo hI
 simp only [drawOK,Bool.and_eq_true] at hok
 obtain ⟨⟨⟨⟨⟨⟨k1,k2⟩,k3⟩,k4⟩,k5⟩,k7⟩,k6⟩:=hok
 obtain ⟨loc1,loc2⟩:=locOK_spec k7
 have hh:=Nat.le_of_ble_eq_true k1
 have hhead:=headOK_spec k3
 have htl:=tailOK_spec k6
 obtain ⟨hlen,st,st0,sth,hst⟩:=hr
 have henv:∀ k,k <= h -> (st k).env = envX ops l (fun _=>true) s0.env k:= by
  intro k
  induction k with
  | zero=>intro _; rw [st0]; rfl
  | succ k ih =>
   intro hk
   obtain ⟨o,e,g1,g2,g3⟩:=hst k (by omega)
   rw [g3.env,ih (by omega)]
   simp [envX,g1,g2]
 let fr:List Nat:=l.flatMap fun e=>match e.eff with|true=>[]|false=>e.mods
 have hfr:∀ id,id ∈ fr ↔ ∃ (i:Nat) (e:DEnt),i < h /\ l[i]? = some e /\ e.eff = false /\ id ∈ e.mods:= by
  intro id
  simp only [fr,List.mem_flatMap]
  constructor
  ·rintro ⟨e,he,hm⟩
   obtain ⟨i,hi⟩:=List.mem_iff_getElem?.1 he
   cases hef:e.eff with
   | true=>rw [hef] at hm; cases hm
   | false=>rw [hef] at hm; exact ⟨i,e,by rw [<- hlen]; exact (List.getElem?_eq_some_iff.1 hi).1,hi,hef,hm⟩
  ·rintro ⟨i,e,_,hi,hef,hm⟩
   exact ⟨e,List.mem_of_getElem? hi,by rw [hef]; exact hm⟩
 have hobjs:∀ k,k <= h -> (∀ id,id ∉ fr -> (st k).obj id = (st (effX l (fun _=>true) k)).obj id) /\ (st k).nxt = (st (effX l (fun _=>true) k)).nxt:= by
  intro k
  induction k with
  | zero=>intro _; exact ⟨fun _ _=>rfl,rfl⟩
  | succ k ih =>
   intro hk
   obtain ⟨o,e,g1,g2,g3⟩:=hst k (by omega)
   unfold effX
   cases he:e.eff with
   | true=>simp [g2,he]
   | false =>
    simp only [g2,Option.map_some,Option.getD_some,he]
    obtain ⟨q1,q2⟩:=g3.pure he
    refine ⟨fun id hid=>?_,by rw [q2]; exact (ih (by omega)).2⟩
    rw [<- (ih (by omega)).1 id hid]
    show look (st (k + 1)).objs id = look (st k).objs id
    rw [q1,look_app_map (fun id=>(st (k + 1)).obj id),if_neg fun hm=>hid ((hfr id).2 ⟨k,e,by omega,g2,he,hm⟩)]
 have hnxt:∀ k,k <= h -> s0.nxt <= (st k).nxt:= by
  intro k
  induction k with
  | zero=>intro _; rw [st0]; exact Nat.le_refl _
  | succ k ih =>
   intro hk
   obtain ⟨o,e,g1,g2,g3⟩:=hst k (by omega)
   have:=ih (by omega)
   cases he:e.eff with
   | true=>have:=(g3.eff he).1; omega
   | false=>rw [(g3.pure he).2]; exact this
 have hkeep:∀ id,id < s0.nxt -> (∀ e ∈ l,id ∉ e.mods) -> ∀ k,k <= h -> (st k).obj id = s0.obj id:= by
  intro id hid hno k
  induction k with
  | zero=>intro _; rw [st0]
  | succ k ih =>
   intro hk
   obtain ⟨o,e,g1,g2,g3⟩:=hst k (by omega)
   rw [<- ih (by omega)]
   cases he:e.eff with
   | true=>exact (g3.eff he).2 id (Nat.lt_of_lt_of_le hid (hnxt k (by omega))) (hno e (List.mem_of_getElem? g2))
   | false =>
    show look _ _ = look _ _
    rw [(g3.pure he).1,look_app_map (fun id=>(st (k + 1)).obj id),if_neg (hno e (List.mem_of_getElem? g2))]
 have hloc:∀ i e id,l[i]? = some e -> e.eff = false -> id ∈ e.mods -> i < h -> ∀ k,k <= h -> (st k).obj id = if i < k then (st (i + 1)).obj id else s0.obj id:= by
  intro i e id hi hef hm hih k
  have hidn:id < s0.nxt:=loc1 i e hi hef id hm
  have hoth:∀ j e',j ≠ i -> l[j]? = some e' -> id ∉ e'.mods:= by
   intro j e' hne hj hm'
   rcases Nat.lt_or_gt_of_ne hne with hlt|hgt
   ·exact loc2 j i e' e hlt hj hi (.inr hef) id hm' hm
   ·exact loc2 i j e e' hgt hi hj (.inl hef) id hm hm'
  induction k with
  | zero=>intro _; rw [if_neg (by omega),st0]
  | succ k ih =>
   intro hk
   by_cases hki:k = i
   ·subst hki; rw [if_pos (by omega)]
   ·obtain ⟨o,e',g1,g2,g3⟩:=hst k (by omega)
    have hno:=hoth k e' hki g2
    have step:(st (k + 1)).obj id = (st k).obj id:= by
     cases he:e'.eff with
     | true=>exact (g3.eff he).2 id (Nat.lt_of_lt_of_le hidn (hnxt k (by omega))) hno
     | false =>
      show look _ _ = look _ _
      rw [(g3.pure he).1,look_app_map (fun id=>(st (k + 1)).obj id),if_neg hno]
    rw [step,ih (by omega)]
    by_cases hik:i < k
    ·rw [if_pos hik,if_pos (by omega)]
    ·rw [if_neg hik,if_neg (by omega)]
 have hdst:∀ i j t,i < h -> j < h -> i ≠ j -> (ops[i]?).bind (·.dst) = some t -> (ops[j]?).bind (·.dst) ≠ some t:= by
  intro i j t hi hj hne hd hd'
  rcases Nat.lt_or_ge i j with hlt|hge
  ·obtain ⟨o,g1,g2,g3⟩:=hhead j hj
   exact dstOnce_spec g3 i hlt t hd' hd
  ·obtain ⟨o,g1,g2,g3⟩:=hhead i hi
   exact dstOnce_spec g3 j (by omega) t hd hd'
 let SX:(Nat -> Bool) -> ASt:=fun X=>⟨envX ops l X s0.env h,locX st s0 l X h ++ (st (effX l X h)).objs,(st (effX l X h)).nxt⟩
 have hSXo:∀ X id,id ∉ fr -> (SX X).obj id = (st (effX l X h)).obj id:= by
  intro X id hid
  exact locX_out h fun i e hi hl he hm=>hid ((hfr id).2 ⟨i,e,hi,hl,he,hm⟩)
 have hSXi:∀ X i e id,l[i]? = some e -> e.eff = false -> id ∈ e.mods -> i < h -> (SX X).obj id = match X i with|true=>(st (i + 1)).obj id|false=>s0.obj id:= by
  intro X i e id hi hef hm hih
  refine locX_in hi hef hm h hih fun j e' hne hj hef' hm'=>?_
  rcases Nat.lt_or_gt_of_ne hne with hlt|hgt
  ·exact loc2 j i e' e hlt hj hi (.inr hef) id hm' hm
  ·exact loc2 i j e e' hgt hi hj (.inl hef) id hm hm'
 have hend:∀ X,(∀ i,i < h -> X i = true) -> ∀ D φ a w,Inv W0 D0 nt (SX X) D φ a w -> Inv W0 D0 nt (st h) D φ a w:= by
  intro X hX D φ a w hI
  have e1:envX ops l X s0.env h = (st h).env:=by rw [henv h (Nat.le_refl h)]; exact envX_congr h fun i hi=>hX i (by omega)
  have e2:effX l X h = effX l (fun _=>true) h:=effX_congr h fun i hi=>hX i (by omega)
  have hg:∀ t,(st h).get t = (SX X).get t:=fun t=>by show look _ _ = look (envX ops l X s0.env h) t; rw [e1]
  have ho:∀ id,(st h).obj id = (SX X).obj id:= by
   intro id
   by_cases hid:id ∈ fr
   ·obtain ⟨i,e,hi,hl,he,hm⟩:=(hfr id).1 hid
    rw [hSXi X i e id hl he hm hi,hX i hi,hloc i e id hl he hm hi h (Nat.le_refl h),if_pos hi]
   ·rw [hSXo X id hid,e2]; exact (hobjs h (Nat.le_refl h)).1 id hid
  have hn:(st h).nxt = (SX X).nxt:=by show _ = (st (effX l X h)).nxt; rw [e2]; exact (hobjs h (Nat.le_refl h)).2
  refine hI.weaken (fun t x hx=>by rw [<- hg]; exact hx) (fun id ob hob=>by rw [<- ho]; exact hob) (fun t x hx=>by rw [hn]; exact (hI.env t x (by rw [<- hg]; exact hx)).1)
   (fun id ob hob=>by rw [hn]; have:=hI.objs id ob (by rw [<- ho]; exact hob); exact ⟨this.1,this.2.1⟩)
 have hgo:∀ (fuel:Nat) (b:Array Bool) (D:Nat -> Prop) (φ:Nat -> Value) (a:Act) (w:World),b.size = ops.size -> unl b ops.size <= fuel -> Closed ops b -> (∀ i,h <= i -> lst b i = false) -> Inv W0 D0 nt (SX (lst b)) D φ a w →
   wpAnyIn (FW ro) 0 P .any ops (Lift W0 D0 nt Q) fuel b a w:= by
  intro fuel
  induction fuel with
  | zero =>
   intro b D φ a w hs hu hc hb hI
   have hall:=unl_zero (Nat.le_zero.1 hu)
   have hn:ops.size = h:= by
    rcases Nat.lt_or_ge h ops.size with hlt|hge
    ·have:=hall h hlt; rw [hb h (Nat.le_refl h)] at this; cases this
    ·omega
   have hI:=hend (lst b) (fun i hi=>hall i (by omega)) D φ a w hI
   rw [sth] at hI
   refine draw_tail k2 htl 0 0 b a w (Nat.zero_le _) (Nat.le_refl _) hs hc (fun i hi=>⟨fun _=>by omega,fun _=>hall i hi⟩) hh ?_
   rw [Nat.sub_zero,hn]
   exact htail ro W0 D0 D φ a w hRo hI
  | succ fuel ih =>
   intro b D φ a w hs hu hc hb hI
   by_cases hall:∀ i,i < h -> lst b i = true
   ·have hI:=hend (lst b) hall D φ a w hI
    rw [sth] at hI
    have hunl:ops.size - h <= unl b ops.size:= by
     have:∀ n,h <= n -> n - h <= unl b n:= by
      intro n
      induction n with
      | zero=>intro h0; omega
      | succ n ihn =>
       intro h0
       by_cases hle:h <= n
       ·have:=ihn hle
        have hbn:=hb n hle
        simp only [unl,List.range_succ,List.countP_append,List.countP_cons,List.countP_nil] at this ⊢
        simp [hbn]
        omega
       ·have:n + 1 = h:=by omega
        omega
     exact this _ hh
    refine draw_tail k2 htl (ops.size - h) (fuel + 1) b a w (Nat.le_refl _) (by omega) hs hc (fun i hi=>⟨fun hl=>?_,fun hlt=>hall i (by omega)⟩) hh ?_
    ·rcases Nat.lt_or_ge i h with hlt|hge
     ·omega
     ·rw [hb i hge] at hl; cases hl
    ·rw [show ops.size - (ops.size - h) = h by omega]
     exact htail ro W0 D0 D φ a w hRo hI
   ·simp only [Classical.not_forall] at hall
    obtain ⟨i0,hi0,hu0⟩:=hall
    have hu0':lst b i0 = false:=by simpa using hu0
    obtain ⟨j0,hj0⟩:=ready_some hs k2 ops.size i0 (by omega) (by omega) hu0'
    refine ⟨fun h0=>absurd (h0 ▸ hj0) (by simp),fun i hi=>?_⟩
    obtain ⟨h1,h2,o,ho,hd⟩:=ready_spec hs hi
    have hih:i < h:= by
     rcases Nat.lt_or_ge i h with hlt|hge
     ·exact hlt
     ·exfalso
      have hw':=htl (i - h) (by omega) i0 (by omega)
      rw [show h + (i - h) = i by omega] at hw'
      have:=waits_listed hc ops.size i i0 o ho hd hw'
      rw [hu0'] at this; cases this
    obtain ⟨o',e,g1,g2,g3⟩:=hst i hih
    rw [ho] at g1; cases g1
    obtain ⟨o',q1,q2,q3⟩:=hhead i hih
    rw [ho] at q1; cases q1
    have hneeds:∀ t ∈ needs ops o,(SX (lst b)).get t = (st i).get t:= by
     intro t ht
     have hsl:=slotOK_spec (q2 t ht)
     show look (envX ops l (lst b) s0.env h) t = look (st i).env t
     rw [henv i (by omega)]
     by_cases hex:∃ j,j < h /\ (ops[j]?).bind (·.dst) = some t
     ·obtain ⟨j,hj,hdj⟩:=hex
      have huniq:∀ j',j' < h -> j' ≠ j -> (ops[j']?).bind (·.dst) ≠ some t:=fun j' hj' hne=>hdst j j' t hj hj' (fun e=>hne e.symm) hdj
      rcases hsl j hj hdj with rfl|⟨hlt,hdr⟩|⟨hlt,oj,hoj,hdr⟩
      ·rw [envX_none h fun i' hi' hx=>?_,envX_none j fun i' hi' _=>huniq i' (by omega) (by omega)]
       by_cases he:i' = j
       ·subst he; rw [h2] at hx; cases hx
       ·exact huniq i' hi' he
      ·obtain ⟨ed,hed,had,hon⟩:=direct_mem hdr
       have hlj:lst b j = true:=by rw [<- hon]; exact hd ed hed had
       rw [envX_some h j hj hlj hdj huniq,envX_some i j hlt rfl hdj fun j' hj' hne=>huniq j' (by omega) hne]
      ·obtain ⟨ed,hed,had,hon⟩:=direct_mem hdr
       have hlj:lst b j = false:= by
        cases hbj:lst b j
        ·rfl
        ·have:=hc j oj hoj hbj ed hed had
         rw [hon,h2] at this; cases this
       rw [envX_none h fun i' hi' hx=>?_,envX_none i fun i' hi' _=>huniq i' (by omega) (by omega)]
       by_cases he:i' = j
       ·subst he; rw [hlj] at hx; cases hx
       ·exact huniq i' hi' he
     ·have hno:∀ j,j < h -> (ops[j]?).bind (·.dst) ≠ some t:=fun j hj hdj=>hex ⟨j,hj,hdj⟩
      rw [envX_none h fun i' hi' _=>hno i' hi',envX_none i fun i' hi' _=>hno i' (by omega)]
    have hXset:∀ j,lst (b.setIfInBounds i true) j = if i = j then true else lst b j:=fun j=>lst_set (by omega)
    have hrest:∀ D' φ' a' w',Inv W0 D0 nt (SX (lst (b.setIfInBounds i true))) D' φ' a' w' -> wpAnyIn (FW ro) 0 P .any ops (Lift W0 D0 nt Q) fuel (b.setIfInBounds i true) a' w':= by
     intro D' φ' a' w' hI'
     refine ih _ D' φ' a' w' (by simp [hs]) ?_ ?_ ?_ hI'
     ·have:=unl_set hs h1 h2; omega
     ·intro i' o' hi' hl' ed he ha
      rw [hXset] at hl' ⊢
      by_cases e1:i = ed.on
      ·rw [if_pos e1]
      ·rw [if_neg e1]
       by_cases e2:i = i'
       ·subst e2
        rw [ho] at hi'; cases hi'
        exact hd ed he ha
       ·rw [if_neg e2] at hl'
        exact hc i' o' hi' hl' ed he ha
     ·intro j hj
      rw [hXset,if_neg (by omega)]; exact hb j hj
    have henv':∀ t,look (putE (SX (lst b)).env o.dst e.x) t = look (envX ops l (lst (b.setIfInBounds i true)) s0.env h) t:= by
     intro t
     rw [look_putE]
     have hod:(ops[i]?).bind (·.dst) = o.dst:=by rw [ho]; rfl
     by_cases hdt:o.dst = some t
     ·rw [if_pos hdt,envX_some h i hih (by rw [hXset,if_pos rfl]) (by rw [hod]; exact hdt) fun j hj hne=>hdst i j t hih hj (fun e=>hne e.symm) (by rw [hod]; exact hdt)]
      rw [g2]; rfl
     ·rw [if_neg hdt]
      show look (envX ops l (lst b) s0.env h) t = _
      by_cases hex:∃ j,j < h /\ lst b j = true /\ (ops[j]?).bind (·.dst) = some t
      ·obtain ⟨j,hj,hlj,hdj⟩:=hex
       have huniq:∀ j',j' < h -> j' ≠ j -> (ops[j']?).bind (·.dst) ≠ some t:=fun j' hj' hne=>hdst j j' t hj hj' (fun e=>hne e.symm) hdj
       rw [envX_some h j hj hlj hdj huniq,envX_some h j hj (by rw [hXset]; split <;> simp_all) hdj huniq]
      ·rw [envX_none h fun j hj hx hdj=>hex ⟨j,hj,hx,hdj⟩,envX_none h fun j hj hx hdj=>?_]
       rw [hXset] at hx
       by_cases e1:i = j
       ·subst e1; rw [hod] at hdj; exact hdt hdj
       ·rw [if_neg e1] at hx; exact hex ⟨j,hj,hx,hdj⟩
    have fin:∀ (objs:List (Nat × Option AObj)) (n:Nat),(∀ id,look objs id = (SX (lst (b.setIfInBounds i true))).obj id) -> n = (SX (lst (b.setIfInBounds i true))).nxt →
      ∀ D' φ' a' w',Inv W0 D0 nt ⟨putE (SX (lst b)).env o.dst e.x,objs,n⟩ D' φ' a' w' -> Inv W0 D0 nt (SX (lst (b.setIfInBounds i true))) D' φ' a' w':= by
     rintro objs n hob rfl D' φ' a' w' hI'
     refine hI'.weaken (fun t x hx=>?_) (fun id ob ho=>by show look objs id = _; rw [hob]; exact ho) (fun t x hx=>?_) (fun id ob ho=>?_)
     ·show look _ t = _; rw [henv' t]; exact hx
     ·refine (hI'.env t x ?_).1
      show look _ t = _; rw [henv' t]; exact hx
     ·have:=hI'.objs id ob (by show look objs id = _; rw [hob]; exact ho)
      exact ⟨this.1,this.2.1⟩
    have hstep:∀ (s':ASt),GOpToZ P nt ops Q o (SX (lst b)) s' -> (∀ D' φ' a' w',Inv W0 D0 nt s' D' φ' a' w' -> Inv W0 D0 nt (SX (lst (b.setIfInBounds i true))) D' φ' a' w') →
      wpOpIn (FW ro) 0 P ops (Lift W0 D0 nt Q) i (wpAnyIn (FW ro) 0 P .any ops (Lift W0 D0 nt Q) fuel (b.setIfInBounds i true)) a w:= by
     intro s' hg hf
     unfold wpOpIn
     rw [ho]
     have:=hg ro W0 D0 D φ a w hI (wpAnyIn (FW ro) 0 P .any ops (Lift W0 D0 nt Q) fuel (b.setIfInBounds i true)) (fun D' φ' a' w' hI'=>hrest D' φ' a' w' (hf D' φ' a' w' hI'))
     simp only []
     split
     ·rename_i hw; rw [if_pos hw] at this; exact this
     ·rename_i hw; rw [if_neg hw] at this; exact ⟨fun _ _=>trivial,this⟩
    cases hef:e.eff with
    | false =>
     have heff:effX l (lst (b.setIfInBounds i true)) h = effX l (lst b) h:= by
      have:∀ k,effX l (lst (b.setIfInBounds i true)) k = effX l (lst b) k:= by
       intro k
       induction k with
       | zero=>rfl
       | succ k ihk =>
        unfold effX
        rw [hXset,ihk]
        by_cases e1:i = k
        ·subst e1
         simp only [g2,Option.map_some,Option.getD_some,hef,if_true]
         cases lst b i <;> rfl
        ·rw [if_neg e1]
      exact this h
     have hle:effX l (lst b) h <= h:= by
      rcases effX_spec (l:=l) (X:=lst b) h with ⟨z,_⟩|⟨j,z,hj,_⟩ <;> omega
     refine hstep _ (g3.evP hef (SX (lst b)) hneeds (fun id hid=>?_) (fun id hid=>?_)) (fin _ _ (fun id=>?_) (by show (st _).nxt = (st _).nxt; rw [heff]))
     rotate_left
     ·rw [hSXi (lst b) i e id g2 hef hid hih,h2,hloc i e id g2 hef hid hih i (by omega),if_neg (by omega)]
     ·rw [look_app_map (fun id=>(st (i + 1)).obj id)]
      by_cases hm:id ∈ e.mods
      ·rw [if_pos hm,hSXi (lst (b.setIfInBounds i true)) i e id g2 hef hm hih,hXset,if_pos rfl]
      ·rw [if_neg hm]
       show (SX (lst b)).obj id = _
       by_cases hid:id ∈ fr
       ·obtain ⟨j,ej,hj,hlj,hej,hmj⟩:=(hfr id).1 hid
        have hij:i ≠ j:=by rintro rfl; rw [g2] at hlj; cases hlj; exact hm hmj
        rw [hSXi (lst b) j ej id hlj hej hmj hj,hSXi (lst (b.setIfInBounds i true)) j ej id hlj hej hmj hj,hXset,if_neg hij]
       ·rw [hSXo _ id hid,hSXo _ id hid,heff]
     obtain ⟨hidlt,r2⟩:=ridsOK_spec k5 g2 hid
     by_cases hmod:∃ (j:Nat) (ej:DEnt),l[j]? = some ej /\ id ∈ ej.mods
     ·obtain ⟨j,ej,hlj,hmj⟩:=hmod
      obtain ⟨hej,hij,hwj⟩:=r2 j ej hlj hmj
      have hjh:j < h:=by rw [<- hlen]; exact (List.getElem?_eq_some_iff.1 hlj).1
      have hnl:lst b j = false:= by
       cases hb':lst b j with
       | false=>rfl
       | true =>
        obtain ⟨oj,gj,_⟩:=hhead j hjh
        have:=waits_listed hc ops.size j i oj gj (fun ed hed had=>hc j oj gj hb' ed hed had) hwj
        rw [h2] at this; cases this
      rw [hSXi (lst b) j ej id hlj hej hmj hjh,hnl,hloc j ej id hlj hej hmj hjh i (by omega),if_neg (by omega)]
     have hno:∀ e' ∈ l,id ∉ e'.mods:=fun e' he' hm=>by
      obtain ⟨j,hj⟩:=List.mem_iff_getElem?.1 he'
      exact hmod ⟨j,e',hj,hm⟩
     have hidf:id ∉ fr:=fun hf=>by
      obtain ⟨j,ej,hj,hlj,hej,hmj⟩:=(hfr id).1 hf
      exact hno ej (List.mem_of_getElem? hlj) hmj
     rw [hSXo _ id hidf,hkeep id hidlt hno i (by omega)]
     exact hkeep id hidlt hno _ hle
    | true =>
     have before:∀ j ej,j < i -> l[j]? = some ej -> ej.eff = true -> lst b j = true:= by
      have:∀ d j ej,i - j <= d -> j < i -> l[j]? = some ej -> ej.eff = true -> lst b j = true:= by
       intro d
       induction d with
       | zero=>intro j ej h0 hj _ _; omega
       | succ d ihd =>
        intro j ej h0 hj hej heff
        by_cases hmid:∃ m em,j < m /\ m < i /\ l[m]? = some em /\ em.eff = true
        ·obtain ⟨m,em,hm1,hm2,hem,hme⟩:=hmid
         have hlm:=ihd m em (by omega) hm2 hem hme
         have:∃ m em,j < m /\ m < i /\ l[m]? = some em /\ em.eff = true /\ ∀ q,j < q -> q < m -> ∀ eq,l[q]? = some eq -> eq.eff = false:= by
          have hfind:∀ c m em,m - j <= c -> j < m -> m < i -> l[m]? = some em -> em.eff = true -> ∃ m em,j < m /\ m < i /\ l[m]? = some em /\ em.eff = true /\ ∀ q,j < q -> q < m -> ∀ eq,l[q]? = some eq -> eq.eff = false:= by
           intro c
           induction c with
           | zero=>intro m em h0 h1; omega
           | succ c ihc =>
            intro m em h0 h1 h2' h3 h4
            by_cases hq:∃ q eq,j < q /\ q < m /\ l[q]? = some eq /\ eq.eff = true
            ·obtain ⟨q,eq,a1,a2,a3,a4⟩:=hq
             exact ihc q eq (by omega) a1 (by omega) a3 a4
            ·refine ⟨m,em,h1,h2',h3,h4,fun q a1 a2 eq a3=>?_⟩
             cases hqe:eq.eff
             ·rfl
             ·exact absurd ⟨q,eq,a1,a2,a3,hqe⟩ hq
          exact hfind _ m em (Nat.le_refl _) hm1 hm2 hem hme
         obtain ⟨m',em',a1,a2,a3,a4,a5⟩:=this
         have hlm':=ihd m' em' (by omega) a2 a3 a4
         have hw':=effOK_pair k4 j m' ej em' a1 hej a3 heff a4 a5
         simp only [Nat.zero_add] at hw'
         obtain ⟨om,gm,_⟩:=hhead m' (by omega)
         exact waits_listed hc ops.size m' j om gm (fun ed hed had=>hc m' om gm hlm' ed hed had) hw'
        ·have hw':=effOK_pair k4 j i ej e hj hej g2 heff hef (fun m a1 a2 em hem=>by
          cases hme:em.eff
          ·rfl
          ·exact absurd ⟨m,em,a1,a2,hem,hme⟩ hmid)
         simp only [Nat.zero_add] at hw'
         exact waits_listed hc ops.size i j o ho hd hw'
      exact fun j ej hj=>this i j ej (by omega) hj
     have behind:∀ j ej,i < j -> j < h -> l[j]? = some ej -> ej.eff = true -> lst b j = false:= by
      have:∀ d j ej,j - i <= d -> i < j -> j < h -> l[j]? = some ej -> ej.eff = true -> lst b j = false:= by
       intro d
       induction d with
       | zero=>intro j ej h0 h1; omega
       | succ d ihd =>
        intro j ej h0 hij hjh hej heff
        cases hb':lst b j with
        | false=>rfl
        | true =>
         exfalso
         have:∃ m em,i <= m /\ m < j /\ l[m]? = some em /\ em.eff = true /\ ∀ q,m < q -> q < j -> ∀ eq,l[q]? = some eq -> eq.eff = false:= by
          have hfind:∀ c m em,j - m <= c -> i <= m -> m < j -> l[m]? = some em -> em.eff = true -> ∃ m em,i <= m /\ m < j /\ l[m]? = some em /\ em.eff = true /\ ∀ q,m < q -> q < j -> ∀ eq,l[q]? = some eq -> eq.eff = false:= by
           intro c
           induction c with
           | zero=>intro m em h0 h1 h2'; omega
           | succ c ihc =>
            intro m em h0 h1 h2' h3 h4
            by_cases hq:∃ q eq,m < q /\ q < j /\ l[q]? = some eq /\ eq.eff = true
            ·obtain ⟨q,eq,a1,a2,a3,a4⟩:=hq
             exact ihc q eq (by omega) (by omega) a2 a3 a4
            ·refine ⟨m,em,h1,h2',h3,h4,fun q a1 a2 eq a3=>?_⟩
             cases hqe:eq.eff
             ·rfl
             ·exact absurd ⟨q,eq,a1,a2,a3,hqe⟩ hq
          exact hfind _ i e (Nat.le_refl _) (Nat.le_refl _) hij g2 hef
         obtain ⟨m,em,a1,a2,a3,a4,a5⟩:=this
         have hw':=effOK_pair k4 m j em ej a2 a3 hej a4 heff a5
         simp only [Nat.zero_add] at hw'
         obtain ⟨oj,gj,_⟩:=hhead j hjh
         have hlm:=waits_listed hc ops.size j m oj gj (fun ed hed had=>hc j oj gj hb' ed hed had) hw'
         by_cases hmi:m = i
         ·subst hmi; rw [h2] at hlm; cases hlm
         ·have:=ihd m em (by omega) (by omega) (by omega) a3 a4
          rw [this] at hlm; cases hlm
      exact fun j ej h1 h2=>this j j ej (by omega) h1 h2
     have heq1:(∀ id,id ∉ fr -> (SX (lst b)).obj id = (st i).obj id) /\ (SX (lst b)).nxt = (st i).nxt:= by
      have:effX l (lst b) h = effX l (fun _=>true) i:= by
       have hgen:∀ E,E = effX l (fun _=>true) i -> ∀ k,i <= k -> k <= h -> effX l (lst b) k = E:= by
        intro E hE k hk
        induction k with
        | zero =>
         intro _
         have:i = 0:=by omega
         subst this; rw [hE]; rfl
        | succ k ihk =>
         intro hkh
         by_cases hki:i = k + 1
         ·have:∀ m,m <= i -> effX l (lst b) m = effX l (fun _=>true) m:= by
           intro m
           induction m with
           | zero=>intro _; rfl
           | succ m ihm =>
            intro hm
            unfold effX
            rw [ihm (by omega)]
            cases hme:((l[m]?).map (·.eff)).getD false with
            | false=>cases lst b m <;> rfl
            | true =>
             have:∃ em,l[m]? = some em /\ em.eff = true:= by
              cases hlm:l[m]? with
              | none=>rw [hlm] at hme; cases hme
              | some em=>rw [hlm] at hme; exact ⟨em,rfl,hme⟩
             obtain ⟨em,z1,z2⟩:=this
             rw [before m em (by omega) z1 z2]
          rw [hE,<- hki]
          exact this i (Nat.le_refl _)
         ·have ih':=ihk (by omega) (by omega)
          unfold effX
          rw [ih']
          cases hbk:lst b k with
          | false=>rfl
          | true =>
           cases hme:((l[k]?).map (·.eff)).getD false with
           | false=>rfl
           | true =>
            exfalso
            have:∃ em,l[k]? = some em /\ em.eff = true:= by
             cases hlm:l[k]? with
             | none=>rw [hlm] at hme; cases hme
             | some em=>rw [hlm] at hme; exact ⟨em,rfl,hme⟩
            obtain ⟨em,z1,z2⟩:=this
            by_cases hik:i = k
            ·subst hik; rw [h2] at hbk; cases hbk
            ·rw [behind k em (by omega) (by omega) z1 z2] at hbk; cases hbk
       exact hgen _ rfl h (by omega) (Nat.le_refl _)
      constructor
      ·intro id hid; rw [hSXo _ id hid,this]; exact ((hobjs i (by omega)).1 id hid).symm
      ·show (st (effX l (lst b) h)).nxt = _; rw [this]; exact ((hobjs i (by omega)).2).symm
     have heq2:effX l (lst (b.setIfInBounds i true)) h = i + 1:= by
      have hgen:∀ k,i < k -> k <= h -> effX l (lst (b.setIfInBounds i true)) k = i + 1:= by
       intro k
       induction k with
       | zero=>intro h0; omega
       | succ k ihk =>
        intro hik hkh
        unfold effX
        rw [hXset]
        by_cases e1:i = k
        ·subst e1
         simp [g2,hef]
        ·rw [if_neg e1,ihk (by omega) (by omega)]
         cases hbk:lst b k with
         | false=>rfl
         | true =>
          cases hme:((l[k]?).map (·.eff)).getD false with
          | false=>rfl
          | true =>
           exfalso
           have:∃ em,l[k]? = some em /\ em.eff = true:= by
            cases hlm:l[k]? with
            | none=>rw [hlm] at hme; cases hme
            | some em=>rw [hlm] at hme; exact ⟨em,rfl,hme⟩
           obtain ⟨em,z1,z2⟩:=this
           rw [behind k em (by omega) (by omega) z1 z2] at hbk; cases hbk
      exact hgen h hih (Nat.le_refl _)
     refine hstep ⟨putE (SX (lst b)).env o.dst e.x,(SX (lst (b.setIfInBounds i true))).objs,(SX (lst (b.setIfInBounds i true))).nxt⟩
      (g3.evE hef fr (SX (lst b)) _ hneeds heq1.2 (fun id hid=>?_) heq1.1 rfl (by show (st _).nxt = _; rw [heq2]) (fun id=>?_)) (fin _ _ (fun _=>rfl) rfl)
     ·obtain ⟨j,ej,hj,hlj,hej,hmj⟩:=(hfr id).1 hid
      refine ⟨Nat.lt_of_lt_of_le (loc1 j ej hlj hej id hmj) (hnxt i (by omega)),fun hm=>?_⟩
      have hij:i ≠ j:=by rintro rfl; rw [g2] at hlj; cases hlj; rw [hef] at hej; cases hej
      rcases Nat.lt_or_gt_of_ne hij with hlt|hgt
      ·exact loc2 i j e ej hlt g2 hlj (.inr hej) id hm hmj
      ·exact loc2 j i ej e hgt hlj g2 (.inl hej) id hmj hm
     ·show (SX (lst (b.setIfInBounds i true))).obj id = _
      by_cases hid:id ∈ fr
      ·rw [if_pos hid]
       obtain ⟨j,ej,hj,hlj,hej,hmj⟩:=(hfr id).1 hid
       have hij:i ≠ j:=by rintro rfl; rw [g2] at hlj; cases hlj; rw [hef] at hej; cases hej
       rw [hSXi (lst b) j ej id hlj hej hmj hj,hSXi (lst (b.setIfInBounds i true)) j ej id hlj hej hmj hj,hXset,if_neg hij]
      ·rw [if_neg hid,hSXo _ id hid,heq2]
 refine wpIn_region_any hm (hgo ops.size _ D φ a _ (by simp) ?_ ?_ ?_ ?_)
 ·have:unl (Array.replicate ops.size false) ops.size <= (List.range ops.size).length:=List.countP_le_length
  simpa using this
 ·intro i o hi hl
  simp only [lst,Array.getD_eq_getD_getElem?,Array.getElem?_replicate] at hl
  split at hl <;> simp at hl
 ·intro i _
  simp only [lst,Array.getD_eq_getD_getElem?,Array.getElem?_replicate]
  split <;> rfl
 ·have hX:∀ i,lst (Array.replicate ops.size false) i = false:= by
   intro i
   simp only [lst,Array.getD_eq_getD_getElem?,Array.getElem?_replicate]
   split <;> rfl
  have e1:envX ops l (lst (Array.replicate ops.size false)) s0.env h = s0.env:= by
   have:∀ k,envX ops l (lst (Array.replicate ops.size false)) s0.env k = s0.env:= by
    intro k; induction k with
    | zero=>rfl
    | succ k ih=>unfold envX; rw [hX k]; exact ih
   exact this h
  have e2:effX l (lst (Array.replicate ops.size false)) h = 0:= by
   have:∀ k,effX l (lst (Array.replicate ops.size false)) k = 0:= by
    intro k; induction k with
    | zero=>rfl
    | succ k ih=>unfold effX; rw [hX k]; exact ih
   exact this h
  have hg:∀ t,(SX (lst (Array.replicate ops.size false))).get t = s0.get t:=fun t=>by show look (envX _ _ _ _ _) t = _; rw [e1]; rfl
  have ho:∀ id,(SX (lst (Array.replicate ops.size false))).obj id = s0.obj id:= by
   intro id
   by_cases hid:id ∈ fr
   ·obtain ⟨j,ej,hj,hlj,hej,hmj⟩:=(hfr id).1 hid
    rw [hSXi _ j ej id hlj hej hmj hj,hX j]
   ·rw [hSXo _ id hid,e2,st0]
  have hn:(SX (lst (Array.replicate ops.size false))).nxt = s0.nxt:=by show (st _).nxt = _; rw [e2,st0]
  refine Inv.weaken (s:=s0) ?_ (fun t x hx=>by rw [<- hg]; exact hx) (fun id ob hob=>by rw [<- ho]; exact hob) (fun t x hx=>by rw [hn]; exact (hI.env t x (by rw [<- hg]; exact hx)).1)
   (fun id ob hob=>by rw [hn]; have:=hI.objs id ob (by rw [<- ho]; exact hob); exact ⟨this.1,this.2.1⟩)
  exact ⟨hI.below.drew,hI.size,hI.defers.imp fun ms hms=>⟨hms.1,hms.2.1,fun d hd=>hms.2.2 d hd⟩,hI.dlt,hI.dof,hI.d0,fun t x hx=>⟨(hI.env t x hx).1,(hI.env t x hx).2.choose,(hI.env t x hx).2.choose_spec.1,(hI.env t x hx).2.choose_spec.2.mono (fun _ _=>rfl) (fun _ h=>h) (fun _ _=>rfl) (hI.env t x hx).1⟩,
   fun id ob ho=>⟨(hI.objs id ob ho).1,(hI.objs id ob ho).2.1,(hI.objs id ob ho).2.2.keep (hI.objs id ob ho).2.1 (hI.objs id ob ho).1 (fun _ _=>rfl) (fun _ h=>h) (fun _ _=>rfl) (fun _ _=>rfl)⟩,hI.own,hI.sep⟩
end
theorem AL_bot {P:Program} {nt:Nat} {ops:Array Oper} {rest:List Oper} {Q:Exit -> ASt -> Prop} {s:ASt} {t id:Nat} (hx:s.get t = some (.box id 0)) (hid:s.nxt <= id):AL P nt ops rest Q s:=fun ro W0 D0 D φ a w hr hI=>by
 have:=(hI.env t _ hx).1
 simp [FV.lt] at this; omega
end Go.Abs
