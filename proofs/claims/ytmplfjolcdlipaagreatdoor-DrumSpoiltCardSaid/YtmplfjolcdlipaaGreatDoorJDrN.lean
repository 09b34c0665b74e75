/- The least number that must be put in before some hour. -/
import Derived.Test.YtmplfjolcdlipaaGreatDoorJDrM
import Derived.Test.YtmplfjolcdlipaaGreatDoorJNcJ
set_option linter.unusedVariables false
set_option linter.unusedSimpArgs false
namespace Go.Abs
open Go.Proofs
set_option linter.unusedVariables false
set_option linter.unusedSimpArgs false
set_option maxRecDepth 100000
set_option maxHeartbeats 4000000 in
theorem f98o (d : Drum) (hP : DrumP d) (hne : filledL d ≠ []) : ACallsX Tryz.prog 98 [.pv (eDrum d),.pv (eFilledL d (filledL d))] [] 0
  (fun sf => ∃ l,sf = mkSt [(0,.agg [.arr 1,.mp 0])] [(0,memoO (memoF (winP d)) l),(1,.arr 67 2 ((winP d).map eSpan))] 2) (fun _ _ => False):= by
 have hbl := hP.b1
 refine ACallsX.of_body hT Tryz.func98 rfl (by kernel_rfl) rfl ?_
 (repeat (refine stq ?_))
 refine AL_doS rfl (op_makeMemo (memoF (winP d)) rfl rfl) ?_
 rintro s' ⟨l,rfl⟩
 (repeat (refine stq ?_))
 refine AW_nilBox 3 0 67 2 rfl rfl ?_
 refine AW_loopC (fun k : Nat => k <= d.batches.length) (fun k => mkSt [(1,.pv (.sl ((filledL d).map (eFilled d)))),(4,.box 1 0),(5,.box 3 0),(14,.pv (.sl (d.batches.map eBatch))),(15,.pv (vi d.batches.length)),(16,.pv (vi k))]
  [(1,.box [.nils,.pv .nilMap]),(2,memoO (memoF (winP d)) l),(3,.box [.arr 4,.mp 2]),(4,.arr 67 2 (((d.batches.take k).map (winP1 d)).map eSpan))] 5) (fun k => d.batches.length - k) 0 (Nat.zero_le _) ?_ ?_
 ·(refine Le.mk ?_ ?_; all_goals (repeat' (first | exact trivial | refine sle ?_ | refine ⟨?_,rfl,?_⟩ | refine ⟨?_,by decide,rfl,?_⟩ | fail)))
 ·intro k hk
  (repeat (refine stq ?_))
  refine AW_if rfl (fun hc => ?_) (fun hc => ?_)
  ·have hk' : k < d.batches.length := by omega
   obtain ⟨b,hb⟩ : ∃ b,d.batches[k]? = some b := ⟨d.batches[k],by simp [hk']⟩
   have e1 := get_map eBatch hb
   have k92 := f92 d hP hne b (hP.batch b (List.mem_of_getElem? hb))
   have k93 := f93 d hP hne b (hP.batch b (List.mem_of_getElem? hb))
   have hsn : (d.batches.take (k + 1)).map (winP1 d) = (d.batches.take k).map (winP1 d) ++ [winP1 d b] := map_take_succ _ hb
   have htl : ((d.batches.take k).map (winP1 d)).length <= 1000 := by simp; omega
   have hw : winP1 d b = if smoothI d b < 0 then ⟨1,0⟩ else ⟨smoothI d b,thinI d b⟩ := rfl
   generalize (d.batches.take k).map (winP1 d) = ts at *
   generalize smoothI d b = x at *
   generalize thinI d b = y at *
   (repeat (refine stq ?_))
   (repeat (first | refine sdq ?_ | refine DG_next (D_call rfl rfl rfl rfl rfl (k92)) ?_ | refine DG_next (D_call rfl rfl rfl rfl rfl (k93)) ?_))
   refine DG_end hM (by kernel_rfl) ?_
   (repeat (refine stq ?_))
   refine AW_if rfl (fun hc2 => ?_) (fun hc2 => ?_)
   ·rw [if_pos hc2] at hw
    (repeat' (first | refine stq ?_ | (refine AL_do2 rfl ?_; first | refine ⟨_,op_call1 rfl rfl rfl rfl (f144),nrmA rfl ?_⟩) | (with_reducible refine AL_id ?_); (fail_if_success (refine AL_glit rfl rfl rfl (by first | exact .inl (by with_reducible rfl) | exact .inr (by with_reducible rfl)) ?_)); first | refine AL_gdec rfl rfl rfl (fun hg => ?_) (fun hg => ?_) | refine AL_gnot rfl rfl rfl (fun hg => ?_) (fun hg => ?_) | refine AL_gcases rfl rfl rfl (fun hg => ?_) (fun hg => ?_)))
    refine ⟨k + 1,hk',by omega,?_⟩
    rw [hsn,hw]
    (refine Le.mkR [(1,1),(2,2),(3,3),(4,8)] ?_ ?_ rfl; all_goals (repeat' (first | exact trivial | refine sle ?_ | refine ⟨?_,rfl,?_⟩ | refine ⟨?_,by decide,rfl,?_⟩ | fail)))
    rw [List.map_append]; rfl
   ·rw [if_neg hc2] at hw
    (repeat (refine stq ?_))
    refine ⟨k + 1,hk',by omega,?_⟩
    rw [hsn,hw]
    (refine Le.mkR [(1,1),(2,2),(3,3),(4,8)] ?_ ?_ rfl; all_goals (repeat' (first | exact trivial | refine sle ?_ | refine ⟨?_,rfl,?_⟩ | refine ⟨?_,by decide,rfl,?_⟩ | fail)))
    rw [List.map_append]; rfl
  ·have hk' : k = d.batches.length := by omega
   subst hk'
   rw [List.take_length]
   (repeat (refine stq ?_))
   refine ⟨_,mkSt [(0,.agg [.arr 1,.mp 0])] [(0,memoO (memoF (winP d)) l),(1,.arr 67 2 ((winP d).map eSpan))] 2,rfl,?_,l,rfl⟩
   (refine Le.mkR [(0,2),(1,4)] ?_ ?_ rfl; all_goals (repeat' (first | exact trivial | refine sle ?_ | refine ⟨?_,rfl,?_⟩ | refine ⟨?_,by decide,rfl,?_⟩ | fail)))
section
variable {P : Program} {nt : Nat} {s : ASt} {o : Oper} {ops : Array Oper}
theorem D_subW {t t' : TypeId} {x y : Operand} {m n : Int} (hg : guardT ops s o = true) (ho : o.op = .binOp .sub t x y t') (hd : dstB nt o.dst = true) (hx : s.ev x = some (.pv (.int .i64 m))) (hy : s.ev y = some (.pv (.int .i64 n))) :
  StepOK P nt ops o s ⟨some (.pv (.int .i64 (IntKind.i64.wrap (m - n)))),false,[],[]⟩ (s.putO o.dst (some (.pv (.int .i64 (IntKind.i64.wrap (m - n)))))) :=
 StepOK.mkP hg fun s1 h1 _ => op_bin ho hd (by rw [ev_agree h1 (by simp [ho,Op.operands])]; exact hx) (by rw [ev_agree h1 (by simp [ho,Op.operands])]; exact hy) rfl
theorem D_addW {t t' : TypeId} {x y : Operand} {m n : Int} (hg : guardT ops s o = true) (ho : o.op = .binOp .add t x y t') (hd : dstB nt o.dst = true) (hx : s.ev x = some (.pv (.int .i64 m))) (hy : s.ev y = some (.pv (.int .i64 n))) :
  StepOK P nt ops o s ⟨some (.pv (.int .i64 (IntKind.i64.wrap (m + n)))),false,[],[]⟩ (s.putO o.dst (some (.pv (.int .i64 (IntKind.i64.wrap (m + n)))))) :=
 StepOK.mkP hg fun s1 h1 _ => op_bin ho hd (by rw [ev_agree h1 (by simp [ho,Op.operands])]; exact hx) (by rw [ev_agree h1 (by simp [ho,Op.operands])]; exact hy) rfl
end
theorem ACallsX.pvAgg {P : Program} {f : FuncId} {xs : List FV} {objs ob : List (Nat × AObj)} {n m : Nat} {cs : List PV} {QP : TypeId × Value -> ASt -> Prop} (h : ACallsX P f xs objs n (fun sf => sf = mkSt [(0,.agg (cs.map FV.pv))] ob m) QP) : ACallsX P f xs objs n (fun sf => sf = mkSt [(0,.pv (.agg cs))] ob m) QP :=
 ⟨h.1,fun W D φ vs hko a b c => (h.2 W D φ vs hko a b c).mono fun e w' hp => by
  obtain ⟨sf,D',φ',h1,h2,h3,h4,h5,h6⟩ := hp
  rcases h6 with ⟨v,rfl,hv,rfl⟩ | h6
  ·refine ⟨mkSt [(0,.pv (.agg cs))] ob m,D',φ',h1,h2,h3,⟨h4.dlt,h4.objs,h4.own,h4.sep⟩,h5,.inl ⟨v,rfl,fun x hx => ?_,rfl⟩⟩
   have hx : some (FV.pv (.agg cs)) = some x := hx
   cases hx
   have hr := (hv (.agg (cs.map FV.pv)) rfl).2
   refine ⟨rfl,?_⟩
   cases hr with
   | agg vs _ hl hr =>
    refine .pv _ _ (.agg vs cs (by simpa using hl) fun j u p hu hp => ?_)
    exact FRep.inv_pv (hr j u (.pv p) hu (by rw [List.getElem?_map,hp]; rfl))
  ·exact ⟨sf,D',φ',h1,h2,h3,h4,h5,.inr h6⟩⟩
theorem wrap_id {n : Int} (h : -9223372036854775808 <= n /\ n <= 9223372036854775807) : IntKind.i64.wrap n = n:= by
 unfold IntKind.wrap; simp [IntKind.signed,IntKind.bits]; omega
def fineW (d : Drum) (hour by_ : Int) : Bool := inB hour 0 (IntKind.i64.wrap (d.hours - 1)) && inB by_ (IntKind.i64.wrap (hour + 1)) d.hours
theorem fine_asked (d : Drum) (hour by_ : Int) : askedE d (fineW d hour by_) = askedE d (fineT d hour by_):= by
 cases hb : drumB d with
 | false => unfold askedE; rw [hb]; rfl
 | true =>
  have hP := drumP_of.1 hb
  have h0 := hP.h0; have h1 := hP.h1
  have : fineW d hour by_ = fineT d hour by_:= by
   unfold fineW fineT
   rw [wrap_id (n := d.hours - 1) (by omega)]
   cases q : inB hour 0 (d.hours - 1) with
   | false => rfl
   | true =>
    have q' := q
    simp only [inB,Bool.and_eq_true,decide_eq_true_eq] at q'
    rw [wrap_id (n := hour + 1) (by omega)]
  rw [this]
theorem put_asked {d : Drum} (hP : DrumP d) (hne : filledL d ≠ []) {h : Nat} {n : Int} (h0 : 0 <= n) (h1 : n <= 100) (hl : ∀ s ∈ d.strips,s.hour < (h : Int)) : askedE (putD d h n) true = (filledL (putD d h n),0):= by
 unfold askedE
 rw [drumP_of.2 (put_P hP h h0 h1),filled_put hP hl]
 have : ¬ (filledL d).length = 0 := fun e => hne (List.eq_nil_of_length_eq_zero e)
 simp [this]
abbrev tpK : List Nat := [2,4,10,11,45]
abbrev tpE (W : List Span) (l : Nat) : ASt := mkSt [(14,.box 5 0)] [(4,memoO (memoF W) l),(5,.box [.arr 6,.mp 4]),(6,.arr 67 2 (W.map eSpan))] 7
theorem tpE_new (W : List Span) (l : Nat) : NewOnly 4 (tpE W l):= by
 refine ⟨by show 4 <= 7; omega,fun t x h => ?_,fun id ob h => ?_⟩
 ·have := look_map [(14,FV.box 5 0)] t x h
  simp only [List.mem_cons,List.not_mem_nil,or_false] at this
  cases this; rfl
 ·have := look_map [(4,memoO (memoF W) l),(5,AObj.box [.arr 6,.mp 4]),(6,AObj.arr 67 2 (W.map eSpan))] id ob h
  simp only [List.mem_cons,List.not_mem_nil,or_false] at this
  rcases this with h | h | h <;> cases h
  ·exact ⟨Nat.le_refl _,memo_hnd _ _ _⟩
  ·exact ⟨by omega,rfl⟩
  ·refine ⟨by omega,fun e he => ?_⟩
   obtain ⟨s,_,rfl⟩ := List.mem_map.1 he
   rfl
set_option maxHeartbeats 8000000 in
theorem f35 (d : Drum) (hour by_ : Int) (hd : drumOK d) : ACalls Tryz.prog 35 [eDrum d,vi hour,vi by_] (fun r => r = .tup [vi (topE d hour by_).1,vi (topE d hour by_).2]):= by
 refine ACalls.of_body hT Tryz.func35 rfl (by kernel_rfl) rfl ?_
 by_cases he : errE d (fineT d hour by_) = 0
 ·obtain ⟨hP,hfine,hne,ha⟩ := asked_ok he
  have h0 := hP.h0; have h1 := hP.h1
  have hfine' := hfine
  simp only [fineT,Bool.and_eq_true] at hfine'
  obtain ⟨q1,q2⟩ := hfine'
  have k1 := f87 hour 0 (d.hours - 1)
  have k2 := f87 by_ (hour + 1) d.hours
  rw [q1] at k1
  rw [q2] at k2
  simp only [inB,Bool.and_eq_true,decide_eq_true_eq] at q1 q2
  have k84 := f84 d true hd
  rw [hfine] at ha
  rw [ha] at k84
  have k84 : ACalls Tryz.prog 84 [eDrum d,.bool true] (fun r => r = .tup [.sl ((filledL d).map (eFilled d)),vi 0]) := k84
  have k95 := late95 d hour (by have := hP.sl; omega)
  have k97 := f97 d.adds (by have := hP.al; omega)
  rw [topE,if_pos he]
  (repeat (refine stq ?_))
  (repeat' (first | refine DG_next (StepOK.skipU rfl rfl) ?_ | ((refine DG_cmp hT rfl (fun hg => ?_) (fun hg => ?_)) <;> (try (exfalso; omega))) | refine DG_next (D_shl rfl rfl rfl rfl rfl (by omega)) ?_ | refine DG_next (D_shr rfl rfl rfl rfl rfl (by omega)) ?_ | refine sdq ?_ | ((refine DG_callC (D_call rfl rfl rfl rfl rfl (k1)) (fun hg => ?_) (fun hg => ?_)) <;> (try (exfalso; first | contradiction | omega))) | refine DG_next (D_call rfl rfl rfl rfl rfl (k1)) ?_ | ((refine DG_callC (D_call rfl rfl rfl rfl rfl (k2)) (fun hg => ?_) (fun hg => ?_)) <;> (try (exfalso; first | contradiction | omega))) | refine DG_next (D_call rfl rfl rfl rfl rfl (k2)) ?_ | refine DG_next (D_call_tup rfl rfl rfl rfl rfl (k84)) ?_))
  refine DG_end hM (by kernel_rfl) ?_
  cases ql : lateB d hour with
  | true =>
   rw [ql] at k95
   (repeat' (first | refine stq ?_ | (refine AL_do2 rfl ?_; first | refine ⟨_,op_callB rfl rfl rfl rfl (k95) rfl,nrmA rfl ?_⟩) | (with_reducible refine AL_id ?_); (fail_if_success (refine AL_glit rfl rfl rfl (by first | exact .inl (by with_reducible rfl) | exact .inr (by with_reducible rfl)) ?_)); first | refine AL_gdec rfl rfl rfl (fun hg => ?_) (fun hg => ?_) | refine AL_gnot rfl rfl rfl (fun hg => ?_) (fun hg => ?_) | refine AL_gcases rfl rfl rfl (fun hg => ?_) (fun hg => ?_)))
   exact ⟨_,_,rfl,rfl,rfl⟩
  | false =>
   rw [ql] at k95
   have hl := late_iff q1.1 ql
   obtain ⟨h,hh⟩ : ∃ h : Nat,hour = (h : Int) := ⟨hour.toNat,by omega⟩
   subst hh
   have hal := hP.al
   have hbl := hP.b1
   rw [show ((h : Nat) : Int).toNat = h by omega] at hl ⊢
   (repeat' (first | refine stq ?_ | (refine AL_do2 rfl ?_; first | refine ⟨_,op_callB rfl rfl rfl rfl (k95) rfl,nrmA rfl ?_⟩ | refine ⟨_,op_call1 rfl rfl rfl rfl (k97),nrmA rfl ?_⟩) | (with_reducible refine AL_id ?_); (fail_if_success (refine AL_glit rfl rfl rfl (by first | exact .inl (by with_reducible rfl) | exact .inr (by with_reducible rfl)) ?_)); first | refine AL_gdec rfl rfl rfl (fun hg => ?_) (fun hg => ?_) | refine AL_gnot rfl rfl rfl (fun hg => ?_) (fun hg => ?_) | refine AL_gcases rfl rfl rfl (fun hg => ?_) (fun hg => ?_)))
   refine AW_loopC (fun k : Nat => k <= 101 /\ ∀ i,i < k -> topB d h by_ i = false)
    (fun k => mkSt [(2,.pv (vi by_)),(4,.box 1 0),(10,.box 2 0),(45,.pv (vi k))] [(1,.box [.pv (vi h)]),(2,.box [.pv (.sl (d.acids.map eAcid)),.pv (vi d.known),.pv (vi d.hours),.arr 3,.pv (.sl (d.strips.map eStrip)),.pv (.sl (d.batches.map eBatch))]),(3,.arr 3 1 ((addsK d h k).map eInt))] 4)
    (fun k => 101 - k) 0 ⟨Nat.zero_le _,fun i hi => by omega⟩ ?_ ?_
   ·(refine Le.mk ?_ ?_; all_goals (repeat' (first | exact trivial | refine sle ?_ | refine ⟨?_,rfl,?_⟩ | refine ⟨?_,by decide,rfl,?_⟩ | fail)))
   ·rintro k ⟨hk,hno⟩
    (repeat (refine stq ?_))
    refine AW_if rfl (fun hc => ?_) (fun hc => ?_)
    ·have hk' : k < 101 := by omega
     have hlen := addsK_len d h k
     have hset := addsK_set d h k
     have hsuc := addsK_succ d h k
     have hxP := put_P hP h (n := (k : Int)) (by omega) (by omega)
     have hxf := filled_put hP (n := (k : Int)) hl
     have hxne : filledL (putD d h k) ≠ [] := by rw [hxf]; exact hne
     have hxa := put_asked hP hne (n := (k : Int)) (by omega) (by omega) hl
     have k84x := f84 (putD d h k) true ⟨hd.1,by show (d.adds.set h (k : Int)).length <= 1000; rw [List.length_set]; exact hd.2.1,hd.2.2⟩
     rw [hxa] at k84x
     have k84x : ACalls Tryz.prog 84 [eDrum (putD d h k),.bool true] (fun r => r = .tup [.sl ((filledL (putD d h k)).map (eFilled (putD d h k))),vi 0]) := k84x
     generalize hB : addsK d h k = B at *
     have hBl : h < B.length := by omega
     have e3 : (B.map eInt)[((h : Nat) : Int).toNat]? = some (eInt (B.getD h 0)):= by
      rw [show ((h : Nat) : Int).toNat = h by omega,List.getElem?_map,List.getD_eq_getElem?_getD,List.getElem?_eq_getElem hBl]; rfl
     have hlt : ((h : Nat) : Int).toNat < (B.map eInt).length := by rw [List.length_map]; omega
     have hbx : (putD d h k).batches.length = d.batches.length := rfl
     have hwl := winP_len (putD d h k)
     have hof := of_all hxP
     have htb : topB d h by_ k = inB by_ (allW (putD d h k)).low (allW (putD d h k)).high := rfl
     have k98 := fun av : Nat -> Value => f98o (putD d h k) hxP hxne
     (repeat (refine stq ?_))
     refine AL_do2 rfl ⟨_,op_indexAddr_arr (k := .i64) (n := (h : Int)) (id := 3) (e' := 3) (sz := 1) (es := B.map eInt) hT rfl rfl rfl rfl rfl rfl rfl rfl (by omega) hlt rfl,?_⟩
     refine AL_do2 rfl ⟨_,op_store_aptr (el := eInt (B.getD h 0)) hT rfl rfl rfl rfl rfl e3 rfl rfl rfl rfl,?_⟩
     refine AL_nil ?_
     refine then_normal ?_
     refine AW_le (s' := mkSt [(2,.pv (vi by_)),(4,.box 1 0),(10,.box 2 0),(11,.pv (vi k)),(45,.pv (vi k))] [(1,.box [.pv (vi h)]),(2,.box [.pv (.sl (d.acids.map eAcid)),.pv (vi d.known),.pv (vi d.hours),.arr 3,.pv (.sl (d.strips.map eStrip)),.pv (.sl (d.batches.map eBatch))]),(3,.arr 3 1 ((d.adds.set h k).map eInt))] 4) ?_ ?_
     ·(refine Le.mk ?_ ?_; all_goals (repeat' (first | exact trivial | refine sle ?_ | refine ⟨?_,rfl,?_⟩ | refine ⟨?_,by decide,rfl,?_⟩ | fail)))
      rw [<- hset]
      exact congrArg some (congrArg (AObj.arr 3 1) (map_putI B _ _))
     refine AW_thaw tpK [10] (mkSt [(10,.pv (.ptr (eDrumC (putD d h k))))] [] 4) (tpE (winP (putD d h k))) ?_ rfl ?_ (fun l => tpE_new _ l) (fun l => ?_)
     ·(refine Le.mk ?_ ?_; all_goals (repeat' (first | exact trivial | refine sle ?_ | refine ⟨?_,rfl,?_⟩ | refine ⟨?_,by decide,rfl,?_⟩ | fail)))
     ·(repeat' (first | refine stq ?_ | (refine AL_do2 rfl ?_; first | refine ⟨_,op_call1 rfl rfl rfl rfl (k84x),nrmA rfl ?_⟩) | (with_reducible refine AL_id ?_); (fail_if_success (refine AL_glit rfl rfl rfl (by first | exact .inl (by with_reducible rfl) | exact .inr (by with_reducible rfl)) ?_)); first | refine AL_gdec rfl rfl rfl (fun hg => ?_) (fun hg => ?_) | refine AL_gnot rfl rfl rfl (fun hg => ?_) (fun hg => ?_) | refine AL_gcases rfl rfl rfl (fun hg => ?_) (fun hg => ?_)))
      refine AL_doS rfl (op_callXs (objs := []) (n := 0) [] [] [] k98 rfl rfl rfl rfl (by (repeat' (first | exact trivial | refine And.intro ?_ ?_)); all_goals (first | rfl | decide)) rfl (by (repeat' (first | exact trivial | refine And.intro ?_ ?_)); all_goals (first | rfl | decide)) rfl trivial (by simp) (fun av sf h => trivial)) ?_
      rintro s' ⟨av,sf,⟨l,rfl⟩,rfl⟩
      (repeat (refine stq ?_))
      refine ⟨l,?_⟩
      (refine Le.mkR [(4,4),(5,6),(6,5)] ?_ ?_ rfl; all_goals (repeat' (first | exact trivial | refine sle ?_ | refine ⟨?_,rfl,?_⟩ | refine ⟨?_,by decide,rfl,?_⟩ | fail)))
     refine AW_le (s' := mkSt [(2,.pv (vi by_)),(4,.box 1 0),(10,.box 2 0),(11,.pv (vi k)),(14,.box 5 0),(45,.pv (vi k))] [(1,.box [.pv (vi h)]),(2,.box [.pv (.sl (d.acids.map eAcid)),.pv (vi d.known),.pv (vi d.hours),.arr 3,.pv (.sl (d.strips.map eStrip)),.pv (.sl (d.batches.map eBatch))]),(3,.arr 3 1 ((d.adds.set h k).map eInt)),(4,memoO (memoF (winP (putD d h k))) l),(5,.box [.arr 6,.mp 4]),(6,.arr 67 2 ((winP (putD d h k)).map eSpan))] 7) ?_ ?_
     ·(refine Le.mk ?_ ?_; all_goals (repeat' (first | exact trivial | refine sle ?_ | refine ⟨?_,rfl,?_⟩ | refine ⟨?_,by decide,rfl,?_⟩ | fail)))
     refine AW_arrBox (b := 5) 0 rfl rfl rfl rfl ?_
     rw [hbx] at hwl hof
     have hall : allB d.batches.length = allB (winP (putD d h k)).length := by rw [hwl]
     have k100 := f100 l (winP (putD d h k)) (by omega)
     have k99 := f99 l (winP (putD d h k)) (allB d.batches.length) (by omega)
     have k102 : ACallsX Tryz.prog 102 [winF (winP (putD d h k)) 0,.pv (vi (allB d.batches.length))] [(0,memoO (memoF (winP (putD d h k))) l)] 1 (fun sf => sf = mkSt [(0,.pv (eS (ofB (winP (putD d h k)) (allB d.batches.length))))] [(0,memoO (memoF (winP (putD d h k))) l)] 1) (fun _ _ => False) := (f102 l (winP (putD d h k)) (allB d.batches.length) (by omega)).pvAgg
     rw [hwl] at k100
     rw [hof] at k99 k102
     generalize allW (putD d h k) = A at *
     generalize winP (putD d h k) = W at *
     have k101 := f101 by_ A
     cases qo : openS A with
     | false =>
      rw [qo] at k99
      have htf : topB d h by_ k = false:= by
       rw [htb]
       simp only [openS,decide_eq_false_iff_not] at qo
       unfold inB
       by_cases g : A.low <= by_
       ·have : ¬ by_ <= A.high := by omega
        simp [this]
       ·simp [g]
      (repeat (refine stq ?_))
      iterate 2 (refine sdq ?_)
      refine DG_next (D_callMemo rfl rfl rfl rfl (fun s1 => (by (repeat' (first | exact trivial | refine And.intro ?_ ?_)); all_goals (first | rfl | decide))) rfl rfl k100) ?_
      refine DG_next (D_callMemo rfl rfl rfl rfl (fun s1 => (by (repeat' (first | exact trivial | refine And.intro ?_ ?_)); all_goals (first | rfl | decide))) rfl rfl k99) ?_
      iterate 8 (refine sdq ?_)
      refine DG_end hM (by kernel_rfl) ?_
      (repeat (refine stq ?_))
      refine ⟨k + 1,⟨by omega,fun i hi => ?_⟩,by omega,?_⟩
      ·by_cases hik : i = k
       ·rw [hik]; exact htf
       ·exact hno i (by omega)
      ·rw [hsuc]
       (refine Le.mk ?_ ?_; all_goals (repeat' (first | exact trivial | refine sle ?_ | refine ⟨?_,rfl,?_⟩ | refine ⟨?_,by decide,rfl,?_⟩ | fail)))
     | true =>
      rw [qo] at k99
      cases qi : inB by_ A.low A.high with
      | false =>
       rw [qi] at k101 htb
       (repeat (refine stq ?_))
       iterate 2 (refine sdq ?_)
       refine DG_next (D_callMemo rfl rfl rfl rfl (fun s1 => (by (repeat' (first | exact trivial | refine And.intro ?_ ?_)); all_goals (first | rfl | decide))) rfl rfl k100) ?_
       refine DG_next (D_callMemo rfl rfl rfl rfl (fun s1 => (by (repeat' (first | exact trivial | refine And.intro ?_ ?_)); all_goals (first | rfl | decide))) rfl rfl k99) ?_
       iterate 4 (refine sdq ?_)
       refine DG_next (D_callMemo rfl rfl rfl rfl (fun s1 => (by (repeat' (first | exact trivial | refine And.intro ?_ ?_)); all_goals (first | rfl | decide))) rfl rfl k100) ?_
       refine DG_next (D_callMemo rfl rfl rfl rfl (fun s1 => (by (repeat' (first | exact trivial | refine And.intro ?_ ?_)); all_goals (first | rfl | decide))) rfl rfl k102) ?_
       refine DG_next (D_call rfl rfl rfl rfl rfl k101) ?_
       refine sdq ?_
       refine DG_end hM (by kernel_rfl) ?_
       (repeat (refine stq ?_))
       refine ⟨k + 1,⟨by omega,fun i hi => ?_⟩,by omega,?_⟩
       ·by_cases hik : i = k
        ·rw [hik]; exact htb
        ·exact hno i (by omega)
       ·rw [hsuc]
        (refine Le.mk ?_ ?_; all_goals (repeat' (first | exact trivial | refine sle ?_ | refine ⟨?_,rfl,?_⟩ | refine ⟨?_,by decide,rfl,?_⟩ | fail)))
      | true =>
       rw [qi] at k101 htb
       (repeat (refine stq ?_))
       iterate 2 (refine sdq ?_)
       refine DG_next (D_callMemo rfl rfl rfl rfl (fun s1 => (by (repeat' (first | exact trivial | refine And.intro ?_ ?_)); all_goals (first | rfl | decide))) rfl rfl k100) ?_
       refine DG_next (D_callMemo rfl rfl rfl rfl (fun s1 => (by (repeat' (first | exact trivial | refine And.intro ?_ ?_)); all_goals (first | rfl | decide))) rfl rfl k99) ?_
       iterate 4 (refine sdq ?_)
       refine DG_next (D_callMemo rfl rfl rfl rfl (fun s1 => (by (repeat' (first | exact trivial | refine And.intro ?_ ?_)); all_goals (first | rfl | decide))) rfl rfl k100) ?_
       refine DG_next (D_callMemo rfl rfl rfl rfl (fun s1 => (by (repeat' (first | exact trivial | refine And.intro ?_ ?_)); all_goals (first | rfl | decide))) rfl rfl k102) ?_
       refine DG_next (D_call rfl rfl rfl rfl rfl k101) ?_
       refine sdq ?_
       refine DG_end hM (by kernel_rfl) ?_
       (repeat (refine stq ?_))
       exact ⟨_,_,rfl,rfl,by rw [topO_some hk' htb hno]; rfl⟩
    ·have hk' : k = 101 := by omega
     subst hk'
     (repeat (refine stq ?_))
     exact ⟨_,_,rfl,rfl,by rw [topO_none hno]; rfl⟩
 ·have k84 := fun b => f84 d b hd
  have ha := asked_err he
  rw [<- fine_asked] at ha
  rw [topE,if_neg he]
  have k1 := f87 hour 0 (IntKind.i64.wrap (d.hours - 1))
  have k2 := f87 by_ (IntKind.i64.wrap (hour + 1)) d.hours
  unfold fineW at ha
  generalize errE d (fineT d hour by_) = e at *
  cases q1 : inB hour 0 (IntKind.i64.wrap (d.hours - 1)) with
  | false =>
   rw [q1] at k1 ha
   have k84 := k84 false
   rw [Bool.false_and] at ha
   rw [ha] at k84
   have k84 : ACalls Tryz.prog 84 [eDrum d,.bool false] (fun r => r = .tup [.sl [],vi e]) := k84
   (repeat (refine stq ?_))
   (repeat' (first | refine DG_next (StepOK.skipU rfl rfl) ?_ | refine DG_next (D_subW rfl rfl rfl rfl rfl) ?_ | refine DG_next (D_addW rfl rfl rfl rfl rfl) ?_ | ((refine DG_cmp hT rfl (fun hg => ?_) (fun hg => ?_)) <;> (try (exfalso; omega))) | refine DG_next (D_shl rfl rfl rfl rfl rfl (by omega)) ?_ | refine DG_next (D_shr rfl rfl rfl rfl rfl (by omega)) ?_ | refine sdq ?_ | ((refine DG_callC (D_call rfl rfl rfl rfl rfl (k1)) (fun hg => ?_) (fun hg => ?_)) <;> (try (exfalso; first | contradiction | omega))) | refine DG_next (D_call rfl rfl rfl rfl rfl (k1)) ?_ | refine DG_next (D_call_tup rfl rfl rfl rfl rfl (k84)) ?_))
   refine DG_end hM (by kernel_rfl) ?_
   (repeat (refine stq ?_))
   refine AW_if rfl (fun hc => ?_) (fun hc => absurd (by omega) hc)
   (repeat (refine stq ?_))
   exact ⟨_,_,rfl,rfl,rfl⟩
  | true =>
   rw [q1] at k1 ha
   rw [Bool.true_and] at ha
   cases q2 : inB by_ (IntKind.i64.wrap (hour + 1)) d.hours
   all_goals
    rw [q2] at k2 ha
   ·have k84 := k84 false
    rw [ha] at k84
    have k84 : ACalls Tryz.prog 84 [eDrum d,.bool false] (fun r => r = .tup [.sl [],vi e]) := k84
    (repeat (refine stq ?_))
    (repeat' (first | refine DG_next (StepOK.skipU rfl rfl) ?_ | refine DG_next (D_subW rfl rfl rfl rfl rfl) ?_ | refine DG_next (D_addW rfl rfl rfl rfl rfl) ?_ | ((refine DG_cmp hT rfl (fun hg => ?_) (fun hg => ?_)) <;> (try (exfalso; omega))) | refine DG_next (D_shl rfl rfl rfl rfl rfl (by omega)) ?_ | refine DG_next (D_shr rfl rfl rfl rfl rfl (by omega)) ?_ | refine sdq ?_ | ((refine DG_callC (D_call rfl rfl rfl rfl rfl (k1)) (fun hg => ?_) (fun hg => ?_)) <;> (try (exfalso; first | contradiction | omega))) | refine DG_next (D_call rfl rfl rfl rfl rfl (k1)) ?_ | ((refine DG_callC (D_call rfl rfl rfl rfl rfl (k2)) (fun hg => ?_) (fun hg => ?_)) <;> (try (exfalso; first | contradiction | omega))) | refine DG_next (D_call rfl rfl rfl rfl rfl (k2)) ?_ | refine DG_next (D_call_tup rfl rfl rfl rfl rfl (k84)) ?_))
    refine DG_end hM (by kernel_rfl) ?_
    (repeat (refine stq ?_))
    refine AW_if rfl (fun hc => ?_) (fun hc => absurd (by omega) hc)
    (repeat (refine stq ?_))
    exact ⟨_,_,rfl,rfl,rfl⟩
   ·have k84 := k84 true
    rw [ha] at k84
    have k84 : ACalls Tryz.prog 84 [eDrum d,.bool true] (fun r => r = .tup [.sl [],vi e]) := k84
    (repeat (refine stq ?_))
    (repeat' (first | refine DG_next (StepOK.skipU rfl rfl) ?_ | refine DG_next (D_subW rfl rfl rfl rfl rfl) ?_ | refine DG_next (D_addW rfl rfl rfl rfl rfl) ?_ | ((refine DG_cmp hT rfl (fun hg => ?_) (fun hg => ?_)) <;> (try (exfalso; omega))) | refine DG_next (D_shl rfl rfl rfl rfl rfl (by omega)) ?_ | refine DG_next (D_shr rfl rfl rfl rfl rfl (by omega)) ?_ | refine sdq ?_ | ((refine DG_callC (D_call rfl rfl rfl rfl rfl (k1)) (fun hg => ?_) (fun hg => ?_)) <;> (try (exfalso; first | contradiction | omega))) | refine DG_next (D_call rfl rfl rfl rfl rfl (k1)) ?_ | ((refine DG_callC (D_call rfl rfl rfl rfl rfl (k2)) (fun hg => ?_) (fun hg => ?_)) <;> (try (exfalso; first | contradiction | omega))) | refine DG_next (D_call rfl rfl rfl rfl rfl (k2)) ?_ | refine DG_next (D_call_tup rfl rfl rfl rfl rfl (k84)) ?_))
    refine DG_end hM (by kernel_rfl) ?_
    (repeat (refine stq ?_))
    refine AW_if rfl (fun hc => ?_) (fun hc => absurd (by omega) hc)
    (repeat (refine stq ?_))
    exact ⟨_,_,rfl,rfl,rfl⟩
end Go.Abs
