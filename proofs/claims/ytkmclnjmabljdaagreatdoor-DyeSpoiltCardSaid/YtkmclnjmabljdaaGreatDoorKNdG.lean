/- alike, Apart, Words. -/
import Derived.Test.YtkmclnjmabljdaaGreatDoorKNdF
set_option linter.unusedVariables false
set_option linter.unusedSimpArgs false
namespace Go.Abs
open Go.Proofs
set_option linter.unusedVariables false
set_option linter.unusedSimpArgs false
set_option maxRecDepth 100000
set_option maxHeartbeats 2000000 in
theorem f118 (h : List Dye) (lamp : List Int) (a b : List Bath) (eye : Span) (hh : HouseP h) (hL : LampP h lamp) (ha : BatchP h a) (hb : BatchP h b) : ACalls Tryz.prog 118 [eHL h lamp,eBaths a,eBaths b,eS eye] (fun r => r = .pv (vi (alikeI h lamp a b eye))):= by
 have hbd := apartL_bd hh hL ha hb
 refine ACalls.of_body hT Tryz.func118 rfl (by kernel_rfl) rfl ?_
 (repeat (refine stp ?_))
 refine AL_doS rfl (op_callD rfl rfl rfl rfl (f151 h lamp a b hh hL ha hb)) ?_
 rintro s' ⟨r,⟨ks,⟨hnd,hks⟩,rfl⟩,rfl⟩
 (repeat (refine stp ?_))
 refine AW_loopC (fun i : List Int × Bool × Bool × Option Int => i.1.Nodup /\ (∀ x ∈ i.1,x ∈ ks) /\ (i.2.1 = true ↔ ∃ x ∈ ks,x ∉ i.1 /\ max x (-x) <= eye.high) /\ (i.2.2.1 = true ↔ ∃ x ∈ ks,x ∉ i.1 /\ max x (-x) > eye.low))
  (fun i => mkSt [(7,.box 1 0),(9,.pv (.bool i.2.1)),(10,.pv (.bool i.2.2.1)),(17,.box 2 0)] [(1,.box [.pv (vi eye.low),.pv (vi eye.high)]),(2,.iter ks i.1 i.2.2.2)] 3) (fun i => i.1.length) (ks,false,false,none) ⟨hnd,fun _ h => h,?_,?_⟩ ?_ ?_
 ·constructor
  ·simp
  ·rintro ⟨x,h1,h2,_⟩; exact absurd h1 h2
 ·constructor
  ·simp
  ·rintro ⟨x,h1,h2,_⟩; exact absurd h1 h2
 ·(refine Le.mk ?_ ?_; all_goals (repeat' (first | exact trivial | refine sle ?_ | refine ⟨?_,rfl,?_⟩ | refine ⟨?_,by decide,rfl,?_⟩ | fail)))
 ·rintro ⟨rem,so,no,cur⟩ ⟨c1,c2,c3,c4⟩
  simp only at c1 c2 c3 c4
  dsimp only
  (repeat (refine stp ?_))
  refine AL_doS rfl (op_next rfl rfl rfl rfl) ?_
  rintro s' (⟨hr,rfl⟩ | ⟨x,hx,rfl⟩)
  ·subst hr
   (repeat' (first | refine stp ?_ | (refine AL_do2 rfl ?_; first | refine ⟨_,op_call1 rfl rfl rfl rfl (f149 so no),?_⟩) | refine AL_gdec rfl rfl rfl (fun hg => ?_) (fun hg => ?_) | refine AL_gnot rfl rfl rfl (fun hg => ?_) (fun hg => ?_) | refine AL_gcases rfl rfl rfl (fun hg => ?_) (fun hg => ?_)))
   refine ⟨_,_,rfl,rfl,?_⟩
   have e1 : so = (apartL h lamp a b).any fun n => decide (max n (-n) <= eye.high):= by
    rw [<- any_congr hks,Bool.eq_iff_iff,c3]; simp
   have e2 : no = (apartL h lamp a b).any fun n => decide (max n (-n) > eye.low):= by
    rw [<- any_congr hks,Bool.eq_iff_iff,c4]; simp
   rw [alikeI,<- e1,<- e2]
  ·have hxk := c2 x hx
   have hxb := hbd x ((hks x).1 hxk)
   have her : ∀ y,y ∈ rem.erase x ↔ y ≠ x /\ y ∈ rem := fun y => c1.mem_erase_iff
   have hlen1 : (rem.erase x).length < rem.length := by rw [List.length_erase_of_mem hx]; have := List.length_pos_of_mem hx; omega
   have hstep : ∀ (p : Int -> Prop) (q : Bool),(q = true ↔ ∃ y ∈ ks,y ∉ rem /\ p y) -> ∀ q' : Bool,(q' = true ↔ q = true \/ p x) -> (q' = true ↔ ∃ y ∈ ks,y ∉ rem.erase x /\ p y):= by
    intro p q hq q' hq'
    rw [hq',hq]
    constructor
    ·rintro (⟨y,h1,h2,h3⟩ | h)
     ·exact ⟨y,h1,fun hy => h2 ((her y).1 hy).2,h3⟩
     ·exact ⟨x,hxk,fun hy => ((her x).1 hy).1 rfl,h⟩
    ·rintro ⟨y,h1,h2,h3⟩
     by_cases hyx : y = x
     ·subst hyx; exact .inr h3
     ·exact .inl ⟨y,h1,fun hy => h2 ((her y).2 ⟨hyx,hy⟩),h3⟩
   (repeat' (first | refine stp ?_ | refine AL_gdec rfl rfl rfl (fun hg => ?_) (fun hg => ?_) | refine AL_gnot rfl rfl rfl (fun hg => ?_) (fun hg => ?_) | refine AL_gcases rfl rfl rfl (fun hg => ?_) (fun hg => ?_)))
   ·rename_i hso
    refine ⟨(rem.erase x,true,true,some x),⟨c1.erase x,fun z hz => c2 z ((her z).1 hz).2,hstep _ so c3 _ ?_,hstep _ no c4 _ ?_⟩,hlen1,?_⟩
    ·simp_all
    ·simp_all
    ·(refine Le.mk ?_ ?_; all_goals (repeat' (first | exact trivial | refine sle ?_ | refine ⟨?_,rfl,?_⟩ | refine ⟨?_,by decide,rfl,?_⟩ | fail)))
   ·rename_i hso
    refine ⟨(rem.erase x,true,decide (max x (-x) > eye.low),some x),⟨c1.erase x,fun z hz => c2 z ((her z).1 hz).2,hstep _ so c3 _ ?_,hstep _ no c4 _ ?_⟩,hlen1,?_⟩
    ·simp_all
    ·simp_all
    ·(refine Le.mk ?_ ?_; all_goals (repeat' (first | exact trivial | refine sle ?_ | refine ⟨?_,rfl,?_⟩ | refine ⟨?_,by decide,rfl,?_⟩ | fail)))
   ·rename_i hso
    refine ⟨(rem.erase x,decide (max x (-x) <= eye.high),true,some x),⟨c1.erase x,fun z hz => c2 z ((her z).1 hz).2,hstep _ so c3 _ ?_,hstep _ no c4 _ ?_⟩,hlen1,?_⟩
    ·simp_all
    ·simp_all
    ·(refine Le.mk ?_ ?_; all_goals (repeat' (first | exact trivial | refine sle ?_ | refine ⟨?_,rfl,?_⟩ | refine ⟨?_,by decide,rfl,?_⟩ | fail)))
   ·rename_i hso
    refine ⟨(rem.erase x,decide (max x (-x) <= eye.high),decide (max x (-x) > eye.low),some x),⟨c1.erase x,fun z hz => c2 z ((her z).1 hz).2,hstep _ so c3 _ ?_,hstep _ no c4 _ ?_⟩,hlen1,?_⟩
    ·simp_all
    ·simp_all
    ·(refine Le.mk ?_ ?_; all_goals (repeat' (first | exact trivial | refine sle ?_ | refine ⟨?_,rfl,?_⟩ | refine ⟨?_,by decide,rfl,?_⟩ | fail)))
def spanOf (l : List Int) : Span := match l with
 | [] => ⟨0,0⟩
 | x :: l => ⟨l.foldl min x,l.foldl max x⟩
theorem foldl_min_spec : ∀ (l : List Int) (a : Int),(l.foldl min a = a \/ l.foldl min a ∈ l) /\ l.foldl min a <= a /\ ∀ x ∈ l,l.foldl min a <= x
 | [],a => by simp
 | y :: l,a => by
  obtain ⟨h1,h2,h3⟩ := foldl_min_spec l (min a y)
  simp only [List.foldl_cons]
  refine ⟨?_,by omega,?_⟩
  ·rcases h1 with h1 | h1
   ·rw [h1]
    rcases Int.le_total a y with h | h
    ·left; omega
    ·right; rw [Int.min_eq_right h]; simp
   ·right; exact List.mem_cons_of_mem _ h1
  ·intro x hx
   cases hx with
   | head => omega
   | tail _ hx => exact h3 x hx
theorem foldl_max_spec : ∀ (l : List Int) (a : Int),(l.foldl max a = a \/ l.foldl max a ∈ l) /\ a <= l.foldl max a /\ ∀ x ∈ l,x <= l.foldl max a
 | [],a => by simp
 | y :: l,a => by
  obtain ⟨h1,h2,h3⟩ := foldl_max_spec l (max a y)
  simp only [List.foldl_cons]
  refine ⟨?_,by omega,?_⟩
  ·rcases h1 with h1 | h1
   ·rw [h1]
    rcases Int.le_total a y with h | h
    ·right; rw [Int.max_eq_right h]; simp
    ·left; omega
   ·right; exact List.mem_cons_of_mem _ h1
  ·intro x hx
   cases hx with
   | head => omega
   | tail _ hx => exact h3 x hx
theorem spanOf_hull : ∀ (l : List Int),isHull l (spanOf l)
 | [] => .inl ⟨rfl,rfl⟩
 | x :: l => by
  obtain ⟨a1,a2,a3⟩ := foldl_min_spec l x
  obtain ⟨b1,b2,b3⟩ := foldl_max_spec l x
  refine .inr ⟨?_,?_,?_⟩
  ·show l.foldl min x ∈ x :: l
   rcases a1 with h | h
   ·rw [h]; simp
   ·exact List.mem_cons_of_mem _ h
  ·show l.foldl max x ∈ x :: l
   rcases b1 with h | h
   ·rw [h]; simp
   ·exact List.mem_cons_of_mem _ h
  ·intro y hy
   show l.foldl min x <= y /\ y <= l.foldl max x
   cases hy with
   | head => exact ⟨a2,b2⟩
   | tail _ hy => exact ⟨a3 y hy,b3 y hy⟩
theorem hull_unique {l m : List Int} {s t : Span} (hlm : ∀ n,n ∈ l ↔ n ∈ m) (hs : isHull l s) (ht : isHull m t) : s = t:= by
 rcases hs with ⟨rfl,rfl⟩ | ⟨s1,s2,s3⟩
 ·rcases ht with ⟨_,rfl⟩ | ⟨t1,_⟩
  ·rfl
  ·exact absurd ((hlm _).2 t1) (by simp)
 ·rcases ht with ⟨rfl,_⟩ | ⟨t1,t2,t3⟩
  ·exact absurd ((hlm _).1 s1) (by simp)
  ·have q1 := s3 _ ((hlm _).2 t1)
   have q2 := s3 _ ((hlm _).2 t2)
   have q3 := t3 _ ((hlm _).1 s1)
   have q4 := t3 _ ((hlm _).1 s2)
   cases s; cases t
   simp only [Span.mk.injEq] at *
   omega
def apartE (h : List Dye) (lamp : List Int) (a b : List Bath) : Span × Int := if isHouseB h && isLampB h lamp && isBatchB h a && isBatchB h b then (spanOf (apartL h lamp a b),0) else (⟨0,0⟩,2)
theorem f66 (h : List Dye) (lamp : List Int) (a b : List Bath) (hh : houseOK h) (hlm : lamp.length <= 1000) (ha : a.length <= 1000) (hb : b.length <= 1000) :
  ACalls Tryz.prog 66 [eHouse h,eLamp lamp,eBaths a,eBaths b] (fun r => r = .tup [eS (apartE h lamp a b).1,vi (apartE h lamp a b).2]):= by
 refine ACalls.of_body hT Tryz.func66 rfl (by kernel_rfl) rfl ?_
 (repeat' (first | refine stp ?_ | (refine AL_do2 rfl ?_; first | refine ⟨_,op_call1 rfl rfl rfl rfl (f105 h hh.1 hh.2),?_⟩ | refine ⟨_,op_call1 rfl rfl rfl rfl (f116 h lamp hh.1 hlm),?_⟩ | refine ⟨_,op_call1 rfl rfl rfl rfl (f106 h a hh.1 ha),?_⟩ | refine ⟨_,op_call1 rfl rfl rfl rfl (f106 h b hh.1 hb),?_⟩) | refine AL_gdec rfl rfl rfl (fun hg => ?_) (fun hg => ?_) | refine AL_gnot rfl rfl rfl (fun hg => ?_) (fun hg => ?_) | refine AL_gcases rfl rfl rfl (fun hg => ?_) (fun hg => ?_)))
 iterate 3 (first | exact ⟨_,_,rfl,rfl,by simp_all [apartE]; rfl⟩ | rotate_left)
 refine AW_cond rfl (fun hc => ?_) (fun hc => ?_)
 ·(repeat (refine stp ?_))
  exact ⟨_,_,rfl,rfl,by simp_all [apartE]; rfl⟩
 ·have c1 : isHouseB h = true := by simp_all
  have c2 : isLampB h lamp = true := by simp_all
  have c3 : isBatchB h a = true := by simp_all
  have c4 : isBatchB h b = true := by simp_all
  have hH := houseP_of c1
  have hLP := lampP_of c2
  have hA := batchP_of c3
  have hB := batchP_of c4
  have hbd := apartL_bd hH hLP hA hB
  (repeat (refine stp ?_))
  refine AL_doS rfl (op_callD rfl rfl rfl rfl (f151 h lamp a b hH hLP hA hB)) ?_
  rintro s' ⟨r,⟨ks,⟨hnd,hks⟩,rfl⟩,rfl⟩
  refine AL_doS rfl (op_callD rfl rfl rfl rfl (f150 ks (fun x hx => by have := hbd x ((hks x).1 hx); omega) hnd)) ?_
  rintro s' ⟨r,⟨s,hs,rfl⟩,rfl⟩
  have hse : s = spanOf (apartL h lamp a b) := hull_unique hks hs (spanOf_hull _)
  subst hse
  (repeat (refine stp ?_))
  exact ⟨_,_,rfl,rfl,by simp [apartE,c1,c2,c3,c4]; rfl⟩
end Go.Abs
namespace Go.Abs
open Go.Proofs
set_option linter.unusedVariables false
set_option linter.unusedSimpArgs false
set_option maxRecDepth 100000
def wordsOK (h : List Dye) (lamps : List (List Int)) (a b : List Bath) (eye : Span) : Bool := isHouseB h && inB lamps.length 1 3 && !lamps.any (fun l => !isLampB h l) && isBatchB h a && isBatchB h b && isEyeB eye
def wordsE (h : List Dye) (lamps : List (List Int)) (a b : List Bath) (eye : Span) : List Int × Int := if wordsOK h lamps a b eye then (lamps.map fun x => alikeI h x a b eye,0) else ([],2)
def lampsOK (lamps : List (List Int)) : Prop := lamps.length <= 1000 /\ ∀ l ∈ lamps,l.length <= 1000
set_option maxHeartbeats 4000000 in
theorem f35 (h : List Dye) (lamps : List (List Int)) (a b : List Bath) (eye : Span) (hh : houseOK h) (hlm : lampsOK lamps) (ha : a.length <= 1000) (hb : b.length <= 1000) :
  ACalls Tryz.prog 35 [eHouse h,eLamps lamps,eBaths a,eBaths b,eS eye] (fun r => r = .tup [eInts (wordsE h lamps a b eye).1,vi (wordsE h lamps a b eye).2]):= by
 refine ACalls.of_body hT Tryz.func35 rfl (by kernel_rfl) rfl ?_
 (repeat' (first | refine stp ?_ | (refine AL_do2 rfl ?_; first | refine ⟨_,op_call1 rfl rfl rfl rfl (f105 h hh.1 hh.2),?_⟩ | refine ⟨_,op_call1 rfl rfl rfl rfl (f113 lamps.length 1 3),?_⟩ | refine ⟨_,op_callB rfl rfl rfl rfl (c114 lamps 115 [.ptr [.sl (h.map eDye)]] (fun l => !isLampB h l) hlm.1 (fun x hx => f115 h x hh.1 (hlm.2 x hx))) rfl,?_⟩ | refine ⟨_,op_call1 rfl rfl rfl rfl (f106 h a hh.1 ha),?_⟩ | refine ⟨_,op_call1 rfl rfl rfl rfl (f106 h b hh.1 hb),?_⟩ | refine ⟨_,op_call1 rfl rfl rfl rfl (f117 eye),?_⟩) | refine AL_gdec rfl rfl rfl (fun hg => ?_) (fun hg => ?_) | refine AL_gnot rfl rfl rfl (fun hg => ?_) (fun hg => ?_) | refine AL_gcases rfl rfl rfl (fun hg => ?_) (fun hg => ?_)))
 all_goals (try exact ⟨_,_,rfl,rfl,by simp_all [wordsE,wordsOK]; rfl⟩)
 ·rename_i hg
  exact ⟨_,_,rfl,rfl,by rw [wordsE,wordsOK,hg]; simp; rfl⟩
 refine AW_cond rfl (fun hc => ?_) (fun hc => ?_)
 ·(repeat (refine stp ?_))
  exact ⟨_,_,rfl,rfl,by simp_all [wordsE,wordsOK]; rfl⟩
 ·have hok : wordsOK h lamps a b eye = true := by simp_all [wordsOK]
  have hok2 := hok
  simp only [wordsOK,Bool.and_eq_true,Bool.not_eq_true',List.any_eq_false,Bool.not_eq_false] at hok2
  obtain ⟨⟨⟨⟨⟨c1,c2⟩,c3⟩,c4⟩,c5⟩,c6⟩ := hok2
  simp only [inB,Bool.and_eq_true,decide_eq_true_eq] at c2
  have hH := houseP_of c1
  have hA := batchP_of c4
  have hB := batchP_of c5
  have hspec : wordsE h lamps a b eye = (lamps.map fun x => alikeI h x a b eye,0) := by simp [wordsE,hok]
  rw [hspec]
  (repeat (refine stp ?_))
  refine AW_own_nil (e := 78) (sz := 1) (t := 12) rfl rfl ?_
  refine AW_loopC (fun k : Nat => k <= lamps.length) (fun k => mkSt [(2,.pv (eBaths a)),(3,.pv (eBaths b)),(5,.box 0 0),(9,.box 1 0),(12,.arr 2),(46,.pv (eLamps lamps)),(47,.pv (vi lamps.length)),(48,.pv (vi k))]
   [(0,.box [.pv (.sl (h.map eDye))]),(1,.box [.pv (vi eye.low),.pv (vi eye.high)]),(2,.arr 78 1 ((lamps.take k).map fun x => [vi (alikeI h x a b eye)]))] 3) (fun k => lamps.length - k) 0 (Nat.zero_le _) ?_ ?_
  ·(refine Le.mkR [(2,2)] ?_ ?_ rfl; all_goals (repeat' (first | exact trivial | refine sle ?_ | refine ⟨?_,rfl,?_⟩ | refine ⟨?_,by decide,rfl,?_⟩ | fail)))
  ·intro k hk
   (repeat (refine stp ?_))
   refine AW_if rfl (fun hc => ?_) (fun hc => ?_)
   ·have hk' : k < lamps.length := by omega
    obtain ⟨x,hx⟩ : ∃ x,lamps[k]? = some x := ⟨lamps[k],by simp [hk']⟩
    have e1 := get_map eLampC hx
    have hs := map_take_succ (fun x : List Int => [vi (alikeI h x a b eye)]) hx
    have hxm := List.mem_of_getElem? hx
    (repeat' (first | refine stp ?_ | (refine AL_do2 rfl ?_; first | refine ⟨_,op_call1 rfl rfl rfl rfl (f118 h x a b eye hH (lampP_of (c3 x hxm)) hA hB),?_⟩) | refine AL_gdec rfl rfl rfl (fun hg => ?_) (fun hg => ?_) | refine AL_gnot rfl rfl rfl (fun hg => ?_) (fun hg => ?_) | refine AL_gcases rfl rfl rfl (fun hg => ?_) (fun hg => ?_)))
    refine ⟨k + 1,hk',by omega,?_⟩
    (refine Le.mkR [(2,5)] ?_ ?_ rfl; all_goals (repeat' (first | exact trivial | refine sle ?_ | refine ⟨?_,rfl,?_⟩ | refine ⟨?_,by decide,rfl,?_⟩ | fail)))
    rw [hs]; rfl
   ·have hk' : k = lamps.length := by omega
    subst hk'
    (repeat (refine stp ?_))
    exact ⟨_,_,rfl,rfl,by simp [eInts,eInt,Function.comp_def]⟩
end Go.Abs
namespace Go.Abs
open Go.Proofs
set_option linter.unusedVariables false
set_option linter.unusedSimpArgs false
set_option maxRecDepth 100000
abbrev sorterC (s : Sorter) : List PV := [vi s.eye.low,vi s.eye.high,vi s.tire,eSpans s.looks]
def truthsI (s : Sorter) : List (List Int × Int) := (numsL s.looks).flatMap fun l => (rangeI s.eye.low s.eye.high).map fun e => (l,e)
def truthsL (s : Sorter) : List (List PV) := (truthsI s).map fun x => [.agg [eInts x.1,vi x.2]]
theorem f148 (s : Sorter) : ACalls Tryz.prog 148 [eSorter s] (fun r => r = .pv (.fn 192 [.ptr (sorterC s)])):= by
 refine ACalls.of_body hT Tryz.func148 rfl (by kernel_rfl) rfl ?_
 (repeat (refine stp ?_))
 exact ⟨_,_,rfl,rfl,rfl⟩
def nEyes (s : Sorter) : Nat := (s.eye.high - s.eye.low + 1).toNat
set_option maxHeartbeats 4000000 in
theorem it192 (s : Sorter) (hs : SorterP s) : IterOK Tryz.prog 192 [.ptr (sorterC s)] (truthsL s):= by
 intro E B hEL hE
 have hE1 := hs.eye
 have hm : ∀ l : List Int,((rangeI s.eye.low s.eye.high).map fun e => (l,e)).length = nEyes s := fun l => by simp [rangeI,nEyes]
 refine ACallsX.of_body hT Tryz.func192 rfl (by kernel_rfl) rfl ?_
 (repeat (refine stp ?_))
 refine AL_do2 rfl ⟨_,op_call1 rfl rfl rfl rfl (f193 s.looks),?_⟩
 (repeat (refine stp ?_))
 refine AW_range (gf := 216) (caps := [.ptr [eSpans s.looks]]) (L := numbersL s.looks) [1,2] [(1,.pv (.ptr (sorterC s))),(2,.box 1 0)]
  (fun av j (B : Nat -> Prop) => [(0,.ext E (j * nEyes s) B),(1,.box [.yld 0]),(2,.anc (av 1) (.pv (.ptr (sorterC s)))),(3,.anc (av 2) (.box 1 0))]) (fun _ _ => True) 4 [2,3] B trivial
  ?_ (it216 _ (by have := hs.len; omega) (fun x hx => by have := hs.looks x hx; omega)) ?_ ?_ ?_ ?_ ?_ ?_
 ·rfl
 ·intro p hp
  simp only [List.mem_cons,List.not_mem_nil,or_false] at hp; subst hp; rfl
 ·intro x hx
  simp only [numbersL,List.mem_map] at hx
  obtain ⟨y,_,rfl⟩ := hx; rfl
 ·intro av j i
  ((repeat' (first | exact trivial | refine And.intro ?_ ?_)); all_goals (first | rfl | decide))
 ·intro av
  (refine Le.mk ?_ ?_; all_goals (repeat' (first | exact trivial | refine sle ?_ | refine ⟨?_,rfl,?_⟩ | refine ⟨?_,by decide,rfl,?_⟩ | fail)))
  show _ = some (AObj.ext E (0 * nEyes s) B); rw [Nat.zero_mul]; rfl
 ·intro av j Bj x _ hx
  obtain ⟨y,hy,rfl⟩ : ∃ y,(numsL s.looks)[j]? = some y /\ [eInts y] = x:= by
   rw [numbersL,List.getElem?_map,Option.map_eq_some_iff] at hx; exact hx
  (repeat (refine stp ?_))
  refine AW_loopC (fun i : Nat × (Nat -> Prop) => i.1 <= nEyes s)
   (fun i => mkSt [(1,.pv (.ptr (sorterC s))),(2,.box 1 0),(3,.pv (eInts y)),(4,.pv (vi (s.eye.low + i.1)))] [(0,.ext E (j * nEyes s + i.1) i.2),(1,.box [.yld 0]),(2,.anc (av 1) (.pv (.ptr (sorterC s)))),(3,.anc (av 2) (.box 1 0))] 4)
   (fun i => nEyes s - i.1) (0,Bj) (Nat.zero_le _) ?_ ?_
  ·(refine Le.mk ?_ ?_; all_goals (repeat' (first | exact trivial | refine sle ?_ | refine ⟨?_,rfl,?_⟩ | refine ⟨?_,by decide,rfl,?_⟩ | fail)))
   show _ = some (FV.pv (vi (s.eye.low + 0))); rw [Int.add_zero]; rfl
  ·rintro ⟨i,Bi⟩ hi
   simp only at hi
   dsimp only
   (repeat (refine stp ?_))
   refine AW_if rfl (fun hc => ?_) (fun hc => ?_)
   ·have hin : i < nEyes s := by unfold nEyes; omega
    have hx1 : E.L[j * nEyes s + i]? = some [.agg [eInts y,vi (s.eye.low + i)]]:= by
     rw [hEL,truthsL,List.getElem?_map,truthsI,flatMap_const_get hm _ j i y hy hin]
     simp [rangeI,show i < (s.eye.high - s.eye.low + 1).toNat by exact hin]
    (repeat (refine stp ?_))
    refine AL_doS rfl (op_yield hE rfl rfl rfl rfl rfl hx1) ?_
    rintro s' ⟨B',rfl⟩
    (repeat (refine stp ?_))
    refine ⟨(i + 1,B'),hin,by simp only; omega,?_⟩
    (refine Le.mk ?_ ?_; all_goals (repeat' (first | exact trivial | refine sle ?_ | refine ⟨?_,rfl,?_⟩ | refine ⟨?_,by decide,rfl,?_⟩ | fail)))
    show _ = some (FV.pv (vi (s.eye.low + ((i + 1 : Nat) : Int)))); rw [show s.eye.low + ((i + 1 : Nat) : Int) = s.eye.low + i + 1 by omega]; rfl
   ·have hin : i = nEyes s := by unfold nEyes at *; omega
    subst hin
    (repeat (refine stp ?_))
    refine roundQ_intro Bi trivial ?_
    (refine Le.mk ?_ ?_; all_goals (repeat' (first | exact trivial | refine sle ?_ | refine ⟨?_,rfl,?_⟩ | refine ⟨?_,by decide,rfl,?_⟩ | fail)))
    show _ = some (AObj.ext E ((j + 1) * nEyes s) Bi); rw [Nat.succ_mul]; rfl
 ·intro av Bn _
  (repeat (refine stp ?_))
  refine ⟨_,mkSt [] [(0,.ext E (truthsL s).length Bn)] 1,rfl,?_,Bn,rfl⟩
  rw [show (truthsL s).length = (numbersL s.looks).length * nEyes s by simp only [truthsL,truthsI,List.length_map,flatMap_const_len hm,numbersL]]
  (refine Le.mk ?_ ?_; all_goals (repeat' (first | exact trivial | refine sle ?_ | refine ⟨?_,rfl,?_⟩ | refine ⟨?_,by decide,rfl,?_⟩ | fail)))
theorem layGo_len (tire eye : Int) : ∀ (l : List Int) (n : Int) (out firsts : List Int),(layGo tire eye l n out firsts).length = out.length + l.length
 | [],_,out,_ => by simp [layGo]
 | x :: l,n,out,firsts => by
  unfold layGo
  split <;> (rw [layGo_len]; simp; omega)
theorem layI_len (tire : Int) (l : List Int) (eye : Int) : (layI tire l eye).length = l.length := by simp [layI,layGo_len]
def sameTray (s : Sorter) (a b : Int) (x : List Int × Int) : Bool := decide ((layI s.tire x.1 x.2).getD a.toNat 0 = (layI s.tire x.1 x.2).getD b.toNat 0)
def togetherE (s : Sorter) (a b : Int) : Int × Int := if isSorterB s && inB a 0 (s.looks.length - 1) && inB b 0 (s.looks.length - 1) then (wordI ((truthsI s).any (sameTray s a b)) ((truthsI s).any fun x => !sameTray s a b x),0) else (0,2)
theorem truthsI_mem {s : Sorter} {x : List Int × Int} (hs : SorterP s) (h : x ∈ truthsI s) : x.1.length = s.looks.length /\ bdL 3000 x.1 /\ 0 <= x.2 /\ x.2 <= 200:= by
 simp only [truthsI,List.mem_flatMap,List.mem_map,rangeI,List.mem_range] at h
 obtain ⟨l,hl,e,⟨j,hj,rfl⟩,rfl⟩ := h
 have hE1 := hs.eye
 refine ⟨numsL_len _ l hl,?_,by simp only; omega,by simp only; omega⟩
 have key : ∀ (m : List Span) (y : List Int),y ∈ numsL m -> (∀ s ∈ m,-3000 <= s.low /\ s.high <= 3000) -> bdL 3000 y:= by
  intro m
  induction m with
  | nil => intro y hy _; simp [numsL] at hy; subst hy; simp [bdL]
  | cons s m ih =>
   intro y hy hm
   simp only [numsL,List.mem_flatMap,List.mem_map,rangeI,List.mem_range] at hy
   obtain ⟨n,⟨j,hj,rfl⟩,z,hz,rfl⟩ := hy
   intro q hq
   cases hq with
   | head => have := hm s (by simp); omega
   | tail _ hq => exact ih z hz (fun s h => hm s (by simp [h])) q hq
 exact key _ l hl fun s' h => by have := hs.looks s' h; omega
end Go.Abs
namespace Go.Abs
open Go.Proofs
set_option linter.unusedVariables false
set_option linter.unusedSimpArgs false
set_option maxRecDepth 100000
set_option maxHeartbeats 4000000 in
theorem f58 (s : Sorter) (a b : Int) (hs : s.looks.length <= 1000) : ACalls Tryz.prog 58 [eSorter s,vi a,vi b] (fun r => r = .tup [vi (togetherE s a b).1,vi (togetherE s a b).2]):= by
 refine ACalls.of_body hT Tryz.func58 rfl (by kernel_rfl) rfl ?_
 (repeat' (first | refine stp ?_ | (refine AL_do2 rfl ?_; first | refine ⟨_,op_call1 rfl rfl rfl rfl (f138 s hs),?_⟩ | refine ⟨_,op_call1 rfl rfl rfl rfl (f113 a 0 (s.looks.length - 1)),?_⟩ | refine ⟨_,op_call1 rfl rfl rfl rfl (f113 b 0 (s.looks.length - 1)),?_⟩) | refine AL_gdec rfl rfl rfl (fun hg => ?_) (fun hg => ?_) | refine AL_gnot rfl rfl rfl (fun hg => ?_) (fun hg => ?_) | refine AL_gcases rfl rfl rfl (fun hg => ?_) (fun hg => ?_)))
 all_goals (try exact ⟨_,_,rfl,rfl,by simp_all [togetherE]⟩)
 refine AW_cond rfl (fun hc => ?_) (fun hc => ?_)
 ·(repeat (refine stp ?_))
  exact ⟨_,_,rfl,rfl,by simp_all [togetherE]⟩
 ·have c1 : isSorterB s = true := by simp_all
  have c2 : inB a 0 (s.looks.length - 1) = true := by simp_all
  have c3 : inB b 0 (s.looks.length - 1) = true := by simp_all
  have hspec : togetherE s a b = (wordI ((truthsI s).any (sameTray s a b)) ((truthsI s).any fun x => !sameTray s a b x),0) := by simp [togetherE,c1,c2,c3]
  rw [hspec]
  have hP := sorterP_of c1
  simp only [inB,Bool.and_eq_true,decide_eq_true_eq] at c2 c3
  (repeat (refine stp ?_))
  refine AL_do2 rfl ⟨_,op_call1 rfl rfl rfl rfl (f148 s),?_⟩
  (repeat (refine stp ?_))
  refine AW_range (gf := 192) (caps := [.ptr (sorterC s)]) (L := truthsL s) [3,4,5,8,9] [(3,.box 0 0),(4,.box 1 0),(5,.box 2 0),(8,.box 3 0),(9,.box 4 0)]
   (fun av k (_ : Unit) => [(0,.box [.pv (vi s.eye.low),.pv (vi s.eye.high),.pv (vi s.tire),.pv (eSpans s.looks)]),(1,.box [.pv (vi a)]),(2,.box [.pv (vi b)]),(3,.box [.pv (.bool (((truthsI s).take k).any (sameTray s a b)))]),(4,.box [.pv (.bool (((truthsI s).take k).any fun x => !sameTray s a b x))]),
    (5,.anc (av 3) (.box 0 0)),(6,.anc (av 4) (.box 1 0)),(7,.anc (av 5) (.box 2 0)),(8,.anc (av 8) (.box 3 0)),(9,.anc (av 9) (.box 4 0))]) (fun _ _ => True) 10 [5,6,7,8,9] () trivial
   ?_ (it192 s hP) ?_ ?_ ?_ ?_ ?_ ?_
  ·rfl
  ·intro p hp
   simp only [List.mem_cons,List.not_mem_nil,or_false] at hp; subst hp; rfl
  ·intro x hx
   simp only [truthsL,List.mem_map] at hx
   obtain ⟨y,_,rfl⟩ := hx; rfl
  ·intro av j i
   ((repeat' (first | exact trivial | refine And.intro ?_ ?_)); all_goals (first | rfl | decide))
  ·intro av
   (refine Le.mk ?_ ?_; all_goals (repeat' (first | exact trivial | refine sle ?_ | refine ⟨?_,rfl,?_⟩ | refine ⟨?_,by decide,rfl,?_⟩ | fail)))
  ·intro av k _ x _ hx
   obtain ⟨y,hy,rfl⟩ : ∃ y,(truthsI s)[k]? = some y /\ [.agg [eInts y.1,vi y.2]] = x:= by
    rw [truthsL,List.getElem?_map,Option.map_eq_some_iff] at hx; exact hx
   obtain ⟨y1,y2,y3,y4⟩ := truthsI_mem hP (List.mem_of_getElem? hy)
   have hlen := hP.len
   have hti := hP.tire
   have hll := layI_len s.tire y.1 y.2
   obtain ⟨u,hu⟩ : ∃ u,(layI s.tire y.1 y.2)[a.toNat]? = some u := ⟨(layI s.tire y.1 y.2)[a.toNat]'(by omega),by simp⟩
   obtain ⟨v,hv⟩ : ∃ v,(layI s.tire y.1 y.2)[b.toNat]? = some v := ⟨(layI s.tire y.1 y.2)[b.toNat]'(by omega),by simp⟩
   have e1 := get_map eInt hu
   have e2 := get_map eInt hv
   have htk : (truthsI s).take (k + 1) = (truthsI s).take k ++ [y] := by rw [List.take_add_one,hy]; rfl
   have hsame : sameTray s a b y = decide (u = v) := by simp [sameTray,List.getD_eq_getElem?_getD,hu,hv]
   (repeat (refine stp ?_))
   refine AL_do2 rfl ⟨_,op_call1 rfl rfl rfl rfl (f141 s.tire y.1 y.2 (by omega) (fun z hz => by have := y2 z hz; omega) (by omega) (by omega)),?_⟩
   refine AL_pure (t := 42) rfl rfl ?_
   (repeat (refine stp ?_))
   (repeat (refine sdr ?_))
   refine DG_end hM (by kernel_rfl) ?_
   (repeat (refine stp ?_))
   have h1 : ((truthsI s).take (k + 1)).any (sameTray s a b) = (((truthsI s).take k).any (sameTray s a b) || decide (u = v)) := by rw [htk,List.any_append]; simp [hsame]
   have h2 : ((truthsI s).take (k + 1)).any (fun x => !sameTray s a b x) = ((((truthsI s).take k).any fun x => !sameTray s a b x) || !decide (u = v)) := by rw [htk,List.any_append]; simp [hsame]
   refine AW_if rfl (fun hc => ?_) (fun hc => ?_)
   ·(repeat (refine stp ?_))
    refine roundQ_intro () trivial ?_
    rw [h1,h2]
    simp only [hc,decide_true,Bool.or_true,Bool.not_true,Bool.or_false]
    (refine Le.mk ?_ ?_; all_goals (repeat' (first | exact trivial | refine sle ?_ | refine ⟨?_,rfl,?_⟩ | refine ⟨?_,by decide,rfl,?_⟩ | fail)))
   ·(repeat (refine stp ?_))
    refine roundQ_intro () trivial ?_
    rw [h1,h2]
    simp only [hc,decide_false,Bool.or_true,Bool.not_false,Bool.or_false]
    (refine Le.mk ?_ ?_; all_goals (repeat' (first | exact trivial | refine sle ?_ | refine ⟨?_,rfl,?_⟩ | refine ⟨?_,by decide,rfl,?_⟩ | fail)))
  ·intro av _ _
   rw [show (truthsL s).length = (truthsI s).length by simp [truthsL],List.take_length]
   (repeat' (first | refine stp ?_ | (refine AL_do2 rfl ?_; first | refine ⟨_,op_call1 rfl rfl rfl rfl (f149 ((truthsI s).any (sameTray s a b)) ((truthsI s).any fun x => !sameTray s a b x)),?_⟩) | refine AL_gdec rfl rfl rfl (fun hg => ?_) (fun hg => ?_) | refine AL_gnot rfl rfl rfl (fun hg => ?_) (fun hg => ?_) | refine AL_gcases rfl rfl rfl (fun hg => ?_) (fun hg => ?_)))
   exact ⟨_,_,rfl,rfl,rfl⟩
end Go.Abs
