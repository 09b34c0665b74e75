/- The hour in which a strip tells all acids apart. -/
import Derived.Test.YtmplfjolcdlipaaGreatDoorJDrE
import Derived.Test.YtmplfjolcdlipaaGreatDoorJDrB
import Derived.Test.YtmplfjolcdlipaaGreatDoorJNcF
set_option linter.unusedVariables false
set_option linter.unusedSimpArgs false
namespace Go.Abs
open Go.Proofs
set_option linter.unusedVariables false
set_option linter.unusedSimpArgs false
set_option maxRecDepth 100000
set_option maxHeartbeats 4000000 in
theorem f88 (d : Drum) (hP : DrumP d) (i : Nat) (hi : i < d.hours.toNat) (off : Int) (ho : 0 <= off /\ off <= 50) : ACalls Tryz.prog 88 [eFilledL d (filledL d),vi i,vi off] (fun r => r = .pv (.bool (tellsB d off i))):= by
 have hfl := filled_len hP
 have hmul : -9223372036854775808 <= 2 * off /\ 2 * off <= 9223372036854775807 := by omega
 refine ACalls.of_body hT Tryz.func88 rfl (by kernel_rfl) rfl ?_
 (repeat (refine stq ?_))
 refine AW_loopC (fun k : Nat => k <= (filledL d).length /\ ∀ (a b : Nat) (x y : Acid × Nat),a < b -> b < k -> (filledL d)[a]? = some x -> (filledL d)[b]? = some y -> farB d off i y x = true)
  (fun k => mkSt [(0,.pv (.sl ((filledL d).map (eFilled d)))),(1,.pv (vi i)),(2,.pv (vi off)),(11,.pv (.sl ((filledL d).map (eFilled d)))),(12,.pv (vi (filledL d).length)),(13,.pv (vi k))] [] 0) (fun k => (filledL d).length - k) 0 ⟨Nat.zero_le _,fun a b x y _ h => by omega⟩ ?_ ?_
 ·(refine Le.mk ?_ ?_; all_goals (repeat' (first | exact trivial | refine sle ?_ | refine ⟨?_,rfl,?_⟩ | refine ⟨?_,by decide,rfl,?_⟩ | fail)))
 ·rintro k ⟨hk,hall⟩
  (repeat (refine stq ?_))
  refine AW_if rfl (fun hc => ?_) (fun hc => ?_)
  ·have hk' : k < (filledL d).length := by omega
   obtain ⟨p,hp⟩ : ∃ p,(filledL d)[k]? = some p := ⟨(filledL d)[k],by simp [hk']⟩
   have e1 := get_map (eFilled d) hp
   have hpm := List.mem_of_getElem? hp
   have hpb := strong_bd hP (filled_acid hP hpm) (filled_mem.1 hpm).2.2 hi
   (repeat (refine stq ?_))
   refine AL_do2 rfl ⟨_,op_slice_sl (lo := 0) (hi := k) hT rfl rfl rfl rfl rfl rfl (by intro y hy; obtain ⟨_,_,rfl⟩ := List.mem_map.1 hy; rfl) (.inl ⟨rfl,rfl⟩) (.inr ⟨_,_,rfl,rfl⟩) (by omega) (by simp; omega),?_⟩
   rw [show (((filledL d).map (eFilled d)).take k).drop 0 = ((filledL d).take k).map (eFilled d) by rw [List.drop_zero,List.map_take]]
   have htl : ((filledL d).take k).length = k := by simp; omega
   (repeat (refine stq ?_))
   refine AW_loopC (fun j : Nat => j <= k /\ ∀ (a : Nat) (x : Acid × Nat),a < j -> (filledL d)[a]? = some x -> farB d off i p x = true)
    (fun j => mkSt [(0,.pv (.sl ((filledL d).map (eFilled d)))),(1,.pv (vi i)),(2,.pv (vi off)),(8,.box 0 0),(11,.pv (.sl ((filledL d).map (eFilled d)))),(12,.pv (vi (filledL d).length)),(13,.pv (vi k)),(20,.pv (.sl (((filledL d).take k).map (eFilled d)))),(21,.pv (vi ((filledL d).take k).length)),(22,.pv (vi j))]
     [(0,.box ((eFilled d p).map FV.pv))] 1) (fun j => k - j) 0 ⟨Nat.zero_le _,fun a x h => by omega⟩ ?_ ?_
   ·(refine Le.mk ?_ ?_; all_goals (repeat' (first | exact trivial | refine sle ?_ | refine ⟨?_,rfl,?_⟩ | refine ⟨?_,by decide,rfl,?_⟩ | fail)))
   ·rintro j ⟨hj,hin⟩
    (repeat (refine stq ?_))
    refine AW_if rfl (fun hc2 => ?_) (fun hc2 => ?_)
    ·have hj' : j < k := by omega
     obtain ⟨q,hq⟩ : ∃ q,(filledL d)[j]? = some q := ⟨(filledL d)[j]'(by omega),by simp⟩
     have e2 : (((filledL d).take k).map (eFilled d))[j]? = some (eFilled d q) := get_map (eFilled d) (by rw [List.getElem?_take,if_pos hj']; exact hq)
     have hqm := List.mem_of_getElem? hq
     have hqb := strong_bd hP (filled_acid hP hqm) (filled_mem.1 hqm).2.2 hi
     have next : farB d off i p q = true -> ∀ (a : Nat) (x : Acid × Nat),a < j + 1 -> (filledL d)[a]? = some x -> farB d off i p x = true := fun h a x ha hx => by
      by_cases haj : a = j
      ·subst haj; rw [hq] at hx; cases hx; exact h
      ·exact hin a x (by omega) hx
     have hfar : farB d off i p q = !(decide ((strongS d p.1 i).low - (strongS d q.1 i).high <= 2 * off) && decide ((strongS d q.1 i).low - (strongS d p.1 i).high <= 2 * off)) := rfl
     have k1 := f85 d p i hi
     have k2 := f86 d q i hi
     have k3 := f85 d q i hi
     have k4 := f86 d p i hi
     generalize strongS d p.1 i = u at *
     generalize strongS d q.1 i = v at *
     (repeat (refine stq ?_))
     (repeat' (first | refine DG_next (StepOK.skipU rfl rfl) ?_ | ((refine DG_cmp hT rfl (fun hg => ?_) (fun hg => ?_)) <;> (try (exfalso; omega))) | refine DG_next (D_shl rfl rfl rfl rfl rfl (by omega)) ?_ | refine DG_next (D_shr rfl rfl rfl rfl rfl (by omega)) ?_ | refine sdq ?_ | ((refine DG_callC (D_call rfl rfl rfl rfl rfl (k1)) (fun hg => ?_) (fun hg => ?_)) <;> (try (exfalso; first | contradiction | omega))) | refine DG_next (D_call rfl rfl rfl rfl rfl (k1)) ?_ | ((refine DG_callC (D_call rfl rfl rfl rfl rfl (k2)) (fun hg => ?_) (fun hg => ?_)) <;> (try (exfalso; first | contradiction | omega))) | refine DG_next (D_call rfl rfl rfl rfl rfl (k2)) ?_ | ((refine DG_callC (D_call rfl rfl rfl rfl rfl (k3)) (fun hg => ?_) (fun hg => ?_)) <;> (try (exfalso; first | contradiction | omega))) | refine DG_next (D_call rfl rfl rfl rfl rfl (k3)) ?_ | ((refine DG_callC (D_call rfl rfl rfl rfl rfl (k4)) (fun hg => ?_) (fun hg => ?_)) <;> (try (exfalso; first | contradiction | omega))) | refine DG_next (D_call rfl rfl rfl rfl rfl (k4)) ?_))
     all_goals refine DG_end hM (by kernel_rfl) ?_
     ·(repeat (refine stq ?_))
      exact ⟨_,_,rfl,rfl,by
       have : tellsB d off i = false:= by
        cases ht : tellsB d off i with
        | false => rfl
        | true =>
         have := pairs_iff.1 ht j k q p hj' hq hp
         rw [hfar] at this
         simp_all
       rw [this]⟩
     ·(repeat (refine stq ?_))
      refine ⟨j + 1,⟨hj',next (by rw [hfar]; simp_all)⟩,by omega,?_⟩
      (refine Le.mk ?_ ?_; all_goals (repeat' (first | exact trivial | refine sle ?_ | refine ⟨?_,rfl,?_⟩ | refine ⟨?_,by decide,rfl,?_⟩ | fail)))
     ·(repeat (refine stq ?_))
      refine ⟨j + 1,⟨hj',next (by rw [hfar]; simp_all)⟩,by omega,?_⟩
      (refine Le.mk ?_ ?_; all_goals (repeat' (first | exact trivial | refine sle ?_ | refine ⟨?_,rfl,?_⟩ | refine ⟨?_,by decide,rfl,?_⟩ | fail)))
    ·have hj' : j = k := by omega
     subst hj'
     (repeat (refine stq ?_))
     refine ⟨j + 1,⟨hk',fun a b x y hab hbk hx hy => ?_⟩,by omega,?_⟩
     ·by_cases hbj : b = j
      ·subst hbj; rw [hp] at hy; cases hy; exact hin a x hab hx
      ·exact hall a b x y hab (by omega) hx hy
     ·(refine Le.mk ?_ ?_; all_goals (repeat' (first | exact trivial | refine sle ?_ | refine ⟨?_,rfl,?_⟩ | refine ⟨?_,by decide,rfl,?_⟩ | fail)))
  ·have hk' : k = (filledL d).length := by omega
   (repeat (refine stq ?_))
   exact ⟨_,_,rfl,rfl,by
    have : tellsB d off i = true := pairs_iff.2 fun a b x y hab hx hy => hall a b x y hab (by rw [hk']; exact (List.getElem?_eq_some_iff.1 hy).1) hx hy
    rw [this]⟩
theorem first_at {p : Nat -> Bool} {n h : Nat} (h1 : ∀ j,j < h -> p j = false) (h2 : p h = true) (h3 : h < n) : firstI p n 0 = h:= by
 rcases firstI_spec p n 0 with ⟨_,g⟩ | ⟨m,g1,_,g3,g4,g5⟩
 ·have := g h (by omega) (by omega); rw [h2] at this; cases this
 ·have : m = h:= by
   rcases Nat.lt_trichotomy m h with q | q | q
   ·have := h1 m q; rw [g4] at this; cases this
   ·exact q
   ·have := g5 h (by omega) q; rw [h2] at this; cases this
  rw [g1,this]
theorem first_none {p : Nat -> Bool} {n : Nat} (h1 : ∀ j,j < n -> p j = false) : firstI p n 0 = -1:= by
 rcases firstI_spec p n 0 with ⟨g,_⟩ | ⟨m,g1,_,g3,g4,g5⟩
 ·exact g
 ·have := h1 m (by omega); rw [g4] at this; cases this
def tellsE (d : Drum) (off : Int) : Int × Int := if errE d (inB off 0 50) = 0 then (if tellsI d off < 0 then (0,5) else (tellsI d off,0)) else (0,errE d (inB off 0 50))
set_option maxHeartbeats 4000000 in
theorem f26 (d : Drum) (off : Int) (hd : drumOK d) : ACalls Tryz.prog 26 [eDrum d,vi off] (fun r => r = .tup [vi (tellsE d off).1,vi (tellsE d off).2]):= by
 have k84 := f84 d (inB off 0 50) hd
 have k87 := f87 off 0 50
 refine ACalls.of_body hT Tryz.func26 rfl (by kernel_rfl) rfl ?_
 by_cases he : errE d (inB off 0 50) = 0
 ·obtain ⟨hP,hf,hne,ha⟩ := asked_ok he
  rw [ha] at k84
  rw [hf] at k84 k87
  have ho : 0 <= off /\ off <= 50 := by simpa [inB] using hf
  have k84 : ACalls Tryz.prog 84 [eDrum d,.bool true] (fun r => r = .tup [.sl ((filledL d).map (eFilled d)),vi 0]) := k84
  obtain ⟨m,hm⟩ : ∃ m : Nat,d.hours = m := ⟨d.hours.toNat,by have := hP.h0; omega⟩
  have hmm : m = d.hours.toNat := by omega
  have h12 := hP.h1
  (repeat (refine stq ?_))
  (repeat (first | refine sdq ?_ | refine DG_next (D_call rfl rfl rfl rfl rfl (k87)) ?_ | refine DG_next (D_call_tup rfl rfl rfl rfl rfl (k84)) ?_))
  refine DG_end hM (by kernel_rfl) ?_
  (repeat (refine stq ?_))
  refine AW_loopC (fun h : Nat => h <= m /\ ∀ j,j < h -> tellsB d off j = false) (fun h => mkSt [(1,.pv (vi off)),(6,.pv (.sl ((filledL d).map (eFilled d)))),(20,.pv (vi d.hours)),(21,.pv (vi h))] [] 0) (fun h => m - h) 0 ⟨Nat.zero_le _,fun j h => by omega⟩ ?_ ?_
  ·(refine Le.mk ?_ ?_; all_goals (repeat' (first | exact trivial | refine sle ?_ | refine ⟨?_,rfl,?_⟩ | refine ⟨?_,by decide,rfl,?_⟩ | fail)))
  ·rintro h ⟨hh,hall⟩
   (repeat (refine stq ?_))
   refine AW_if rfl (fun hc => ?_) (fun hc => ?_)
   ·have hlt : h < m := by omega
    have k88 := f88 d hP h (by omega) off ho
    cases ht : tellsB d off h with
    | true =>
     rw [ht] at k88
     (repeat' (first | refine stq ?_ | (refine AL_do2 rfl ?_; first | refine ⟨_,op_call1 rfl rfl rfl rfl (k88),nrmA rfl ?_⟩) | (with_reducible refine AL_id ?_); (fail_if_success (refine AL_glit rfl rfl rfl (by first | exact .inl (by with_reducible rfl) | exact .inr (by with_reducible rfl)) ?_)); first | refine AL_gdec rfl rfl rfl (fun hg => ?_) (fun hg => ?_) | refine AL_gnot rfl rfl rfl (fun hg => ?_) (fun hg => ?_) | refine AL_gcases rfl rfl rfl (fun hg => ?_) (fun hg => ?_)))
     exact ⟨_,_,rfl,rfl,by
      have : tellsI d off = h := first_at hall ht (by omega)
      rw [tellsE,if_pos he,this,if_neg (by omega)]⟩
    | false =>
     rw [ht] at k88
     (repeat' (first | refine stq ?_ | (refine AL_do2 rfl ?_; first | refine ⟨_,op_call1 rfl rfl rfl rfl (k88),nrmA rfl ?_⟩) | (with_reducible refine AL_id ?_); (fail_if_success (refine AL_glit rfl rfl rfl (by first | exact .inl (by with_reducible rfl) | exact .inr (by with_reducible rfl)) ?_)); first | refine AL_gdec rfl rfl rfl (fun hg => ?_) (fun hg => ?_) | refine AL_gnot rfl rfl rfl (fun hg => ?_) (fun hg => ?_) | refine AL_gcases rfl rfl rfl (fun hg => ?_) (fun hg => ?_)))
     refine ⟨h + 1,⟨hlt,fun j hj => ?_⟩,by omega,?_⟩
     ·by_cases hjh : j = h
      ·rw [hjh]; exact ht
      ·exact hall j (by omega)
     ·(refine Le.mk ?_ ?_; all_goals (repeat' (first | exact trivial | refine sle ?_ | refine ⟨?_,rfl,?_⟩ | refine ⟨?_,by decide,rfl,?_⟩ | fail)))
   ·have hhm : h = m := by omega
    (repeat (refine stq ?_))
    exact ⟨_,_,rfl,rfl,by
     have : tellsI d off = -1 := first_none (by rw [<- hmm,<- hhm]; exact hall)
     rw [tellsE,if_pos he,this]; rfl⟩
 ·rw [asked_err he] at k84
  have k84 : ACalls Tryz.prog 84 [eDrum d,.bool (inB off 0 50)] (fun r => r = .tup [.sl [],vi (errE d (inB off 0 50))]) := k84
  (repeat (refine stq ?_))
  (repeat (first | refine sdq ?_ | refine DG_next (D_call rfl rfl rfl rfl rfl (k87)) ?_ | refine DG_next (D_call_tup rfl rfl rfl rfl rfl (k84)) ?_))
  refine DG_end hM (by kernel_rfl) ?_
  (repeat (refine stq ?_))
  refine AW_if rfl (fun hc => ?_) (fun hc => absurd (by omega) hc)
  (repeat (refine stq ?_))
  exact ⟨_,_,rfl,rfl,by rw [tellsE,if_neg he]⟩
end Go.Abs
namespace Go.Abs
open Go.Proofs
set_option linter.unusedVariables false
set_option linter.unusedSimpArgs false
set_option maxRecDepth 100000
def bdU (c : Int) (l : List Int) : Prop := ∀ x ∈ l,0 <= x /\ x <= c
theorem sumI_bdU {c : Int} : ∀ {l : List Int},bdU c l -> 0 <= sumI l /\ sumI l <= c * l.length
 | [],_ => by simp [sumI]
 | x :: l,h => by
  have h1 := h x (by simp)
  have h2 := sumI_bdU (l := l) fun y hy => h y (by simp [hy])
  simp only [sumI,List.length_cons,Int.natCast_add,Int.mul_add]
  omega
theorem f170 (l : List Int) (hl : l.length <= 1000) (hb : bdU 2000 l) : ACalls Tryz.prog 170 [eInts l] (fun r => r = .pv (vi (sumI l))):= by
 refine ACalls.of_body hT Tryz.func170 rfl (by kernel_rfl) rfl ?_
 (repeat (refine stq ?_))
 refine AW_loopC (fun k : Nat => k <= l.length) (fun k => mkSt [(3,.pv (vi (sumI (l.take k)))),(6,.pv (eInts l)),(7,.pv (vi l.length)),(8,.pv (vi k))] [] 0) (fun k => l.length - k) 0 (Nat.zero_le _) ?_ ?_
 ·(refine Le.mk ?_ ?_; all_goals (repeat' (first | exact trivial | refine sle ?_ | refine ⟨?_,rfl,?_⟩ | refine ⟨?_,by decide,rfl,?_⟩ | fail)))
 ·intro k hk
  (repeat (refine stq ?_))
  refine AW_if rfl (fun hc => ?_) (fun hc => ?_)
  ·have hk' : k < l.length := by omega
   obtain ⟨x,hx⟩ : ∃ x,l[k]? = some x := ⟨l[k],by simp [hk']⟩
   have e1 := get_map eInt hx
   have hs : sumI (l.take (k + 1)) = sumI (l.take k) + x := by rw [List.take_add_one,hx,sumI_append]; simp [sumI]
   have hxb := hb x (List.mem_of_getElem? hx)
   have hsb := sumI_bdU (c := 2000) (l := l.take k) fun y hy => hb y (List.mem_of_mem_take hy)
   rw [List.length_take] at hsb
   generalize sumI (l.take k) = u at *
   (repeat (refine stq ?_))
   refine ⟨k + 1,hk',by omega,?_⟩
   rw [hs]
   (refine Le.mk ?_ ?_; all_goals (repeat' (first | exact trivial | refine sle ?_ | refine ⟨?_,rfl,?_⟩ | refine ⟨?_,by decide,rfl,?_⟩ | fail)))
  ·have hk' : k = l.length := by omega
   subst hk'
   rw [List.take_length]
   (repeat (refine stq ?_))
   exact ⟨_,_,rfl,rfl,rfl⟩
theorem eat_bd {n p : Int} (hn : 0 <= n) (hn2 : n <= 1400) (hp : 0 <= p) (hp2 : p <= 100) : 0 <= n * p /\ n * p <= 140000 /\ 0 <= eatI n p /\ eatI n p <= 1400:= by
 have h1 : 0 <= n * p := Int.mul_nonneg hn hp
 have h2 : n * p <= 1400 * 100 := Int.mul_le_mul hn2 hp2 hp (by decide)
 have h3 : eatI n p = (n * p) / 100 := by unfold eatI; rw [Int.tdiv_eq_ediv_of_nonneg h1]
 rw [h3]
 omega
theorem wrap_small {x : Int} (h : -1000000 <= x /\ x <= 1000000) : IntKind.i64.wrap x = x:= by
 unfold IntKind.wrap; simp [IntKind.signed,IntKind.bits]; omega
def eatL (t : List Int) (p : Int) (h : Nat) : List Int := (t.take h).map fun n => eatI n p
theorem eatL_succ {t : List Int} {p : Int} {h : Nat} {x : Int} (hx : t[h]? = some x) : eatL t p (h + 1) = eatL t p h ++ [eatI x p]:= by
 unfold eatL; rw [map_take_succ (fun n => eatI n p) hx]
theorem eatL_bd {t : List Int} {p : Int} {h : Nat} (ht : bdU 1400 t) (hp : 0 <= p /\ p <= 100) : bdU 2000 (eatL t p h) := fun x hx => by
 obtain ⟨n,hn,rfl⟩ := List.mem_map.1 hx
 have h1 := ht n (List.mem_of_mem_take hn)
 have := eat_bd h1.1 h1.2 hp.1 hp.2
 omega
set_option maxHeartbeats 4000000 in
theorem f136m (b : Batch) (hb : BatchP3 b) (hours : Nat) (hh : hours <= 12) (g : Nat) (first : List PV) (t : List Int) (hl : hours <= t.length) (ht : bdU 1400 t) (hg : ∀ (i : Nat) (x : Int),t[i]? = some x -> ACalls Tryz.prog g (first ++ [vi i]) (fun r => r = .pv (vi x))) :
  ACalls Tryz.prog 136 [.agg (eBatch b),vi hours,.meth g first] (fun r => r = .pv (.agg (eState (stateI b t hours)))):= by
 have hp0 := hb.p0; have hp1 := hb.p1; have he0 := hb.e0; have he1 := hb.e1
 have hr0 := hb.r0; have hr1 := hb.r1; have ht0 := hb.t0; have ht1 := hb.t1
 refine ACalls.of_body hT Tryz.func136 rfl (by kernel_rfl) rfl ?_
 (repeat (refine stq ?_))
 refine AW_own_nil (e := 3) (sz := 1) (t := 7) rfl rfl ?_
 refine AW_own_nil (e := 3) (sz := 1) (t := 8) rfl rfl ?_
 (repeat (refine stq ?_))
 refine AW_loopC (fun k : Nat => k <= hours) (fun k => mkSt [(2,.pv (.meth g first)),(3,.box 0 0),(6,.box 1 0),(7,.arr 2),(8,.arr 3),(11,.pv (vi hours)),(12,.pv (vi k))] [(0,.box ((eBatch b).map FV.pv)),(1,.box [.pv (vi 0),.pv (vi 0)]),(2,.arr 3 1 ((eatL t b.polish k).map eInt)),(3,.arr 3 1 ((eatL t b.eat k).map eInt))] 4) (fun k => hours - k) 0 (Nat.zero_le _) ?_ ?_
 ·(refine Le.mk ?_ ?_; all_goals (repeat' (first | exact trivial | refine sle ?_ | refine ⟨?_,rfl,?_⟩ | refine ⟨?_,by decide,rfl,?_⟩ | fail)))
 ·intro k hk
  (repeat (refine stq ?_))
  refine AW_if rfl (fun hc => ?_) (fun hc => ?_)
  ·have hk' : k < hours := by omega
   obtain ⟨x,hx⟩ : ∃ x,t[k]? = some x := ⟨t[k]'(by omega),by simp⟩
   have hxb := ht x (List.mem_of_getElem? hx)
   have q1 := eat_bd hxb.1 hxb.2 hp0 hp1
   have q2 := eat_bd hxb.1 hxb.2 he0 he1
   have m1 : -9223372036854775808 <= x * b.polish /\ x * b.polish <= 9223372036854775807 := by omega
   have m2 : -9223372036854775808 <= x * b.eat /\ x * b.eat <= 9223372036854775807 := by omega
   have w1 : IntKind.i64.wrap ((x * b.polish).tdiv 100) = eatI x b.polish := wrap_small (show -1000000 <= eatI x b.polish /\ eatI x b.polish <= 1000000 by omega)
   have w2 : IntKind.i64.wrap ((x * b.eat).tdiv 100) = eatI x b.eat := wrap_small (show -1000000 <= eatI x b.eat /\ eatI x b.eat <= 1000000 by omega)
   have s1 := eatL_succ (p := b.polish) hx
   have s2 := eatL_succ (p := b.eat) hx
   have l1 : (eatL t b.polish k).length <= 1000 := by simp [eatL]; omega
   have l2 : (eatL t b.eat k).length <= 1000 := by simp [eatL]; omega
   generalize eatL t b.polish k = u at *
   generalize eatL t b.eat k = v at *
   (repeat' (first | refine stq ?_ | (refine AL_do2 rfl ?_; first | refine ⟨_,op_callM rfl rfl rfl rfl (hg k x hx),nrmA rfl ?_⟩) | (with_reducible refine AL_id ?_); (fail_if_success (refine AL_glit rfl rfl rfl (by first | exact .inl (by with_reducible rfl) | exact .inr (by with_reducible rfl)) ?_)); first | refine AL_gdec rfl rfl rfl (fun hg => ?_) (fun hg => ?_) | refine AL_gnot rfl rfl rfl (fun hg => ?_) (fun hg => ?_) | refine AL_gcases rfl rfl rfl (fun hg => ?_) (fun hg => ?_)))
   (repeat (first | refine DG_next (D_quo rfl rfl rfl rfl rfl (by decide) w1) ?_ | refine DG_next (D_quo rfl rfl rfl rfl rfl (by decide) w2) ?_ | refine sdq ?_))
   refine DG_end hM (by kernel_rfl) ?_
   (repeat (refine stq ?_))
   refine ⟨k + 1,hk',by omega,?_⟩
   rw [s1,s2]
   (refine Le.mkR [(0,0),(1,1),(2,4),(3,5)] ?_ ?_ rfl; all_goals (repeat' (first | exact trivial | refine sle ?_ | refine ⟨?_,rfl,?_⟩ | refine ⟨?_,by decide,rfl,?_⟩ | fail)))
   ·rw [List.map_append]; rfl
   ·rw [List.map_append]; rfl
  ·have hk' : k = hours := by omega
   subst hk'
   have b1 := eatL_bd (p := b.polish) (h := k) ht ⟨hp0,hp1⟩
   have b2 := eatL_bd (p := b.eat) (h := k) ht ⟨he0,he1⟩
   have l1 : (eatL t b.polish k).length <= 12 := by simp [eatL]; omega
   have l2 : (eatL t b.eat k).length <= 12 := by simp [eatL]; omega
   have k1 := f170 (eatL t b.polish k) (by omega) b1
   have k2 := f170 (eatL t b.eat k) (by omega) b2
   have q1 := sumI_bdU b1
   have q2 := sumI_bdU b2
   have hs : stateI b t k = ⟨max 0 (b.rough - sumI (eatL t b.polish k)),max 0 (b.thick - sumI (eatL t b.eat k))⟩ := rfl
   rw [hs]
   generalize eatL t b.polish k = u at *
   generalize eatL t b.eat k = v at *
   refine AW_pure (t := 7) rfl rfl ?_
   refine AW_pure (t := 8) rfl rfl ?_
   (repeat (refine stq ?_))
   (repeat (first | refine sdq ?_ | refine DG_next (D_call rfl rfl rfl rfl rfl (k1)) ?_ | refine DG_next (D_call rfl rfl rfl rfl rfl (k2)) ?_))
   refine DG_end hM (by kernel_rfl) ?_
   (repeat (refine stq ?_))
   exact ⟨_,_,rfl,rfl,rfl⟩
end Go.Abs
