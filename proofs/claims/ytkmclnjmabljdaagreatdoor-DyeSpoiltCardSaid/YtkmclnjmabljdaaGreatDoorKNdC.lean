/- Depths of dyes between bounds: sum, lows, highs, spans, depth, shallow, deep, ends, Known. -/
import Derived.Test.YtkmclnjmabljdaaGreatDoorKNdB
set_option linter.unusedVariables false
set_option linter.unusedSimpArgs false
namespace Go.Abs
open Go.Proofs
set_option linter.unusedVariables false
set_option linter.unusedSimpArgs false
set_option maxRecDepth 100000
theorem map_take_succ {α β : Type} (f : α -> β) {l : List α} {k : Nat} {x : α} (h : l[k]? = some x) : (l.take (k + 1)).map f = (l.take k).map f ++ [f x]:= by
 rw [List.take_add_one,h]; simp
def sumI : List Int -> Int
 | [] => 0
 | x :: l => x + sumI l
theorem sumI_append : ∀ (l m : List Int),sumI (l ++ m) = sumI l + sumI m
 | [],m => by simp [sumI]
 | x :: l,m => by simp only [List.cons_append,sumI,sumI_append l m]; omega
theorem sumI_succ {l : List Int} {k : Nat} {x : Int} (h : l[k]? = some x) : sumI (l.take (k + 1)) = sumI (l.take k) + x:= by
 rw [List.take_add_one,h,sumI_append]; simp [sumI]
theorem sumI_bd {c : Int} : ∀ {l : List Int},(∀ x ∈ l,-c <= x /\ x <= c) -> -c * l.length <= sumI l /\ sumI l <= c * l.length
 | [],_ => by simp [sumI]
 | x :: l,h => by
  have ih := sumI_bd (c := c) (l := l) fun y hy => h y (by simp [hy])
  have hx := h x (by simp)
  have e1 : -c * ((l.length : Int) + 1) = -c * l.length - c := by rw [Int.mul_add]; omega
  have e2 : c * ((l.length : Int) + 1) = c * l.length + c := by rw [Int.mul_add]; omega
  simp only [sumI,List.length_cons,Int.natCast_add,Int.natCast_one]
  rw [e1,e2]; omega
theorem f130 (l : List Int) (hl : l.length <= 1000) (hb : ∀ x ∈ l,-1000000000 <= x /\ x <= 1000000000) : ACalls Tryz.prog 130 [eInts l] (fun r => r = .pv (vi (sumI l))):= by
 refine ACalls.of_body hT Tryz.func130 rfl (by kernel_rfl) rfl ?_
 (repeat (refine stp ?_))
 refine AW_loopC (fun k : Nat => k <= l.length) (fun k => mkSt [(3,.pv (vi (sumI (l.take k)))),(6,.pv (eInts l)),(7,.pv (vi l.length)),(8,.pv (vi k))] [] 0) (fun k => l.length - k) 0 (Nat.zero_le _) ?_ ?_
 ·(refine Le.mk ?_ ?_; all_goals (repeat' (first | exact trivial | refine sle ?_ | refine ⟨?_,rfl,?_⟩ | refine ⟨?_,by decide,rfl,?_⟩ | fail)))
 ·intro k hk
  (repeat (refine stp ?_))
  refine AW_if rfl (fun hc => ?_) (fun hc => ?_)
  ·have hk' : k < l.length := by omega
   obtain ⟨x,hx⟩ : ∃ x,l[k]? = some x := ⟨l[k],by simp [hk']⟩
   have e1 := get_map eInt hx
   have hs := sumI_succ hx
   have hxb := hb x (List.mem_of_getElem? hx)
   have hsb := sumI_bd (c := 1000000000) (l := l.take k) fun y hy => hb y (List.mem_of_mem_take hy)
   have htl : (l.take k).length <= 1000 := by simp; omega
   (repeat (refine stp ?_))
   refine ⟨k + 1,hk',by omega,?_⟩
   (refine Le.mk ?_ ?_; all_goals (repeat' (first | exact trivial | refine sle ?_ | refine ⟨?_,rfl,?_⟩ | refine ⟨?_,by decide,rfl,?_⟩ | fail)))
   rw [hs]; rfl
  ·have hk' : k = l.length := by omega
   subst hk'
   (repeat (refine stp ?_))
   exact ⟨_,_,rfl,rfl,by simp⟩
theorem f209 (l : List Span) (hl : l.length <= 1000) : ACalls Tryz.prog 209 [eSpans l] (fun r => r = .own 3 1 ((l.map (·.low)).map eInt)):= by
 refine ACalls.of_body hT Tryz.func209 rfl (by kernel_rfl) rfl ?_
 (repeat (refine stp ?_))
 refine AW_own_nil (e := 3) (sz := 1) (t := 3) rfl rfl ?_
 refine AW_loopC (fun k : Nat => k <= l.length) (fun k => mkSt [(3,.arr 0),(6,.pv (eSpans l)),(7,.pv (vi l.length)),(8,.pv (vi k))] [(0,.arr 3 1 ((l.take k).map fun s => eInt s.low))] 1) (fun k => l.length - k) 0 (Nat.zero_le _) ?_ ?_
 ·(refine Le.mk ?_ ?_; all_goals (repeat' (first | exact trivial | refine sle ?_ | refine ⟨?_,rfl,?_⟩ | refine ⟨?_,by decide,rfl,?_⟩ | fail)))
 ·intro k hk
  (repeat (refine stp ?_))
  refine AW_if rfl (fun hc => ?_) (fun hc => ?_)
  ·have hk' : k < l.length := by omega
   obtain ⟨x,hx⟩ : ∃ x,l[k]? = some x := ⟨l[k],by simp [hk']⟩
   have e1 := get_map eSpan hx
   have hs := map_take_succ (fun s : Span => eInt s.low) hx
   (repeat (refine stp ?_))
   refine ⟨k + 1,hk',by omega,?_⟩
   (refine Le.mkR [(0,3)] ?_ ?_ rfl; all_goals (repeat' (first | exact trivial | refine sle ?_ | refine ⟨?_,rfl,?_⟩ | refine ⟨?_,by decide,rfl,?_⟩ | fail)))
   rw [hs]; rfl
  ·have hk' : k = l.length := by omega
   subst hk'
   (repeat (refine stp ?_))
   exact ⟨_,_,rfl,rfl,by simp⟩
theorem f211 (l : List Span) (hl : l.length <= 1000) : ACalls Tryz.prog 211 [eSpans l] (fun r => r = .own 3 1 ((l.map (·.high)).map eInt)):= by
 refine ACalls.of_body hT Tryz.func211 rfl (by kernel_rfl) rfl ?_
 (repeat (refine stp ?_))
 refine AW_own_nil (e := 3) (sz := 1) (t := 3) rfl rfl ?_
 refine AW_loopC (fun k : Nat => k <= l.length) (fun k => mkSt [(3,.arr 0),(6,.pv (eSpans l)),(7,.pv (vi l.length)),(8,.pv (vi k))] [(0,.arr 3 1 ((l.take k).map fun s => eInt s.high))] 1) (fun k => l.length - k) 0 (Nat.zero_le _) ?_ ?_
 ·(refine Le.mk ?_ ?_; all_goals (repeat' (first | exact trivial | refine sle ?_ | refine ⟨?_,rfl,?_⟩ | refine ⟨?_,by decide,rfl,?_⟩ | fail)))
 ·intro k hk
  (repeat (refine stp ?_))
  refine AW_if rfl (fun hc => ?_) (fun hc => ?_)
  ·have hk' : k < l.length := by omega
   obtain ⟨x,hx⟩ : ∃ x,l[k]? = some x := ⟨l[k],by simp [hk']⟩
   have e1 := get_map eSpan hx
   have hs := map_take_succ (fun s : Span => eInt s.high) hx
   (repeat (refine stp ?_))
   refine ⟨k + 1,hk',by omega,?_⟩
   (refine Le.mkR [(0,3)] ?_ ?_ rfl; all_goals (repeat' (first | exact trivial | refine sle ?_ | refine ⟨?_,rfl,?_⟩ | refine ⟨?_,by decide,rfl,?_⟩ | fail)))
   rw [hs]; rfl
  ·have hk' : k = l.length := by omega
   subst hk'
   (repeat (refine stp ?_))
   exact ⟨_,_,rfl,rfl,by simp⟩
theorem f210 (l : List Bath) (hl : l.length <= 1000) : ACalls Tryz.prog 210 [eBaths l] (fun r => r = .own 37 2 ((l.map (·.hours)).map eSpan)):= by
 refine ACalls.of_body hT Tryz.func210 rfl (by kernel_rfl) rfl ?_
 (repeat (refine stp ?_))
 refine AW_own_nil (e := 37) (sz := 2) (t := 3) rfl rfl ?_
 refine AW_loopC (fun k : Nat => k <= l.length) (fun k => mkSt [(3,.arr 0),(6,.pv (eBaths l)),(7,.pv (vi l.length)),(8,.pv (vi k))] [(0,.arr 37 2 ((l.take k).map fun b => eSpan b.hours))] 1) (fun k => l.length - k) 0 (Nat.zero_le _) ?_ ?_
 ·(refine Le.mk ?_ ?_; all_goals (repeat' (first | exact trivial | refine sle ?_ | refine ⟨?_,rfl,?_⟩ | refine ⟨?_,by decide,rfl,?_⟩ | fail)))
 ·intro k hk
  (repeat (refine stp ?_))
  refine AW_if rfl (fun hc => ?_) (fun hc => ?_)
  ·have hk' : k < l.length := by omega
   obtain ⟨x,hx⟩ : ∃ x,l[k]? = some x := ⟨l[k],by simp [hk']⟩
   have e1 := get_map eBath hx
   have hs := map_take_succ (fun b : Bath => eSpan b.hours) hx
   (repeat (refine stp ?_))
   refine ⟨k + 1,hk',by omega,?_⟩
   (refine Le.mkR [(0,3)] ?_ ?_ rfl; all_goals (repeat' (first | exact trivial | refine sle ?_ | refine ⟨?_,rfl,?_⟩ | refine ⟨?_,by decide,rfl,?_⟩ | fail)))
   rw [hs]; rfl
  ·have hk' : k = l.length := by omega
   subst hk'
   (repeat (refine stp ?_))
   exact ⟨_,_,rfl,rfl,by simp⟩
def prods (dye : Int) (takes : List Int) : List Bath -> List Int -> List Int
 | b :: l,t :: hs => (if b.dye = dye then [t * takes.getD b.temper.toNat 0] else []) ++ prods dye takes l hs
 | _,_ => []
theorem prods_succ (dye : Int) (takes : List Int) : ∀ (l : List Bath) (hours : List Int) (k : Nat) (b : Bath) (t : Int),l[k]? = some b -> hours[k]? = some t -> prods dye takes (l.take (k + 1)) hours = prods dye takes (l.take k) hours ++ (if b.dye = dye then [t * takes.getD b.temper.toNat 0] else [])
 | [],_,k,_,_,h,_ => by simp at h
 | _ :: _,[],k,_,_,_,h => by simp at h
 | b0 :: l,t0 :: hs,0,b,t,h,h' => by simp at h h'; subst h; subst h'; simp [prods]
 | b0 :: l,t0 :: hs,k + 1,b,t,h,h' => by
  have := prods_succ dye takes l hs k b t (by simpa using h) (by simpa using h')
  simp only [List.take_succ_cons,prods,this,List.append_assoc]
theorem prods_len (dye : Int) (takes : List Int) : ∀ (l : List Bath) (hours : List Int),(prods dye takes l hours).length <= l.length
 | [],_ => by simp [prods]
 | _ :: _,[] => by simp [prods]
 | b :: l,t :: hs => by
  have := prods_len dye takes l hs
  simp only [prods,List.length_append,List.length_cons]
  split <;> simp <;> omega
def small (l : List Int) : Prop := ∀ x ∈ l,0 <= x /\ x <= 1000
theorem small_getD {l : List Int} (h : small l) (n : Nat) : 0 <= l.getD n 0 /\ l.getD n 0 <= 1000:= by
 rw [List.getD_eq_getElem?_getD]
 cases hg : l[n]? with
 | none => simp
 | some x => exact h x (List.mem_of_getElem? hg)
theorem small_mul {x y : Int} (h1 : 0 <= x /\ x <= 1000) (h2 : 0 <= y /\ y <= 1000) : 0 <= x * y /\ x * y <= 1000000 :=
 ⟨Int.mul_nonneg h1.1 h2.1,by have := Int.mul_le_mul h1.2 h2.2 h2.1 (by omega); omega⟩
theorem prods_bd (dye : Int) (takes : List Int) (h2 : small takes) : ∀ (l : List Bath) (hours : List Int),small hours -> ∀ x ∈ prods dye takes l hours,0 <= x /\ x <= 1000000
 | [],_,_ => by simp [prods]
 | _ :: _,[],_ => by simp [prods]
 | b :: l,t :: hs,h1 => by
  have ih := prods_bd dye takes h2 l hs fun x hx => h1 x (by simp [hx])
  intro x hx
  simp only [prods,List.mem_append] at hx
  rcases hx with hx | hx
  ·split at hx
   ·simp at hx; subst hx; exact small_mul (h1 t (by simp)) (small_getD h2 _)
   ·cases hx
  ·exact ih x hx
def depthI (d : Dye) (dye : Int) (takes : List Int) (l : List Bath) (hours : List Int) : Int := min d.full (sumI (prods dye takes l hours))
theorem f155 (h : List Dye) (dye : Int) (takes : List Int) (l : List Bath) (hours : List Int) (d : Dye) (hd : h[dye.toNat]? = some d) (h0 : 0 <= dye) (hlen : l.length <= hours.length) (hl : l.length <= 1000)
  (ht : ∀ b ∈ l,b.dye = dye -> 0 <= b.temper /\ b.temper.toNat < takes.length) (h1 : small hours) (h2 : small takes) : ACalls Tryz.prog 155 [eHouse h,eBaths l,vi dye,eInts takes,eInts hours] (fun r => r = .pv (vi (depthI d dye takes l hours))):= by
 refine ACalls.of_body hT Tryz.func155 rfl (by kernel_rfl) rfl ?_
 (repeat (refine stp ?_))
 refine AW_own_nil (e := 3) (sz := 1) (t := 11) rfl rfl ?_
 refine AW_loopC (fun k : Nat => k <= l.length) (fun k => mkSt [(1,.pv (eBaths l)),(2,.pv (vi dye)),(3,.pv (eInts takes)),(4,.pv (eInts hours)),(5,.box 0 0),(11,.arr 1),(14,.pv (eBaths l)),(15,.pv (vi l.length)),(16,.pv (vi k))] [(0,.box [.pv (.sl (h.map eDye))]),(1,.arr 3 1 ((prods dye takes (l.take k) hours).map eInt))] 2) (fun k => l.length - k) 0 (Nat.zero_le _) ?_ ?_
 ·(refine Le.mk ?_ ?_; all_goals (repeat' (first | exact trivial | refine sle ?_ | refine ⟨?_,rfl,?_⟩ | refine ⟨?_,by decide,rfl,?_⟩ | fail)))
 ·intro k hk
  (repeat (refine stp ?_))
  refine AW_if rfl (fun hc => ?_) (fun hc => ?_)
  ·have hk' : k < l.length := by omega
   obtain ⟨b,hb⟩ : ∃ b,l[k]? = some b := ⟨l[k],by simp [hk']⟩
   obtain ⟨t,htt⟩ : ∃ t,hours[k]? = some t := ⟨hours[k]'(by omega),by simp⟩
   have hbm := List.mem_of_getElem? hb
   have e1 := get_map eBath hb
   have e2 := get_map eInt htt
   have hs := prods_succ dye takes l hours k b t hb htt
   have hpl := prods_len dye takes (l.take k) hours
   have htl : (l.take k).length <= 1000 := by simp; omega
   have htb := h1 t (List.mem_of_getElem? htt)
   (repeat (refine stp ?_))
   refine AW_if rfl (fun hc2 => ?_) (fun hc2 => ?_)
   ·obtain ⟨g1,g2⟩ := ht b hbm hc2
    obtain ⟨x,hx⟩ : ∃ x,takes[b.temper.toNat]? = some x := ⟨takes[b.temper.toNat],by simp [g2]⟩
    have hxb := h2 x (List.mem_of_getElem? hx)
    have e3 := get_map_i eInt hx
    have hcon : takes.getD b.temper.toNat 0 = x := by simp [hx]
    have p1 := small_mul htb hxb
    have hm : -9223372036854775808 <= t * x /\ t * x <= 9223372036854775807 := by omega
    rw [if_pos hc2,hcon] at hs
    (repeat (refine stp ?_))
    (repeat (refine sdr ?_))
    refine DG_end hM (by kernel_rfl) ?_
    (repeat (refine stp ?_))
    refine ⟨k + 1,hk',by omega,?_⟩
    (refine Le.mkR [(1,3)] ?_ ?_ rfl; all_goals (repeat' (first | exact trivial | refine sle ?_ | refine ⟨?_,rfl,?_⟩ | refine ⟨?_,by decide,rfl,?_⟩ | fail)))
    rw [hs,List.map_append]; rfl
   ·rw [if_neg hc2,List.append_nil] at hs
    (repeat (refine stp ?_))
    refine ⟨k + 1,hk',by omega,?_⟩
    (refine Le.mk ?_ ?_; all_goals (repeat' (first | exact trivial | refine sle ?_ | refine ⟨?_,rfl,?_⟩ | refine ⟨?_,by decide,rfl,?_⟩ | fail)))
    rw [hs]; rfl
  ·have hk' : k = l.length := by omega
   subst hk'
   rw [List.take_length]
   have e4 := get_map_i eDye hd
   have hpl := prods_len dye takes l hours
   have hpb := prods_bd dye takes h2 l hours h1
   refine AW_pure (t := 11) rfl rfl ?_
   (repeat (refine stp ?_))
   (repeat (first | refine sdr ?_ | refine DG_next (D_call rfl rfl rfl rfl rfl (f130 (prods dye takes l hours) (by omega) (fun x hx => by have := hpb x hx; omega))) ?_))
   refine DG_end hM (by kernel_rfl) ?_
   (repeat (refine stp ?_))
   exact ⟨_,_,rfl,rfl,rfl⟩
end Go.Abs
namespace Go.Abs
open Go.Proofs
set_option linter.unusedVariables false
set_option linter.unusedSimpArgs false
set_option maxRecDepth 100000
def HouseP (h : List Dye) : Prop := h.length <= 3 /\ 1 <= h.length /\ ∀ d ∈ h,d.takes.length = 3 /\ 0 <= d.full /\ d.full <= 100 /\ ∀ s ∈ d.takes,0 <= s.low /\ s.low <= s.high /\ s.high <= 20
def BathP (n : Nat) (b : Bath) : Prop := 0 <= b.dye /\ b.dye < n /\ 0 <= b.temper /\ b.temper <= 2 /\ 0 <= b.hours.low /\ b.hours.low <= b.hours.high /\ b.hours.high <= 12
def BatchP (h : List Dye) (l : List Bath) : Prop := l.length <= 4 /\ ∀ b ∈ l,BathP h.length b
theorem houseP_of {h : List Dye} (hh : isHouseB h = true) : HouseP h:= by
 simp only [isHouseB,inB,Bool.and_eq_true,decide_eq_true_eq,Bool.not_eq_true',List.any_eq_false,Bool.not_eq_false] at hh
 refine ⟨by omega,by omega,fun d hd => ?_⟩
 have h1 := hh.2 d hd
 simp only [isDyeB,inB,Bool.and_eq_true,decide_eq_true_eq,Bool.not_eq_true',List.any_eq_false,Bool.not_eq_false] at h1
 refine ⟨h1.1.1,h1.1.2.1,h1.1.2.2,fun s hs => ?_⟩
 have h2 := h1.2 s hs
 simp only [isSpanB,Bool.and_eq_true,decide_eq_true_eq] at h2
 omega
theorem batchP_of {h : List Dye} {l : List Bath} (hh : isBatchB h l = true) : BatchP h l:= by
 simp only [isBatchB,inB,Bool.and_eq_true,decide_eq_true_eq,Bool.not_eq_true',List.any_eq_false,Bool.not_eq_false] at hh
 refine ⟨by omega,fun b hb => ?_⟩
 have h1 := hh.2 b hb
 simp only [isBathB,isSpanB,inB,Bool.and_eq_true,decide_eq_true_eq] at h1
 unfold BathP; omega
def lowsI (l : List Span) : List Int := l.map (·.low)
def highsI (l : List Span) : List Int := l.map (·.high)
def hoursI (l : List Bath) : List Span := l.map (·.hours)
def shallowI (d : Dye) (l : List Bath) (dye : Int) : Int := depthI d dye (lowsI d.takes) l (lowsI (hoursI l))
def deepI (d : Dye) (l : List Bath) (dye : Int) : Int := depthI d dye (highsI d.takes) l (highsI (hoursI l))
theorem small_lows {l : List Span} (h : ∀ s ∈ l,0 <= s.low /\ s.low <= s.high /\ s.high <= 20) : small (lowsI l):= by
 intro x hx; obtain ⟨s,hs,rfl⟩ := List.mem_map.1 hx; have := h s hs; omega
theorem small_highs {l : List Span} (h : ∀ s ∈ l,0 <= s.low /\ s.low <= s.high /\ s.high <= 20) : small (highsI l):= by
 intro x hx; obtain ⟨s,hs,rfl⟩ := List.mem_map.1 hx; have := h s hs; omega
theorem hoursI_ok {h : List Dye} {l : List Bath} (hl : BatchP h l) : ∀ s ∈ hoursI l,0 <= s.low /\ s.low <= s.high /\ s.high <= 20:= by
 intro x hx; obtain ⟨s,hs,rfl⟩ := List.mem_map.1 hx; have := hl.2 s hs; unfold BathP at this; omega
theorem f170 (h : List Dye) (lamp : List Int) (l : List Bath) (dye : Int) (d : Dye) (hd : h[dye.toNat]? = some d) (h0 : 0 <= dye) (hh : HouseP h) (hl : BatchP h l) : ACalls Tryz.prog 170 [eHL h lamp,eBaths l,vi dye] (fun r => r = .pv (vi (shallowI d l dye))):= by
 have hdm := hh.2.2 d (List.mem_of_getElem? hd)
 have e1 := get_map_i eDye hd
 refine ACalls.of_body hT Tryz.func170 rfl (by kernel_rfl) rfl ?_
 (repeat (refine stp ?_))
 (repeat (first | refine sdr ?_ | refine DG_next (D_call rfl rfl rfl rfl rfl ((f209 d.takes (by omega)).pure)) ?_ | refine DG_next (D_call rfl rfl rfl rfl rfl ((f210 l (by have := hl.1; omega)).pure)) ?_ | refine DG_next (D_call rfl rfl rfl rfl rfl ((f209 (hoursI l) (by simp only [hoursI,List.length_map]; have := hl.1; omega)).pure)) ?_ | refine DG_next (D_call rfl rfl rfl rfl rfl (f155 h dye (lowsI d.takes) l (lowsI (hoursI l)) d hd h0 (by simp [lowsI,hoursI]) (by have := hl.1; omega) (fun b hb _ => by have := hl.2 b hb; unfold BathP at this; simp only [lowsI,List.length_map]; omega) (small_lows (hoursI_ok hl)) (small_lows hdm.2.2.2))) ?_))
 refine DG_end hM (by kernel_rfl) ?_
 (repeat (refine stp ?_))
 exact ⟨_,_,rfl,rfl,rfl⟩
theorem f171 (h : List Dye) (lamp : List Int) (l : List Bath) (dye : Int) (d : Dye) (hd : h[dye.toNat]? = some d) (h0 : 0 <= dye) (hh : HouseP h) (hl : BatchP h l) : ACalls Tryz.prog 171 [eHL h lamp,eBaths l,vi dye] (fun r => r = .pv (vi (deepI d l dye))):= by
 have hdm := hh.2.2 d (List.mem_of_getElem? hd)
 have e1 := get_map_i eDye hd
 refine ACalls.of_body hT Tryz.func171 rfl (by kernel_rfl) rfl ?_
 (repeat (refine stp ?_))
 (repeat (first | refine sdr ?_ | refine DG_next (D_call rfl rfl rfl rfl rfl ((f211 d.takes (by omega)).pure)) ?_ | refine DG_next (D_call rfl rfl rfl rfl rfl ((f210 l (by have := hl.1; omega)).pure)) ?_ | refine DG_next (D_call rfl rfl rfl rfl rfl ((f211 (hoursI l) (by simp only [hoursI,List.length_map]; have := hl.1; omega)).pure)) ?_ | refine DG_next (D_call rfl rfl rfl rfl rfl (f155 h dye (highsI d.takes) l (highsI (hoursI l)) d hd h0 (by simp [highsI,hoursI]) (by have := hl.1; omega) (fun b hb _ => by have := hl.2 b hb; unfold BathP at this; simp only [highsI,List.length_map]; omega) (small_highs (hoursI_ok hl)) (small_highs hdm.2.2.2))) ?_))
 refine DG_end hM (by kernel_rfl) ?_
 (repeat (refine stp ?_))
 exact ⟨_,_,rfl,rfl,rfl⟩
def endsI (d : Dye) (l : List Bath) (dye : Int) : Span := ⟨shallowI d l dye,deepI d l dye⟩
theorem f107 (h : List Dye) (lamp : List Int) (l : List Bath) (dye : Int) (d : Dye) (hd : h[dye.toNat]? = some d) (h0 : 0 <= dye) (hh : HouseP h) (hl : BatchP h l) : ACalls Tryz.prog 107 [eHL h lamp,eBaths l,vi dye] (fun r => r = .pv (eS (endsI d l dye))):= by
 refine ACalls.of_body hT Tryz.func107 rfl (by kernel_rfl) rfl ?_
 (repeat (refine stp ?_))
 refine AW_loopC (fun k : Nat => k <= 2) (fun k => mkSt [(1,.pv (eBaths l)),(2,.pv (vi dye)),(6,.box 1 0),(7,.box 2 0),(14,.agg [.pv (.meth 170 [eHL h lamp]),.pv (.meth 171 [eHL h lamp])]),(15,.pv (vi k))]
  [(1,.box [.pv (vi 0),.pv (vi 0)]),(2,.box [.pv (vi (if 1 <= k then shallowI d l dye else 0)),.pv (vi (if 2 <= k then deepI d l dye else 0))])] 3) (fun k => 2 - k) 0 (by omega) ?_ ?_
 ·(refine Le.mk ?_ ?_; all_goals (repeat' (first | exact trivial | refine sle ?_ | refine ⟨?_,rfl,?_⟩ | refine ⟨?_,by decide,rfl,?_⟩ | fail)))
 ·intro k hk
  obtain rfl | rfl | rfl : k = 0 \/ k = 1 \/ k = 2 := by omega
  ·(repeat' (first | refine stp ?_ | (refine AL_do2 rfl ?_; first | refine ⟨_,op_callM rfl rfl rfl rfl (f170 h lamp l dye d hd h0 hh hl),?_⟩) | refine AL_gdec rfl rfl rfl (fun hg => ?_) (fun hg => ?_) | refine AL_gnot rfl rfl rfl (fun hg => ?_) (fun hg => ?_) | refine AL_gcases rfl rfl rfl (fun hg => ?_) (fun hg => ?_)))
   refine ⟨1,by omega,by omega,?_⟩
   (refine Le.mk ?_ ?_; all_goals (repeat' (first | exact trivial | refine sle ?_ | refine ⟨?_,rfl,?_⟩ | refine ⟨?_,by decide,rfl,?_⟩ | fail)))
  ·(repeat' (first | refine stp ?_ | (refine AL_do2 rfl ?_; first | refine ⟨_,op_callM rfl rfl rfl rfl (f171 h lamp l dye d hd h0 hh hl),?_⟩) | refine AL_gdec rfl rfl rfl (fun hg => ?_) (fun hg => ?_) | refine AL_gnot rfl rfl rfl (fun hg => ?_) (fun hg => ?_) | refine AL_gcases rfl rfl rfl (fun hg => ?_) (fun hg => ?_)))
   refine ⟨2,by omega,by omega,?_⟩
   (refine Le.mk ?_ ?_; all_goals (repeat' (first | exact trivial | refine sle ?_ | refine ⟨?_,rfl,?_⟩ | refine ⟨?_,by decide,rfl,?_⟩ | fail)))
  ·(repeat (refine stp ?_))
   exact ⟨_,_,rfl,rfl,rfl⟩
end Go.Abs
namespace Go.Abs
open Go.Proofs
set_option linter.unusedVariables false
set_option linter.unusedSimpArgs false
set_option maxRecDepth 100000
theorem HouseP.ok {h : List Dye} (hh : HouseP h) : houseOK h := ⟨by have := hh.1; omega,fun d hd => by have := hh.2.2 d hd; omega⟩
theorem endsI_bd {h : List Dye} {l : List Bath} {d : Dye} (dye : Int) (hh : HouseP h) (hl : BatchP h l) (hd : d ∈ h) : 0 <= (endsI d l dye).low /\ (endsI d l dye).low <= 100 /\ 0 <= (endsI d l dye).high /\ (endsI d l dye).high <= 100:= by
 have hdm := hh.2.2 d hd
 have key : ∀ takes hours,small takes -> small hours -> 0 <= depthI d dye takes l hours /\ depthI d dye takes l hours <= 100:= by
  intro takes hours h1 h2
  have : ∀ L : List Int,(∀ x ∈ L,0 <= x) -> 0 <= sumI L:= by
   intro L; induction L with
   | nil => intro _; simp [sumI]
   | cons x L ih => intro h; have := ih fun y hy => h y (by simp [hy]); have := h x (by simp); simp only [sumI]; omega
  have := this _ fun x hx => (prods_bd dye takes h1 l hours h2 x hx).1
  unfold depthI; omega
 have k1 := key _ _ (small_lows hdm.2.2.2) (small_lows (hoursI_ok hl))
 have k2 := key _ _ (small_highs hdm.2.2.2) (small_highs (hoursI_ok hl))
 exact ⟨k1.1,k1.2,k2.1,k2.2⟩
def endsL (l : List Bath) : List Dye -> Int -> List Span
 | [],_ => []
 | d :: h,i => endsI d l i :: endsL l h (i + 1)
theorem endsL_succ (l : List Bath) : ∀ (h : List Dye) (i : Int) (k : Nat) (d : Dye),h[k]? = some d -> endsL l (h.take (k + 1)) i = endsL l (h.take k) i ++ [endsI d l (i + k)]
 | [],_,_,_,h => by simp at h
 | d0 :: h,i,0,d,hk => by simp at hk; subst hk; simp [endsL]
 | d0 :: h,i,k + 1,d,hk => by
  have := endsL_succ l h (i + 1) k d (by simpa using hk)
  simp only [List.take_succ_cons,endsL,this,List.cons_append]
  rw [show i + 1 + (k : Int) = i + ((k + 1 : Nat) : Int) by omega]
theorem endsL_len (l : List Bath) : ∀ (h : List Dye) (i : Int),(endsL l h i).length = h.length
 | [],_ => rfl
 | d :: h,i => by simp [endsL,endsL_len l h]
def knownI (h : List Dye) (l : List Bath) : List Span × Int := if isHouseB h && isBatchB h l then (endsL l h 0,0) else ([],2)
theorem f29 (h : List Dye) (l : List Bath) (hh : houseOK h) (hl : l.length <= 1000) : ACalls Tryz.prog 29 [eHouse h,eBaths l] (fun r => r = .tup [eSpans (knownI h l).1,vi (knownI h l).2]):= by
 refine ACalls.of_body hT Tryz.func29 rfl (by kernel_rfl) rfl ?_
 (repeat' (first | refine stp ?_ | (refine AL_do2 rfl ?_; first | refine ⟨_,op_call1 rfl rfl rfl rfl (f105 h hh.1 hh.2),?_⟩ | refine ⟨_,op_callB rfl rfl rfl rfl (f105 h hh.1 hh.2) rfl,?_⟩ | refine ⟨_,op_call1 rfl rfl rfl rfl (f106 h l hh.1 hl),?_⟩ | refine ⟨_,op_callB rfl rfl rfl rfl (f106 h l hh.1 hl) rfl,?_⟩) | refine AL_gdec rfl rfl rfl (fun hg => ?_) (fun hg => ?_) | refine AL_gnot rfl rfl rfl (fun hg => ?_) (fun hg => ?_) | refine AL_gcases rfl rfl rfl (fun hg => ?_) (fun hg => ?_)))
 ·exact ⟨_,_,rfl,rfl,by simp_all [knownI]; rfl⟩
 ·refine AW_cond rfl (fun hc => ?_) (fun hc => ?_)
  ·(repeat (refine stp ?_))
   exact ⟨_,_,rfl,rfl,by simp_all [knownI]; rfl⟩
  have c1 : isHouseB h = true := by simpa using hg
  have c2 : isBatchB h l = true := by simpa using hc
  have hH := houseP_of c1
  have hB := batchP_of c2
  (repeat (refine stp ?_))
  refine AW_own_nil (e := 37) (sz := 2) (t := 6) rfl rfl ?_
  refine AW_loopC (fun k : Nat => k <= h.length) (fun k => mkSt [(1,.pv (eBaths l)),(2,.box 0 0),(6,.arr 1),(19,.pv (vi h.length)),(20,.pv (vi k))] [(0,.box [.pv (.sl (h.map eDye))]),(1,.arr 37 2 ((endsL l (h.take k) 0).map eSpan))] 2) (fun k => h.length - k) 0 (Nat.zero_le _) ?_ ?_
  ·(refine Le.mk ?_ ?_; all_goals (repeat' (first | exact trivial | refine sle ?_ | refine ⟨?_,rfl,?_⟩ | refine ⟨?_,by decide,rfl,?_⟩ | fail)))
  ·intro k hk
   (repeat (refine stp ?_))
   refine AW_if rfl (fun hc => ?_) (fun hc => ?_)
   ·have hk' : k < h.length := by omega
    obtain ⟨d,hd⟩ : ∃ d,h[k]? = some d := ⟨h[k],by simp [hk']⟩
    have hs := endsL_succ l h 0 k d hd
    have hel := endsL_len l (h.take k) 0
    have hh1 := hh.1
    have htl : (h.take k).length <= 1000 := by simp; omega
    rw [Int.zero_add] at hs
    (repeat' (first | refine stp ?_ | (refine AL_do2 rfl ?_; first | refine ⟨_,op_call1 rfl rfl rfl rfl (f107 h [] l k d (by simpa using hd) (by omega) hH hB),?_⟩) | refine AL_gdec rfl rfl rfl (fun hg => ?_) (fun hg => ?_) | refine AL_gnot rfl rfl rfl (fun hg => ?_) (fun hg => ?_) | refine AL_gcases rfl rfl rfl (fun hg => ?_) (fun hg => ?_)))
    refine ⟨k + 1,hk',by omega,?_⟩
    (refine Le.mkR [(1,3)] ?_ ?_ rfl; all_goals (repeat' (first | exact trivial | refine sle ?_ | refine ⟨?_,rfl,?_⟩ | refine ⟨?_,by decide,rfl,?_⟩ | fail)))
    rw [hs,List.map_append]; rfl
   ·have hk' : k = h.length := by omega
    subst hk'
    (repeat (refine stp ?_))
    exact ⟨_,_,rfl,rfl,by simp [knownI,c1,c2,eSpans]⟩
def spanPlus (a b : Span) : Span := ⟨a.low + b.low,a.high + b.high⟩
def spanTimes (s : Span) (n : Int) : Span := ⟨min (s.low * n) (s.high * n),max (s.low * n) (s.high * n)⟩
theorem f175 (a b : Span) (h : -1000000 <= a.low /\ a.low <= 1000000 /\ -1000000 <= a.high /\ a.high <= 1000000) (h' : -1000000 <= b.low /\ b.low <= 1000000 /\ -1000000 <= b.high /\ b.high <= 1000000) : ACalls Tryz.prog 175 [eS a,eS b] (fun r => r = .pv (eS (spanPlus a b))):= by
 refine ACalls.of_body hT Tryz.func175 rfl (by kernel_rfl) rfl ?_
 (repeat (refine stp ?_))
 exact ⟨_,_,rfl,rfl,rfl⟩
theorem mul_bd {x n a b : Int} (h1 : -a <= x /\ x <= a) (h2 : -b <= n /\ n <= b) : -(a * b) <= x * n /\ x * n <= a * b:= by
 have key : ∀ x n : Int,0 <= x -> x <= a -> 0 <= n -> n <= b -> 0 <= x * n /\ x * n <= a * b := fun x n p1 p2 p3 p4 => ⟨Int.mul_nonneg p1 p3,Int.mul_le_mul p2 p4 p3 (by omega)⟩
 rcases Int.le_total 0 x with hx | hx <;> rcases Int.le_total 0 n with hn | hn
 ·have := key x n hx h1.2 hn h2.2; omega
 ·have := key x (-n) hx h1.2 (by omega) (by omega); rw [Int.mul_neg] at this; omega
 ·have := key (-x) n (by omega) (by omega) hn h2.2; rw [Int.neg_mul] at this; omega
 ·have := key (-x) (-n) (by omega) (by omega) (by omega) (by omega); rw [Int.neg_mul_neg] at this; omega
theorem f176 (s : Span) (n : Int) (h : -10000 <= s.low /\ s.low <= 10000 /\ -10000 <= s.high /\ s.high <= 10000) (hn : -1000 <= n /\ n <= 1000) : ACalls Tryz.prog 176 [eS s,vi n] (fun r => r = .pv (eS (spanTimes s n))):= by
 have p1 := mul_bd (a := 10000) (b := 1000) (x := s.low) (n := n) (by omega) (by omega)
 have p2 := mul_bd (a := 10000) (b := 1000) (x := s.high) (n := n) (by omega) (by omega)
 have m1 : -9223372036854775808 <= s.low * n /\ s.low * n <= 9223372036854775807 := by omega
 have m2 : -9223372036854775808 <= s.high * n /\ s.high * n <= 9223372036854775807 := by omega
 refine ACalls.of_body hT Tryz.func176 rfl (by kernel_rfl) rfl ?_
 (repeat (refine stp ?_))
 (repeat (refine sdr ?_))
 refine DG_end hM (by kernel_rfl) ?_
 (repeat (refine stp ?_))
 exact ⟨_,_,rfl,rfl,rfl⟩
end Go.Abs
namespace Go.Abs
open Go.Proofs
set_option linter.unusedVariables false
set_option linter.unusedSimpArgs false
set_option maxRecDepth 100000
def termsL (l : List Bath) : List Dye -> List Int -> Int -> List Span
 | d :: h,w :: ws,i => spanTimes (endsI d l i) w :: termsL l h ws (i + 1)
 | _,_,_ => []
theorem termsL_succ (l : List Bath) : ∀ (h : List Dye) (ws : List Int) (i : Int) (k : Nat) (d : Dye) (w : Int),h[k]? = some d -> ws[k]? = some w -> termsL l h (ws.take (k + 1)) i = termsL l h (ws.take k) i ++ [spanTimes (endsI d l (i + k)) w]
 | [],_,_,_,_,_,h,_ => by simp at h
 | _ :: _,[],_,_,_,_,_,h => by simp at h
 | d0 :: h,w0 :: ws,i,0,d,w,hk,hw => by simp at hk hw; subst hk; subst hw; cases h <;> simp [termsL]
 | d0 :: h,w0 :: ws,i,k + 1,d,w,hk,hw => by
  have := termsL_succ l h ws (i + 1) k d w (by simpa using hk) (by simpa using hw)
  simp only [List.take_succ_cons,termsL,this,List.cons_append]
  rw [show i + 1 + (k : Int) = i + ((k + 1 : Nat) : Int) by omega]
def sumS (ts : List Span) : Span := ⟨sumI (ts.map (·.low)),sumI (ts.map (·.high))⟩
theorem sumS_snoc (ts : List Span) (t : Span) : sumS (ts ++ [t]) = spanPlus (sumS ts) t:= by
 simp [sumS,spanPlus,sumI_append,sumI]
def lookI (h : List Dye) (lamp : List Int) (l : List Bath) : Span := sumS (termsL l h lamp 0)
def LampP (h : List Dye) (lamp : List Int) : Prop := lamp.length = h.length /\ ∀ x ∈ lamp,-9 <= x /\ x <= 9
theorem lampP_of {h : List Dye} {lamp : List Int} (hh : isLampB h lamp = true) : LampP h lamp:= by
 simp only [isLampB,inB,Bool.and_eq_true,decide_eq_true_eq,Bool.not_eq_true',List.any_eq_false,Bool.not_eq_false] at hh
 exact ⟨hh.1,fun x hx => hh.2 x hx⟩
def spanB (c : Int) (s : Span) : Prop := -c <= s.low /\ s.low <= c /\ -c <= s.high /\ s.high <= c
theorem spanTimes_bd {s : Span} {n a b : Int} (h : spanB a s) (hn : -b <= n /\ n <= b) : spanB (a * b) (spanTimes s n):= by
 have p1 := mul_bd (a := a) (b := b) (x := s.low) (n := n) ⟨h.1,h.2.1⟩ hn
 have p2 := mul_bd (a := a) (b := b) (x := s.high) (n := n) ⟨h.2.2.1,h.2.2.2⟩ hn
 unfold spanB spanTimes; simp only; omega
theorem termsL_bd {H : List Dye} {l : List Bath} (hh : HouseP H) (hl : BatchP H l) : ∀ (h : List Dye) (ws : List Int) (i : Int),(∀ d ∈ h,d ∈ H) -> (∀ x ∈ ws,-9 <= x /\ x <= 9) -> ∀ t ∈ termsL l h ws i,spanB 900 t
 | [],_,_,_,_ => by simp [termsL]
 | _ :: _,[],_,_,_ => by simp [termsL]
 | d :: h,w :: ws,i,hd,hw => by
  intro t ht
  simp only [termsL,List.mem_cons] at ht
  rcases ht with rfl | ht
  ·have := endsI_bd i hh hl (hd d (by simp))
   exact spanTimes_bd (a := 100) (b := 9) (by unfold spanB; omega) (hw w (by simp))
  ·exact termsL_bd hh hl h ws (i + 1) (fun d hd' => hd d (by simp [hd'])) (fun x hx => hw x (by simp [hx])) t ht
theorem termsL_len (l : List Bath) : ∀ (h : List Dye) (ws : List Int) (i : Int),(termsL l h ws i).length <= ws.length
 | [],_,_ => by simp [termsL]
 | _ :: _,[],_ => by simp [termsL]
 | d :: h,w :: ws,i => by simp only [termsL,List.length_cons]; have := termsL_len l h ws (i + 1); omega
theorem sumS_bd {ts : List Span} {n : Nat} (hn : ts.length <= n) (h : ∀ t ∈ ts,spanB 900 t) : spanB (900 * n) (sumS ts):= by
 have p1 := sumI_bd (c := 900) (l := ts.map (·.low)) (by intro x hx; obtain ⟨s,hs,rfl⟩ := List.mem_map.1 hx; have := h s hs; unfold spanB at this; omega)
 have p2 := sumI_bd (c := 900) (l := ts.map (·.high)) (by intro x hx; obtain ⟨s,hs,rfl⟩ := List.mem_map.1 hx; have := h s hs; unfold spanB at this; omega)
 simp only [List.length_map] at p1 p2
 have : (ts.length : Int) <= n := by omega
 unfold spanB sumS; simp only; omega
theorem f123 (h : List Dye) (lamp : List Int) (l : List Bath) (hh : HouseP h) (hlamp : LampP h lamp) (hl : BatchP h l) : ACalls Tryz.prog 123 [eHL h lamp,eBaths l] (fun r => r = .pv (eS (lookI h lamp l))):= by
 have hh3 := hh.1
 have hll := hlamp.1
 refine ACalls.of_body hT Tryz.func123 rfl (by kernel_rfl) rfl ?_
 (repeat (refine stp ?_))
 refine AW_loopC (fun k : Nat => k <= lamp.length) (fun k => mkSt [(1,.pv (eBaths l)),(2,.box 0 0),(4,.box 1 0),(5,.box 2 0),(10,.pv (eInts lamp)),(11,.pv (vi lamp.length)),(12,.pv (vi k))]
  [(0,.box [.pv (.sl (h.map eDye)),.pv (eInts lamp)]),(1,.box [.pv (vi 0),.pv (vi 0)]),(2,.box [.pv (vi (sumS (termsL l h (lamp.take k) 0)).low),.pv (vi (sumS (termsL l h (lamp.take k) 0)).high)])] 3) (fun k => lamp.length - k) 0 (Nat.zero_le _) ?_ ?_
 ·(refine Le.mk ?_ ?_; all_goals (repeat' (first | exact trivial | refine sle ?_ | refine ⟨?_,rfl,?_⟩ | refine ⟨?_,by decide,rfl,?_⟩ | fail)))
  ·simp only [List.take_zero]; cases h <;> rfl
 ·intro k hk
  (repeat (refine stp ?_))
  refine AW_if rfl (fun hc => ?_) (fun hc => ?_)
  ·have hk' : k < lamp.length := by omega
   obtain ⟨w,hw⟩ : ∃ w,lamp[k]? = some w := ⟨lamp[k],by simp [hk']⟩
   obtain ⟨d,hd⟩ : ∃ d,h[k]? = some d := ⟨h[k]'(by omega),by simp⟩
   have e1 := get_map eInt hw
   have hs := termsL_succ l h lamp 0 k d w hd hw
   have hb := sumS_bd (n := 3) (Nat.le_trans (termsL_len l h (lamp.take k) 0) (by simp; omega)) (termsL_bd hh hl h (lamp.take k) 0 (fun _ h => h) fun x hx => hlamp.2 x (List.mem_of_mem_take hx))
   have he := endsI_bd k hh hl (List.mem_of_getElem? hd)
   have hwb := hlamp.2 w (List.mem_of_getElem? hw)
   have ht := spanTimes_bd (s := endsI d l k) (n := w) (a := 100) (b := 9) (by unfold spanB; omega) hwb
   rw [Int.zero_add] at hs
   unfold spanB at hb ht
   (repeat (refine stp ?_))
   (repeat (first | refine sdr ?_ | refine DG_next (D_call rfl rfl rfl rfl rfl (f107 h lamp l k d (by simpa using hd) (by omega) hh hl)) ?_ | refine DG_next (D_call rfl rfl rfl rfl rfl (f176 (endsI d l k) w (by omega) (by omega))) ?_ | refine DG_next (D_call rfl rfl rfl rfl rfl (f175 (sumS (termsL l h (lamp.take k) 0)) (spanTimes (endsI d l k) w) (by omega) (by omega))) ?_))
   refine DG_end hM (by kernel_rfl) ?_
   (repeat (refine stp ?_))
   refine ⟨k + 1,hk',by omega,?_⟩
   (refine Le.mk ?_ ?_; all_goals (repeat' (first | exact trivial | refine sle ?_ | refine ⟨?_,rfl,?_⟩ | refine ⟨?_,by decide,rfl,?_⟩ | fail)))
   rw [hs,sumS_snoc]; rfl
  ·have hk' : k = lamp.length := by omega
   subst hk'
   (repeat (refine stp ?_))
   exact ⟨_,_,rfl,rfl,by simp [lookI,eS,eSpan]⟩
end Go.Abs
