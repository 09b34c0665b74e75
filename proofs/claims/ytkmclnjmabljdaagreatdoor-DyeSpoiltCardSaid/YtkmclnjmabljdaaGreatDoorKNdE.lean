/- Ripe. -/
import Derived.Test.YtkmclnjmabljdaaGreatDoorKNdC
import Derived.Test.YtkmclnjmabljdaaGreatDoorKNcF
set_option linter.unusedVariables false
set_option linter.unusedSimpArgs false
namespace Go.Abs
open Go.Proofs
set_option linter.unusedVariables false
set_option linter.unusedSimpArgs false
set_option maxRecDepth 100000
theorem f124 (l : List Bath) (hl : l.length <= 1000) : ACalls Tryz.prog 124 [eBaths l] (fun r => r = .own 154 4 (l.map eBath)):= by
 refine ACalls.of_body hT Tryz.func124 rfl (by kernel_rfl) rfl ?_
 (repeat (refine stp ?_))
 refine AL_doS rfl (op_eql_slnil hT rfl rfl rfl rfl rfl (fun el h => by obtain ⟨b,_,rfl⟩ := List.mem_map.1 h; exact Nat.succ_pos _)) ?_
 rintro s' ⟨b,hb,rfl⟩
 refine AL_nil_then ?_
 refine AW_cond rfl (fun hc => ?_) (fun hc => ?_)
 ·have hl0 : l = [] := by have := hb hc; simpa using this
  subst hl0
  refine AW_seq ?_
  refine AW_region ?_
  refine AL_step hT rfl ?_
  refine AL_own_nil (e := 154) (sz := 4) (t := 2) rfl rfl ?_
  (repeat (refine stp ?_))
  exact ⟨_,_,rfl,rfl,rfl⟩
 ·(repeat (refine stp ?_))
  exact ⟨_,_,rfl,rfl,rfl⟩
theorem f218 (l : List Int) (hl : l.length <= 1000) : ACalls Tryz.prog 218 [eInts l] (fun r => r = .own 3 1 (l.map eInt)):= by
 refine ACalls.of_body hT Tryz.func218 rfl (by kernel_rfl) rfl ?_
 (repeat (refine stp ?_))
 refine AL_doS rfl (op_eql_slnil hT rfl rfl rfl rfl rfl (fun el h => by obtain ⟨b,_,rfl⟩ := List.mem_map.1 h; exact Nat.succ_pos _)) ?_
 rintro s' ⟨b,hb,rfl⟩
 refine AL_nil_then ?_
 refine AW_cond rfl (fun hc => ?_) (fun hc => ?_)
 ·have hl0 : l = [] := by have := hb hc; simpa using this
  subst hl0
  refine AW_seq ?_
  refine AW_region ?_
  refine AL_step hT rfl ?_
  refine AL_own_nil (e := 3) (sz := 1) (t := 2) rfl rfl ?_
  (repeat (refine stp ?_))
  exact ⟨_,_,rfl,rfl,rfl⟩
 ·(repeat (refine stp ?_))
  exact ⟨_,_,rfl,rfl,rfl⟩
def ripeOk (h : List Dye) (lamp : List Int) (l : List Bath) (dye temper : Int) (wish : Span) (n : Int) : Bool :=
 decide ((lookI h lamp (l ++ [⟨dye,temper,⟨n,n⟩⟩])).low >= wish.low) && decide ((lookI h lamp (l ++ [⟨dye,temper,⟨n,n⟩⟩])).high <= wish.high)
def ripeGo (ok : Int -> Bool) : Nat -> Int -> Option Span -> Option Span
 | 0,_,acc => acc
 | f + 1,n,none => ripeGo ok f (n + 1) (if ok n then some ⟨n,n⟩ else none)
 | f + 1,n,some s => if ok n then ripeGo ok f (n + 1) (some ⟨s.low,n⟩) else some s
def ripeI (h : List Dye) (lamp : List Int) (l : List Bath) (dye temper : Int) (wish : Span) : Span × Int :=
 if isHouseB h && isLampB h lamp && isBatchB h l && decide (l.length ≠ 3) && inB dye 0 (h.length - 1) && inB temper 0 2 && isWishB wish then
  match ripeGo (ripeOk h lamp l dye temper wish) 13 0 none with
  | some s => (s,0)
  | none => (⟨0,0⟩,5)
 else (⟨0,0⟩,2)
set_option maxHeartbeats 4000000 in
theorem f40 (h : List Dye) (lamp : List Int) (l : List Bath) (dye temper : Int) (wish : Span) (hh : houseOK h) (hlm : lamp.length <= 1000) (hl : l.length <= 1000) :
  ACalls Tryz.prog 40 [eHouse h,eLamp lamp,eBaths l,vi dye,vi temper,eS wish] (fun r => r = .tup [eS (ripeI h lamp l dye temper wish).1,vi (ripeI h lamp l dye temper wish).2]):= by
 have hh1 := hh.1
 refine ACalls.of_body hT Tryz.func40 rfl (by kernel_rfl) rfl ?_
 (repeat' (first | refine stp ?_ | (refine AL_do2 rfl ?_; first | refine ⟨_,op_call1 rfl rfl rfl rfl (f105 h hh.1 hh.2),?_⟩ | refine ⟨_,op_call1 rfl rfl rfl rfl (f116 h lamp hh.1 hlm),?_⟩ | refine ⟨_,op_call1 rfl rfl rfl rfl (f106 h l hh.1 hl),?_⟩ | refine ⟨_,op_call1 rfl rfl rfl rfl (f113 dye 0 (h.length - 1)),?_⟩ | refine ⟨_,op_call1 rfl rfl rfl rfl (f113 temper 0 2),?_⟩ | refine ⟨_,op_call1 rfl rfl rfl rfl (f122 wish),?_⟩) | refine AL_gdec rfl rfl rfl (fun hg => ?_) (fun hg => ?_) | refine AL_gnot rfl rfl rfl (fun hg => ?_) (fun hg => ?_) | refine AL_gcases rfl rfl rfl (fun hg => ?_) (fun hg => ?_)))
 iterate 6 (first | exact ⟨_,_,rfl,rfl,by simp_all [ripeI]; first | rfl | omega⟩ | rotate_left)
 rotate_left
 ·exact ⟨_,_,rfl,rfl,by
               have hl3 : l.length = 3 := by omega
               simp [ripeI,hl3]; rfl⟩
 refine AW_cond rfl (fun hc => ?_) (fun hc => ?_)
 ·(repeat (refine stp ?_))
  exact ⟨_,_,rfl,rfl,by simp_all [ripeI]; first | rfl | omega⟩
 have c1 : isHouseB h = true := by simp_all
 have c2 : isLampB h lamp = true := by simp_all
 have c3 : isBatchB h l = true := by simp_all
 have c4 : l.length ≠ 3 := by intro h3; simp_all
 have c5 : inB dye 0 (h.length - 1) = true := by simp_all
 have c6 : inB temper 0 2 = true := by simp_all
 have c7 : isWishB wish = true := by simp_all
 have hH := houseP_of c1
 have hL := lampP_of c2
 have hB := batchP_of c3
 have hb3 : l.length <= 3:= by
  simp only [isBatchB,Bool.and_eq_true,decide_eq_true_eq] at c3; exact c3.1
 have hspec : ripeI h lamp l dye temper wish = match ripeGo (ripeOk h lamp l dye temper wish) 13 0 none with
  | some s => (s,0)
  | none => (⟨0,0⟩,5):= by
  unfold ripeI; rw [if_pos (by simp [c1,c2,c3,c4,c5,c6,c7])]
 rw [hspec]
 have hB' : ∀ n : Int,0 <= n -> n <= 12 -> BatchP h (l ++ [⟨dye,temper,⟨n,n⟩⟩]):= by
  intro n h0 h1
  simp only [inB,Bool.and_eq_true,decide_eq_true_eq] at c5 c6
  refine ⟨by simp; omega,fun b hb => ?_⟩
  rcases List.mem_append.1 hb with hb | hb
  ·exact hB.2 b hb
  ·simp only [List.mem_singleton] at hb; subst hb; unfold BathP; simp only; omega
 (repeat (refine stp ?_))
 refine AW_loopC (fun k : Nat × Option Span => k.1 <= 13 /\ ripeGo (ripeOk h lamp l dye temper wish) 13 0 none = ripeGo (ripeOk h lamp l dye temper wish) (13 - k.1) k.1 k.2)
  (fun k => mkSt [(2,.pv (eBaths l)),(3,.pv (vi dye)),(4,.pv (vi temper)),(6,.box 0 0),(7,.box 1 0),(11,.box 2 0),(12,.box 3 0),(14,.box 4 0),(15,.pv (.bool k.2.isSome)),(59,.pv (vi k.1))]
   [(0,.box [.pv (.sl (h.map eDye))]),(1,.box [.pv (eInts lamp)]),(2,.box [.pv (vi wish.low),.pv (vi wish.high)]),(3,.box [.pv (vi 0),.pv (vi 0)]),(4,.box [.pv (vi (k.2.getD ⟨0,0⟩).low),.pv (vi (k.2.getD ⟨0,0⟩).high)])] 5)
  (fun k => 13 - k.1) (0,none) ⟨by simp,rfl⟩ ?_ ?_
 ·(refine Le.mk ?_ ?_; all_goals (repeat' (first | exact trivial | refine sle ?_ | refine ⟨?_,rfl,?_⟩ | refine ⟨?_,by decide,rfl,?_⟩ | fail)))
 ·rintro ⟨k,acc⟩ ⟨hk,hgo⟩
  simp only at hk hgo
  have e123 : k < 13 -> ACalls Tryz.prog 123 [eHL h lamp,.sl (l.map eBath ++ [[vi dye,vi temper,vi k,vi k]])] (fun r => r = .pv (eS (lookI h lamp (l ++ [⟨dye,temper,⟨k,k⟩⟩])))) := fun hk' => by
   have := f123 h lamp (l ++ [⟨dye,temper,⟨k,k⟩⟩]) hH hL (hB' k (by omega) (by omega))
   rw [eBaths,List.map_append] at this; exact this
  have hgo1 : k < 13 -> ∀ ok,ripeGo ok (13 - k) k none = ripeGo ok (13 - (k + 1)) ((k + 1 : Nat) : Int) (if ok k then some ⟨k,k⟩ else none) := fun hk' ok => by
   rw [show 13 - k = (13 - (k + 1)) + 1 by omega]; simp [ripeGo]
  have hgo2 : k < 13 -> ∀ ok s,ripeGo ok (13 - k) k (some s) = if ok k then ripeGo ok (13 - (k + 1)) ((k + 1 : Nat) : Int) (some ⟨s.low,k⟩) else some s := fun hk' ok s => by
   rw [show 13 - k = (13 - (k + 1)) + 1 by omega]; simp [ripeGo]
  rcases acc with _ | acc
  ·(repeat (refine stp ?_))
   refine AW_if rfl (fun hc => ?_) (fun hc => ?_)
   ·have hk' : k < 13 := by simp only at hc; omega
    have e123 := e123 hk'
    rw [hgo1 hk'] at hgo
    refine AW_res ?_
    (repeat (refine stp ?_))
    (repeat (first | refine DG_next (D_alloc (F := 5) hT rfl rfl rfl rfl rfl) ?_ | refine DG_next (D_append_p hT rfl rfl rfl rfl rfl rfl rfl rfl rfl rfl rfl rfl rfl (by intro y hy; (first | (simp only [List.mem_cons,List.not_mem_nil,or_false] at hy; subst hy; rfl) | (simp only [List.mem_cons,List.not_mem_nil,or_false] at hy; rcases hy with hy | hy <;> subst hy <;> rfl) | (obtain ⟨_,_,rfl⟩ := List.mem_map.1 hy; rfl) | (cases hy))) (by simp only [List.length_map,List.length_take,List.length_cons,List.length_nil,List.length_append]; omega) rfl) ?_ | refine sdr ?_ | refine DG_next (D_call_own rfl rfl rfl rfl rfl (f124 l hl)) ?_ | refine DG_next (D_call rfl rfl rfl rfl rfl (e123)) ?_))
    refine DG_end hM (by kernel_rfl) ?_
    have hokd : ripeOk h lamp l dye temper wish k = (decide ((lookI h lamp (l ++ [⟨dye,temper,⟨k,k⟩⟩])).low >= wish.low) && decide ((lookI h lamp (l ++ [⟨dye,temper,⟨k,k⟩⟩])).high <= wish.high)) := rfl
    generalize lookI h lamp (l ++ [⟨dye,temper,⟨k,k⟩⟩]) = sp at *
    by_cases hok : sp.low >= wish.low /\ sp.high <= wish.high
    ·rw [show ripeOk h lamp l dye temper wish k = true by rw [hokd]; simp [hok.1,hok.2]] at hgo
     (repeat' (first | refine stp ?_ | refine AL_gdec rfl rfl rfl (fun hg => ?_) (fun hg => ?_) | refine AL_gnot rfl rfl rfl (fun hg => ?_) (fun hg => ?_) | refine AL_gcases rfl rfl rfl (fun hg => ?_) (fun hg => ?_)))
     all_goals (try (exfalso; omega))
     all_goals (try refine AW_cond rfl (fun hb => ?_) (fun hb => ?_))
     all_goals (try (exfalso; simp at hb; omega))
     all_goals (repeat (refine stp ?_))
     all_goals (refine ⟨(k + 1,some ⟨k,k⟩),⟨by simp only; omega,hgo⟩,by simp only; omega,?_⟩; (refine Le.mk ?_ ?_; all_goals (repeat' (first | exact trivial | refine sle ?_ | refine ⟨?_,rfl,?_⟩ | refine ⟨?_,by decide,rfl,?_⟩ | fail))))
    ·rw [show ripeOk h lamp l dye temper wish k = false by rw [hokd]; simp; omega] at hgo
     (repeat' (first | refine stp ?_ | refine AL_gdec rfl rfl rfl (fun hg => ?_) (fun hg => ?_) | refine AL_gnot rfl rfl rfl (fun hg => ?_) (fun hg => ?_) | refine AL_gcases rfl rfl rfl (fun hg => ?_) (fun hg => ?_)))
     all_goals (try (exfalso; omega))
     all_goals (try refine AW_cond rfl (fun hb => ?_) (fun hb => ?_))
     all_goals (try (exfalso; simp at hb; omega))
     all_goals (repeat (refine stp ?_))
     all_goals (refine ⟨(k + 1,none),⟨by simp only; omega,hgo⟩,by simp only; omega,?_⟩; (refine Le.mk ?_ ?_; all_goals (repeat' (first | exact trivial | refine sle ?_ | refine ⟨?_,rfl,?_⟩ | refine ⟨?_,by decide,rfl,?_⟩ | fail))))
   ·have hk' : k = 13 := by simp only at hc; omega
    subst hk'
    (repeat (refine stp ?_))
    exact ⟨_,_,rfl,rfl,by rw [hgo]; simp [ripeGo]; rfl⟩
  ·(repeat (refine stp ?_))
   refine AW_if rfl (fun hc => ?_) (fun hc => ?_)
   ·have hk' : k < 13 := by simp only at hc; omega
    have e123 := e123 hk'
    rw [hgo2 hk'] at hgo
    refine AW_res ?_
    (repeat (refine stp ?_))
    (repeat (first | refine DG_next (D_alloc (F := 5) hT rfl rfl rfl rfl rfl) ?_ | refine DG_next (D_append_p hT rfl rfl rfl rfl rfl rfl rfl rfl rfl rfl rfl rfl rfl (by intro y hy; (first | (simp only [List.mem_cons,List.not_mem_nil,or_false] at hy; subst hy; rfl) | (simp only [List.mem_cons,List.not_mem_nil,or_false] at hy; rcases hy with hy | hy <;> subst hy <;> rfl) | (obtain ⟨_,_,rfl⟩ := List.mem_map.1 hy; rfl) | (cases hy))) (by simp only [List.length_map,List.length_take,List.length_cons,List.length_nil,List.length_append]; omega) rfl) ?_ | refine sdr ?_ | refine DG_next (D_call_own rfl rfl rfl rfl rfl (f124 l hl)) ?_ | refine DG_next (D_call rfl rfl rfl rfl rfl (e123)) ?_))
    refine DG_end hM (by kernel_rfl) ?_
    have hokd : ripeOk h lamp l dye temper wish k = (decide ((lookI h lamp (l ++ [⟨dye,temper,⟨k,k⟩⟩])).low >= wish.low) && decide ((lookI h lamp (l ++ [⟨dye,temper,⟨k,k⟩⟩])).high <= wish.high)) := rfl
    generalize lookI h lamp (l ++ [⟨dye,temper,⟨k,k⟩⟩]) = sp at *
    by_cases hok : sp.low >= wish.low /\ sp.high <= wish.high
    ·rw [show ripeOk h lamp l dye temper wish k = true by rw [hokd]; simp [hok.1,hok.2]] at hgo
     (repeat' (first | refine stp ?_ | refine AL_gdec rfl rfl rfl (fun hg => ?_) (fun hg => ?_) | refine AL_gnot rfl rfl rfl (fun hg => ?_) (fun hg => ?_) | refine AL_gcases rfl rfl rfl (fun hg => ?_) (fun hg => ?_)))
     all_goals (try (exfalso; omega))
     all_goals (try refine AW_cond rfl (fun hb => ?_) (fun hb => ?_))
     all_goals (try (exfalso; simp at hb; omega))
     all_goals (repeat (refine stp ?_))
     all_goals (refine ⟨(k + 1,some ⟨acc.low,k⟩),⟨by simp only; omega,hgo⟩,by simp only; omega,?_⟩; (refine Le.mk ?_ ?_; all_goals (repeat' (first | exact trivial | refine sle ?_ | refine ⟨?_,rfl,?_⟩ | refine ⟨?_,by decide,rfl,?_⟩ | fail))))
    ·rw [show ripeOk h lamp l dye temper wish k = false by rw [hokd]; simp; omega] at hgo
     (repeat' (first | refine stp ?_ | refine AL_gdec rfl rfl rfl (fun hg => ?_) (fun hg => ?_) | refine AL_gnot rfl rfl rfl (fun hg => ?_) (fun hg => ?_) | refine AL_gcases rfl rfl rfl (fun hg => ?_) (fun hg => ?_)))
     all_goals (try (exfalso; omega))
     all_goals (try refine AW_cond rfl (fun hb => ?_) (fun hb => ?_))
     all_goals (try (exfalso; simp at hb; omega))
     all_goals (repeat (refine stp ?_))
     all_goals exact ⟨_,_,rfl,rfl,by rw [hgo]; rfl⟩
   ·have hk' : k = 13 := by simp only at hc; omega
    subst hk'
    (repeat (refine stp ?_))
    exact ⟨_,_,rfl,rfl,by rw [hgo]; simp [ripeGo]; rfl⟩
end Go.Abs
namespace Go.Abs
open Go.Proofs
set_option linter.unusedVariables false
set_option linter.unusedSimpArgs false
set_option maxRecDepth 100000
def allIn : List Int -> List Span -> Bool
 | x :: l,s :: m => inB x s.low s.high && allIn l m
 | _,_ => true
def withinB (l : List Int) (m : List Span) : Bool := decide (l.length = m.length) && allIn l m
theorem allIn_drop {l : List Int} {m : List Span} {k : Nat} {x : Int} {s : Span} (h : l[k]? = some x) (h' : m[k]? = some s) : allIn (l.drop k) (m.drop k) = (inB x s.low s.high && allIn (l.drop (k + 1)) (m.drop (k + 1))):= by
 have hk : k < l.length := (List.getElem?_eq_some_iff.1 h).1
 have hx : l[k] = x := (List.getElem?_eq_some_iff.1 h).2
 have hk' : k < m.length := (List.getElem?_eq_some_iff.1 h').1
 have hx' : m[k] = s := (List.getElem?_eq_some_iff.1 h').2
 rw [List.drop_eq_getElem_cons hk,List.drop_eq_getElem_cons hk',hx,hx']; rfl
theorem f139 (l : List Int) (m : List Span) (hl : l.length <= 1000) (hm : m.length <= 1000) : ACalls Tryz.prog 139 [eInts l,eSpans m,.fn 140 []] (fun r => r = .pv (.bool (withinB l m))):= by
 refine ACalls.of_body hT Tryz.func139 rfl (by kernel_rfl) rfl ?_
 (repeat (refine stp ?_))
 refine AW_if rfl (fun hc => ?_) (fun hc => ?_)
 ·(repeat (refine stp ?_))
  exact ⟨_,_,rfl,rfl,by simp [withinB]; omega⟩
 ·have hlm : l.length = m.length := by omega
  (repeat (refine stp ?_))
  refine AW_loopC (fun k : Nat => k <= l.length /\ allIn l m = allIn (l.drop k) (m.drop k)) (fun k => mkSt [(1,.pv (eSpans m)),(2,.pv (.fn 140 [])),(15,.pv (eInts l)),(16,.pv (vi l.length)),(17,.pv (vi k))] [] 0) (fun k => l.length - k) 0 ⟨Nat.zero_le _,rfl⟩ ?_ ?_
  ·(refine Le.mk ?_ ?_; all_goals (repeat' (first | exact trivial | refine sle ?_ | refine ⟨?_,rfl,?_⟩ | refine ⟨?_,by decide,rfl,?_⟩ | fail)))
  ·rintro k ⟨hk,hi⟩
   (repeat (refine stp ?_))
   refine AW_if rfl (fun hc => ?_) (fun hc => ?_)
   ·have hk' : k < l.length := by omega
    obtain ⟨x,hx⟩ : ∃ x,l[k]? = some x := ⟨l[k],by simp [hk']⟩
    obtain ⟨s,hs⟩ : ∃ s,m[k]? = some s := ⟨m[k]'(by omega),by simp⟩
    have e1 := get_map eInt hx
    have e2 := get_map eSpan hs
    rw [allIn_drop hx hs] at hi
    (repeat' (first | refine stp ?_ | (refine AL_do2 rfl ?_; first | refine ⟨_,op_call1 rfl rfl rfl rfl (f140 x s),?_⟩) | refine AL_gdec rfl rfl rfl (fun hg => ?_) (fun hg => ?_) | refine AL_gnot rfl rfl rfl (fun hg => ?_) (fun hg => ?_) | refine AL_gcases rfl rfl rfl (fun hg => ?_) (fun hg => ?_)))
    refine AW_cond rfl (fun hc2 => ?_) (fun hc2 => ?_)
    ·(repeat (refine stp ?_))
     have hc3 : inB x s.low s.high = false := by simpa using hc2
     exact ⟨_,_,rfl,rfl,by rw [withinB,hi,hc3]; simp⟩
    ·(repeat (refine stp ?_))
     have hc3 : inB x s.low s.high = true := by simpa using hc2
     refine ⟨k + 1,⟨hk',by rw [hi,hc3]; simp⟩,by omega,?_⟩
     (refine Le.mk ?_ ?_; all_goals (repeat' (first | exact trivial | refine sle ?_ | refine ⟨?_,rfl,?_⟩ | refine ⟨?_,by decide,rfl,?_⟩ | fail)))
   ·have hk' : k = l.length := by omega
    subst hk'
    (repeat (refine stp ?_))
    exact ⟨_,_,rfl,rfl,by rw [withinB,hi]; simp [hlm,allIn]⟩
def near (tire eye n x : Int) (f : Int) : Bool := decide (max (x - f) (f - x) <= eye + n * tire)
def layGo (tire eye : Int) : List Int -> Int -> List Int -> List Int -> List Int
 | [],_,out,_ => out
 | x :: l,n,out,firsts => if idxFrom (near tire eye n x) firsts 0 < 0 then layGo tire eye l (n + 1) (out ++ [(firsts.length : Int)]) (firsts ++ [x]) else layGo tire eye l (n + 1) (out ++ [idxFrom (near tire eye n x) firsts 0]) firsts
def layI (tire : Int) (looks : List Int) (eye : Int) : List Int := layGo tire eye looks 0 [] []
theorem layGo_drop (tire eye : Int) {l : List Int} {k : Nat} {x : Int} (h : l[k]? = some x) (n : Int) (out firsts : List Int) : layGo tire eye (l.drop k) n out firsts =
  if idxFrom (near tire eye n x) firsts 0 < 0 then layGo tire eye (l.drop (k + 1)) (n + 1) (out ++ [(firsts.length : Int)]) (firsts ++ [x]) else layGo tire eye (l.drop (k + 1)) (n + 1) (out ++ [idxFrom (near tire eye n x) firsts 0]) firsts:= by
 have hk : k < l.length := (List.getElem?_eq_some_iff.1 h).1
 have hx : l[k] = x := (List.getElem?_eq_some_iff.1 h).2
 rw [List.drop_eq_getElem_cons hk,hx]; rfl
theorem f188 (f x eye n tire : Int) (h1 : -100000 <= f /\ f <= 100000) (h2 : -100000 <= x /\ x <= 100000) (h3 : -100000 <= eye /\ eye <= 100000) (h4 : -1000 <= n /\ n <= 1000) (h5 : -1000 <= tire /\ tire <= 1000) :
  ACalls Tryz.prog 188 [vi f,.ptr [vi x],.ptr [vi eye],.ptr [vi n],.ptr [vi tire]] (fun r => r = .pv (.bool (near tire eye n x f))):= by
 have p := mul_bd (a := 1000) (b := 1000) (x := n) (n := tire) (by omega) (by omega)
 have m1 : -9223372036854775808 <= n * tire /\ n * tire <= 9223372036854775807 := by omega
 refine ACalls.of_body hT Tryz.func188 rfl (by kernel_rfl) rfl ?_
 (repeat (refine stp ?_))
 exact ⟨_,_,rfl,rfl,rfl⟩
def bdL (c : Int) (l : List Int) : Prop := ∀ x ∈ l,-c <= x /\ x <= c
theorem f141 (tire : Int) (looks : List Int) (eye : Int) (hl : looks.length <= 1000) (hb : bdL 100000 looks) (h3 : -100000 <= eye /\ eye <= 100000) (h5 : -1000 <= tire /\ tire <= 1000) :
  ACalls Tryz.prog 141 [vi tire,eInts looks,vi eye] (fun r => r = .own 3 1 ((layI tire looks eye).map eInt)):= by
 refine ACalls.of_body hT Tryz.func141 rfl (by kernel_rfl) rfl ?_
 (repeat (refine stp ?_))
 refine AW_own_nil (e := 3) (sz := 1) (t := 7) rfl rfl ?_
 refine AW_own_nil (e := 3) (sz := 1) (t := 8) rfl rfl ?_
 (repeat (refine stp ?_))
 refine AW_loopC (fun i : Nat × List Int × List Int => i.1 <= looks.length /\ i.2.1.length = i.1 /\ i.2.2.length <= i.1 /\ bdL 100000 i.2.2 /\ layI tire looks eye = layGo tire eye (looks.drop i.1) i.1 i.2.1 i.2.2)
  (fun i => mkSt [(3,.box 0 0),(5,.box 1 0),(7,.arr 2),(8,.arr 3),(12,.pv (eInts looks)),(13,.pv (vi looks.length)),(14,.pv (vi i.1))]
   [(0,.box [.pv (vi tire)]),(1,.box [.pv (vi eye)]),(2,.arr 3 1 (i.2.1.map eInt)),(3,.arr 3 1 (i.2.2.map eInt))] 4) (fun i => looks.length - i.1) (0,[],[]) ⟨Nat.zero_le _,rfl,Nat.le_refl _,by simp [bdL],rfl⟩ ?_ ?_
 ·(refine Le.mk ?_ ?_; all_goals (repeat' (first | exact trivial | refine sle ?_ | refine ⟨?_,rfl,?_⟩ | refine ⟨?_,by decide,rfl,?_⟩ | fail)))
 ·rintro ⟨k,out,firsts⟩ ⟨hk,ho,hf,hfb,hi⟩
  simp only at hk ho hf hfb hi
  (repeat (refine stp ?_))
  refine AW_if rfl (fun hc => ?_) (fun hc => ?_)
  ·have hk' : k < looks.length := by simp only at hc; omega
   obtain ⟨x,hx⟩ : ∃ x,looks[k]? = some x := ⟨looks[k],by simp [hk']⟩
   have e1 := get_map eInt hx
   have hxb := hb x (List.mem_of_getElem? hx)
   rw [layGo_drop tire eye hx] at hi
   (repeat' (first | refine stp ?_ | (refine AL_do2 rfl ?_; first | refine ⟨_,op_callB rfl rfl rfl rfl (c187 firsts 188 [.ptr [vi x],.ptr [vi eye],.ptr [vi k],.ptr [vi tire]] (near tire eye k x) (by omega) (fun f hf' => f188 f x eye k tire (hfb f hf') hxb h3 (by omega) h5)) rfl,?_⟩) | refine AL_gdec rfl rfl rfl (fun hg => ?_) (fun hg => ?_) | refine AL_gnot rfl rfl rfl (fun hg => ?_) (fun hg => ?_) | refine AL_gcases rfl rfl rfl (fun hg => ?_) (fun hg => ?_)))
   refine AW_if rfl (fun hc2 => ?_) (fun hc2 => ?_)
   ·rw [if_pos hc2] at hi
    (repeat (refine stp ?_))
    refine ⟨(k + 1,out ++ [(firsts.length : Int)],firsts ++ [x]),⟨hk',by simp [ho],by simp; omega,?_,by rw [hi]; simp⟩,by simp only; omega,?_⟩
    ·intro y hy; rcases List.mem_append.1 hy with hy | hy
     ·exact hfb y hy
     ·simp at hy; subst hy; exact hxb
    ·(refine Le.mkR [(2,9),(3,7)] ?_ ?_ rfl; all_goals (repeat' (first | exact trivial | refine sle ?_ | refine ⟨?_,rfl,?_⟩ | refine ⟨?_,by decide,rfl,?_⟩ | fail)))
     ·simp [List.map_append]; rfl
     ·simp [List.map_append]; rfl
   ·rw [if_neg hc2] at hi
    (repeat (refine stp ?_))
    refine ⟨(k + 1,out ++ [idxFrom (near tire eye k x) firsts 0],firsts),⟨hk',by simp [ho],by simp only; omega,hfb,by rw [hi]; simp⟩,by simp only; omega,?_⟩
    (refine Le.mkR [(2,7)] ?_ ?_ rfl; all_goals (repeat' (first | exact trivial | refine sle ?_ | refine ⟨?_,rfl,?_⟩ | refine ⟨?_,by decide,rfl,?_⟩ | fail)))
    simp [List.map_append]; rfl
  ·have hk' : k = looks.length := by simp only at hc; omega
   subst hk'
   (repeat (refine stp ?_))
   exact ⟨_,_,rfl,rfl,by rw [hi]; simp [layGo]⟩
def layE (s : Sorter) (looks : List Int) (eye : Int) : List Int × Int := if isSorterB s && withinB looks s.looks && inB eye s.eye.low s.eye.high then (layI s.tire looks eye,0) else ([],2)
structure SorterP (s : Sorter) : Prop where
 eye : 0 <= s.eye.low /\ s.eye.low <= s.eye.high /\ s.eye.high <= 200 /\ s.eye.high - s.eye.low <= 4
 tire : 0 <= s.tire /\ s.tire <= 9
 len : 1 <= s.looks.length /\ s.looks.length <= 4
 looks : ∀ x ∈ s.looks,-3000 <= x.low /\ x.low <= x.high /\ x.high <= 3000 /\ x.high - x.low <= 6
theorem sorterP_of {s : Sorter} (h : isSorterB s = true) : SorterP s:= by
 simp only [isSorterB,isEyeB,isSpanB,inB,Bool.and_eq_true,decide_eq_true_eq,Bool.not_eq_true',List.any_eq_false,Bool.not_eq_false] at h
 obtain ⟨⟨⟨h1,h2⟩,h3⟩,h4⟩ := h
 refine ⟨by omega,by omega,by omega,fun x hx => ?_⟩
 have := h4 x hx
 omega
theorem allIn_bd {c : Int} : ∀ {l : List Int} {m : List Span},l.length = m.length -> allIn l m = true -> (∀ s ∈ m,-c <= s.low /\ s.high <= c) -> bdL c l
 | [],[],_,_,_ => by simp [bdL]
 | [],_ :: _,h,_,_ => by simp at h
 | _ :: _,[],h,_,_ => by simp at h
 | x :: l,s :: m,h,h',hm => by
  simp only [allIn,inB,Bool.and_eq_true,decide_eq_true_eq] at h'
  intro y hy
  cases hy with
  | head => have := hm s (by simp); omega
  | tail _ hy => exact allIn_bd (by simpa using h) h'.2 (fun s hs => hm s (by simp [hs])) y hy
theorem f53 (s : Sorter) (looks : List Int) (eye : Int) (hs : s.looks.length <= 1000) (hl : looks.length <= 1000) : ACalls Tryz.prog 53 [eSorter s,eInts looks,vi eye] (fun r => r = .tup [eInts (layE s looks eye).1,vi (layE s looks eye).2]):= by
 refine ACalls.of_body hT Tryz.func53 rfl (by kernel_rfl) rfl ?_
 (repeat' (first | refine stp ?_ | (refine AL_do2 rfl ?_; first | refine ⟨_,op_call1 rfl rfl rfl rfl (f138 s hs),?_⟩ | refine ⟨_,op_call1 rfl rfl rfl rfl (f139 looks s.looks hl hs),?_⟩ | refine ⟨_,op_call1 rfl rfl rfl rfl (f140 eye s.eye),?_⟩) | refine AL_gdec rfl rfl rfl (fun hg => ?_) (fun hg => ?_) | refine AL_gnot rfl rfl rfl (fun hg => ?_) (fun hg => ?_) | refine AL_gcases rfl rfl rfl (fun hg => ?_) (fun hg => ?_)))
 ·exact ⟨_,_,rfl,rfl,by simp_all [layE]; rfl⟩
 ·exact ⟨_,_,rfl,rfl,by simp_all [layE]; rfl⟩
 ·refine AW_cond rfl (fun hc => ?_) (fun hc => ?_)
  ·(repeat (refine stp ?_))
   exact ⟨_,_,rfl,rfl,by simp_all [layE]; rfl⟩
  ·have c1 : isSorterB s = true := by simp_all
   have c2 : withinB looks s.looks = true := by simp_all
   have c3 : inB eye s.eye.low s.eye.high = true := by simp_all
   have hP := sorterP_of c1
   have hE := hP.eye
   have hT' := hP.tire
   simp only [withinB,Bool.and_eq_true,decide_eq_true_eq] at c2
   have hbd : bdL 100000 looks := allIn_bd c2.1 c2.2 fun x hx => by have := hP.looks x hx; omega
   simp only [inB,Bool.and_eq_true,decide_eq_true_eq] at c3
   (repeat' (first | refine stp ?_ | (refine AL_do2 rfl ?_; first | refine ⟨_,op_call1 rfl rfl rfl rfl (f141 s.tire looks eye hl hbd (by omega) (by omega)),?_⟩) | refine AL_gdec rfl rfl rfl (fun hg => ?_) (fun hg => ?_) | refine AL_gnot rfl rfl rfl (fun hg => ?_) (fun hg => ?_) | refine AL_gcases rfl rfl rfl (fun hg => ?_) (fun hg => ?_)))
   exact ⟨_,_,rfl,rfl,by simp [layE,c1,withinB,c2,inB,c3]; rfl⟩
end Go.Abs
namespace Go.Abs
open Go.Proofs
set_option linter.unusedVariables false
set_option linter.unusedSimpArgs false
set_option maxRecDepth 100000
def rangeI (lo hi : Int) : List Int := (List.range (hi - lo + 1).toNat).map fun (j : Nat) => lo + j
def numsL : List Span -> List (List Int)
 | [] => [[]]
 | s :: l => (rangeI s.low s.high).flatMap fun n => (numsL l).map (n :: ·)
theorem flatMap_const_len {α β : Type} {c : Nat} {f : α -> List β} (h : ∀ x,(f x).length = c) : ∀ l : List α,(l.flatMap f).length = l.length * c
 | [] => by simp
 | x :: l => by simp only [List.flatMap_cons,List.length_append,h,flatMap_const_len h l,List.length_cons,Nat.succ_mul]; omega
theorem flatMap_const_get {α β : Type} {c : Nat} {f : α -> List β} (h : ∀ x,(f x).length = c) : ∀ (l : List α) (j i : Nat) (x : α),l[j]? = some x -> i < c -> (l.flatMap f)[j * c + i]? = (f x)[i]?
 | [],j,i,x,hx,_ => by simp at hx
 | y :: l,0,i,x,hx,hi => by
  simp at hx; subst hx
  rw [List.flatMap_cons,List.getElem?_append_left (by rw [h]; omega)]; simp
 | y :: l,j + 1,i,x,hx,hi => by
  rw [List.flatMap_cons,List.getElem?_append_right (by rw [h,Nat.succ_mul]; omega),h,show (j + 1) * c + i - c = j * c + i by rw [Nat.succ_mul]; omega]
  exact flatMap_const_get h l j i x (by simpa using hx) hi
abbrev numObjs (l : List Span) (E : Ext) (k : Nat) (B : Nat -> Prop) : List (Nat × AObj) := [(0,.ext E k B),(1,.box [.yld 0]),(2,.box [.fn 217 [.pv (.ptr [eSpans l]),.box 1 0,.box 2 0]])]
set_option maxHeartbeats 4000000 in
theorem f217 (l : List Span) (hl : l.length <= 1000) (hb : ∀ s ∈ l,-100000 <= s.low /\ s.low <= 100000 /\ -100000 <= s.high /\ s.high <= 100000) (E : Ext) (hE : E.Round Tryz.prog) : ∀ (d : Nat) (now : List Int) (k : Nat) (B : Nat -> Prop) (av : Nat -> Value),now.length + d = l.length →
  (∀ j x,((numsL (l.drop now.length)).map (now ++ ·))[j]? = some x -> E.L[k + j]? = some [eInts x]) →
  ACallsX Tryz.prog 217 [.pv (eInts now),.pv (.ptr [eSpans l]),.box 1 0,.box 2 0] (numObjs l E k B ++ ancL av [(3,1),(4,2)]) 5
   (fun sf => ∃ B',sf = mkSt [(0,.pv (.bool true))] (numObjs l E (k + (numsL (l.drop now.length)).length) B' ++ ancL av [(3,1),(4,2)]) 5) (fun _ _ => False)
 | 0,now,k,B,av,hd,hx => by
  have hnl : now.length = l.length := by omega
  have hd0 : l.drop now.length = [] := by rw [hnl]; simp
  refine ACallsX.of_body hT Tryz.func217 rfl (by kernel_rfl) rfl ?_
  (repeat (refine stp ?_))
  refine AW_if rfl (fun hc => ?_) (fun hc => by omega)
  (repeat (refine stp ?_))
  have hx0 : E.L[k]? = some [eInts now]:= by
   have := hx 0 now (by rw [hd0]; simp [numsL]); simpa using this
  refine AL_doS rfl (op_yield hE rfl rfl rfl rfl rfl hx0) ?_
  rintro s' ⟨B',rfl⟩
  (repeat (refine stp ?_))
  rw [hd0]
  refine ⟨_,mkSt [(0,.pv (.bool true))] (numObjs l E (k + 1) B' ++ ancL av [(3,1),(4,2)]) 5,rfl,?_,B',rfl⟩
  (refine Le.mk ?_ ?_; all_goals (repeat' (first | exact trivial | refine sle ?_ | refine ⟨?_,rfl,?_⟩ | refine ⟨?_,by decide,rfl,?_⟩ | fail)))
 | d + 1,now,k,B,av,hd,hx => by
  have hnl : now.length < l.length := by omega
  obtain ⟨s,hs⟩ : ∃ s,l[now.length]? = some s := ⟨l[now.length],by simp [hnl]⟩
  have e1 := get_map eSpan hs
  have hsb := hb s (List.mem_of_getElem? hs)
  have hdrop : l.drop now.length = s :: l.drop (now.length + 1):= by
   rw [List.drop_eq_getElem_cons hnl]; rw [List.getElem?_eq_getElem hnl] at hs; cases hs; rfl
  refine ACallsX.of_body hT Tryz.func217 rfl (by kernel_rfl) rfl ?_
  (repeat (refine stp ?_))
  refine AW_if rfl (fun hc => by omega) (fun hc => ?_)
  (repeat (refine stp ?_))
  obtain ⟨c,hcc⟩ : ∃ c,(numsL (l.drop (now.length + 1))).length = c := ⟨_,rfl⟩
  have hfl : ∀ n : Int,((numsL (l.drop (now.length + 1))).map (n :: ·)).length = c := fun n => by simp [hcc]
  have hN : (rangeI s.low s.high).length = (s.high - s.low + 1).toNat := by simp [rangeI]
  have htot : (numsL (l.drop now.length)).length = (s.high - s.low + 1).toNat * c := by rw [hdrop,numsL,flatMap_const_len hfl,hN]
  refine AW_loopC (fun i : Nat × (Nat -> Prop) => i.1 <= (s.high - s.low + 1).toNat)
   (fun i => mkSt [(0,.pv (eInts now)),(1,.pv (.ptr [eSpans l])),(2,.box 1 0),(3,.box 2 0),(5,.pv (.bool false)),(6,.pv (vi now.length)),(7,.pv (vi (s.low + i.1)))] (numObjs l E (k + i.1 * c) i.2 ++ ancL av [(3,1),(4,2)]) 5)
   (fun i => (s.high - s.low + 1).toNat - i.1) (0,B) (Nat.zero_le _) ?_ ?_
  ·(refine Le.mk ?_ ?_; all_goals (repeat' (first | exact trivial | refine sle ?_ | refine ⟨?_,rfl,?_⟩ | refine ⟨?_,by decide,rfl,?_⟩ | fail)))
   ·show _ = some (FV.pv (vi (s.low + 0))); rw [Int.add_zero]; rfl
   ·show _ = some (AObj.ext E (k + 0 * c) B); rw [Nat.zero_mul,Nat.add_zero]; rfl
  ·rintro ⟨j,Bj⟩ hj
   simp only at hj
   (repeat (refine stp ?_))
   refine AW_if rfl (fun hc => ?_) (fun hc => ?_)
   ·have hjN : j < (s.high - s.low + 1).toNat := by simp only at hc; omega
    have hj1 : ((j : Nat) : Int) <= 1000000 := by omega
    have hrec : ∀ av',ACallsX Tryz.prog 217 [.pv (.sl (now.map eInt ++ [[vi (s.low + j)]])),.pv (.ptr [eSpans l]),.box 1 0,.box 2 0] (numObjs l E (k + j * c) Bj ++ ancL av' [(3,1),(4,2)]) 5
      (fun sf => ∃ B',sf = mkSt [(0,.pv (.bool true))] (numObjs l E (k + j * c + c) B' ++ ancL av' [(3,1),(4,2)]) 5) (fun _ _ => False) := fun av' => by
     have := f217 l hl hb E hE d (now ++ [s.low + j]) (k + j * c) Bj av' (by simp; omega) (fun i x hix => by
      rw [Nat.add_assoc]
      refine hx (j * c + i) x ?_
      simp only [List.length_append,List.length_cons,List.length_nil] at hix
      rw [List.getElem?_map,Option.map_eq_some_iff] at hix
      obtain ⟨y,hy,rfl⟩ := hix
      have hic : i < c := by rw [<- hcc]; exact (List.getElem?_eq_some_iff.1 hy).1
      have hrj : (rangeI s.low s.high)[j]? = some (s.low + j) := by simp [rangeI,hjN]
      rw [List.getElem?_map,hdrop,numsL,flatMap_const_get hfl _ j i _ hrj hic,List.getElem?_map,hy]
      simp)
     simp only [List.length_append,List.length_cons,List.length_nil,hcc] at this
     rw [eInts,List.map_append] at this
     exact this
    (repeat (refine stp ?_))
    (repeat (first | refine DG_next (D_append_p hT rfl rfl rfl rfl rfl rfl rfl rfl rfl rfl rfl rfl rfl (by intro y hy; (first | (simp only [List.mem_cons,List.not_mem_nil,or_false] at hy; subst hy; rfl) | (simp only [List.mem_cons,List.not_mem_nil,or_false] at hy; rcases hy with hy | hy <;> subst hy <;> rfl) | (obtain ⟨_,_,rfl⟩ := List.mem_map.1 hy; rfl) | (cases hy))) (by simp only [List.length_map,List.length_take,List.length_cons,List.length_nil,List.length_append]; omega) rfl) ?_ | refine sdr ?_ | refine DG_next (D_call_own rfl rfl rfl rfl rfl (f218 now (by omega))) ?_))
    refine DG_end hM (by kernel_rfl) ?_
    refine AL_doS rfl (op_callXs [] [0,1,2] [(3,1),(4,2)] hrec rfl rfl rfl rfl (by exact ⟨rfl,rfl,rfl,rfl,trivial⟩) rfl (by exact ⟨rfl,by decide,rfl,rfl,by decide,rfl,rfl,by decide,rfl,trivial⟩) rfl ?_ (by simp) ?_) ?_
    ·exact ⟨⟨rfl,rfl,⟨_,by simp; rfl⟩,rfl⟩,⟨rfl,rfl,⟨_,by simp; rfl⟩,rfl⟩,trivial⟩
    ·rintro av' sf ⟨B',rfl⟩
     exact ⟨.inr ⟨E,_,_,_,_,rfl,rfl⟩,.inl ⟨3,by simp,rfl⟩,.inl ⟨4,by simp,rfl⟩,trivial⟩
    ·rintro s' ⟨av',sf,⟨B',rfl⟩,rfl⟩
     (repeat (refine stp ?_))
     refine ⟨(j + 1,B'),hjN,by simp only; omega,?_⟩
     (refine Le.mk ?_ ?_; all_goals (repeat' (first | exact trivial | refine sle ?_ | refine ⟨?_,rfl,?_⟩ | refine ⟨?_,by decide,rfl,?_⟩ | fail)))
     ·show _ = some (FV.pv (vi (s.low + ((j + 1 : Nat) : Int)))); rw [show s.low + ((j + 1 : Nat) : Int) = s.low + j + 1 by omega]; rfl
     ·show _ = some (AObj.ext E (k + (j + 1) * c) B'); rw [Nat.succ_mul,<- Nat.add_assoc]; rfl
   ·have hjN : j = (s.high - s.low + 1).toNat := by simp only at hc; omega
    subst hjN
    (repeat (refine stp ?_))
    refine ⟨_,mkSt [(0,.pv (.bool true))] (numObjs l E (k + (numsL (l.drop now.length)).length) Bj ++ ancL av [(3,1),(4,2)]) 5,rfl,?_,Bj,rfl⟩
    rw [htot]
    (refine Le.mk ?_ ?_; all_goals (repeat' (first | exact trivial | refine sle ?_ | refine ⟨?_,rfl,?_⟩ | refine ⟨?_,by decide,rfl,?_⟩ | fail)))
def numbersL (l : List Span) : List (List PV) := (numsL l).map fun x => [eInts x]
theorem numsL_len : ∀ (l : List Span) (x : List Int),x ∈ numsL l -> x.length = l.length
 | [],x,h => by simp [numsL] at h; subst h; rfl
 | s :: l,x,h => by
  simp only [numsL,List.mem_flatMap,List.mem_map] at h
  obtain ⟨n,_,y,hy,rfl⟩ := h
  simp [numsL_len l y hy]
theorem it216 (l : List Span) (hl : l.length <= 1000) (hb : ∀ s ∈ l,-100000 <= s.low /\ s.low <= 100000 /\ -100000 <= s.high /\ s.high <= 100000) : IterOK Tryz.prog 216 [.ptr [eSpans l]] (numbersL l):= by
 intro E B hEL hE
 refine ACallsX.of_body hT Tryz.func216 rfl (by kernel_rfl) rfl ?_
 (repeat (refine stp ?_))
 have hrec : ∀ av',ACallsX Tryz.prog 217 [.pv (.sl []),.pv (.ptr [eSpans l]),.box 1 0,.box 2 0] (numObjs l E 0 B ++ ancL av' [(3,1),(4,2)]) 5
   (fun sf => ∃ B',sf = mkSt [(0,.pv (.bool true))] (numObjs l E (numsL l).length B' ++ ancL av' [(3,1),(4,2)]) 5) (fun _ _ => False) := fun av' => by
  have := f217 l hl hb E hE l.length [] 0 B av' (by simp) (fun i x hix => by
   rw [Nat.zero_add,hEL,numbersL,List.getElem?_map]
   simp at hix
   rw [hix]; rfl)
  simp only [List.length_nil,List.drop_zero,Nat.zero_add] at this
  exact this
 refine AL_doS rfl (op_callXs [] [0,1,2] [(3,1),(4,2)] hrec rfl rfl rfl rfl (by exact ⟨rfl,rfl,rfl,rfl,trivial⟩) rfl (by exact ⟨rfl,by decide,rfl,rfl,by decide,rfl,rfl,by decide,rfl,trivial⟩) rfl ?_ (by simp) ?_) ?_
 ·exact ⟨⟨rfl,rfl,⟨_,by simp; rfl⟩,rfl⟩,⟨rfl,rfl,⟨_,by simp; rfl⟩,rfl⟩,trivial⟩
 ·rintro av' sf ⟨B',rfl⟩
  exact ⟨.inr ⟨E,_,_,_,_,rfl,rfl⟩,.inl ⟨3,by simp,rfl⟩,.inl ⟨4,by simp,rfl⟩,trivial⟩
 ·rintro s' ⟨av',sf,⟨B',rfl⟩,rfl⟩
  (repeat (refine stp ?_))
  refine ⟨_,mkSt [] [(0,.ext E (numbersL l).length B')] 1,rfl,?_,B',rfl⟩
  rw [show (numbersL l).length = (numsL l).length by simp [numbersL]]
  (refine Le.mk ?_ ?_; all_goals (repeat' (first | exact trivial | refine sle ?_ | refine ⟨?_,rfl,?_⟩ | refine ⟨?_,by decide,rfl,?_⟩ | fail)))
theorem f193 (l : List Span) : ACalls Tryz.prog 193 [eSpans l] (fun r => r = .pv (.fn 216 [.ptr [eSpans l]])):= by
 refine ACalls.of_body hT Tryz.func193 rfl (by kernel_rfl) rfl ?_
 (repeat (refine stp ?_))
 exact ⟨_,_,rfl,rfl,rfl⟩
end Go.Abs
namespace Go.Abs
open Go.Proofs
set_option linter.unusedVariables false
set_option linter.unusedSimpArgs false
set_option maxRecDepth 100000
theorem f231 (b : Bath) (dye : Int) : ACalls Tryz.prog 231 [.agg (eBath b),.ptr [vi dye]] (fun r => r = .pv (.bool (decide (¬ b.dye = dye)))):= by
 refine ACalls.of_body hT Tryz.func231 rfl (by kernel_rfl) rfl ?_
 (repeat' (first | refine stp ?_ | refine AL_gdec rfl rfl rfl (fun hg => ?_) (fun hg => ?_) | refine AL_gnot rfl rfl rfl (fun hg => ?_) (fun hg => ?_) | refine AL_gcases rfl rfl rfl (fun hg => ?_) (fun hg => ?_)))
 exact ⟨_,_,rfl,rfl,rfl⟩
def ofDye (dye : Int) (l : List Bath) : List Bath := l.filter fun b => decide (b.dye = dye)
theorem idxFrom_none {α : Type} (p : α -> Bool) : ∀ (l : List α) (i : Int),0 <= i -> idxFrom p l i = -1 -> ∀ x ∈ l,p x = false
 | [],_,_,_ => by simp
 | x :: l,i,h0,h => by
  unfold idxFrom at h
  cases hp : p x with
  | true => rw [hp] at h; simp at h; omega
  | false =>
   rw [hp] at h
   intro y hy
   cases hy with
   | head => exact hp
   | tail _ hy => exact idxFrom_none p l (i + 1) (by omega) (by simpa using h) y hy
theorem idxFrom_some {α : Type} (p : α -> Bool) : ∀ (l : List α) (i : Int),0 <= i -> idxFrom p l i ≠ -1 -> ∃ j : Nat,idxFrom p l i = i + j /\ j < l.length /\ (∀ x ∈ l.take j,p x = false) /\ ∃ x,l[j]? = some x /\ p x = true
 | [],_,_,h => by simp [idxFrom] at h
 | x :: l,i,h0,h => by
  unfold idxFrom at h ⊢
  cases hp : p x with
  | true => exact ⟨0,by simp,by simp,by simp,x,rfl,hp⟩
  | false =>
   rw [hp] at h
   obtain ⟨j,h1,h2,h3,y,h4,h5⟩ := idxFrom_some p l (i + 1) (by omega) (by simpa using h)
   refine ⟨j + 1,by simp [h1]; omega,by simpa using h2,?_,y,by simpa using h4,h5⟩
   intro z hz
   simp only [List.take_succ_cons,List.mem_cons] at hz
   rcases hz with rfl | hz
   ·exact hp
   ·exact h3 z hz
set_option maxHeartbeats 2000000 in
theorem f230 (l : List Bath) (dye : Int) (hl : l.length <= 1000) : ACallsX Tryz.prog 230 [.arr 0,.fn 231 [.box 1 0]] [(0,.arr 154 4 (l.map eBath)),(1,.box [.pv (vi dye)])] 2
  (fun sf => sf = mkSt [(0,.arr 0)] [(0,.arr 154 4 ((ofDye dye l).map eBath))] 1) (fun _ _ => False):= by
 refine ACallsX.of_body hT Tryz.func230 rfl (by kernel_rfl) rfl ?_
 (repeat' (first | refine stp ?_ | (refine AL_do2 rfl ?_; first | refine ⟨_,op_callB rfl rfl rfl rfl (c208 l 231 [.ptr [vi dye]] (fun b => decide (¬ b.dye = dye)) hl (fun b _ => f231 b dye)) rfl,?_⟩) | refine AL_gdec rfl rfl rfl (fun hg => ?_) (fun hg => ?_) | refine AL_gnot rfl rfl rfl (fun hg => ?_) (fun hg => ?_) | refine AL_gcases rfl rfl rfl (fun hg => ?_) (fun hg => ?_)))
 by_cases hidx : idxFrom (fun b : Bath => decide (¬ b.dye = dye)) l 0 = -1
 ·refine AW_if rfl (fun hc => ?_) (fun hc => absurd hidx hc)
  (repeat (refine stp ?_))
  refine ⟨_,_,rfl,?_,rfl⟩
  have : ofDye dye l = l:= by
   have := idxFrom_none _ l 0 (Int.le_refl _) hidx
   unfold ofDye
   exact List.filter_eq_self.2 fun x hx => by have := this x hx; simpa using this
  rw [this]
  (refine Le.mk ?_ ?_; all_goals (repeat' (first | exact trivial | refine sle ?_ | refine ⟨?_,rfl,?_⟩ | refine ⟨?_,by decide,rfl,?_⟩ | fail)))
 ·refine AW_if rfl (fun hc => absurd hc hidx) (fun hc => ?_)
  obtain ⟨i0,hi1,hi2,hi3,x0,hx0,hpx0⟩ := idxFrom_some _ l 0 (Int.le_refl _) hidx
  rw [Int.zero_add] at hi1
  rw [hi1]
  (repeat (refine stp ?_))
  refine AW_loopC (fun i : Nat × Nat × List Bath => i.1 < i.2.1 /\ i.2.1 <= l.length /\ i.2.2.length = l.length /\ i.2.2.take i.1 = ofDye dye (l.take i.2.1) /\ i.2.2.drop i.2.1 = l.drop i.2.1)
   (fun i => mkSt [(0,.arr 0),(1,.fn 231 [.box 1 0]),(5,.pv (vi i.1)),(6,.pv (vi i.2.1))] [(0,.arr 154 4 (i.2.2.map eBath)),(1,.box [.pv (vi dye)])] 2) (fun i => l.length - i.2.1) (i0,i0 + 1,l) ⟨by simp,hi2,rfl,?_,rfl⟩ ?_ ?_
  ·have h1 : ofDye dye (l.take i0) = l.take i0 := List.filter_eq_self.2 fun x hx => by have := hi3 x hx; simpa using this
   simp only
   rw [List.take_add_one,hx0]
   unfold ofDye at *
   rw [List.filter_append,h1]
   simpa using hpx0
  ·(refine Le.mk ?_ ?_; all_goals (repeat' (first | exact trivial | refine sle ?_ | refine ⟨?_,rfl,?_⟩ | refine ⟨?_,by decide,rfl,?_⟩ | fail)))
  ·rintro ⟨i,j,A⟩ ⟨h1,h2,h3,h4,h5⟩
   simp only at h1 h2 h3 h4 h5
   dsimp only
   (repeat (refine stp ?_))
   refine AW_if rfl (fun hc => ?_) (fun hc => ?_)
   ·have hj : j < l.length := by simp [h3] at hc; omega
    obtain ⟨x,hx⟩ : ∃ x,l[j]? = some x := ⟨l[j],by simp [hj]⟩
    have hAx : A[j]? = some x:= by
     have : (A.drop j)[0]? = (l.drop j)[0]? := by rw [h5]
     simpa [hx] using this
    have e1 := get_map eBath hAx
    (repeat (refine stp ?_))
    refine AL_do2 rfl ⟨_,op_indexAddr_arr hT rfl rfl rfl rfl rfl rfl rfl rfl (by omega) (by simp; omega) rfl,?_⟩
    refine AL_do2 rfl ⟨_,op_load_aptr hT rfl rfl rfl rfl rfl e1 rfl,?_⟩
    (repeat' (first | refine stp ?_ | (refine AL_do2 rfl ?_; first | refine ⟨_,op_callB rfl rfl rfl rfl (f231 x dye) rfl,?_⟩) | refine AL_gdec rfl rfl rfl (fun hg => ?_) (fun hg => ?_) | refine AL_gnot rfl rfl rfl (fun hg => ?_) (fun hg => ?_) | refine AL_gcases rfl rfl rfl (fun hg => ?_) (fun hg => ?_)))
    have hlast : l.take (j + 1) = l.take j ++ [x] := by rw [List.take_add_one,hx]; rfl
    refine AW_cond rfl (fun hb => ?_) (fun hb => ?_)
    ·have hxd : x.dye = dye := by simpa using hb
     (repeat (refine stp ?_))
     refine AL_do2 rfl ⟨_,op_indexAddr_arr hT rfl rfl rfl rfl rfl rfl rfl rfl (by omega) (by simp; omega) rfl,?_⟩
     obtain ⟨y,hy⟩ : ∃ y,A[i]? = some y := ⟨A[i]'(by omega),by simp⟩
     have hAi := get_map eBath hy
     refine AL_do2 rfl ⟨_,op_store_aptr hT rfl rfl rfl rfl rfl hAi rfl rfl rfl rfl,?_⟩
     (repeat (refine stp ?_))
     refine ⟨(i + 1,j + 1,A.set i x),⟨by simp only; omega,by simp only; omega,by simp [h3],?_,?_⟩,by simp only; omega,?_⟩
     ·simp only
      rw [hlast,ofDye,List.filter_append,<- ofDye,<- h4,List.take_set,List.take_add_one,List.set_append]
      have hil : (A.take i).length = i := by simp; omega
      simp [hil,hxd,show i < A.length by omega]
     ·simp only
      rw [List.drop_set,if_pos (by omega)]
      have := congrArg (List.drop 1) h5
      simpa [List.drop_drop,Nat.add_comm] using this
     ·(refine Le.mk ?_ ?_; all_goals (repeat' (first | exact trivial | refine sle ?_ | refine ⟨?_,rfl,?_⟩ | refine ⟨?_,by decide,rfl,?_⟩ | fail)))
      rw [List.map_set]; rfl
    ·have hxd : ¬ x.dye = dye := by simpa using hb
     (repeat (refine stp ?_))
     refine ⟨(i,j + 1,A),⟨by simp only; omega,by simp only; omega,h3,?_,?_⟩,by simp only; omega,?_⟩
     ·simp only
      rw [hlast,ofDye,List.filter_append,<- ofDye,<- h4]
      simp [hxd]
     ·simp only
      have := congrArg (List.drop 1) h5
      simpa [List.drop_drop,Nat.add_comm] using this
     ·(refine Le.mk ?_ ?_; all_goals (repeat' (first | exact trivial | refine sle ?_ | refine ⟨?_,rfl,?_⟩ | refine ⟨?_,by decide,rfl,?_⟩ | fail)))
   ·have hj : j = l.length := by simp [h3] at hc; omega
    subst hj
    rw [List.take_length] at h4
    (repeat (refine stp ?_))
    refine AL_slice_clear (lo := i) (zp := [vi 0,vi 0,vi 0,vi 0]) hT rfl rfl rfl rfl rfl rfl rfl rfl rfl rfl rfl rfl rfl rfl rfl rfl (by simp; omega) ?_
    (repeat (refine stp ?_))
    refine AL_do2 rfl ⟨_,op_slice_own (hi := i) hT rfl rfl rfl rfl rfl rfl rfl rfl (by simp; omega),?_⟩
    (repeat (refine stp ?_))
    refine ⟨_,_,rfl,?_,rfl⟩
    (refine Le.mkR [(0,2)] ?_ ?_ rfl; all_goals (repeat' (first | exact trivial | refine sle ?_ | refine ⟨?_,rfl,?_⟩ | refine ⟨?_,by decide,rfl,?_⟩ | fail)))
    have e : ((A.map eBath).take i ++ List.replicate ((A.map eBath).length - i) [vi 0,vi 0,vi 0,vi 0]).take i = (ofDye dye l).map eBath:= by
     rw [List.take_append_of_le_length (by simp; omega),List.take_take,Nat.min_self,<- List.map_take,h4]
    rw [<- e]; rfl
theorem f219 (l : List Bath) (dye : Int) (hl : l.length <= 1000) : ACalls Tryz.prog 219 [eBaths l,vi dye] (fun r => r = .own 154 4 ((ofDye dye l).map eBath)):= by
 refine ACalls.of_body hT Tryz.func219 rfl (by kernel_rfl) rfl ?_
 (repeat (refine stp ?_))
 refine AL_do2 rfl ⟨_,op_call1 rfl rfl rfl rfl (f124 l hl),?_⟩
 (repeat (refine stp ?_))
 refine AL_doS rfl (op_callXs (objs := [(0,.arr 154 4 (l.map eBath)),(1,.box [.pv (vi dye)])]) [(0,1),(1,0)] [] [] (fun _ => f230 l dye hl) rfl rfl rfl rfl (by (repeat' (first | exact trivial | refine And.intro ?_ ?_)); all_goals (first | rfl | decide)) rfl (by (repeat' (first | exact trivial | refine And.intro ?_ ?_)); all_goals (first | rfl | decide)) rfl trivial (by simp) (fun _ _ _ => trivial)) ?_
 rintro s' ⟨av,sf,rfl,rfl⟩
 (repeat (refine stp ?_))
 exact ⟨_,_,rfl,rfl,rfl⟩
end Go.Abs
