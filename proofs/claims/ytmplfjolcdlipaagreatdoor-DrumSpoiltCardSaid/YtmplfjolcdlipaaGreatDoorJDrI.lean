/- Lists of batches, compared; the best one. -/
import Derived.Test.YtmplfjolcdlipaaGreatDoorJDrH
import Derived.Test.YtmplfjolcdlipaaGreatDoorJDrB
import Derived.Test.YtmplfjolcdlipaaGreatDoorJNcK
set_option linter.unusedVariables false
set_option linter.unusedSimpArgs false
namespace Go.Abs
open Go.Proofs
set_option linter.unusedVariables false
set_option linter.unusedSimpArgs false
set_option maxRecDepth 100000
def compI (x y : Int) : Int := if x < y then -1 else if y < x then 1 else 0
theorem f186 (x : Int) : ACalls Tryz.prog 186 [vi x] (fun r => r = .pv (.bool false)):= by
 refine ACalls.of_body hT Tryz.func186 rfl (by kernel_rfl) rfl ?_
 (repeat' (first | refine stq ?_ | (with_reducible refine AL_id ?_); (fail_if_success (refine AL_glit rfl rfl rfl (by first | exact .inl (by with_reducible rfl) | exact .inr (by with_reducible rfl)) ?_)); first | refine AL_gdec rfl rfl rfl (fun hg => ?_) (fun hg => ?_) | refine AL_gnot rfl rfl rfl (fun hg => ?_) (fun hg => ?_) | refine AL_gcases rfl rfl rfl (fun hg => ?_) (fun hg => ?_)))
 exact ⟨_,_,rfl,rfl,by simp⟩
theorem f167 (x y : Int) : ACalls Tryz.prog 167 [vi x,vi y] (fun r => r = .pv (vi (compI x y))):= by
 refine ACalls.of_body hT Tryz.func167 rfl (by kernel_rfl) rfl ?_
 (repeat' (first | refine stq ?_ | (refine AL_do2 rfl ?_; first | refine ⟨_,op_call1 rfl rfl rfl rfl (f186 x),nrmA rfl ?_⟩ | refine ⟨_,op_call1 rfl rfl rfl rfl (f186 y),nrmA rfl ?_⟩) | (with_reducible refine AL_id ?_); (fail_if_success (refine AL_glit rfl rfl rfl (by first | exact .inl (by with_reducible rfl) | exact .inr (by with_reducible rfl)) ?_)); first | refine AL_gdec rfl rfl rfl (fun hg => ?_) (fun hg => ?_) | refine AL_gnot rfl rfl rfl (fun hg => ?_) (fun hg => ?_) | refine AL_gcases rfl rfl rfl (fun hg => ?_) (fun hg => ?_)))
 refine AW_if rfl (fun hc => ?_) (fun hc => ?_)
 ·(repeat (refine stq ?_))
  exact ⟨_,_,rfl,rfl,by simp [compI,hc]⟩
 ·(repeat (refine stq ?_))
  refine AW_if rfl (fun hc2 => ?_) (fun hc2 => ?_)
  ·(repeat (refine stq ?_))
   exact ⟨_,_,rfl,rfl,by rw [compI,if_neg hc,if_pos (by omega)]⟩
  ·(repeat (refine stq ?_))
   exact ⟨_,_,rfl,rfl,by rw [compI,if_neg hc,if_neg (by omega)]⟩
def compareI : List Int -> List Int -> Int
 | [],[] => 0
 | [],_ :: _ => -1
 | _ :: _,[] => 1
 | x :: a,y :: b => if compI x y = 0 then compareI a b else compI x y
theorem compare_lex : ∀ (a b : List Int),decide (compareI a b < 0) = lexB a b
 | [],[] => rfl
 | [],_ :: _ => rfl
 | _ :: _,[] => rfl
 | x :: a,y :: b => by
  simp only [compareI,lexB]
  by_cases h1 : x < y
  ·simp [compI,h1]
  ·by_cases h2 : y < x
   ·simp [compI,h1,h2]
   ·simp only [compI,h1,h2,if_false,if_true]; exact compare_lex a b
theorem f127 (a b : List Int) (ha : a.length <= 1000) (hb : b.length <= 1000) : ACalls Tryz.prog 127 [eInts a,eInts b] (fun r => r = .pv (vi (compareI a b))):= by
 refine ACalls.of_body hT Tryz.func127 rfl (by kernel_rfl) rfl ?_
 (repeat (refine stq ?_))
 refine AW_loopC (fun k : Nat => k <= a.length /\ k <= b.length /\ compareI a b = compareI (a.drop k) (b.drop k)) (fun k => mkSt [(0,.pv (eInts a)),(1,.pv (eInts b)),(9,.pv (eInts a)),(10,.pv (vi a.length)),(11,.pv (vi k))] [] 0) (fun k => a.length - k) 0 ⟨Nat.zero_le _,Nat.zero_le _,by simp⟩ ?_ ?_
 ·(refine Le.mk ?_ ?_; all_goals (repeat' (first | exact trivial | refine sle ?_ | refine ⟨?_,rfl,?_⟩ | refine ⟨?_,by decide,rfl,?_⟩ | fail)))
 ·rintro k ⟨hk,hkb,hi⟩
  (repeat (refine stq ?_))
  refine AW_if rfl (fun hc => ?_) (fun hc => ?_)
  ·have hk' : k < a.length := by omega
   obtain ⟨x,hx⟩ : ∃ x,a[k]? = some x := ⟨a[k],by simp [hk']⟩
   have e1 := get_map eInt hx
   have da : a.drop k = x :: a.drop (k + 1) := by rw [List.drop_eq_getElem_cons hk']; congr 1; exact (List.getElem?_eq_some_iff.1 hx).2
   (repeat (refine stq ?_))
   refine AW_if rfl (fun hc2 => ?_) (fun hc2 => ?_)
   ·(repeat (refine stq ?_))
    exact ⟨_,_,rfl,rfl,by
     have hbn : b.drop k = [] := List.drop_eq_nil_of_le (by omega)
     rw [hi,da,hbn]; rfl⟩
   ·have hkb' : k < b.length := by omega
    obtain ⟨y,hy⟩ : ∃ y,b[k]? = some y := ⟨b[k],by simp [hkb']⟩
    have e2 := get_map eInt hy
    have db : b.drop k = y :: b.drop (k + 1) := by rw [List.drop_eq_getElem_cons hkb']; congr 1; exact (List.getElem?_eq_some_iff.1 hy).2
    rw [da,db] at hi
    simp only [compareI] at hi
    (repeat' (first | refine stq ?_ | (refine AL_do2 rfl ?_; first | refine ⟨_,op_call1 rfl rfl rfl rfl (f167 x y),nrmA rfl ?_⟩) | (with_reducible refine AL_id ?_); (fail_if_success (refine AL_glit rfl rfl rfl (by first | exact .inl (by with_reducible rfl) | exact .inr (by with_reducible rfl)) ?_)); first | refine AL_gdec rfl rfl rfl (fun hg => ?_) (fun hg => ?_) | refine AL_gnot rfl rfl rfl (fun hg => ?_) (fun hg => ?_) | refine AL_gcases rfl rfl rfl (fun hg => ?_) (fun hg => ?_)))
    refine AW_if rfl (fun hc3 => ?_) (fun hc3 => ?_)
    ·(repeat (refine stq ?_))
     exact ⟨_,_,rfl,rfl,by rw [hi,if_neg hc3]⟩
    ·(repeat (refine stq ?_))
     refine ⟨k + 1,⟨hk',hkb',?_⟩,by omega,?_⟩
     ·rw [hi,if_pos (by omega)]
     ·(refine Le.mk ?_ ?_; all_goals (repeat' (first | exact trivial | refine sle ?_ | refine ⟨?_,rfl,?_⟩ | refine ⟨?_,by decide,rfl,?_⟩ | fail)))
  ·have hk' : k = a.length := by omega
   subst hk'
   rw [List.drop_length] at hi
   (repeat (refine stq ?_))
   refine AW_if rfl (fun hc2 => ?_) (fun hc2 => ?_)
   ·(repeat (refine stq ?_))
    exact ⟨_,_,rfl,rfl,by
     rw [hi]
     match hd : b.drop a.length with
     | [] => have := congrArg List.length hd; simp at this; omega
     | _ :: _ => rfl⟩
   ·(repeat (refine stq ?_))
    exact ⟨_,_,rfl,rfl,by
     have hbn : b.drop a.length = [] := List.drop_eq_nil_of_le (by omega)
     rw [hi,hbn]; rfl⟩
theorem f131 (a b : List Int) (ha : a.length <= 1000) (hb : b.length <= 1000) : ACalls Tryz.prog 131 [eInts a,eInts b] (fun r => r = .pv (.bool (lessN a b))):= by
 have k127 := f127 a b ha hb
 have hl := compare_lex a b
 refine ACalls.of_body hT Tryz.func131 rfl (by kernel_rfl) rfl ?_
 (repeat' (first | refine AL_skip rfl rfl ?_ | refine stq ?_ | (refine AL_do2 rfl ?_; first | refine ⟨_,op_call1 rfl rfl rfl rfl (k127),nrmA rfl ?_⟩) | ((first | (with_reducible refine AL_id ?_); (fail_if_success (refine AL_glit rfl rfl rfl (by first | exact .inl (by with_reducible rfl) | exact .inr (by with_reducible rfl)) ?_)); first | refine AL_gdec rfl rfl rfl (fun hg => ?_) (fun hg => ?_) | refine AL_gnot rfl rfl rfl (fun hg => ?_) (fun hg => ?_) | refine AL_gcases rfl rfl rfl (fun hg => ?_) (fun hg => ?_)) <;> (try (exfalso; omega))) | refine AW_if rfl (fun hc => absurd hc (by omega)) (fun _ => ?_) | refine AW_if rfl (fun _ => ?_) (fun hc => absurd (by omega) hc)))
 all_goals exact ⟨_,_,rfl,rfl,by unfold lessN; rw [<- hl]; by_cases h1 : a.length < b.length <;> by_cases h2 : a.length = b.length <;> (try simp_all) <;> (try omega)⟩
theorem f126 (a b : List Int) (ha : a.length <= 1000) (hb : b.length <= 1000) : ACalls Tryz.prog 126 [eInts a,eInts b] (fun r => r = .pv (.bool (moreN a b))):= by
 have k127 := f127 a b ha hb
 have hl := compare_lex a b
 refine ACalls.of_body hT Tryz.func126 rfl (by kernel_rfl) rfl ?_
 (repeat' (first | refine AL_skip rfl rfl ?_ | refine stq ?_ | (refine AL_do2 rfl ?_; first | refine ⟨_,op_call1 rfl rfl rfl rfl (k127),nrmA rfl ?_⟩) | ((first | (with_reducible refine AL_id ?_); (fail_if_success (refine AL_glit rfl rfl rfl (by first | exact .inl (by with_reducible rfl) | exact .inr (by with_reducible rfl)) ?_)); first | refine AL_gdec rfl rfl rfl (fun hg => ?_) (fun hg => ?_) | refine AL_gnot rfl rfl rfl (fun hg => ?_) (fun hg => ?_) | refine AL_gcases rfl rfl rfl (fun hg => ?_) (fun hg => ?_)) <;> (try (exfalso; omega))) | refine AW_if rfl (fun hc => absurd hc (by omega)) (fun _ => ?_) | refine AW_if rfl (fun _ => ?_) (fun hc => absurd (by omega) hc)))
 all_goals exact ⟨_,_,rfl,rfl,by unfold moreN; rw [<- hl]; by_cases h1 : b.length < a.length <;> by_cases h2 : a.length = b.length <;> (try simp_all) <;> (try omega)⟩
def membersB (set : Int) : List Int := ((List.range 5).filter (bitI set)).map fun i : Nat => (i : Int)
theorem membersB_eq {set : Int} (h0 : 0 <= set) (h1 : set < 32) : membersB set = membersL set:= by
 unfold membersB membersL
 congr 1
 exact List.filter_congr fun i hi => bit_has h0 h1 (List.mem_range.1 hi)
theorem f125 (set : Int) : ACalls Tryz.prog 125 [vi set] (fun r => r = .pv (eInts (membersB set))):= by
 refine ACalls.of_body hT Tryz.func125 rfl (by kernel_rfl) rfl ?_
 (repeat (refine stq ?_))
 refine AW_own_nil (e := 3) (sz := 1) (t := 3) rfl rfl ?_
 (repeat (refine stq ?_))
 refine AW_loopC (fun k : Nat => k <= 5) (fun k => mkSt [(0,.pv (vi set)),(3,.arr 0),(5,.pv (vi k))] [(0,.arr 3 1 ((((List.range k).filter (bitI set)).map fun i : Nat => (i : Int)).map eInt))] 1) (fun k => 5 - k) 0 (Nat.zero_le _) ?_ ?_
 ·(refine Le.mk ?_ ?_; all_goals (repeat' (first | exact trivial | refine sle ?_ | refine ⟨?_,rfl,?_⟩ | refine ⟨?_,by decide,rfl,?_⟩ | fail)))
 ·intro k hk
  have hlen : (((List.range k).filter (bitI set)).map fun i : Nat => (i : Int)).length <= 1000:= by
   rw [List.length_map]
   have := List.length_filter_le (bitI set) (List.range k)
   rw [List.length_range] at this; omega
  have hs : (((List.range (k + 1)).filter (bitI set)).map fun i : Nat => (i : Int)) = (((List.range k).filter (bitI set)).map fun i : Nat => (i : Int)) ++ if bitI set k then [(k : Int)] else []:= by
   rw [List.range_succ,List.filter_append,List.map_append]
   cases q : bitI set k <;> simp [q]
  have k145 := f145 set k
  (repeat (refine stq ?_))
  refine AW_if rfl (fun hc => ?_) (fun hc => ?_)
  ·generalize (((List.range k).filter (bitI set)).map fun i : Nat => (i : Int)) = ts at *
   cases q : bitI set k with
   | true =>
    rw [q] at k145 hs
    rw [if_pos rfl] at hs
    (repeat' (first | refine stq ?_ | (refine AL_do2 rfl ?_; first | refine ⟨_,op_call1 rfl rfl rfl rfl (k145),nrmA rfl ?_⟩) | (with_reducible refine AL_id ?_); (fail_if_success (refine AL_glit rfl rfl rfl (by first | exact .inl (by with_reducible rfl) | exact .inr (by with_reducible rfl)) ?_)); first | refine AL_gdec rfl rfl rfl (fun hg => ?_) (fun hg => ?_) | refine AL_gnot rfl rfl rfl (fun hg => ?_) (fun hg => ?_) | refine AL_gcases rfl rfl rfl (fun hg => ?_) (fun hg => ?_)))
    refine ⟨k + 1,by omega,by omega,?_⟩
    rw [hs]
    (refine Le.mkR [(0,2)] ?_ ?_ rfl; all_goals (repeat' (first | exact trivial | refine sle ?_ | refine ⟨?_,rfl,?_⟩ | refine ⟨?_,by decide,rfl,?_⟩ | fail)))
    rw [List.map_append]; rfl
   | false =>
    rw [q] at k145 hs
    rw [if_neg (by simp),List.append_nil] at hs
    (repeat' (first | refine stq ?_ | (refine AL_do2 rfl ?_; first | refine ⟨_,op_call1 rfl rfl rfl rfl (k145),nrmA rfl ?_⟩) | (with_reducible refine AL_id ?_); (fail_if_success (refine AL_glit rfl rfl rfl (by first | exact .inl (by with_reducible rfl) | exact .inr (by with_reducible rfl)) ?_)); first | refine AL_gdec rfl rfl rfl (fun hg => ?_) (fun hg => ?_) | refine AL_gnot rfl rfl rfl (fun hg => ?_) (fun hg => ?_) | refine AL_gcases rfl rfl rfl (fun hg => ?_) (fun hg => ?_)))
    refine ⟨k + 1,by omega,by omega,?_⟩
    rw [hs]
    (refine Le.mk ?_ ?_; all_goals (repeat' (first | exact trivial | refine sle ?_ | refine ⟨?_,rfl,?_⟩ | refine ⟨?_,by decide,rfl,?_⟩ | fail)))
  ·have h5 : k = 5 := by omega
   subst h5
   refine AW_pure (t := 3) rfl rfl ?_
   (repeat (refine stq ?_))
   exact ⟨_,_,rfl,rfl,rfl⟩
def foldBest (better : List Int -> List Int -> Bool) (l : List (List Int)) : List Int := (bestL better l).getD []
theorem foldBest_succ {better : List Int -> List Int -> Bool} {l : List (List Int)} {k : Nat} {x : List Int} (h : l[k]? = some x) : foldBest better (l.take (k + 1)) = if k = 0 then x else if better x (foldBest better (l.take k)) then x else foldBest better (l.take k):= by
 rw [List.take_add_one,h]
 cases l with
 | nil => simp at h
 | cons y l =>
  cases k with
  | zero => simp at h; subst h; simp [foldBest,bestL]
  | succ k =>
   simp [foldBest,bestL,List.foldl_append]
   first | done | rfl | congr
theorem foldBest_mem {better : List Int -> List Int -> Bool} {l : List (List Int)} (h : l ≠ []) : foldBest better l ∈ l:= by
 cases l with
 | nil => exact absurd rfl h
 | cons y l =>
  have key : ∀ (l : List (List Int)) (y : List Int),l.foldl (fun o y => if better y o then y else o) y = y \/ l.foldl (fun o y => if better y o then y else o) y ∈ l:= by
   intro l
   induction l with
   | nil => intro y; exact .inl rfl
   | cons z l ih =>
    intro y
    simp only [List.foldl_cons]
    rcases ih (if better z y then z else y) with q | q
    ·rw [q]; split
     ·exact .inr (by simp)
     ·exact .inl rfl
    ·exact .inr (by simp [q])
  simp only [foldBest,bestL,Option.getD_some]
  rcases key l y with q | q
  ·rw [q]; simp
  ·simp [q]
set_option maxHeartbeats 4000000 in
theorem f123 (l : List (List Int)) (g : Nat) (caps : List PV) (better : List Int -> List Int -> Bool) (hl : l.length <= 1000) (hg : ∀ x ∈ l,∀ y ∈ l,ACalls Tryz.prog g ([eInts x,eInts y] ++ caps) (fun r => r = .pv (.bool (better x y)))) :
  ACalls Tryz.prog 123 [eRows l,.fn g caps] (fun r => r = .tup [eInts (foldBest better l),.bool (decide ((l.length : Int) > 0))]):= by
 refine ACalls.of_body hT Tryz.func123 rfl (by kernel_rfl) rfl ?_
 (repeat (refine stq ?_))
 refine AW_own_nil (e := 3) (sz := 1) (t := 6) rfl rfl ?_
 refine AW_pure (t := 6) rfl rfl ?_
 (repeat (refine stq ?_))
 refine AW_loopC (fun k : Nat => k <= l.length) (fun k => mkSt [(0,.pv (eRows l)),(1,.pv (.fn g caps)),(6,.pv (eInts (foldBest better (l.take k)))),(9,.pv (eRows l)),(10,.pv (vi l.length)),(11,.pv (vi k))] [] 0) (fun k => l.length - k) 0 (Nat.zero_le _) ?_ ?_
 ·(refine Le.mk ?_ ?_; all_goals (repeat' (first | exact trivial | refine sle ?_ | refine ⟨?_,rfl,?_⟩ | refine ⟨?_,by decide,rfl,?_⟩ | fail)))
 ·intro k hk
  (repeat (refine stq ?_))
  refine AW_if rfl (fun hc => ?_) (fun hc => ?_)
  ·have hk' : k < l.length := by omega
   obtain ⟨x,hx⟩ : ∃ x,l[k]? = some x := ⟨l[k],by simp [hk']⟩
   have e1 := get_map eRow hx
   have hs := foldBest_succ (better := better) hx
   by_cases h0 : k = 0
   ·rw [if_pos h0] at hs
    subst h0
    (repeat (refine stq ?_))
    refine ⟨0 + 1,hk',by omega,?_⟩
    rw [hs]
    (refine Le.mk ?_ ?_; all_goals (repeat' (first | exact trivial | refine sle ?_ | refine ⟨?_,rfl,?_⟩ | refine ⟨?_,by decide,rfl,?_⟩ | fail)))
   ·rw [if_neg h0] at hs
    have kg := hg x (List.mem_of_getElem? hx) (foldBest better (l.take k)) (List.mem_of_mem_take (foldBest_mem (fun e => by have := congrArg List.length e; rw [List.length_take] at this; simp only [List.length_nil] at this; omega)))
    generalize foldBest better (l.take k) = o at *
    cases q : better x o with
    | true =>
     rw [q] at kg hs
     rw [if_pos rfl] at hs
     (repeat' (first | refine stq ?_ | (refine AL_do2 rfl ?_; first | refine ⟨_,op_call1 rfl rfl rfl rfl (kg),nrmA rfl ?_⟩) | (with_reducible refine AL_id ?_); (fail_if_success (refine AL_glit rfl rfl rfl (by first | exact .inl (by with_reducible rfl) | exact .inr (by with_reducible rfl)) ?_)); first | refine AL_gdec rfl rfl rfl (fun hg => ?_) (fun hg => ?_) | refine AL_gnot rfl rfl rfl (fun hg => ?_) (fun hg => ?_) | refine AL_gcases rfl rfl rfl (fun hg => ?_) (fun hg => ?_)))
     all_goals (try (exfalso; omega))
     refine ⟨k + 1,hk',by omega,?_⟩
     rw [hs]
     (refine Le.mk ?_ ?_; all_goals (repeat' (first | exact trivial | refine sle ?_ | refine ⟨?_,rfl,?_⟩ | refine ⟨?_,by decide,rfl,?_⟩ | fail)))
    | false =>
     rw [q] at kg hs
     rw [if_neg (by simp)] at hs
     (repeat' (first | refine stq ?_ | (refine AL_do2 rfl ?_; first | refine ⟨_,op_call1 rfl rfl rfl rfl (kg),nrmA rfl ?_⟩) | (with_reducible refine AL_id ?_); (fail_if_success (refine AL_glit rfl rfl rfl (by first | exact .inl (by with_reducible rfl) | exact .inr (by with_reducible rfl)) ?_)); first | refine AL_gdec rfl rfl rfl (fun hg => ?_) (fun hg => ?_) | refine AL_gnot rfl rfl rfl (fun hg => ?_) (fun hg => ?_) | refine AL_gcases rfl rfl rfl (fun hg => ?_) (fun hg => ?_)))
     all_goals (try (exfalso; omega))
     refine ⟨k + 1,hk',by omega,?_⟩
     rw [hs]
     (refine Le.mk ?_ ?_; all_goals (repeat' (first | exact trivial | refine sle ?_ | refine ⟨?_,rfl,?_⟩ | refine ⟨?_,by decide,rfl,?_⟩ | fail)))
  ·have hk' : k = l.length := by omega
   subst hk'
   rw [List.take_length]
   (repeat (refine stq ?_))
   exact ⟨_,_,rfl,rfl,rfl⟩
end Go.Abs
namespace Go.Abs
open Go.Proofs
set_option linter.unusedVariables false
set_option linter.unusedSimpArgs false
set_option maxRecDepth 100000
def restBitsOK : Bool := (List.range 6).all fun n => (List.range 32).all fun s => (List.range 5).all fun i => bitI (andNotR .i64 (allB n) (s : Int)) i == (decide (i < n) && !bitI (s : Int) i)
theorem rest_bits_ok : restBitsOK = true := by decide +kernel
theorem rest_bit {n i : Nat} {set : Int} (hn : n <= 5) (h0 : 0 <= set) (h1 : set < 32) (hi : i < n) : bitI (andNotR .i64 (allB n) set) i = !bitI set i:= by
 obtain ⟨m,rfl⟩ : ∃ m : Nat,set = m := ⟨set.toNat,by omega⟩
 have := List.all_eq_true.1 (List.all_eq_true.1 (List.all_eq_true.1 rest_bits_ok n (List.mem_range.2 (by omega))) m (List.mem_range.2 (by omega))) i (List.mem_range.2 (by omega))
 have h : bitI (andNotR .i64 (allB n) (m : Int)) i = (decide (i < n) && !bitI (m : Int) i) := by simpa using this
 rw [h]; simp [hi]
def canB (W : List Span) (set : Int) : Bool := openS (ofB W (andNotR .i64 (allB W.length) set))
theorem can_rest {W : List Span} {set : Int} (hn : W.length <= 5) (h0 : 0 <= set) (h1 : set < 32) : canB W set = restB W (membersL set):= by
 unfold canB restB ofB
 rw [pick_congr fun i hi => ?_]
 rw [rest_bit hn h0 h1 hi,bit_has h0 h1 (by omega)]
 congr 1
 rw [Bool.eq_iff_iff,List.contains_iff_mem]
 simp only [membersL,List.mem_map,List.mem_filter,List.mem_range]
 constructor
 ·intro h; exact ⟨i,⟨by omega,h⟩,rfl⟩
 ·rintro ⟨j,⟨_,h2⟩,h3⟩
  have : j = i := by omega
  rw [<- this]; exact h2
theorem can_zero {W : List Span} {set : Int} (hn : W.length <= 5) (h0 : 0 <= set) (h1 : set < 32) (hz : andNotR .i64 (allB W.length) set = 0) : canB W set = true:= by
 unfold canB ofB
 rw [hz]
 have : pick W (bitI 0) = []:= by
  unfold pick
  rw [List.map_eq_nil_iff,List.filter_eq_nil_iff]
  intro x hx
  have hi := (List.getElem?_eq_some_iff.1 (List.mem_zipIdx_iff_getElem?.1 hx)).1
  have := bit_has (set := 0) (i := x.2) (by omega) (by omega) (by omega)
  rw [this]; simp [hasI]
 rw [this]; rfl
def canL (W : List Span) (k : Nat) : List (List Int) := ((List.range k).filter fun s : Nat => canB W (s : Int)).map fun s : Nat => membersB (s : Int)
theorem canL_succ (W : List Span) (k : Nat) : canL W (k + 1) = canL W k ++ if canB W (k : Int) then [membersB (k : Int)] else []:= by
 unfold canL
 rw [List.range_succ,List.filter_append,List.map_append]
 cases q : canB W (k : Int) <;> simp [q]
theorem canL_len (W : List Span) (k : Nat) : (canL W k).length <= k:= by
 unfold canL
 rw [List.length_map]
 have := List.length_filter_le (fun s : Nat => canB W (s : Int)) (List.range k)
 rwa [List.length_range] at this
theorem canL_elem {W : List Span} {k : Nat} {x : List Int} (h : x ∈ canL W k) : x.length <= 5:= by
 obtain ⟨s,_,rfl⟩ := List.mem_map.1 h
 unfold membersB
 rw [List.length_map]
 have := List.length_filter_le (bitI (s : Int)) (List.range 5)
 rwa [List.length_range] at this
theorem pow_le {n : Nat} (h : n <= 5) : 2 ^ n <= 32 := Nat.pow_le_pow_right (by decide) h
theorem named_best {W : List Span} (h1 : 1 <= W.length) (h5 : W.length <= 5) : foldBest lessN (canL W (2 ^ W.length)) = namedI W:= by
 obtain ⟨r1,_,p1,_⟩ := orders_ok h1 h5
 have hp := pow_le h5
 simp only [permB,Bool.and_eq_true,List.all_eq_true,List.mem_range,List.contains_iff_mem,List.any_eq_true] at p1
 unfold foldBest namedI
 rw [best_find r1]
 intro x
 simp only [canL,List.mem_map,List.mem_filter,List.mem_range]
 constructor
 ·rintro ⟨s,⟨hs,hc⟩,rfl⟩
  rw [membersB_eq (by omega) (by omega)]
  exact ⟨p1.1 s hs,by rw [<- can_rest h5 (by omega) (by omega)]; exact hc⟩
 ·rintro ⟨hO,hr⟩
  obtain ⟨s,hs,he⟩ := p1.2 x hO
  have he : membersL (s : Int) = x := by simpa using he
  refine ⟨s,⟨hs,?_⟩,by rw [membersB_eq (by omega) (by omega),he]⟩
  rw [can_rest h5 (by omega) (by omega),he]; exact hr
def namedE (d : Drum) : List Int × Int := if errE d true = 0 then (namedI (winP d),0) else ([],errE d true)
set_option maxHeartbeats 4000000 in
theorem f56 (d : Drum) (hd : drumOK d) : ACalls Tryz.prog 56 [eDrum d] (fun r => r = .tup [eInts (namedE d).1,vi (namedE d).2]):= by
 have k84 := f84 d true hd
 refine ACalls.of_body hT Tryz.func56 rfl (by kernel_rfl) rfl ?_
 by_cases he : errE d true = 0
 ·obtain ⟨hP,_,hne,ha⟩ := asked_ok he
  rw [ha] at k84
  have k84 : ACalls Tryz.prog 84 [eDrum d,.bool true] (fun r => r = .tup [.sl ((filledL d).map (eFilled d)),vi 0]) := k84
  have hwl : (winP d).length <= 5 := by rw [winP_len]; exact hP.b1
  have hw1 : 1 <= (winP d).length := by rw [winP_len]; exact hP.b0
  have hsh := shl_small hwl
  have hpw : (2 : Int) ^ (winP d).length = ((2 ^ (winP d).length : Nat) : Int) := by simp
  have hp32 := pow_le hwl
  have hall : allB (winP d).length + 1 = ((2 ^ (winP d).length : Nat) : Int) := by unfold allB; omega
  rw [namedE,if_pos he,<- named_best hw1 hwl]
  (repeat' (first | refine stq ?_ | (refine AL_do2 rfl ?_; first | refine ⟨_,op_call1 rfl rfl rfl rfl (k84),nrmA rfl ?_⟩) | (with_reducible refine AL_id ?_); (fail_if_success (refine AL_glit rfl rfl rfl (by first | exact .inl (by with_reducible rfl) | exact .inr (by with_reducible rfl)) ?_)); first | refine AL_gdec rfl rfl rfl (fun hg => ?_) (fun hg => ?_) | refine AL_gnot rfl rfl rfl (fun hg => ?_) (fun hg => ?_) | refine AL_gcases rfl rfl rfl (fun hg => ?_) (fun hg => ?_)))
  refine AL_doS rfl (op_callXs (objs := []) (n := 0) [] [] [] (fun av => f98 d hP hne) rfl rfl rfl rfl (by (repeat' (first | exact trivial | refine And.intro ?_ ?_)); all_goals (first | rfl | decide)) rfl (by (repeat' (first | exact trivial | refine And.intro ?_ ?_)); all_goals (first | rfl | decide)) rfl trivial (by simp) (fun av sf h => trivial)) ?_
  rintro s' ⟨av,sf,⟨l,rfl⟩,rfl⟩
  generalize winP d = W at *
  have k100 := f100 l W hwl
  (repeat' (first | refine stq ?_ | (refine AL_do2 rfl ?_; first | refine ⟨_,op_callMemo rfl rfl rfl (by (repeat' (first | exact trivial | refine And.intro ?_ ?_)); all_goals (first | rfl | decide)) rfl rfl k100,?_⟩) | (with_reducible refine AL_id ?_); (fail_if_success (refine AL_glit rfl rfl rfl (by first | exact .inl (by with_reducible rfl) | exact .inr (by with_reducible rfl)) ?_)); first | refine AL_gdec rfl rfl rfl (fun hg => ?_) (fun hg => ?_) | refine AL_gnot rfl rfl rfl (fun hg => ?_) (fun hg => ?_) | refine AL_gcases rfl rfl rfl (fun hg => ?_) (fun hg => ?_)))
  refine AW_own_nil (e := 23) (sz := 1) (t := 7) rfl rfl ?_
  (repeat' (first | refine stq ?_ | (refine AL_do2 rfl ?_; first | refine ⟨_,op_callMemo rfl rfl rfl (by (repeat' (first | exact trivial | refine And.intro ?_ ?_)); all_goals (first | rfl | decide)) rfl rfl k100,?_⟩) | (with_reducible refine AL_id ?_); (fail_if_success (refine AL_glit rfl rfl rfl (by first | exact .inl (by with_reducible rfl) | exact .inr (by with_reducible rfl)) ?_)); first | refine AL_gdec rfl rfl rfl (fun hg => ?_) (fun hg => ?_) | refine AL_gnot rfl rfl rfl (fun hg => ?_) (fun hg => ?_) | refine AL_gcases rfl rfl rfl (fun hg => ?_) (fun hg => ?_)))
  refine AW_loopC (fun k : Nat => k <= 2 ^ W.length) (fun k => mkSt [(6,.box 2 0),(7,.arr 3),(25,.pv (vi (allB W.length + 1))),(26,.pv (vi k))] [(1,memoO (memoF W) l),(2,.box [.pv (eSpans W),.mp 1]),(3,.arr 23 1 ((canL W k).map eRow))] 4) (fun k => 2 ^ W.length - k) 0 (Nat.zero_le _) ?_ ?_
  ·(refine Le.mk ?_ ?_; all_goals (repeat' (first | exact trivial | refine sle ?_ | refine ⟨?_,rfl,?_⟩ | refine ⟨?_,by decide,rfl,?_⟩ | fail)))
  ·intro k hk
   (repeat (refine stq ?_))
   refine AW_if rfl (fun hc => ?_) (fun hc => ?_)
   ·have hk' : k < 2 ^ W.length := by omega
    have hsn := canL_succ W k
    have hcl : (canL W k).length <= 1000 := by have := canL_len W k; omega
    have hcz := can_zero (W := W) (set := k) hwl (by omega) (by omega)
    have k99 := f99 l W (andNotR .i64 (allB W.length) k) (by omega)
    have hcd : canB W k = openS (ofB W (andNotR .i64 (allB W.length) k)) := rfl
    have k125 := f125 k
    generalize canL W k = ts at *
    generalize membersB k = x at *
    by_cases hz : andNotR .i64 (allB W.length) k = 0
    ·rw [hcz hz,if_pos rfl] at hsn
     (repeat' (first | refine stq ?_ | (refine AL_do2 rfl ?_; first | refine ⟨_,op_callMemo rfl rfl rfl (by (repeat' (first | exact trivial | refine And.intro ?_ ?_)); all_goals (first | rfl | decide)) rfl rfl k100,?_⟩ | refine ⟨_,op_andNot rfl rfl rfl rfl,?_⟩ | refine ⟨_,op_call1 rfl rfl rfl rfl (k125),nrmA rfl ?_⟩) | ((first | (with_reducible refine AL_id ?_); (fail_if_success (refine AL_glit rfl rfl rfl (by first | exact .inl (by with_reducible rfl) | exact .inr (by with_reducible rfl)) ?_)); first | refine AL_gdec rfl rfl rfl (fun hg => ?_) (fun hg => ?_) | refine AL_gnot rfl rfl rfl (fun hg => ?_) (fun hg => ?_) | refine AL_gcases rfl rfl rfl (fun hg => ?_) (fun hg => ?_)) <;> (try (exfalso; omega))) | refine AW_if rfl (fun hc => absurd hc (by omega)) (fun _ => ?_) | refine AW_if rfl (fun _ => ?_) (fun hc => absurd (by omega) hc)))
     refine ⟨k + 1,hk',by omega,?_⟩
     rw [hsn]
     (refine Le.mkR [(1,1),(2,2),(3,5)] ?_ ?_ rfl; all_goals (repeat' (first | exact trivial | refine sle ?_ | refine ⟨?_,rfl,?_⟩ | refine ⟨?_,by decide,rfl,?_⟩ | fail)))
     rw [List.map_append]; rfl
    ·cases q : openS (ofB W (andNotR .i64 (allB W.length) k)) with
     | true =>
      rw [q] at k99 hcd
      rw [hcd,if_pos rfl] at hsn
      (repeat' (first | refine stq ?_ | (refine AL_do2 rfl ?_; first | refine ⟨_,op_callMemo rfl rfl rfl (by (repeat' (first | exact trivial | refine And.intro ?_ ?_)); all_goals (first | rfl | decide)) rfl rfl k100,?_⟩ | refine ⟨_,op_andNot rfl rfl rfl rfl,?_⟩ | refine ⟨_,op_call1 rfl rfl rfl rfl (k125),nrmA rfl ?_⟩ | refine ⟨_,op_callMemo rfl rfl rfl (by (repeat' (first | exact trivial | refine And.intro ?_ ?_)); all_goals (first | rfl | decide)) rfl rfl k99,?_⟩) | ((first | (with_reducible refine AL_id ?_); (fail_if_success (refine AL_glit rfl rfl rfl (by first | exact .inl (by with_reducible rfl) | exact .inr (by with_reducible rfl)) ?_)); first | refine AL_gdec rfl rfl rfl (fun hg => ?_) (fun hg => ?_) | refine AL_gnot rfl rfl rfl (fun hg => ?_) (fun hg => ?_) | refine AL_gcases rfl rfl rfl (fun hg => ?_) (fun hg => ?_)) <;> (try (exfalso; omega))) | refine AW_if rfl (fun hc => absurd hc (by omega)) (fun _ => ?_) | refine AW_if rfl (fun _ => ?_) (fun hc => absurd (by omega) hc)))
      refine ⟨k + 1,hk',by omega,?_⟩
      rw [hsn]
      (refine Le.mkR [(1,1),(2,2),(3,5)] ?_ ?_ rfl; all_goals (repeat' (first | exact trivial | refine sle ?_ | refine ⟨?_,rfl,?_⟩ | refine ⟨?_,by decide,rfl,?_⟩ | fail)))
      rw [List.map_append]; rfl
     | false =>
      rw [q] at k99 hcd
      rw [hcd,if_neg (by simp),List.append_nil] at hsn
      (repeat' (first | refine stq ?_ | (refine AL_do2 rfl ?_; first | refine ⟨_,op_callMemo rfl rfl rfl (by (repeat' (first | exact trivial | refine And.intro ?_ ?_)); all_goals (first | rfl | decide)) rfl rfl k100,?_⟩ | refine ⟨_,op_andNot rfl rfl rfl rfl,?_⟩ | refine ⟨_,op_call1 rfl rfl rfl rfl (k125),nrmA rfl ?_⟩ | refine ⟨_,op_callMemo rfl rfl rfl (by (repeat' (first | exact trivial | refine And.intro ?_ ?_)); all_goals (first | rfl | decide)) rfl rfl k99,?_⟩) | ((first | (with_reducible refine AL_id ?_); (fail_if_success (refine AL_glit rfl rfl rfl (by first | exact .inl (by with_reducible rfl) | exact .inr (by with_reducible rfl)) ?_)); first | refine AL_gdec rfl rfl rfl (fun hg => ?_) (fun hg => ?_) | refine AL_gnot rfl rfl rfl (fun hg => ?_) (fun hg => ?_) | refine AL_gcases rfl rfl rfl (fun hg => ?_) (fun hg => ?_)) <;> (try (exfalso; omega))) | refine AW_if rfl (fun hc => absurd hc (by omega)) (fun _ => ?_) | refine AW_if rfl (fun _ => ?_) (fun hc => absurd (by omega) hc)))
      refine ⟨k + 1,hk',by omega,?_⟩
      rw [hsn]
      (refine Le.mk ?_ ?_; all_goals (repeat' (first | exact trivial | refine sle ?_ | refine ⟨?_,rfl,?_⟩ | refine ⟨?_,by decide,rfl,?_⟩ | fail)))
   ·have hk' : k = 2 ^ W.length := by omega
    subst hk'
    have k123 := f123 (canL W (2 ^ W.length)) 131 [] lessN (by have := canL_len W (2 ^ W.length); omega) (fun x hx y hy => f131 x y (by have := canL_elem hx; omega) (by have := canL_elem hy; omega))
    refine AW_pure (t := 7) rfl rfl ?_
    (repeat' (first | refine stq ?_ | (refine AL_do2 rfl ?_; first | refine ⟨_,op_call1 rfl rfl rfl rfl (k123),nrmA rfl ?_⟩) | (with_reducible refine AL_id ?_); (fail_if_success (refine AL_glit rfl rfl rfl (by first | exact .inl (by with_reducible rfl) | exact .inr (by with_reducible rfl)) ?_)); first | refine AL_gdec rfl rfl rfl (fun hg => ?_) (fun hg => ?_) | refine AL_gnot rfl rfl rfl (fun hg => ?_) (fun hg => ?_) | refine AL_gcases rfl rfl rfl (fun hg => ?_) (fun hg => ?_)))
    exact ⟨_,_,rfl,rfl,rfl⟩
 ·rw [asked_err he] at k84
  have k84 : ACalls Tryz.prog 84 [eDrum d,.bool true] (fun r => r = .tup [.sl [],vi (errE d true)]) := k84
  (repeat' (first | refine stq ?_ | (refine AL_do2 rfl ?_; first | refine ⟨_,op_call1 rfl rfl rfl rfl (k84),nrmA rfl ?_⟩) | (with_reducible refine AL_id ?_); (fail_if_success (refine AL_glit rfl rfl rfl (by first | exact .inl (by with_reducible rfl) | exact .inr (by with_reducible rfl)) ?_)); first | refine AL_gdec rfl rfl rfl (fun hg => ?_) (fun hg => ?_) | refine AL_gnot rfl rfl rfl (fun hg => ?_) (fun hg => ?_) | refine AL_gcases rfl rfl rfl (fun hg => ?_) (fun hg => ?_)))
  refine AW_if rfl (fun hc => ?_) (fun hc => absurd (by omega) hc)
  (repeat (refine stq ?_))
  exact ⟨_,_,rfl,rfl,by rw [namedE,if_neg he]; rfl⟩
end Go.Abs
