/- Putting in acid before an hour, in plain Lean: with no strip at that hour, or later, the same acids are possible. -/
import Derived.Test.YtmplfjolcdlipaaGreatDoorJDrB
import Derived.Test.YtmplfjolcdlipaaGreatDoorJDrE
import Derived.Test.YtmplfjolcdlipaaGreatDoorJDrL
import Derived.Test.YtmplfjolcdlipaaGreatDoorJDrF
set_option linter.unusedVariables false
set_option linter.unusedSimpArgs false
namespace Go.Abs
set_option linter.unusedVariables false
def putD (d : Drum) (h : Nat) (n : Int) : Drum := { d with adds := d.adds.set h n }
theorem put_P {d : Drum} (hd : DrumP d) (h : Nat) {n : Int} (h0 : 0 <= n) (h1 : n <= 100) : DrumP (putD d h n):= by
 refine ⟨hd.a0,hd.a1,hd.k0,hd.k1,hd.h0,hd.h1,?_,hd.sl,hd.b0,hd.b1,hd.acid,fun m hm => ?_,hd.strip,hd.batch⟩
 ·show (((d.adds.set h n).length : Nat) : Int) = d.hours
  rw [List.length_set]; exact hd.al
 ·rcases List.mem_or_eq_of_mem_set hm with hm | rfl
  ·exact hd.add m hm
  ·exact ⟨h0,h1⟩
theorem stripped_none {l : List Strip} {i : Nat} (h : ∀ s ∈ l,s.hour ≠ (i : Int)) : ∀ (x : Span),stripped l i x = x:= by
 induction l with
 | nil => intro x; rfl
 | cons s l ih =>
  intro x
  simp only [stripped,List.foldl_cons,if_neg (h s (by simp))]
  exact ih (fun t ht => h t (by simp [ht])) x
theorem fwd_put {d : Drum} {a : Acid} {h : Nat} {n : Int} : ∀ {i : Nat},i < h -> fwdS (putD d h n) a i = fwdS d a i
 | 0,hi => by
  have : (d.adds.set h n).getD 0 0 = d.adds.getD 0 0 := by rw [List.getD_eq_getElem?_getD,List.getElem?_set_ne (by omega),List.getD_eq_getElem?_getD]
  simp only [fwdS,putD,this]
 | i + 1,hi => by
  have : (d.adds.set h n).getD (i + 1) 0 = d.adds.getD (i + 1) 0 := by rw [List.getD_eq_getElem?_getD,List.getElem?_set_ne (by omega),List.getD_eq_getElem?_getD]
  have ih := fwd_put (d := d) (a := a) (h := h) (n := n) (i := i) (by omega)
  simp only [fwdS,ih]
  simp only [putD,this]
theorem may_cut {d : Drum} {a : Acid} (ha : AcidP a) {h : Nat} (hl : ∀ s ∈ d.strips,s.hour < (h : Int)) : mayB d a = true ↔ ∀ i,i < h -> i < d.hours.toNat -> (fwdS d a i).low <= (fwdS d a i).high:= by
 rw [mayB_iff]
 refine ⟨fun g i _ hi => g i hi,fun g i hi => ?_⟩
 have hs := ha.s1; have hf := ha.f1
 induction i with
 | zero =>
  by_cases h0 : 0 < h
  ·exact g 0 h0 hi
  ·simp only [fwdS]
   rw [stripped_none (fun s hs => by have := hl s hs; omega)]
   simp only [initS]; omega
 | succ i ih =>
  by_cases h0 : i + 1 < h
  ·exact g _ h0 hi
  ·have := ih (by omega)
   simp only [fwdS]
   rw [stripped_none (fun s hs => by have := hl s hs; omega)]
   simp only [afterS]; omega
theorem may_put {d : Drum} {a : Acid} (ha : AcidP a) {h : Nat} {n : Int} (hl : ∀ s ∈ d.strips,s.hour < (h : Int)) : mayB (putD d h n) a = mayB d a:= by
 rw [Bool.eq_iff_iff,may_cut ha (d := putD d h n) hl,may_cut ha hl]
 constructor
 ·intro g i h1 h2
  have := g i h1 h2
  rwa [fwd_put h1] at this
 ·intro g i h1 h2
  rw [fwd_put h1]; exact g i h1 h2
theorem filled_put {d : Drum} (hd : DrumP d) {h : Nat} {n : Int} (hl : ∀ s ∈ d.strips,s.hour < (h : Int)) : filledL (putD d h n) = filledL d:= by
 unfold filledL
 refine List.filter_congr fun p hp => ?_
 have hm : p.1 ∈ d.acids:= by
  obtain ⟨a,k⟩ := p
  exact List.mem_of_getElem? (List.mem_zipIdx_iff_getElem?.1 hp)
 rw [may_put (hd.acid _ hm) hl]
 rfl
theorem late_iff {d : Drum} {hour : Int} (h0 : 0 <= hour) (h : lateB d hour = false) : ∀ s ∈ d.strips,s.hour < (hour.toNat : Int):= by
 intro s hs
 have := List.any_eq_false.1 h s hs
 simp at this
 omega
def fineT (d : Drum) (hour by_ : Int) : Bool := inB hour 0 (d.hours - 1) && inB by_ (hour + 1) d.hours
def topB (d : Drum) (h : Nat) (by_ : Int) (n : Nat) : Bool := inB by_ (allW (putD d h n)).low (allW (putD d h n)).high
def topO (d : Drum) (h : Nat) (by_ : Int) : Option Nat := (List.range 101).find? (topB d h by_)
def topE (d : Drum) (hour by_ : Int) : Int × Int :=
 if errE d (fineT d hour by_) = 0 then (if lateB d hour then (0,7) else match topO d hour.toNat by_ with | some n => ((n : Int),0) | none => (0,5)) else (0,errE d (fineT d hour by_))
theorem topO_some {d : Drum} {h : Nat} {b : Int} {k : Nat} (hk : k < 101) (hp : topB d h b k = true) (hn : ∀ i,i < k -> topB d h b i = false) : topO d h b = some k:= by
 unfold topO
 rw [List.find?_range_eq_some]
 exact ⟨hp,List.mem_range.2 hk,fun j hj => by simp [hn j hj]⟩
theorem topO_none {d : Drum} {h : Nat} {b : Int} (hn : ∀ i,i < 101 -> topB d h b i = false) : topO d h b = none:= by
 unfold topO
 rw [List.find?_eq_none]
 intro i hi
 rw [hn i (List.mem_range.1 hi)]; simp
def addsK (d : Drum) (h k : Nat) : List Int := if k = 0 then d.adds else d.adds.set h ((k : Int) - 1)
theorem addsK_len (d : Drum) (h k : Nat) : (addsK d h k).length = d.adds.length := by unfold addsK; split <;> simp
theorem addsK_set (d : Drum) (h k : Nat) : (addsK d h k).set h (k : Int) = d.adds.set h (k : Int) := by unfold addsK; split <;> simp [List.set_set]
theorem addsK_succ (d : Drum) (h k : Nat) : addsK d h (k + 1) = d.adds.set h (k : Int):= by
 unfold addsK
 rw [if_neg (by omega),show (((k + 1 : Nat) : Int) - 1) = (k : Int) by omega]
end Go.Abs
namespace Go.Abs
open Go.Proofs
set_option linter.unusedVariables false
set_option linter.unusedSimpArgs false
set_option maxRecDepth 100000
def twoBitsOK : Bool := (List.range 5).all fun a => (List.range 5).all fun b => (List.range 5).all fun i => bitI (orR .i64 (shlR .i64 1 (a : Nat)) (shlR .i64 1 (b : Nat))) i == (decide ((i : Int) = (a : Nat)) || decide ((i : Int) = (b : Nat)))
theorem two_bits_ok : twoBitsOK = true := by decide +kernel
def farP (W : List Span) (a b : Int) : Bool := !openS (meetL (pick W fun i => decide ((i : Int) = a) || decide ((i : Int) = b)))
theorem apartB_eq (W : List Span) (l : List Int) : apartB W l = pairsB (farP W) l := rfl
theorem pair_open {W : List Span} (hW : W.length <= 5) {a b : Int} (ha : 0 <= a /\ a < 5) (hb : 0 <= b /\ b < 5) : openS (ofB W (orR .i64 (shlR .i64 1 a) (shlR .i64 1 b))) = !farP W a b:= by
 obtain ⟨m,rfl⟩ : ∃ m : Nat,a = m := ⟨a.toNat,by omega⟩
 obtain ⟨n,rfl⟩ : ∃ n : Nat,b = n := ⟨b.toNat,by omega⟩
 unfold farP ofB
 rw [Bool.not_not,pick_congr fun i hi => ?_]
 have := List.all_eq_true.1 (List.all_eq_true.1 (List.all_eq_true.1 two_bits_ok m (List.mem_range.2 (by omega))) n (List.mem_range.2 (by omega))) i (List.mem_range.2 (by omega))
 simpa using this
def apL (W : List Span) (k : Nat) : List (List Int) := ((List.range k).filter fun s : Nat => apartB W (membersB (s : Int))).map fun s : Nat => membersB (s : Int)
theorem apL_succ (W : List Span) (k : Nat) : apL W (k + 1) = apL W k ++ if apartB W (membersB (k : Int)) then [membersB (k : Int)] else []:= by
 unfold apL
 rw [List.range_succ,List.filter_append,List.map_append]
 cases q : apartB W (membersB (k : Int)) <;> simp [q]
theorem apL_len (W : List Span) (k : Nat) : (apL W k).length <= k:= by
 unfold apL
 rw [List.length_map]
 have := List.length_filter_le (fun s : Nat => apartB W (membersB (s : Int))) (List.range k)
 rwa [List.length_range] at this
theorem membersB_len (set : Int) : (membersB set).length <= 5:= by
 unfold membersB
 rw [List.length_map]
 have := List.length_filter_le (bitI set) (List.range 5)
 rwa [List.length_range] at this
theorem membersB_mem {set x : Int} (h : x ∈ membersB set) : 0 <= x /\ x < 5:= by
 unfold membersB at h
 obtain ⟨i,hi,rfl⟩ := List.mem_map.1 h
 have := List.mem_range.1 (List.mem_filter.1 hi).1
 omega
theorem apL_elem {W : List Span} {k : Nat} {x : List Int} (h : x ∈ apL W k) : x.length <= 5:= by
 obtain ⟨s,_,rfl⟩ := List.mem_map.1 h
 exact membersB_len _
theorem longest_best {W : List Span} (h1 : 1 <= W.length) (h5 : W.length <= 5) : foldBest moreN (apL W (2 ^ W.length)) = longestI W:= by
 obtain ⟨_,r1,_,p1⟩ := orders_ok h1 h5
 have hp := pow_le h5
 simp only [permB,Bool.and_eq_true,List.all_eq_true,List.mem_range,List.contains_iff_mem,List.any_eq_true] at p1
 unfold foldBest longestI
 rw [best_find r1]
 intro x
 simp only [apL,List.mem_map,List.mem_filter,List.mem_range]
 constructor
 ·rintro ⟨s,⟨hs,hc⟩,rfl⟩
  rw [membersB_eq (by omega) (by omega)] at hc ⊢
  exact ⟨p1.1 s hs,hc⟩
 ·rintro ⟨hO,hr⟩
  obtain ⟨s,hs,he⟩ := p1.2 x hO
  have he : membersL (s : Int) = x := by simpa using he
  refine ⟨s,⟨hs,?_⟩,by rw [membersB_eq (by omega) (by omega),he]⟩
  rw [membersB_eq (by omega) (by omega),he]; exact hr
def apartE (d : Drum) : List Int × Int := if errE d true = 0 then (if eachB (winP d) then (longestI (winP d),0) else ([],5)) else ([],errE d true)
set_option maxHeartbeats 8000000 in
theorem f46 (d : Drum) (hd : drumOK d) : ACalls Tryz.prog 46 [eDrum d] (fun r => r = .tup [eInts (apartE d).1,vi (apartE d).2]):= by
 have k84 := f84 d true hd
 refine ACalls.of_body hT Tryz.func46 rfl (by kernel_rfl) rfl ?_
 by_cases he : errE d true = 0
 ·obtain ⟨hP,_,hne,ha⟩ := asked_ok he
  rw [ha] at k84
  have k84 : ACalls Tryz.prog 84 [eDrum d,.bool true] (fun r => r = .tup [.sl ((filledL d).map (eFilled d)),vi 0]) := k84
  have hwl : (winP d).length <= 5 := by rw [winP_len]; exact hP.b1
  have hw1 : 1 <= (winP d).length := by rw [winP_len]; exact hP.b0
  have hsh := shl_small hwl
  have hpw : (2 : Int) ^ (winP d).length = ((2 ^ (winP d).length : Nat) : Int) := by simp
  have hp32 := pow_le hwl
  have hall : allB (winP d).length + 1 = ((2 ^ (winP d).length : Nat) : Int) := by unfold allB; omega
  rw [apartE,if_pos he,<- longest_best hw1 hwl]
  (repeat' (first | refine stq ?_ | (refine AL_do2 rfl ?_; first | refine ⟨_,op_call1 rfl rfl rfl rfl (k84),nrmA rfl ?_⟩) | (with_reducible refine AL_id ?_); (fail_if_success (refine AL_glit rfl rfl rfl (by first | exact .inl (by with_reducible rfl) | exact .inr (by with_reducible rfl)) ?_)); first | refine AL_gdec rfl rfl rfl (fun hg => ?_) (fun hg => ?_) | refine AL_gnot rfl rfl rfl (fun hg => ?_) (fun hg => ?_) | refine AL_gcases rfl rfl rfl (fun hg => ?_) (fun hg => ?_)))
  refine AL_doS rfl (op_callXs (objs := []) (n := 0) [] [] [] (fun av => f98 d hP hne) rfl rfl rfl rfl (by (repeat' (first | exact trivial | refine And.intro ?_ ?_)); all_goals (first | rfl | decide)) rfl (by (repeat' (first | exact trivial | refine And.intro ?_ ?_)); all_goals (first | rfl | decide)) rfl trivial (by simp) (fun av sf h => trivial)) ?_
  rintro s' ⟨av,sf,⟨l,rfl⟩,rfl⟩
  generalize winP d = W at *
  have k118 := f118 l W hwl
  cases q : eachB W with
  | false =>
   rw [q] at k118
   (repeat' (first | refine stq ?_ | (refine AL_do2 rfl ?_; first | refine ⟨_,op_callMemo rfl rfl rfl (by (repeat' (first | exact trivial | refine And.intro ?_ ?_)); all_goals (first | rfl | decide)) rfl rfl k118,?_⟩) | (with_reducible refine AL_id ?_); (fail_if_success (refine AL_glit rfl rfl rfl (by first | exact .inl (by with_reducible rfl) | exact .inr (by with_reducible rfl)) ?_)); first | refine AL_gdec rfl rfl rfl (fun hg => ?_) (fun hg => ?_) | refine AL_gnot rfl rfl rfl (fun hg => ?_) (fun hg => ?_) | refine AL_gcases rfl rfl rfl (fun hg => ?_) (fun hg => ?_)))
   exact ⟨_,_,rfl,rfl,rfl⟩
  | true =>
   rw [q] at k118
   have k100 := f100 l W hwl
   (repeat' (first | refine stq ?_ | (refine AL_do2 rfl ?_; first | refine ⟨_,op_callMemo rfl rfl rfl (by (repeat' (first | exact trivial | refine And.intro ?_ ?_)); all_goals (first | rfl | decide)) rfl rfl k118,?_⟩ | refine ⟨_,op_callMemo rfl rfl rfl (by (repeat' (first | exact trivial | refine And.intro ?_ ?_)); all_goals (first | rfl | decide)) rfl rfl k100,?_⟩) | (with_reducible refine AL_id ?_); (fail_if_success (refine AL_glit rfl rfl rfl (by first | exact .inl (by with_reducible rfl) | exact .inr (by with_reducible rfl)) ?_)); first | refine AL_gdec rfl rfl rfl (fun hg => ?_) (fun hg => ?_) | refine AL_gnot rfl rfl rfl (fun hg => ?_) (fun hg => ?_) | refine AL_gcases rfl rfl rfl (fun hg => ?_) (fun hg => ?_)))
   refine AW_own_nil (e := 23) (sz := 1) (t := 7) rfl rfl ?_
   refine AW_loopC (fun k : Nat => k <= 2 ^ W.length) (fun k => mkSt [(6,.box 2 0),(7,.arr 3),(32,.pv (vi (allB W.length + 1))),(33,.pv (vi k))] [(1,memoO (memoF W) l),(2,.box [.pv (eSpans W),.mp 1]),(3,.arr 23 1 ((apL W k).map eRow))] 4) (fun k => 2 ^ W.length - k) 0 (Nat.zero_le _) ?_ ?_
   ·(refine Le.mk ?_ ?_; all_goals (repeat' (first | exact trivial | refine sle ?_ | refine ⟨?_,rfl,?_⟩ | refine ⟨?_,by decide,rfl,?_⟩ | fail)))
   ·intro k hk
    (repeat (refine stq ?_))
    refine AW_if rfl (fun hc => ?_) (fun hc => ?_)
    ·have hk' : k < 2 ^ W.length := by omega
     have hsn := apL_succ W k
     have hcl : (apL W k).length <= 1000 := by have := apL_len W k; omega
     have k125 := f125 k
     have hml := membersB_len k
     have hmm := fun x => @membersB_mem (k : Int) x
     rw [apartB_eq] at hsn
     generalize apL W k = ts at *
     generalize membersB k = L at *
     (repeat' (first | refine stq ?_ | (refine AL_do2 rfl ?_; first | refine ⟨_,op_call1 rfl rfl rfl rfl (k125),nrmA rfl ?_⟩) | (with_reducible refine AL_id ?_); (fail_if_success (refine AL_glit rfl rfl rfl (by first | exact .inl (by with_reducible rfl) | exact .inr (by with_reducible rfl)) ?_)); first | refine AL_gdec rfl rfl rfl (fun hg => ?_) (fun hg => ?_) | refine AL_gnot rfl rfl rfl (fun hg => ?_) (fun hg => ?_) | refine AL_gcases rfl rfl rfl (fun hg => ?_) (fun hg => ?_)))
     refine AW_loopC (fun i : Nat => i <= L.length /\ ∀ (a b : Nat) (x y : Int),a < b -> b < i -> L[a]? = some x -> L[b]? = some y -> farP W y x = true)
      (fun i => mkSt [(6,.box 2 0),(7,.arr 3),(9,.pv (eInts L)),(32,.pv (vi (allB W.length + 1))),(33,.pv (vi k)),(38,.pv (eInts L)),(39,.pv (vi L.length)),(40,.pv (vi i))] [(1,memoO (memoF W) l),(2,.box [.pv (eSpans W),.mp 1]),(3,.arr 23 1 (ts.map eRow))] 4) (fun i => L.length - i) 0 ⟨Nat.zero_le _,fun a b x y _ h => by omega⟩ ?_ ?_
     ·(refine Le.mk ?_ ?_; all_goals (repeat' (first | exact trivial | refine sle ?_ | refine ⟨?_,rfl,?_⟩ | refine ⟨?_,by decide,rfl,?_⟩ | fail)))
     ·rintro i ⟨hi,hpr⟩
      (repeat (refine stq ?_))
      refine AW_if rfl (fun hc2 => ?_) (fun hc2 => ?_)
      ·have hi' : i < L.length := by omega
       obtain ⟨x,hx⟩ : ∃ x,L[i]? = some x := ⟨L[i],by simp [hi']⟩
       have hxb := hmm x (List.mem_of_getElem? hx)
       have e1 := get_map eInt hx
       (repeat (refine stq ?_))
       refine AL_do2 rfl ⟨_,op_slice_sl (lo := 0) (hi := i) hT rfl rfl rfl rfl rfl rfl (by intro y hy; obtain ⟨_,_,rfl⟩ := List.mem_map.1 hy; rfl) (.inl ⟨rfl,rfl⟩) (.inr ⟨_,_,rfl,rfl⟩) (by omega) (by simp; omega),?_⟩
       rw [show ((L.map eInt).take i).drop 0 = (L.take i).map eInt by rw [List.drop_zero,List.map_take]]
       have htl : (L.take i).length = i := by simp; omega
       (repeat (refine stq ?_))
       refine AW_loopC (fun j : Nat => j <= i /\ ∀ (a : Nat) (y : Int),a < j -> L[a]? = some y -> farP W x y = true)
        (fun j => mkSt [(6,.box 2 0),(7,.arr 3),(9,.pv (eInts L)),(11,.pv (vi x)),(32,.pv (vi (allB W.length + 1))),(33,.pv (vi k)),(38,.pv (eInts L)),(39,.pv (vi L.length)),(40,.pv (vi i)),(47,.pv (eInts (L.take i))),(48,.pv (vi (L.take i).length)),(49,.pv (vi j))] [(1,memoO (memoF W) l),(2,.box [.pv (eSpans W),.mp 1]),(3,.arr 23 1 (ts.map eRow))] 4) (fun j => i - j) 0 ⟨Nat.zero_le _,fun a y h => by omega⟩ ?_ ?_
       ·(refine Le.mk ?_ ?_; all_goals (repeat' (first | exact trivial | refine sle ?_ | refine ⟨?_,rfl,?_⟩ | refine ⟨?_,by decide,rfl,?_⟩ | fail)))
       ·rintro j ⟨hj,hin⟩
        (repeat (refine stq ?_))
        refine AW_if rfl (fun hc3 => ?_) (fun hc3 => ?_)
        ·have hj' : j < i := by omega
         obtain ⟨y,hy⟩ : ∃ y,L[j]? = some y := ⟨L[j]'(by omega),by simp⟩
         have hyb := hmm y (List.mem_of_getElem? hy)
         have e2 : ((L.take i).map eInt)[j]? = some (eInt y) := get_map eInt (by rw [List.getElem?_take,if_pos hj']; exact hy)
         have k99 := f99 l W (orR .i64 (shlR .i64 1 x) (shlR .i64 1 y)) (by omega)
         rw [pair_open hwl hxb hyb] at k99
         cases q2 : farP W x y with
         | true =>
          rw [q2] at k99
          (repeat (refine stq ?_))
          (repeat (first | refine DG_next (D_shl rfl rfl rfl rfl rfl (by omega)) ?_ | refine DG_next (D_or rfl rfl rfl rfl rfl) ?_ | refine DG_next (D_callMemo rfl rfl rfl rfl (fun s1 => (by (repeat' (first | exact trivial | refine And.intro ?_ ?_)); all_goals (first | rfl | decide))) rfl rfl k99) ?_ | refine sdq ?_))
          refine DG_end hM (by kernel_rfl) ?_
          (repeat (refine stq ?_))
          refine ⟨j + 1,⟨hj',fun a z ha hz => ?_⟩,by omega,?_⟩
          ·by_cases haj : a = j
           ·subst haj; rw [hy] at hz; cases hz; exact q2
           ·exact hin a z (by omega) hz
          ·(refine Le.mk ?_ ?_; all_goals (repeat' (first | exact trivial | refine sle ?_ | refine ⟨?_,rfl,?_⟩ | refine ⟨?_,by decide,rfl,?_⟩ | fail)))
         | false =>
          rw [q2] at k99
          have hpf : pairsB (farP W) L = false:= by
           cases ht : pairsB (farP W) L with
           | false => rfl
           | true =>
            have := pairs_iff.1 ht j i y x hj' hy hx
            rw [q2] at this; cases this
          rw [hpf,if_neg (by simp),List.append_nil] at hsn
          (repeat (refine stq ?_))
          (repeat (first | refine DG_next (D_shl rfl rfl rfl rfl rfl (by omega)) ?_ | refine DG_next (D_or rfl rfl rfl rfl rfl) ?_ | refine DG_next (D_callMemo rfl rfl rfl rfl (fun s1 => (by (repeat' (first | exact trivial | refine And.intro ?_ ?_)); all_goals (first | rfl | decide))) rfl rfl k99) ?_ | refine sdq ?_))
          refine DG_end hM (by kernel_rfl) ?_
          (repeat (refine stq ?_))
          refine ⟨k + 1,hk',by omega,?_⟩
          rw [hsn]
          (refine Le.mk ?_ ?_; all_goals (repeat' (first | exact trivial | refine sle ?_ | refine ⟨?_,rfl,?_⟩ | refine ⟨?_,by decide,rfl,?_⟩ | fail)))
        ·have hj' : j = i := by omega
         (repeat (refine stq ?_))
         refine ⟨i + 1,⟨hi',fun a b z y hab hb hz hy => ?_⟩,by omega,?_⟩
         ·by_cases hbi : b = i
          ·subst hbi; rw [hx] at hy; cases hy; exact hin a z (by omega) hz
          ·exact hpr a b z y hab (by omega) hz hy
         ·(refine Le.mk ?_ ?_; all_goals (repeat' (first | exact trivial | refine sle ?_ | refine ⟨?_,rfl,?_⟩ | refine ⟨?_,by decide,rfl,?_⟩ | fail)))
      ·have hi' : i = L.length := by omega
       have hpt : pairsB (farP W) L = true := pairs_iff.2 fun a b z y hab hz hy => hpr a b z y hab (by have := (List.getElem?_eq_some_iff.1 hy).1; omega) hz hy
       rw [hpt,if_pos rfl] at hsn
       (repeat (refine stq ?_))
       refine ⟨k + 1,hk',by omega,?_⟩
       rw [hsn]
       (refine Le.mkR [(1,1),(2,2),(3,5)] ?_ ?_ rfl; all_goals (repeat' (first | exact trivial | refine sle ?_ | refine ⟨?_,rfl,?_⟩ | refine ⟨?_,by decide,rfl,?_⟩ | fail)))
       rw [List.map_append]; rfl
    ·have hk' : k = 2 ^ W.length := by omega
     subst hk'
     have k123 := f123 (apL W (2 ^ W.length)) 126 [] moreN (by have := apL_len W (2 ^ W.length); omega) (fun x hx y hy => f126 x y (by have := apL_elem hx; omega) (by have := apL_elem hy; omega))
     refine AW_pure (t := 7) rfl rfl ?_
     (repeat' (first | refine stq ?_ | (refine AL_do2 rfl ?_; first | refine ⟨_,op_call1 rfl rfl rfl rfl (k123),nrmA rfl ?_⟩) | (with_reducible refine AL_id ?_); (fail_if_success (refine AL_glit rfl rfl rfl (by first | exact .inl (by with_reducible rfl) | exact .inr (by with_reducible rfl)) ?_)); first | refine AL_gdec rfl rfl rfl (fun hg => ?_) (fun hg => ?_) | refine AL_gnot rfl rfl rfl (fun hg => ?_) (fun hg => ?_) | refine AL_gcases rfl rfl rfl (fun hg => ?_) (fun hg => ?_)))
     exact ⟨_,_,rfl,rfl,rfl⟩
 ·rw [asked_err he] at k84
  have k84 : ACalls Tryz.prog 84 [eDrum d,.bool true] (fun r => r = .tup [.sl [],vi (errE d true)]) := k84
  (repeat' (first | refine stq ?_ | (refine AL_do2 rfl ?_; first | refine ⟨_,op_call1 rfl rfl rfl rfl (k84),nrmA rfl ?_⟩) | (with_reducible refine AL_id ?_); (fail_if_success (refine AL_glit rfl rfl rfl (by first | exact .inl (by with_reducible rfl) | exact .inr (by with_reducible rfl)) ?_)); first | refine AL_gdec rfl rfl rfl (fun hg => ?_) (fun hg => ?_) | refine AL_gnot rfl rfl rfl (fun hg => ?_) (fun hg => ?_) | refine AL_gcases rfl rfl rfl (fun hg => ?_) (fun hg => ?_)))
  refine AW_if rfl (fun hc => ?_) (fun hc => absurd (by omega) hc)
  (repeat (refine stq ?_))
  exact ⟨_,_,rfl,rfl,by rw [apartE,if_neg he]; rfl⟩
end Go.Abs
