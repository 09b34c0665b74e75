/- Small functions of the reference. -/
import Derived.Test.YtmplfjolcdlipaaGreatDoorJDrV
import Derived.Test.YtmplfjolcdlipaaGreatDoorJDrE
set_option linter.unusedVariables false
set_option linter.unusedSimpArgs false
namespace Go.Abs
open Go.Proofs
set_option linter.unusedVariables false
set_option linter.unusedSimpArgs false
set_option maxRecDepth 100000
theorem f103 (x lo hi : Int) : ACalls Tryz.prog 103 [vi x,vi lo,vi hi] (fun r => r = .pv (.bool (inB x lo hi))):= by
 refine ACalls.of_body hT Tryz.func103 rfl (by kernel_rfl) rfl ?_
 (repeat' (first | refine stq ?_ | (with_reducible refine AL_id ?_); (fail_if_success (refine AL_glit rfl rfl rfl (by first | exact .inl (by with_reducible rfl) | exact .inr (by with_reducible rfl)) ?_)); first | refine AL_gdec rfl rfl rfl (fun hg => ?_) (fun hg => ?_) | refine AL_gnot rfl rfl rfl (fun hg => ?_) (fun hg => ?_) | refine AL_gcases rfl rfl rfl (fun hg => ?_) (fun hg => ?_)))
 all_goals exact ⟨_,_,rfl,rfl,by simp_all [inB]; try omega⟩
theorem f107 (s : Span) (most : Int) : ACalls Tryz.prog 107 [eS s,vi most] (fun r => r = .pv (.bool (spanB s most))):= by
 refine ACalls.of_body hT Tryz.func107 rfl (by kernel_rfl) rfl ?_
 (repeat' (first | refine stq ?_ | (with_reducible refine AL_id ?_); (fail_if_success (refine AL_glit rfl rfl rfl (by first | exact .inl (by with_reducible rfl) | exact .inr (by with_reducible rfl)) ?_)); first | refine AL_gdec rfl rfl rfl (fun hg => ?_) (fun hg => ?_) | refine AL_gnot rfl rfl rfl (fun hg => ?_) (fun hg => ?_) | refine AL_gcases rfl rfl rfl (fun hg => ?_) (fun hg => ?_)))
 all_goals exact ⟨_,_,rfl,rfl,by simp_all [spanB]; try omega⟩
def powI : Nat -> Int
 | 0 => 1
 | n + 1 => 2 * powI n
theorem powI_bd : ∀ (n : Nat),n <= 60 -> 1 <= powI n /\ powI n <= 2 ^ 60
 | n,h => by
  have key : ∀ (n : Nat),powI n = 2 ^ n:= by
   intro n
   induction n with
   | zero => rfl
   | succ n ih => rw [powI,ih,Int.pow_succ]; omega
  rw [key]
  have h1 : (2 : Nat) ^ n <= 2 ^ 60 := Nat.pow_le_pow_right (by decide) h
  have h2 : 1 <= (2 : Nat) ^ n := Nat.one_le_two_pow
  have h3 : (2 : Int) ^ n = ((2 ^ n : Nat) : Int) := by simp
  rw [h3]
  constructor
  ·omega
  ·have : ((2 : Int) ^ 60) = ((2 ^ 60 : Nat) : Int) := by simp
   rw [this]; omega
theorem powI_eq : ∀ (n : Nat),powI n = 2 ^ n
 | 0 => rfl
 | n + 1 => by rw [powI,powI_eq n,Int.pow_succ]; omega
theorem f106 (n : Nat) (hn : n <= 60) : ACalls Tryz.prog 106 [vi n] (fun r => r = .pv (vi (powI n))):= by
 refine ACalls.of_body hT Tryz.func106 rfl (by kernel_rfl) rfl ?_
 (repeat (refine stq ?_))
 refine AW_loopC (fun k : Nat => k <= n) (fun k => mkSt [(0,.pv (vi n)),(3,.pv (vi (powI k))),(4,.pv (vi k))] [] 0) (fun k => n - k) 0 (Nat.zero_le _) ?_ ?_
 ·(refine Le.mk ?_ ?_; all_goals (repeat' (first | exact trivial | refine sle ?_ | refine ⟨?_,rfl,?_⟩ | refine ⟨?_,by decide,rfl,?_⟩ | fail)))
 ·intro k hk
  (repeat (refine stq ?_))
  refine AW_if rfl (fun hc => ?_) (fun hc => ?_)
  ·have hb := powI_bd k (by omega)
   have hm : -9223372036854775808 <= 2 * powI k /\ 2 * powI k <= 9223372036854775807:= by
    have : (2 : Int) ^ 60 = 1152921504606846976 := by decide
    omega
   (repeat (refine stq ?_))
   refine ⟨k + 1,by omega,by omega,?_⟩
   (refine Le.mk ?_ ?_; all_goals (repeat' (first | exact trivial | refine sle ?_ | refine ⟨?_,rfl,?_⟩ | refine ⟨?_,by decide,rfl,?_⟩ | fail)))
  ·have hk' : k = n := by omega
   subst hk'
   (repeat (refine stq ?_))
   exact ⟨_,_,rfl,rfl,rfl⟩
def hasT : Bool := (List.range 32).all fun s => (List.range 6).all fun i => decide ((IntKind.i64.wrap ((s : Int).tdiv (powI i))).tmod 2 = 1) == hasI (s : Int) i
theorem has_t : hasT = true := by decide +kernel
theorem f68 (set : Int) (n : Nat) (h0 : 0 <= set) (h1 : set < 32) (hn : n < 6) : ACalls Tryz.prog 68 [vi set,vi n] (fun r => r = .pv (.bool (hasI set n))):= by
 obtain ⟨m,rfl⟩ : ∃ m : Nat,set = m := ⟨set.toNat,by omega⟩
 have ht := List.all_eq_true.1 (List.all_eq_true.1 has_t m (List.mem_range.2 (by omega))) n (List.mem_range.2 hn)
 have ht : decide ((IntKind.i64.wrap ((m : Int).tdiv (powI n))).tmod 2 = 1) = hasI (m : Int) n := by simpa using ht
 have hb := powI_bd n (by omega)
 have hne : powI n ≠ 0 := by omega
 refine ACalls.of_body hT Tryz.func68 rfl (by kernel_rfl) rfl ?_
 (repeat' (first | refine stq ?_ | (refine AL_do2 rfl ?_; first | refine ⟨_,op_call1 rfl rfl rfl rfl (f106 n (by omega)),nrmA rfl ?_⟩) | (with_reducible refine AL_id ?_); (fail_if_success (refine AL_glit rfl rfl rfl (by first | exact .inl (by with_reducible rfl) | exact .inr (by with_reducible rfl)) ?_)); first | refine AL_gdec rfl rfl rfl (fun hg => ?_) (fun hg => ?_) | refine AL_gnot rfl rfl rfl (fun hg => ?_) (fun hg => ?_) | refine AL_gcases rfl rfl rfl (fun hg => ?_) (fun hg => ?_)))
 refine AL_do2 rfl ⟨_,op_quo rfl rfl rfl rfl hne,?_⟩
 refine AL_do2 rfl ⟨_,op_rem rfl rfl rfl rfl (by decide),?_⟩
 (repeat (refine stq ?_))
 exact ⟨_,_,rfl,rfl,by rw [<- ht]⟩
theorem f132 (a b : Span) : ACalls Tryz.prog 132 [eS a,eS b] (fun r => r = .pv (eS (common a b))):= by
 refine ACalls.of_body hT Tryz.func132 rfl (by kernel_rfl) rfl ?_
 (repeat (refine stq ?_))
 exact ⟨_,_,rfl,rfl,rfl⟩
def spanBd (s : Span) : Prop := -100000 <= s.low /\ s.low <= 100000 /\ -100000 <= s.high /\ s.high <= 100000
theorem f139 (a : Acid) (add : Int) (s : Span) (ha : AcidP a) (h0 : 0 <= add /\ add <= 100) (hs : spanBd s) : ACalls Tryz.prog 139 [.agg (eAcid a),vi add,eS s] (fun r => r = .pv (eS (afterS a add s))):= by
 obtain ⟨b1,b2,b3,b4⟩ := hs
 have := ha.f0; have := ha.f1; have := ha.f2
 refine ACalls.of_body hT Tryz.func139 rfl (by kernel_rfl) rfl ?_
 (repeat (refine stq ?_))
 exact ⟨_,_,rfl,rfl,rfl⟩
theorem f142 (a : Acid) (add : Int) (s : Span) (ha : AcidP a) (h0 : 0 <= add /\ add <= 100) (hs : spanBd s) : ACalls Tryz.prog 142 [.agg (eAcid a),vi add,eS s] (fun r => r = .pv (eS (beforeS a add s))):= by
 obtain ⟨b1,b2,b3,b4⟩ := hs
 have := ha.f0; have := ha.f1; have := ha.f2
 refine ACalls.of_body hT Tryz.func142 rfl (by kernel_rfl) rfl ?_
 (repeat (refine stq ?_))
 refine AW_if rfl (fun hc => ?_) (fun hc => ?_)
 ·(repeat (refine stq ?_))
  exact ⟨_,_,rfl,rfl,by unfold beforeS; rw [if_pos hc]; rfl⟩
 ·(repeat (refine stq ?_))
  exact ⟨_,_,rfl,rfl,by unfold beforeS; rw [if_neg hc]; rfl⟩
def shortB (d : Drum) : Bool := decide (d.acids.length <= 6) && decide (d.adds.length <= 15) && decide (d.strips.length <= 9) && decide (d.batches.length <= 7)
theorem f23 (d : Drum) (hd : drumOK d) : ACalls Tryz.prog 23 [eDrum d] (fun r => r = .pv (.bool (shortB d))):= by
 obtain ⟨l1,l2,l3,l4⟩ := hd
 refine ACalls.of_body hT Tryz.func23 rfl (by kernel_rfl) rfl ?_
 (repeat' (first | refine stq ?_ | (with_reducible refine AL_id ?_); (fail_if_success (refine AL_glit rfl rfl rfl (by first | exact .inl (by with_reducible rfl) | exact .inr (by with_reducible rfl)) ?_)); first | refine AL_gdec rfl rfl rfl (fun hg => ?_) (fun hg => ?_) | refine AL_gnot rfl rfl rfl (fun hg => ?_) (fun hg => ?_) | refine AL_gcases rfl rfl rfl (fun hg => ?_) (fun hg => ?_)))
 all_goals exact ⟨_,_,rfl,rfl,congrArg (fun b => RV.pv (PV.bool b)) (by unfold shortB; rw [Bool.eq_iff_iff]; simp only [Bool.and_eq_true,decide_eq_true_eq,Bool.false_eq_true,false_iff]; omega)⟩
end Go.Abs
