/- Sorting a drum. -/
import Derived.Test.YtmplfjolcdlipaaGreatDoorJDrK
import Derived.Test.YtmplfjolcdlipaaGreatDoorJDrB
set_option linter.unusedVariables false
set_option linter.unusedSimpArgs false
namespace Go.Abs
open Go.Proofs
set_option linter.unusedVariables false
set_option linter.unusedSimpArgs false
set_option maxRecDepth 100000
theorem dfs_nos (W : List Span) : ∀ (k : Nat) (now l : List Int),l ∈ dfsI W k now -> nosB now -> runsI now + k <= 100 -> nosB l /\ l.length = now.length + k
 | 0,now,l,h,hn,hr => by
  unfold dfsI at h
  split at h
  ·simp at h; subst h; exact ⟨hn,rfl⟩
  ·simp at h
 | k + 1,now,l,h,hn,hr => by
  unfold dfsI at h
  have h0 := runs_nonneg now
  split at h
  ·simp only [List.mem_flatMap,List.mem_range] at h
   obtain ⟨m,hm,h⟩ := h
   have := dfs_nos W k (now ++ [(m : Int)]) l h (fun x hx => by
    rcases List.mem_append.1 hx with h | h
    ·exact hn x h
    ·simp at h; omega) (by rw [runs_append]; omega)
   refine ⟨this.1,?_⟩
   rw [this.2]; simp; omega
  ·simp at h
def oneOK : Bool := (List.range 5).all fun i => bitI (shlR .i64 1 i) i
theorem one_ok : oneOK = true := by decide +kernel
theorem one_bit {i : Nat} (hi : i < 5) : bitI (shlR .i64 1 i) i = true := List.all_eq_true.1 one_ok i (List.mem_range.2 hi)
theorem each_stab {W : List Span} (hW : W.length <= 5) (h : eachB W = true) : stabs W ((List.range 13).map fun n : Nat => (n : Int)):= by
 refine ⟨fun p hp => ?_,fun s hs => ?_⟩
 ·simp only [List.mem_map,List.mem_range] at hp; omega
 ·obtain ⟨i,hi⟩ := List.getElem?_of_mem hs
  have hil := (List.getElem?_eq_some_iff.1 hi).1
  have h1 := List.all_eq_true.1 h i (List.mem_range.2 hil)
  obtain ⟨n,hn⟩ := open_iff.1 h1
  obtain ⟨hr,ha⟩ := pick_iff.1 hn
  refine ⟨n,?_,ha i s hi (one_bit (by omega))⟩
  simp only [List.mem_map,List.mem_range]
  exact ⟨n.toNat,by omega,by omega⟩
theorem sort_fold (W : List Span) : foldBest fewB (dfsI W W.length []) = sortI W := by rw [dfs_level]; rfl
theorem fold_mem {better : List Int -> List Int -> Bool} : ∀ (l : List (List Int)) (x : List Int),l.foldl (fun o y => if better y o then y else o) x ∈ x :: l
 | [],x => by simp
 | y :: l,x => by
  rw [List.foldl_cons]
  have := fold_mem (better := better) l (if better y x then y else x)
  rcases List.mem_cons.1 this with h | h
  ·rw [h]; split <;> simp
  ·simp [h]
theorem sort_mem {W : List Span} (hW : W.length <= 5) (h : eachB W = true) : sortI W ∈ dfsI W W.length []:= by
 obtain ⟨l,hl,hs,_⟩ := stab_sorts (each_stab hW h)
 rw [dfs_level]
 have hm : l ∈ (levelI W.length []).filter (sortsB W) := List.mem_filter.2 ⟨hl,hs⟩
 unfold sortI
 cases q : (levelI W.length []).filter (sortsB W) with
 | nil => rw [q] at hm; cases hm
 | cons x r => exact fold_mem r x
def fct : Nat -> Nat -> Nat
 | _,0 => 1
 | r,k + 1 => (r + 1) * fct (r + 1) k
theorem dfs_fct (W : List Span) : ∀ (k r : Nat) (now : List Int),runsI now <= r -> (dfsI W k now).length <= fct r k
 | 0,r,now,_ => by unfold dfsI fct; split <;> simp
 | k + 1,r,now,h => by
  unfold dfsI fct
  have h0 := runs_nonneg now
  split
  ·refine Nat.le_trans (flatMap_len_le (c := fct (r + 1) k) fun m hm => dfs_fct W k (r + 1) _ ?_) ?_
   ·rw [runs_append]; have := List.mem_range.1 hm; omega
   ·rw [List.length_range]
    exact Nat.mul_le_mul_right _ (by omega)
  ·simp
theorem fct_le {k : Nat} (h : k <= 5) : fct 0 k <= 120:= by
 match k,h with
 | 0,_ => decide
 | 1,_ => decide
 | 2,_ => decide
 | 3,_ => decide
 | 4,_ => decide
 | 5,_ => decide
abbrev mnB : List (Nat × AObj) := [(0,.box [.pv (.fn 121 [])])]
abbrev mnO (av : Nat -> Value) : List (Nat × AObj) := mnB ++ ancL av [(1,0)]
set_option maxHeartbeats 4000000 in
theorem f123s (l : List (List Int)) (hl : l.length <= 1000) (hg : ∀ x ∈ l,∀ y ∈ l,ACalls Tryz.prog 124 [eInts x,eInts y,.ptr [.fn 121 []]] (fun r => r = .pv (.bool (fewB x y)))) (av : Nat -> Value) :
  ACallsX Tryz.prog 123 [.pv (eRows l),.fn 124 [.box 0 0]] (mnO av) 2 (fun sf => sf = mkSt [(0,.tup [.pv (eInts (foldBest fewB l)),.pv (.bool (decide ((l.length : Int) > 0)))])] (mnO av) 2) (fun _ _ => False):= by
 refine ACallsX.of_body hT Tryz.func123 rfl (by kernel_rfl) rfl ?_
 (repeat (refine stq ?_))
 refine AW_own_nil (e := 3) (sz := 1) (t := 6) rfl rfl ?_
 refine AW_pure (t := 6) rfl rfl ?_
 (repeat (refine stq ?_))
 refine AW_loopC (fun k : Nat => k <= l.length) (fun k => mkSt [(0,.pv (eRows l)),(1,.fn 124 [.box 0 0]),(6,.pv (eInts (foldBest fewB (l.take k)))),(9,.pv (eRows l)),(10,.pv (vi l.length)),(11,.pv (vi k))] (mnO av) 2) (fun k => l.length - k) 0 (Nat.zero_le _) ?_ ?_
 ·(refine Le.mk ?_ ?_; all_goals (repeat' (first | exact trivial | refine sle ?_ | refine ⟨?_,rfl,?_⟩ | refine ⟨?_,by decide,rfl,?_⟩ | fail)))
 ·intro k hk
  (repeat (refine stq ?_))
  refine AW_if rfl (fun hc => ?_) (fun hc => ?_)
  ·have hk' : k < l.length := by omega
   obtain ⟨x,hx⟩ : ∃ x,l[k]? = some x := ⟨l[k],by simp [hk']⟩
   have e1 := get_map eRow hx
   have hs := foldBest_succ (better := fewB) hx
   by_cases h0 : k = 0
   ·rw [if_pos h0] at hs
    subst h0
    (repeat (refine stq ?_))
    refine ⟨0 + 1,hk',by omega,?_⟩
    rw [hs]
    (refine Le.mk ?_ ?_; all_goals (repeat' (first | exact trivial | refine sle ?_ | refine ⟨?_,rfl,?_⟩ | refine ⟨?_,by decide,rfl,?_⟩ | fail)))
   ·rw [if_neg h0] at hs
    have kg := hg x (List.mem_of_getElem? hx) (foldBest fewB (l.take k)) (List.mem_of_mem_take (foldBest_mem (fun e => by have := congrArg List.length e; rw [List.length_take] at this; simp only [List.length_nil] at this; omega)))
    generalize foldBest fewB (l.take k) = o at *
    cases q : fewB x o with
    | true =>
     rw [q] at kg hs
     rw [if_pos rfl] at hs
     (repeat' (first | refine stq ?_ | (refine AL_do2 rfl ?_; first | refine ⟨_,op_callB rfl rfl rfl rfl (kg) rfl,nrmA rfl ?_⟩) | (with_reducible refine AL_id ?_); (fail_if_success (refine AL_glit rfl rfl rfl (by first | exact .inl (by with_reducible rfl) | exact .inr (by with_reducible rfl)) ?_)); first | refine AL_gdec rfl rfl rfl (fun hg => ?_) (fun hg => ?_) | refine AL_gnot rfl rfl rfl (fun hg => ?_) (fun hg => ?_) | refine AL_gcases rfl rfl rfl (fun hg => ?_) (fun hg => ?_)))
     all_goals (try (exfalso; omega))
     refine ⟨k + 1,hk',by omega,?_⟩
     rw [hs]
     (refine Le.mk ?_ ?_; all_goals (repeat' (first | exact trivial | refine sle ?_ | refine ⟨?_,rfl,?_⟩ | refine ⟨?_,by decide,rfl,?_⟩ | fail)))
    | false =>
     rw [q] at kg hs
     rw [if_neg (by simp)] at hs
     (repeat' (first | refine stq ?_ | (refine AL_do2 rfl ?_; first | refine ⟨_,op_callB rfl rfl rfl rfl (kg) rfl,nrmA rfl ?_⟩) | (with_reducible refine AL_id ?_); (fail_if_success (refine AL_glit rfl rfl rfl (by first | exact .inl (by with_reducible rfl) | exact .inr (by with_reducible rfl)) ?_)); first | refine AL_gdec rfl rfl rfl (fun hg => ?_) (fun hg => ?_) | refine AL_gnot rfl rfl rfl (fun hg => ?_) (fun hg => ?_) | refine AL_gcases rfl rfl rfl (fun hg => ?_) (fun hg => ?_)))
     all_goals (try (exfalso; omega))
     refine ⟨k + 1,hk',by omega,?_⟩
     rw [hs]
     (refine Le.mk ?_ ?_; all_goals (repeat' (first | exact trivial | refine sle ?_ | refine ⟨?_,rfl,?_⟩ | refine ⟨?_,by decide,rfl,?_⟩ | fail)))
  ·have hk' : k = l.length := by omega
   subst hk'
   rw [List.take_length]
   (repeat (refine stq ?_))
   refine ⟨_,mkSt [(0,.tup [.pv (eInts (foldBest fewB l)),.pv (.bool (decide ((l.length : Int) > 0)))])] (mnO av) 2,rfl,?_,rfl⟩
   (refine Le.mk ?_ ?_; all_goals (repeat' (first | exact trivial | refine sle ?_ | refine ⟨?_,rfl,?_⟩ | refine ⟨?_,by decide,rfl,?_⟩ | fail)))
def sortRE (d : Drum) : List Int × Int × Int := if errE d true = 0 then (if eachB (winP d) then (sortI (winP d),runsI (sortI (winP d)),0) else ([],0,5)) else ([],0,errE d true)
set_option maxHeartbeats 8000000 in
theorem f45 (d : Drum) (hd : drumOK d) : ACalls Tryz.prog 45 [eDrum d] (fun r => r = .tup [eInts (sortRE d).1,vi (sortRE d).2.1,vi (sortRE d).2.2]):= by
 have k84 := f84 d true hd
 refine ACalls.of_body hT Tryz.func45 rfl (by kernel_rfl) rfl ?_
 by_cases he : errE d true = 0
 ·obtain ⟨hP,_,hne,ha⟩ := asked_ok he
  rw [ha] at k84
  have k84 : ACalls Tryz.prog 84 [eDrum d,.bool true] (fun r => r = .tup [.sl ((filledL d).map (eFilled d)),vi 0]) := k84
  have hwl : (winP d).length <= 5 := by rw [winP_len]; exact hP.b1
  have hw1 : 1 <= (winP d).length := by rw [winP_len]; exact hP.b0
  rw [sortRE,if_pos he]
  (repeat' (first | refine stq ?_ | (refine AL_do2 rfl ?_; first | refine ⟨_,op_call1 rfl rfl rfl rfl (k84),nrmA rfl ?_⟩) | (with_reducible refine AL_id ?_); (fail_if_success (refine AL_glit rfl rfl rfl (by first | exact .inl (by with_reducible rfl) | exact .inr (by with_reducible rfl)) ?_)); first | refine AL_gdec rfl rfl rfl (fun hg => ?_) (fun hg => ?_) | refine AL_gnot rfl rfl rfl (fun hg => ?_) (fun hg => ?_) | refine AL_gcases rfl rfl rfl (fun hg => ?_) (fun hg => ?_)))
  refine AL_doS rfl (op_callXs (objs := []) (n := 0) [] [] [] (fun av => f98 d hP hne) rfl rfl rfl rfl (by (repeat' (first | exact trivial | refine And.intro ?_ ?_)); all_goals (first | rfl | decide)) rfl (by (repeat' (first | exact trivial | refine And.intro ?_ ?_)); all_goals (first | rfl | decide)) rfl trivial (by simp) (fun av sf h => trivial)) ?_
  rintro s' ⟨av,sf,⟨l,rfl⟩,rfl⟩
  have hwe := winP_len d
  generalize winP d = W at *
  have k118 := f118 l W hwl
  cases q : eachB W with
  | false =>
   rw [q] at k118
   (repeat' (first | refine stq ?_ | (refine AL_do2 rfl ?_; first | refine ⟨_,op_callMemo rfl rfl rfl (by (repeat' (first | exact trivial | refine And.intro ?_ ?_)); all_goals (first | rfl | decide)) rfl rfl k118,?_⟩) | (with_reducible refine AL_id ?_); (fail_if_success (refine AL_glit rfl rfl rfl (by first | exact .inl (by with_reducible rfl) | exact .inr (by with_reducible rfl)) ?_)); first | refine AL_gdec rfl rfl rfl (fun hg => ?_) (fun hg => ?_) | refine AL_gnot rfl rfl rfl (fun hg => ?_) (fun hg => ?_) | refine AL_gcases rfl rfl rfl (fun hg => ?_) (fun hg => ?_)))
   exact ⟨_,_,rfl,rfl,rfl⟩
  | true =>
   rw [q] at k118
   (repeat' (first | refine stq ?_ | (refine AL_do2 rfl ?_; first | refine ⟨_,op_callMemo rfl rfl rfl (by (repeat' (first | exact trivial | refine And.intro ?_ ?_)); all_goals (first | rfl | decide)) rfl rfl k118,?_⟩) | (with_reducible refine AL_id ?_); (fail_if_success (refine AL_glit rfl rfl rfl (by first | exact .inl (by with_reducible rfl) | exact .inr (by with_reducible rfl)) ?_)); first | refine AL_gdec rfl rfl rfl (fun hg => ?_) (fun hg => ?_) | refine AL_gnot rfl rfl rfl (fun hg => ?_) (fun hg => ?_) | refine AL_gcases rfl rfl rfl (fun hg => ?_) (fun hg => ?_)))
   have hsm := sort_mem hwl q
   have hsf := sort_fold W
   have hdl := dfs_fct W W.length 0 [] (by decide)
   have hfc := fct_le hwl
   have hp6 := pow6 hwl
   have hnos : ∀ x ∈ dfsI W W.length [],nosB x /\ x.length = W.length := fun x hx => by
    have := dfs_nos W W.length [] x hx (fun y hy => by cases hy) (by show (0 : Int) + _ <= 100; omega)
    exact ⟨this.1,by rw [this.2]; simp⟩
   have k119 : ∀ av,ACallsX Tryz.prog 119 [.pv (.sl []),.box 1 0,.box 2 0,.box 3 0,.box 4 0] (seO l W d [] ++ ancL av seA) 10 (fun sf => sf = mkSt [] (seO l W d (dfsI W W.length []) ++ ancL av seA) 10) (fun _ _ => False) := fun av =>
    f119 l W d hwe hwl W.length [] [] av (by simp) (fun y hy => by cases hy) (by decide) (by simp; omega)
   have hout := hnos _ hsm
   have hne2 : sortI W ≠ [] := fun h => by rw [h] at hout; have := hout.2; simp at this; omega
   have k121 := f121 (sortI W) (by omega) hne2 hout.1
   generalize dfsI W W.length [] = LL at *
   have k123 := f123s LL (by omega) (fun x hx y hy => by
    have hx1 := hnos x hx
    have hy1 := hnos y hy
    exact f124 x y (by omega) (by omega) (fun h => by rw [h] at hx1; have := hx1.2; simp at this; omega) (fun h => by rw [h] at hy1; have := hy1.2; simp at this; omega) hx1.1 hy1.1)
   rw [hsf] at k123
   generalize sortI W = out at *
   refine AL_nilBox 3 0 23 1 rfl rfl ?_
   (repeat (refine stq ?_))
   refine AL_doS rfl (op_callXs (objs := seO l W d []) (n := 10) [(0,1),(1,2),(2,0)] [0,1,2,3,4] seA k119 rfl rfl rfl rfl (by (repeat' (first | exact trivial | refine And.intro ?_ ?_)); all_goals (first | rfl | decide)) rfl (by (repeat' (first | exact trivial | refine And.intro ?_ ?_)); all_goals (first | rfl | decide)) rfl ⟨⟨rfl,rfl,⟨_,.tail _ (.head _)⟩,rfl⟩,⟨rfl,rfl,⟨_,.tail _ (.tail _ (.head _))⟩,rfl⟩,⟨rfl,rfl,⟨_,.tail _ (.tail _ (.tail _ (.head _)))⟩,rfl⟩,⟨rfl,rfl,⟨_,.tail _ (.tail _ (.tail _ (.tail _ (.head _))))⟩,rfl⟩,trivial⟩ (by simp)
    (fun av sf h => by subst h; exact ⟨.inr ⟨_,_,_,_,_,rfl,rfl⟩,.inl ⟨6,by simp,rfl⟩,.inl ⟨7,by simp,rfl⟩,.inl ⟨8,by simp,rfl⟩,.inl ⟨9,by simp,rfl⟩,trivial⟩)) ?_
   rintro s' ⟨av2,sf,rfl,rfl⟩
   refine AL_nil_then ?_
   refine AW_le (s' := mkSt [(8,.box 0 0)] [(0,.box [.arr 1]),(1,.arr 23 1 (LL.map eIntsC))] 2) ?_ ?_
   ·(refine Le.mkR [(0,3),(1,11)] ?_ ?_ rfl; all_goals (repeat' (first | exact trivial | refine sle ?_ | refine ⟨?_,rfl,?_⟩ | refine ⟨?_,by decide,rfl,?_⟩ | fail)))
   refine AW_arrBox (b := 0) 0 rfl rfl rfl rfl ?_
   (repeat (refine stq ?_))
   refine AL_doS rfl (op_callXs (objs := mnB) (n := 2) [(0,2)] [0] [(1,0)] k123 rfl rfl rfl rfl (by (repeat' (first | exact trivial | refine And.intro ?_ ?_)); all_goals (first | rfl | decide)) rfl (by (repeat' (first | exact trivial | refine And.intro ?_ ?_)); all_goals (first | rfl | decide)) rfl ⟨⟨rfl,rfl,⟨_,.head _⟩,rfl⟩,trivial⟩ (by simp) (fun av sf h => by subst h; exact ⟨.inl ⟨1,by simp,rfl⟩,trivial⟩)) ?_
   rintro s' ⟨av3,sf,rfl,rfl⟩
   (repeat' (first | refine stq ?_ | (refine AL_do2 rfl ?_; first | refine ⟨_,op_call1 rfl rfl rfl rfl (k121),nrmA rfl ?_⟩) | (with_reducible refine AL_id ?_); (fail_if_success (refine AL_glit rfl rfl rfl (by first | exact .inl (by with_reducible rfl) | exact .inr (by with_reducible rfl)) ?_)); first | refine AL_gdec rfl rfl rfl (fun hg => ?_) (fun hg => ?_) | refine AL_gnot rfl rfl rfl (fun hg => ?_) (fun hg => ?_) | refine AL_gcases rfl rfl rfl (fun hg => ?_) (fun hg => ?_)))
   exact ⟨_,_,rfl,rfl,rfl⟩
 ·rw [asked_err he] at k84
  have k84 : ACalls Tryz.prog 84 [eDrum d,.bool true] (fun r => r = .tup [.sl [],vi (errE d true)]) := k84
  (repeat' (first | refine stq ?_ | (refine AL_do2 rfl ?_; first | refine ⟨_,op_call1 rfl rfl rfl rfl (k84),nrmA rfl ?_⟩) | (with_reducible refine AL_id ?_); (fail_if_success (refine AL_glit rfl rfl rfl (by first | exact .inl (by with_reducible rfl) | exact .inr (by with_reducible rfl)) ?_)); first | refine AL_gdec rfl rfl rfl (fun hg => ?_) (fun hg => ?_) | refine AL_gnot rfl rfl rfl (fun hg => ?_) (fun hg => ?_) | refine AL_gcases rfl rfl rfl (fun hg => ?_) (fun hg => ?_)))
  refine AW_if rfl (fun hc => ?_) (fun hc => absurd (by omega) hc)
  (repeat (refine stq ?_))
  exact ⟨_,_,rfl,rfl,by rw [sortRE,if_neg he]; rfl⟩
end Go.Abs
namespace Go.Abs
open Go.Proofs
set_option linter.unusedVariables false
set_option linter.unusedSimpArgs false
set_option maxRecDepth 100000
theorem f101 (n : Int) (s : Span) : ACalls Tryz.prog 101 [vi n,eS s] (fun r => r = .pv (.bool (inB n s.low s.high))):= by
 have k87 := f87 n s.low s.high
 refine ACalls.of_body hT Tryz.func101 rfl (by kernel_rfl) rfl ?_
 (repeat' (first | refine stq ?_ | (refine AL_do2 rfl ?_; first | refine ⟨_,op_call1 rfl rfl rfl rfl (k87),nrmA rfl ?_⟩) | (with_reducible refine AL_id ?_); (fail_if_success (refine AL_glit rfl rfl rfl (by first | exact .inl (by with_reducible rfl) | exact .inr (by with_reducible rfl)) ?_)); first | refine AL_gdec rfl rfl rfl (fun hg => ?_) (fun hg => ?_) | refine AL_gnot rfl rfl rfl (fun hg => ?_) (fun hg => ?_) | refine AL_gcases rfl rfl rfl (fun hg => ?_) (fun hg => ?_)))
 exact ⟨_,_,rfl,rfl,rfl⟩
theorem f96 (s : Strip) (hour : Int) : ACalls Tryz.prog 96 [.agg (eStrip s),.ptr [vi hour]] (fun r => r = .pv (.bool (decide (s.hour >= hour)))):= by
 refine ACalls.of_body hT Tryz.func96 rfl (by kernel_rfl) rfl ?_
 (repeat (refine stq ?_))
 exact ⟨_,_,rfl,rfl,rfl⟩
def lateB (d : Drum) (hour : Int) : Bool := d.strips.any fun s => decide (s.hour >= hour)
theorem late95 (d : Drum) (hour : Int) (hl : d.strips.length <= 1000) : ACalls Tryz.prog 95 [.sl (d.strips.map eStrip),.fn 96 [.ptr [vi hour]]] (fun r => r = .pv (.bool (lateB d hour))) :=
 c95 d.strips 96 [.ptr [vi hour]] (fun s => decide (s.hour >= hour)) hl fun s _ => f96 s hour
end Go.Abs
