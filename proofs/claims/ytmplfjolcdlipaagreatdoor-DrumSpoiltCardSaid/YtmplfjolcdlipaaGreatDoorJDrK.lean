/- Copies, the greatest number, the runs' count. -/
import Derived.Test.YtmplfjolcdlipaaGreatDoorJDrJ
set_option linter.unusedVariables false
set_option linter.unusedSimpArgs false
namespace Go.Abs
open Go.Proofs
set_option linter.unusedVariables false
set_option linter.unusedSimpArgs false
set_option maxRecDepth 100000
theorem f97 (l : List Int) (hl : l.length <= 1000) : ACalls Tryz.prog 97 [eInts l] (fun r => r = .own 3 1 (l.map eInt)):= by
 refine ACalls.of_body hT Tryz.func97 rfl (by kernel_rfl) rfl ?_
 (repeat (refine stq ?_))
 refine AL_doS rfl (op_eql_slnil hT rfl rfl rfl rfl rfl (fun el h => by obtain ⟨b,_,rfl⟩ := List.mem_map.1 h; exact Nat.succ_pos _)) ?_
 rintro s' ⟨b,hb,rfl⟩
 refine AL_nil_then ?_
 refine AW_cond rfl (fun hc => ?_) (fun hc => ?_)
 ·have hl0 : l = [] := by have := hb hc; simpa using this
  subst hl0
  refine AW_seq ?_
  refine AW_region ?_
  refine AL_step hT rfl ?_
  refine AL_own_nil (e := 3) (sz := 1) (t := 2) rfl rfl ?_
  (repeat (refine stq ?_))
  exact ⟨_,_,rfl,rfl,rfl⟩
 ·(repeat (refine stq ?_))
  exact ⟨_,_,rfl,rfl,rfl⟩
theorem runs_max {l : List Int} {c : Int} (h : ∀ x ∈ l,x <= c) (hc : 0 <= c) : runsI l <= c + 1:= by
 rcases (runs_foldl l 0).2.2 with h1 | ⟨x,hx,h1⟩
 ·unfold runsI; omega
 ·have := h x hx; unfold runsI; omega
def nosB (l : List Int) : Prop := ∀ x ∈ l,0 <= x /\ x <= 100
set_option maxHeartbeats 4000000 in
theorem f122 (l : List Int) (hl : l.length <= 1000) (hne : l ≠ []) (hb : nosB l) : ACalls Tryz.prog 122 [eInts l] (fun r => r = .pv (vi (runsI l - 1))):= by
 have hpos : 0 < l.length := List.length_pos_iff.2 hne
 obtain ⟨x0,hx0⟩ : ∃ x,l[0]? = some x := ⟨l[0],by simp [hpos]⟩
 have e0 : (l.map eInt)[(0 : Int).toNat]? = some (eInt x0) := get_map eInt hx0
 have hx0b := hb x0 (List.mem_of_getElem? hx0)
 have hr1 : runsI (l.take 1) - 1 = x0:= by
  have : l.take 1 = [x0] := by rw [List.take_add_one,hx0]; rfl
  rw [this]
  show max 0 (x0 + 1) - 1 = x0
  omega
 refine ACalls.of_body hT Tryz.func122 rfl (by kernel_rfl) rfl ?_
 (repeat (refine stq ?_))
 refine AW_if rfl (fun hc => absurd hc (by omega)) (fun hc => ?_)
 (repeat (refine stq ?_))
 refine AW_loopC (fun k : Nat => 1 <= k /\ k <= l.length) (fun k => mkSt [(0,.pv (eInts l)),(3,.pv (vi (runsI (l.take k) - 1))),(4,.pv (vi k))] [] 0) (fun k => l.length - k) 1 ⟨by omega,by omega⟩ ?_ ?_
 ·rw [hr1]
  (refine Le.mk ?_ ?_; all_goals (repeat' (first | exact trivial | refine sle ?_ | refine ⟨?_,rfl,?_⟩ | refine ⟨?_,by decide,rfl,?_⟩ | fail)))
 ·rintro k ⟨hk1,hk⟩
  (repeat (refine stq ?_))
  refine AW_if rfl (fun hc => ?_) (fun hc => ?_)
  ·have hk' : k < l.length := by omega
   obtain ⟨x,hx⟩ : ∃ x,l[k]? = some x := ⟨l[k],by simp [hk']⟩
   have e1 := get_map eInt hx
   have hs : runsI (l.take (k + 1)) - 1 = max (runsI (l.take k) - 1) x:= by
    rw [List.take_add_one,hx]
    show runsI (l.take k ++ [x]) - 1 = _
    rw [runs_append]
    omega
   generalize runsI (l.take k) - 1 = u at *
   (repeat (refine stq ?_))
   refine ⟨k + 1,⟨by omega,hk'⟩,by omega,?_⟩
   rw [hs]
   (refine Le.mk ?_ ?_; all_goals (repeat' (first | exact trivial | refine sle ?_ | refine ⟨?_,rfl,?_⟩ | refine ⟨?_,by decide,rfl,?_⟩ | fail)))
  ·have hk' : k = l.length := by omega
   subst hk'
   rw [List.take_length]
   (repeat (refine stq ?_))
   exact ⟨_,_,rfl,rfl,rfl⟩
theorem f121 (l : List Int) (hl : l.length <= 1000) (hne : l ≠ []) (hb : nosB l) : ACalls Tryz.prog 121 [eInts l] (fun r => r = .pv (vi (runsI l))):= by
 have k122 := f122 l hl hne hb
 have h1 := runs_max (c := 100) (fun x hx => (hb x hx).2) (by omega)
 have h2 := runs_nonneg l
 refine ACalls.of_body hT Tryz.func121 rfl (by kernel_rfl) rfl ?_
 (repeat' (first | refine stq ?_ | (refine AL_do2 rfl ?_; first | refine ⟨_,op_call1 rfl rfl rfl rfl (k122),nrmA rfl ?_⟩) | (with_reducible refine AL_id ?_); (fail_if_success (refine AL_glit rfl rfl rfl (by first | exact .inl (by with_reducible rfl) | exact .inr (by with_reducible rfl)) ?_)); first | refine AL_gdec rfl rfl rfl (fun hg => ?_) (fun hg => ?_) | refine AL_gnot rfl rfl rfl (fun hg => ?_) (fun hg => ?_) | refine AL_gcases rfl rfl rfl (fun hg => ?_) (fun hg => ?_)))
 exact ⟨_,_,rfl,rfl,by rw [Int.sub_add_cancel]⟩
theorem f124 (a b : List Int) (ha : a.length <= 1000) (hb : b.length <= 1000) (hna : a ≠ []) (hnb : b ≠ []) (hba : nosB a) (hbb : nosB b) : ACalls Tryz.prog 124 [eInts a,eInts b,.ptr [.fn 121 []]] (fun r => r = .pv (.bool (fewB a b))):= by
 have k1 := f121 a ha hna hba
 have k2 := f121 b hb hnb hbb
 refine ACalls.of_body hT Tryz.func124 rfl (by kernel_rfl) rfl ?_
 (repeat (refine stq ?_))
 (repeat (first | refine sdq ?_ | refine DG_next (D_call rfl rfl rfl rfl rfl (k1)) ?_ | refine DG_next (D_call rfl rfl rfl rfl rfl (k2)) ?_))
 refine DG_end hM (by kernel_rfl) ?_
 (repeat (refine stq ?_))
 exact ⟨_,_,rfl,rfl,rfl⟩
end Go.Abs
namespace Go.Abs
open Go.Proofs
set_option linter.unusedVariables false
set_option linter.unusedSimpArgs false
set_option maxRecDepth 100000
theorem runsR_runs {W : List Span} {l : List Int} (hl : l.length <= 7) (h0 : ∀ x ∈ l,0 <= x) (hs : sortsB W l = true) : (((runsR l).1.length : Nat) : Int) = runsI l:= by
 have hg := go_inv l [] [] ⟨rfl,fun r v h => by simp at h⟩ h0 (by simpa using hl)
 have h00 : runsI [] = 0 := rfl
 rw [h00,List.length_nil,List.nil_append] at hg
 unfold sortsB at hs
 simp only [Bool.and_eq_true] at hs
 rcases hg with ⟨_,o,h2,h3,_⟩ | ⟨h1,_⟩
 ·unfold runsR; rw [h2]; exact h3
 ·rw [hs.1] at h1; cases h1
theorem flatMap_len_le {α β : Type} {f : α -> List β} {c : Nat} : ∀ {l : List α},(∀ x ∈ l,(f x).length <= c) -> (l.flatMap f).length <= l.length * c
 | [],_ => by simp
 | x :: l,h => by
  have h1 := h x (by simp)
  have h2 := flatMap_len_le (l := l) fun y hy => h y (by simp [hy])
  rw [List.flatMap_cons,List.length_append,List.length_cons,Nat.succ_mul]
  omega
theorem dfs_len (W : List Span) : ∀ (k : Nat) (now : List Int),runsI now + k <= 5 -> (dfsI W k now).length <= 6 ^ k
 | 0,now,_ => by unfold dfsI; split <;> simp
 | k + 1,now,h => by
  unfold dfsI
  have h0 := runs_nonneg now
  split
  ·refine Nat.le_trans (flatMap_len_le (c := 6 ^ k) fun m hm => dfs_len W k _ ?_) ?_
   ·rw [runs_append]; have := List.mem_range.1 hm; omega
   ·rw [List.length_range,Nat.pow_succ,Nat.mul_comm]
    exact Nat.mul_le_mul_left _ (by omega)
  ·simp
theorem pow6 {k : Nat} (h : k <= 5) : 6 ^ k <= 7776:= by
 match k,h with
 | 0,_ => decide
 | 1,_ => decide
 | 2,_ => decide
 | 3,_ => decide
 | 4,_ => decide
 | 5,_ => decide
def upto (W : List Span) (k : Nat) (now : List Int) (m : Nat) : List (List Int) := (List.range m).flatMap fun j : Nat => dfsI W k (now ++ [(j : Int)])
theorem upto_succ (W : List Span) (k : Nat) (now : List Int) (m : Nat) : upto W k now (m + 1) = upto W k now m ++ dfsI W k (now ++ [(m : Int)]):= by
 unfold upto
 rw [List.range_succ,List.flatMap_append]; simp
abbrev seF : FV := .fn 119 [.box 1 0,.box 2 0,.box 3 0,.box 4 0]
abbrev seA : List (Nat × Nat) := [(6,1),(7,2),(8,3),(9,4)]
abbrev eIntsC (l : List Int) : List PV := [eInts l]
abbrev seO (l : Nat) (W : List Span) (d : Drum) (L : List (List Int)) : List (Nat × AObj) := [(0,memoO (memoF W) l),(1,.box [.pv (eSpans W),.mp 0]),(2,.box ((eDrumC d).map FV.pv)),(3,.box [.arr 5]),(4,.box [seF]),(5,.arr 23 1 (L.map eIntsC))]
set_option maxHeartbeats 8000000 in
theorem f119 (l : Nat) (W : List Span) (d : Drum) (hW : W.length = d.batches.length) (hb : W.length <= 5) : ∀ (k : Nat) (now : List Int) (L : List (List Int)) (av : Nat -> Value),now.length + k = W.length -> nosB now -> runsI now <= now.length -> L.length + 6 ^ k <= 100000 →
  ACallsX Tryz.prog 119 [.pv (eInts now),.box 1 0,.box 2 0,.box 3 0,.box 4 0] (seO l W d L ++ ancL av seA) 10
   (fun sf => sf = mkSt [] (seO l W d (L ++ dfsI W k now) ++ ancL av seA) 10) (fun _ _ => False)
 | 0,now,L,av,hd,hn,hr,hL => by
  have k117 := f117 l W now (by omega) (by omega) (fun x hx => (hn x hx).1)
  rw [sortsP_eq (by omega) (by omega) (fun x hx => (hn x hx).1)] at k117
  have hdf : dfsI W 0 now = if sortsB W now then [now] else [] := rfl
  rw [hdf]
  refine ACallsX.of_body hT Tryz.func119 rfl (by kernel_rfl) rfl ?_
  (repeat (refine stq ?_))
  refine AL_doS rfl (op_callXs (objs := [(0,memoO (memoF W) l)]) (n := 1) [] [0] [] (fun av => k117) rfl rfl rfl rfl (by (repeat' (first | exact trivial | refine And.intro ?_ ?_)); all_goals (first | rfl | decide)) rfl (by (repeat' (first | exact trivial | refine And.intro ?_ ?_)); all_goals (first | rfl | decide)) rfl trivial (by simp) (fun av sf h => by subst h; exact ⟨.inr ⟨_,_,_,_,_,rfl,rfl⟩,trivial⟩)) ?_
  rintro s' ⟨av',sf,rfl,rfl⟩
  cases q : sortsB W now with
  | false =>
   (repeat (refine stq ?_))
   rw [if_neg (by simp),List.append_nil]
   refine ⟨_,mkSt [] (seO l W d L ++ ancL av seA) 10,rfl,?_,rfl⟩
   (refine Le.mk ?_ ?_; all_goals (repeat' (first | exact trivial | refine sle ?_ | refine ⟨?_,rfl,?_⟩ | refine ⟨?_,by decide,rfl,?_⟩ | fail)))
  | true =>
   (repeat (refine stq ?_))
   refine AW_if rfl (fun hc => ?_) (fun hc => absurd (by omega) hc)
   rw [if_pos rfl]
   (repeat (refine stq ?_))
   refine ⟨_,mkSt [] (seO l W d (L ++ [now]) ++ ancL av seA) 10,rfl,?_,rfl⟩
   (refine Le.mkR [(0,0),(1,1),(2,2),(3,3),(4,4),(5,12),(6,6),(7,7),(8,8),(9,9)] ?_ ?_ rfl; all_goals (repeat' (first | exact trivial | refine sle ?_ | refine ⟨?_,rfl,?_⟩ | refine ⟨?_,by decide,rfl,?_⟩ | fail)))
   rw [List.map_append]; rfl
 | k + 1,now,L,av,hd,hn,hr,hL => by
  have hn0 : ∀ x ∈ now,0 <= x := fun x hx => (hn x hx).1
  have k117 := f117 l W now (by omega) (by omega) hn0
  rw [sortsP_eq (by omega) (by omega) hn0] at k117
  have hdf : dfsI W (k + 1) now = if sortsB W now then upto W k now ((runsI now).toNat + 1) else [] := rfl
  have hrn := runs_nonneg now
  rw [hdf]
  refine ACallsX.of_body hT Tryz.func119 rfl (by kernel_rfl) rfl ?_
  (repeat (refine stq ?_))
  refine AL_doS rfl (op_callXs (objs := [(0,memoO (memoF W) l)]) (n := 1) [] [0] [] (fun av => k117) rfl rfl rfl rfl (by (repeat' (first | exact trivial | refine And.intro ?_ ?_)); all_goals (first | rfl | decide)) rfl (by (repeat' (first | exact trivial | refine And.intro ?_ ?_)); all_goals (first | rfl | decide)) rfl trivial (by simp) (fun av sf h => by subst h; exact ⟨.inr ⟨_,_,_,_,_,rfl,rfl⟩,trivial⟩)) ?_
  rintro s' ⟨av',sf,rfl,rfl⟩
  cases q : sortsB W now with
  | false =>
   (repeat (refine stq ?_))
   rw [if_neg (by simp),List.append_nil]
   refine ⟨_,mkSt [] (seO l W d L ++ ancL av seA) 10,rfl,?_,rfl⟩
   (refine Le.mk ?_ ?_; all_goals (repeat' (first | exact trivial | refine sle ?_ | refine ⟨?_,rfl,?_⟩ | refine ⟨?_,by decide,rfl,?_⟩ | fail)))
  | true =>
   have hlen := runsR_runs (by omega) hn0 q
   have k120 := f120 now (by omega) hn0
   generalize (runsR now).1 = R at *
   generalize (runsR now).2 = R2 at *
   have hRl : R.length = (runsI now).toNat := by omega
   rw [if_pos rfl,<- hRl]
   (repeat (refine stq ?_))
   refine AW_if rfl (fun hc => absurd hc (by omega)) (fun hc => ?_)
   (repeat' (first | refine stq ?_ | (refine AL_do2 rfl ?_; first | refine ⟨_,op_call1 rfl rfl rfl rfl (k120),nrmA rfl ?_⟩) | (with_reducible refine AL_id ?_); (fail_if_success (refine AL_glit rfl rfl rfl (by first | exact .inl (by with_reducible rfl) | exact .inr (by with_reducible rfl)) ?_)); first | refine AL_gdec rfl rfl rfl (fun hg => ?_) (fun hg => ?_) | refine AL_gnot rfl rfl rfl (fun hg => ?_) (fun hg => ?_) | refine AL_gcases rfl rfl rfl (fun hg => ?_) (fun hg => ?_)))
   refine AW_loopC (fun m : Nat => m <= R.length + 1) (fun m => mkSt [(0,.pv (eInts now)),(1,.box 1 0),(2,.box 2 0),(3,.box 3 0),(4,.box 4 0),(30,.pv (vi (R.length + 1))),(31,.pv (vi m))] (seO l W d (L ++ upto W k now m) ++ ancL av seA) 10) (fun m => R.length + 1 - m) 0 (Nat.zero_le _) ?_ ?_
   ·(refine Le.mk ?_ ?_; all_goals (repeat' (first | exact trivial | refine sle ?_ | refine ⟨?_,rfl,?_⟩ | refine ⟨?_,by decide,rfl,?_⟩ | fail)))
    show some (AObj.arr 23 1 (L.map eIntsC)) = some (AObj.arr 23 1 ((L ++ upto W k now 0).map eIntsC))
    simp [upto]
   ·intro m hm
    (repeat (refine stq ?_))
    refine AW_if rfl (fun hc => ?_) (fun hc => ?_)
    ·have hmR : m <= R.length := by omega
     have hrec : ∀ av',ACallsX Tryz.prog 119 [.pv (.sl (now.map eInt ++ [[vi m]])),.box 1 0,.box 2 0,.box 3 0,.box 4 0] (seO l W d (L ++ upto W k now m) ++ ancL av' seA) 10
       (fun sf => sf = mkSt [] (seO l W d (L ++ upto W k now (m + 1)) ++ ancL av' seA) 10) (fun _ _ => False) := fun av' => by
      have hup : (upto W k now m).length <= m * 6 ^ k:= by
       have := flatMap_len_le (l := List.range m) (f := fun j : Nat => dfsI W k (now ++ [(j : Int)])) (c := 6 ^ k) fun j hj => dfs_len W k _ (by rw [runs_append]; have := List.mem_range.1 hj; omega)
       rw [List.length_range] at this
       exact this
      have hm4 : m * 6 ^ k <= 4 * 6 ^ k := Nat.mul_le_mul_right _ (by omega)
      have h6 : 6 ^ (k + 1) = 6 ^ k * 6 := Nat.pow_succ ..
      have := f119 l W d hW hb k (now ++ [(m : Int)]) (L ++ upto W k now m) av' (by simp; omega) (fun x hx => by
       rcases List.mem_append.1 hx with h | h
       ·exact hn x h
       ·simp at h; omega) (by rw [runs_append]; simp; omega) (by rw [List.length_append]; omega)
      rw [List.append_assoc,<- upto_succ,eInts,List.map_append] at this
      exact this
     generalize L ++ upto W k now m = L1 at *
     (repeat (refine stq ?_))
     (repeat (first | refine DG_next (D_append_p hT rfl rfl rfl rfl rfl rfl rfl rfl rfl rfl rfl rfl rfl (by intro y hy; (first | (simp only [List.mem_cons,List.not_mem_nil,or_false] at hy; subst hy; rfl) | (simp only [List.mem_cons,List.not_mem_nil,or_false] at hy; rcases hy with hy | hy <;> subst hy <;> rfl) | (obtain ⟨_,_,rfl⟩ := List.mem_map.1 hy; rfl) | (cases hy))) (by simp only [List.length_map,List.length_take,List.length_cons,List.length_nil,List.length_append]; omega) rfl) ?_ | refine sdq ?_ | refine DG_next (D_call_own rfl rfl rfl rfl rfl (f97 now (by omega))) ?_))
     refine DG_end hM (by kernel_rfl) ?_
     refine AL_doS rfl (op_callXs (objs := seO l W d L1) (n := 10) [] [0,1,2,3,4] seA hrec rfl rfl rfl rfl (by (repeat' (first | exact trivial | refine And.intro ?_ ?_)); all_goals (first | rfl | decide)) rfl (by (repeat' (first | exact trivial | refine And.intro ?_ ?_)); all_goals (first | rfl | decide)) rfl ⟨⟨rfl,rfl,⟨_,.tail _ (.head _)⟩,rfl⟩,⟨rfl,rfl,⟨_,.tail _ (.tail _ (.head _))⟩,rfl⟩,⟨rfl,rfl,⟨_,.tail _ (.tail _ (.tail _ (.head _)))⟩,rfl⟩,⟨rfl,rfl,⟨_,.tail _ (.tail _ (.tail _ (.tail _ (.head _))))⟩,rfl⟩,trivial⟩ (by simp)
      (fun av sf h => by subst h; exact ⟨.inr ⟨_,_,_,_,_,rfl,rfl⟩,.inl ⟨6,by simp,rfl⟩,.inl ⟨7,by simp,rfl⟩,.inl ⟨8,by simp,rfl⟩,.inl ⟨9,by simp,rfl⟩,trivial⟩)) ?_
     rintro s' ⟨av2,sf,rfl,rfl⟩
     (repeat (refine stq ?_))
     refine ⟨m + 1,by omega,by omega,?_⟩
     (refine Le.mkR [(0,0),(1,1),(2,2),(3,3),(4,4),(5,16),(6,6),(7,7),(8,8),(9,9)] ?_ ?_ rfl; all_goals (repeat' (first | exact trivial | refine sle ?_ | refine ⟨?_,rfl,?_⟩ | refine ⟨?_,by decide,rfl,?_⟩ | fail)))
    ·have hmR : m = R.length + 1 := by omega
     subst hmR
     (repeat (refine stq ?_))
     refine ⟨_,mkSt [] (seO l W d (L ++ upto W k now (R.length + 1)) ++ ancL av seA) 10,rfl,?_,rfl⟩
     (refine Le.mk ?_ ?_; all_goals (repeat' (first | exact trivial | refine sle ?_ | refine ⟨?_,rfl,?_⟩ | refine ⟨?_,by decide,rfl,?_⟩ | fail)))
end Go.Abs
