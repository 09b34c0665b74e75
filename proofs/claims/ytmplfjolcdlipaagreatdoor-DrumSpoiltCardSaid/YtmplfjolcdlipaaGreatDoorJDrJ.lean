/- The runs of a list. -/
import Derived.Test.YtmplfjolcdlipaaGreatDoorJDrI
import Derived.Test.YtmplfjolcdlipaaGreatDoorJDrB
import Derived.Test.YtmplfjolcdlipaaGreatDoorJNcK
set_option linter.unusedVariables false
set_option linter.unusedSimpArgs false
namespace Go.Abs
open Go.Proofs
set_option linter.unusedVariables false
set_option linter.unusedSimpArgs false
set_option maxRecDepth 100000
def runStep (out : List Int) (i : Nat) (n : Int) : Option (List Int) :=
 if n > out.length then none else
  let o := if n = out.length then out ++ [0] else out
  some (o.set n.toNat (orR .i64 (o.getD n.toNat 0) (shlR .i64 1 i)))
def runsGo (out : List Int) (i : Nat) : List Int -> Option (List Int)
 | [] => some out
 | n :: l => (runStep out i n).bind fun o => runsGo o (i + 1) l
def runsK (l : List Int) (k : Nat) : Option (List Int) := runsGo [] 0 (l.take k)
theorem runsGo_append : ∀ (l r : List Int) (out : List Int) (i : Nat),runsGo out i (l ++ r) = (runsGo out i l).bind fun o => runsGo o (i + l.length) r
 | [],r,out,i => by simp [runsGo]
 | n :: l,r,out,i => by
  simp only [List.cons_append,runsGo]
  cases runStep out i n with
  | none => rfl
  | some o => simp only [Option.bind_some,runsGo_append l r o (i + 1),List.length_cons]; rw [show i + 1 + l.length = i + (l.length + 1) by omega]
theorem runsK_succ {l : List Int} {k : Nat} {n : Int} (h : l[k]? = some n) : runsK l (k + 1) = (runsK l k).bind fun o => runStep o k n:= by
 have hk : k < l.length := (List.getElem?_eq_some_iff.1 h).1
 unfold runsK
 rw [List.take_add_one,h,runsGo_append]
 have : (l.take k).length = k := by simp; omega
 rw [this,Nat.zero_add]
 congr 1
 funext o
 simp only [Option.toList,runsGo]
 cases runStep o k n <;> rfl
theorem runStep_len {out o : List Int} {i : Nat} {n : Int} (h : runStep out i n = some o) : o.length <= out.length + 1 /\ out.length <= o.length:= by
 unfold runStep at h
 split at h
 ·cases h
 ·simp only [Option.some.injEq] at h
  subst h
  rw [List.length_set]
  split <;> simp
theorem runsK_len {l : List Int} : ∀ {k : Nat} {o : List Int},runsK l k = some o -> o.length <= k
 | 0,o,h => by simp [runsK,runsGo] at h; subst h; simp
 | k + 1,o,h => by
  by_cases hk : k < l.length
  ·have hx : l[k]? = some l[k] := by simp [hk]
   rw [runsK_succ hx,Option.bind_eq_some_iff] at h
   obtain ⟨o',h1,h2⟩ := h
   have := runsK_len h1
   have := runStep_len h2
   omega
  ·have e : runsK l (k + 1) = runsK l k := by unfold runsK; rw [List.take_of_length_le (by omega),List.take_of_length_le (by omega)]
   rw [e] at h
   have := runsK_len h
   omega
def runsR (l : List Int) : List Int × Bool := match runsGo [] 0 l with
 | some o => (o,true)
 | none => ([],false)
theorem runsGo_none_take {l : List Int} {k : Nat} (h : runsK l k = none) : runsGo [] 0 l = none:= by
 have : runsGo [] 0 (l.take k ++ l.drop k) = none := by rw [runsGo_append]; unfold runsK at h; rw [h]; rfl
 rwa [List.take_append_drop] at this
theorem map_putI (l : List Int) (i : Nat) (u : Int) : (l.map eInt).set i (eInt u) = (l.set i u).map eInt := by rw [List.map_set]
set_option maxHeartbeats 4000000 in
theorem f120 (l : List Int) (hl : l.length <= 7) (h0 : ∀ x ∈ l,0 <= x) : ACalls Tryz.prog 120 [eInts l] (fun r => r = .tup [eInts (runsR l).1,.bool (runsR l).2]):= by
 refine ACalls.of_body hT Tryz.func120 rfl (by kernel_rfl) rfl ?_
 (repeat (refine stq ?_))
 refine AW_own_nil (e := 3) (sz := 1) (t := 4) rfl rfl ?_
 (repeat (refine stq ?_))
 refine AW_loopC (fun i : Nat × List Int => i.1 <= l.length /\ runsK l i.1 = some i.2) (fun i => mkSt [(4,.arr 0),(7,.pv (eInts l)),(8,.pv (vi l.length)),(9,.pv (vi i.1))] [(0,.arr 3 1 (i.2.map eInt))] 1) (fun i => l.length - i.1) (0,[]) ⟨Nat.zero_le _,rfl⟩ ?_ ?_
 ·(refine Le.mk ?_ ?_; all_goals (repeat' (first | exact trivial | refine sle ?_ | refine ⟨?_,rfl,?_⟩ | refine ⟨?_,by decide,rfl,?_⟩ | fail)))
 ·rintro ⟨k,out⟩ ⟨hk,hi⟩
  simp only at hk hi
  dsimp only
  have hol := runsK_len hi
  have holn : (out.map eInt).length = out.length := by simp
  (repeat (refine stq ?_))
  refine AW_if rfl (fun hc => ?_) (fun hc => ?_)
  ·have hk' : k < l.length := by omega
   obtain ⟨n,hn⟩ : ∃ n,l[k]? = some n := ⟨l[k],by simp [hk']⟩
   have e1 := get_map eInt hn
   have hn0 := h0 n (List.mem_of_getElem? hn)
   have hs := runsK_succ hn
   rw [hi,Option.bind_some] at hs
   (repeat (refine stq ?_))
   refine AW_if rfl (fun hc1 => ?_) (fun hc1 => ?_)
   ·(repeat (refine stq ?_))
    have hz : runStep out k n = none := by unfold runStep; rw [if_pos (by omega)]
    have hr : runsGo [] 0 l = none := runsGo_none_take (k := k + 1) (by rw [hs,hz])
    exact ⟨_,_,rfl,rfl,by unfold runsR; rw [hr]; rfl⟩
   ·(repeat (refine stq ?_))
    refine AW_if rfl (fun hc2 => ?_) (fun hc2 => ?_)
    ·have e3 : (out.map eInt ++ [eInt 0])[n.toNat]? = some (eInt 0):= by
      rw [List.getElem?_append_right (by simp; omega),show n.toNat - (out.map eInt).length = 0 by omega]; rfl
     have hlen : (out.map eInt ++ [eInt 0]).length = out.length + 1 := by simp
     have hst : runStep out k n = some ((out ++ [0]).set n.toNat (orR .i64 0 (shlR .i64 1 k))):= by
      unfold runStep
      rw [if_neg (by omega)]
      simp only [if_pos (show n = (out.length : Int) by omega)]
      rw [show n.toNat = out.length by omega]; simp
     have hlt : n.toNat < (out.map eInt ++ [eInt 0]).length := by rw [hlen]; omega
     (repeat (refine stq ?_))
     refine DG_step hT rfl ?_
     refine DG_step hT rfl ?_
     refine DG_next (D_indexAddr_arr (k := .i64) (n := n) (id := 2) (e' := 3) (sz := 1) (es := out.map eInt ++ [eInt 0]) hT rfl rfl rfl rfl rfl rfl rfl rfl rfl (by exact hn0) (by exact hlt) rfl) ?_
     refine DG_next (D_load_aptr (el := eInt 0) hT rfl rfl rfl rfl rfl rfl e3 rfl) ?_
     refine DG_step hT rfl ?_
     refine DG_next (D_shl rfl rfl rfl rfl rfl (by omega)) ?_
     refine DG_next (D_or rfl rfl rfl rfl rfl) ?_
     refine DG_next (D_indexAddr_arr (k := .i64) (n := n) (id := 2) (e' := 3) (sz := 1) (es := out.map eInt ++ [eInt 0]) hT rfl rfl rfl rfl rfl rfl rfl rfl rfl (by exact hn0) (by exact hlt) rfl) ?_
     refine DG_end hM (by kernel_rfl) ?_
     (repeat (refine stq ?_))
     refine AL_do2 rfl ⟨_,op_store_aptr (el := eInt 0) hT rfl rfl rfl rfl rfl e3 rfl rfl rfl rfl,?_⟩
     (repeat (refine stq ?_))
     refine ⟨(k + 1,(out ++ [0]).set n.toNat (orR .i64 0 (shlR .i64 1 k))),⟨by omega,by rw [hs,hst]⟩,by dsimp only; omega,?_⟩
     (refine Le.mkR [(0,2)] ?_ ?_ rfl; all_goals (repeat' (first | exact trivial | refine sle ?_ | refine ⟨?_,rfl,?_⟩ | refine ⟨?_,by decide,rfl,?_⟩ | fail)))
     exact congrArg some (congrArg (AObj.arr 3 1) (by rw [<- map_putI,List.map_append]; rfl))
    ·have hn' : n.toNat < out.length := by omega
     have e3 : (out.map eInt)[n.toNat]? = some (eInt (out.getD n.toNat 0)):= by
      rw [List.getElem?_map,List.getD_eq_getElem?_getD,List.getElem?_eq_getElem hn']; rfl
     have hst : runStep out k n = some (out.set n.toNat (orR .i64 (out.getD n.toNat 0) (shlR .i64 1 k))):= by
      unfold runStep
      rw [if_neg (by omega)]
      simp only [if_neg (show ¬ n = (out.length : Int) by omega)]
     have hlt : n.toNat < (out.map eInt).length := by rw [List.length_map]; exact hn'
     generalize out.getD n.toNat 0 = u at e3 hst
     (repeat (refine stq ?_))
     refine DG_step hT rfl ?_
     refine DG_step hT rfl ?_
     refine DG_next (D_indexAddr_arr (k := .i64) (n := n) (id := 0) (e' := 3) (sz := 1) (es := out.map eInt) hT rfl rfl rfl rfl rfl rfl rfl rfl rfl (by exact hn0) (by exact hlt) rfl) ?_
     refine DG_next (D_load_aptr (el := eInt u) hT rfl rfl rfl rfl rfl rfl e3 rfl) ?_
     refine DG_step hT rfl ?_
     refine DG_next (D_shl rfl rfl rfl rfl rfl (by omega)) ?_
     refine DG_next (D_or rfl rfl rfl rfl rfl) ?_
     refine DG_next (D_indexAddr_arr (k := .i64) (n := n) (id := 0) (e' := 3) (sz := 1) (es := out.map eInt) hT rfl rfl rfl rfl rfl rfl rfl rfl rfl (by exact hn0) (by exact hlt) rfl) ?_
     refine DG_end hM (by kernel_rfl) ?_
     (repeat (refine stq ?_))
     refine AL_do2 rfl ⟨_,op_store_aptr (el := eInt u) hT rfl rfl rfl rfl rfl e3 rfl rfl rfl rfl,?_⟩
     (repeat (refine stq ?_))
     refine ⟨(k + 1,out.set n.toNat (orR .i64 u (shlR .i64 1 k))),⟨by omega,by rw [hs,hst]⟩,by dsimp only; omega,?_⟩
     (refine Le.mk ?_ ?_; all_goals (repeat' (first | exact trivial | refine sle ?_ | refine ⟨?_,rfl,?_⟩ | refine ⟨?_,by decide,rfl,?_⟩ | fail)))
     exact congrArg some (congrArg (AObj.arr 3 1) (map_putI out _ _))
  ·have hk' : k = l.length := by omega
   subst hk'
   refine AW_pure (t := 4) rfl rfl ?_
   (repeat (refine stq ?_))
   exact ⟨_,_,rfl,rfl,by
    have : runsGo [] 0 l = some out := by unfold runsK at hi; rwa [List.take_length] at hi
    unfold runsR; rw [this]; rfl⟩
end Go.Abs
namespace Go.Abs
open Go.Proofs
set_option linter.unusedVariables false
set_option linter.unusedSimpArgs false
set_option maxRecDepth 100000
abbrev swO (l : Nat) (W : List Span) : List (Nat × AObj) := [(0,memoO (memoF W) l),(1,.box [.pv (eSpans W),.mp 0])]
theorem f166 (l : Nat) (W : List Span) (set : Int) (hW : W.length <= 1000) (av : Nat -> Value) : ACallsX Tryz.prog 166 [.pv (vi set),.box 1 0] (swO l W ++ ancL av [(2,1)]) 3
  (fun sf => sf = mkSt [(0,.pv (.bool (!openS (ofB W set))))] (swO l W ++ ancL av [(2,1)]) 3) (fun _ _ => False):= by
 refine ACallsX.of_body hT Tryz.func166 rfl (by kernel_rfl) rfl ?_
 (repeat (refine stq ?_))
 refine AL_doS rfl (op_callXs (objs := [(0,memoO (memoF W) l)]) (n := 1) [] [0] [] (fun av => f99 l W set hW) rfl rfl rfl rfl (by (repeat' (first | exact trivial | refine And.intro ?_ ?_)); all_goals (first | rfl | decide)) rfl (by (repeat' (first | exact trivial | refine And.intro ?_ ?_)); all_goals (first | rfl | decide)) rfl trivial (by simp) (fun av sf h => by subst h; exact ⟨.inr ⟨_,_,_,_,_,rfl,rfl⟩,trivial⟩)) ?_
 rintro s' ⟨av,sf,rfl,rfl⟩
 (repeat (refine stq ?_))
 refine ⟨_,mkSt [(0,.pv (.bool (!openS (ofB W set))))] _ 3,rfl,?_,rfl⟩
 (refine Le.mk ?_ ?_; all_goals (repeat' (first | exact trivial | refine sle ?_ | refine ⟨?_,rfl,?_⟩ | refine ⟨?_,by decide,rfl,?_⟩ | fail)))
def shutB (W : List Span) (x : Int) : Bool := !openS (ofB W x)
set_option maxHeartbeats 4000000 in
theorem f165w (l : Nat) (W : List Span) (xs : List Int) (hW : W.length <= 1000) (hx : xs.length <= 1000) (av : Nat -> Value) : ACallsX Tryz.prog 165 [.pv (eInts xs),.fn 166 [.box 1 0]] (swO l W ++ ancL av [(2,1)]) 3
  (fun sf => ∃ r : Int,(0 <= r ↔ xs.any (shutB W) = true) /\ sf = mkSt [(0,.pv (vi r))] (swO l W ++ ancL av [(2,1)]) 3) (fun _ _ => False):= by
 refine ACallsX.of_body hT Tryz.func165 rfl (by kernel_rfl) rfl ?_
 (repeat (refine stq ?_))
 refine AW_loopC (fun k : Nat => k <= xs.length /\ ∀ x ∈ xs.take k,shutB W x = false) (fun k => mkSt [(0,.pv (eInts xs)),(1,.fn 166 [.box 1 0]),(6,.pv (eInts xs)),(7,.pv (vi xs.length)),(8,.pv (vi k))] (swO l W ++ ancL av [(2,1)]) 3) (fun k => xs.length - k) 0 ⟨Nat.zero_le _,by simp⟩ ?_ ?_
 ·(refine Le.mk ?_ ?_; all_goals (repeat' (first | exact trivial | refine sle ?_ | refine ⟨?_,rfl,?_⟩ | refine ⟨?_,by decide,rfl,?_⟩ | fail)))
 ·rintro k ⟨hk,hall⟩
  (repeat (refine stq ?_))
  refine AW_if rfl (fun hc => ?_) (fun hc => ?_)
  ·have hk' : k < xs.length := by omega
   obtain ⟨x,hxk⟩ : ∃ x,xs[k]? = some x := ⟨xs[k],by simp [hk']⟩
   have e1 := get_map eInt hxk
   (repeat (refine stq ?_))
   refine AL_doS rfl (op_callXs (objs := swO l W) (n := 3) [] [0,1] [(2,1)] (fun av => f166 l W x hW av) rfl rfl rfl rfl (by (repeat' (first | exact trivial | refine And.intro ?_ ?_)); all_goals (first | rfl | decide)) rfl (by (repeat' (first | exact trivial | refine And.intro ?_ ?_)); all_goals (first | rfl | decide)) rfl ⟨⟨rfl,rfl,⟨_,.tail _ (.head _)⟩,rfl⟩,trivial⟩ (by simp) (fun av sf h => by subst h; exact ⟨.inr ⟨_,_,_,_,_,rfl,rfl⟩,.inl ⟨2,by simp,rfl⟩,trivial⟩)) ?_
   rintro s' ⟨av',sf,rfl,rfl⟩
   (repeat (refine stq ?_))
   refine AW_cond rfl (fun hb => ?_) (fun hb => ?_)
   ·(repeat (refine stq ?_))
    refine ⟨_,mkSt [(0,.pv (vi k))] (swO l W ++ ancL av [(2,1)]) 3,rfl,?_,k,?_,rfl⟩
    ·(refine Le.mk ?_ ?_; all_goals (repeat' (first | exact trivial | refine sle ?_ | refine ⟨?_,rfl,?_⟩ | refine ⟨?_,by decide,rfl,?_⟩ | fail)))
    ·have : xs.any (shutB W) = true := List.any_eq_true.2 ⟨x,List.mem_of_getElem? hxk,hb⟩
     rw [this]; simp
   ·(repeat (refine stq ?_))
    refine ⟨k + 1,⟨hk',fun y hy => ?_⟩,by omega,?_⟩
    ·rw [List.take_add_one,hxk] at hy
     rcases List.mem_append.1 hy with h | h
     ·exact hall y h
     ·simp at h; subst h; exact hb
    ·(refine Le.mk ?_ ?_; all_goals (repeat' (first | exact trivial | refine sle ?_ | refine ⟨?_,rfl,?_⟩ | refine ⟨?_,by decide,rfl,?_⟩ | fail)))
  ·have hk' : k = xs.length := by omega
   subst hk'
   rw [List.take_length] at hall
   (repeat (refine stq ?_))
   refine ⟨_,mkSt [(0,.pv (vi (-1)))] (swO l W ++ ancL av [(2,1)]) 3,rfl,?_,-1,?_,rfl⟩
   ·(refine Le.mk ?_ ?_; all_goals (repeat' (first | exact trivial | refine sle ?_ | refine ⟨?_,rfl,?_⟩ | refine ⟨?_,by decide,rfl,?_⟩ | fail)))
   ·have : xs.any (shutB W) = false:= by
     rw [List.any_eq_false]; intro x hx; rw [hall x hx]; simp
    rw [this]; simp
theorem f115w (l : Nat) (W : List Span) (xs : List Int) (hW : W.length <= 1000) (hx : xs.length <= 1000) (av : Nat -> Value) : ACallsX Tryz.prog 115 [.pv (eInts xs),.fn 166 [.box 1 0]] (swO l W ++ ancL av [(2,1)]) 3
  (fun sf => sf = mkSt [(0,.pv (.bool (xs.any (shutB W))))] (swO l W ++ ancL av [(2,1)]) 3) (fun _ _ => False):= by
 refine ACallsX.of_body hT Tryz.func115 rfl (by kernel_rfl) rfl ?_
 (repeat (refine stq ?_))
 refine AL_doS rfl (op_callXs (objs := swO l W) (n := 3) [] [0,1] [(2,1)] (fun av => f165w l W xs hW hx av) rfl rfl rfl rfl (by (repeat' (first | exact trivial | refine And.intro ?_ ?_)); all_goals (first | rfl | decide)) rfl (by (repeat' (first | exact trivial | refine And.intro ?_ ?_)); all_goals (first | rfl | decide)) rfl ⟨⟨rfl,rfl,⟨_,.tail _ (.head _)⟩,rfl⟩,trivial⟩ (by simp) (fun av sf h => by obtain ⟨r,_,h⟩ := h; subst h; exact ⟨.inr ⟨_,_,_,_,_,rfl,rfl⟩,.inl ⟨2,by simp,rfl⟩,trivial⟩)) ?_
 rintro s' ⟨av',sf,⟨r,hr,rfl⟩,rfl⟩
 (repeat (refine stq ?_))
 refine ⟨_,mkSt [(0,.pv (.bool (xs.any (shutB W))))] (swO l W ++ ancL av [(2,1)]) 3,rfl,?_,rfl⟩
 (refine Le.mk ?_ ?_; all_goals (repeat' (first | exact trivial | refine sle ?_ | refine ⟨?_,rfl,?_⟩ | refine ⟨?_,by decide,rfl,?_⟩ | fail)))
 have : decide (r >= 0) = xs.any (shutB W):= by
  cases q : xs.any (shutB W) with
  | true => exact decide_eq_true (hr.2 q)
  | false => exact decide_eq_false fun h => by rw [hr.1 h] at q; cases q
 rw [<- this]
 rfl
end Go.Abs
namespace Go.Abs
open Go.Proofs
set_option linter.unusedVariables false
set_option linter.unusedSimpArgs false
set_option maxRecDepth 100000
def sortsP (W : List Span) (xs : List Int) : Bool := (runsR xs).2 && !(runsR xs).1.any (shutB W)
theorem runsR_len (l : List Int) : (runsR l).1.length <= l.length:= by
 unfold runsR
 cases q : runsGo [] 0 l with
 | none => simp
 | some o => exact runsK_len (l := l) (k := l.length) (by unfold runsK; rwa [List.take_length])
set_option maxHeartbeats 4000000 in
theorem f117 (l : Nat) (W : List Span) (xs : List Int) (hW : W.length <= 1000) (hx : xs.length <= 7) (h0 : ∀ x ∈ xs,0 <= x) : ACallsX Tryz.prog 117 [winF W 0,.pv (eInts xs)] [(0,memoO (memoF W) l)] 1
  (fun sf => sf = mkSt [(0,.pv (.bool (sortsP W xs)))] [(0,memoO (memoF W) l)] 1) (fun _ _ => False):= by
 have k120 := f120 xs hx h0
 have hrl := runsR_len xs
 have hs : sortsP W xs = ((runsR xs).2 && !(runsR xs).1.any (shutB W)) := rfl
 rw [hs]
 generalize (runsR xs).1 = rs at *
 have k115 := fun av => f115w l W rs hW (by omega) av
 refine ACallsX.of_body hT Tryz.func117 rfl (by kernel_rfl) rfl ?_
 cases q : (runsR xs).2 with
 | false =>
  rw [q] at k120
  (repeat' (first | refine stq ?_ | (refine AL_do2 rfl ?_; first | refine ⟨_,op_call1 rfl rfl rfl rfl (k120),nrmA rfl ?_⟩) | (with_reducible refine AL_id ?_); (fail_if_success (refine AL_glit rfl rfl rfl (by first | exact .inl (by with_reducible rfl) | exact .inr (by with_reducible rfl)) ?_)); first | refine AL_gdec rfl rfl rfl (fun hg => ?_) (fun hg => ?_) | refine AL_gnot rfl rfl rfl (fun hg => ?_) (fun hg => ?_) | refine AL_gcases rfl rfl rfl (fun hg => ?_) (fun hg => ?_)))
  refine ⟨_,mkSt [(0,.pv (.bool false))] [(0,memoO (memoF W) l)] 1,rfl,?_,rfl⟩
  (refine Le.mk ?_ ?_; all_goals (repeat' (first | exact trivial | refine sle ?_ | refine ⟨?_,rfl,?_⟩ | refine ⟨?_,by decide,rfl,?_⟩ | fail)))
 | true =>
  rw [q] at k120
  (repeat' (first | refine stq ?_ | (refine AL_do2 rfl ?_; first | refine ⟨_,op_call1 rfl rfl rfl rfl (k120),nrmA rfl ?_⟩) | (with_reducible refine AL_id ?_); (fail_if_success (refine AL_glit rfl rfl rfl (by first | exact .inl (by with_reducible rfl) | exact .inr (by with_reducible rfl)) ?_)); first | refine AL_gdec rfl rfl rfl (fun hg => ?_) (fun hg => ?_) | refine AL_gnot rfl rfl rfl (fun hg => ?_) (fun hg => ?_) | refine AL_gcases rfl rfl rfl (fun hg => ?_) (fun hg => ?_)))
  refine AL_doS rfl (op_callXs (objs := swO l W) (n := 3) [] [0] [(2,1)] k115 rfl rfl rfl rfl (by (repeat' (first | exact trivial | refine And.intro ?_ ?_)); all_goals (first | rfl | decide)) rfl (by (repeat' (first | exact trivial | refine And.intro ?_ ?_)); all_goals (first | rfl | decide)) rfl ⟨⟨rfl,rfl,⟨_,.tail _ (.head _)⟩,rfl⟩,trivial⟩ (by simp) (fun av sf h => by subst h; exact ⟨.inr ⟨_,_,_,_,_,rfl,rfl⟩,trivial⟩)) ?_
  rintro s' ⟨av',sf,rfl,rfl⟩
  (repeat (refine stq ?_))
  refine ⟨_,mkSt [(0,.pv (.bool (true && !rs.any (shutB W))))] [(0,memoO (memoF W) l)] 1,rfl,?_,rfl⟩
  (refine Le.mk ?_ ?_; all_goals (repeat' (first | exact trivial | refine sle ?_ | refine ⟨?_,rfl,?_⟩ | refine ⟨?_,by decide,rfl,?_⟩ | fail)))
end Go.Abs
namespace Go.Abs
set_option linter.unusedVariables false
set_option linter.unusedSimpArgs false
set_option maxRecDepth 100000
def orOK : Bool := (List.range 128).all fun v => (List.range 7).all fun i => decide (0 <= orR .i64 v (shlR .i64 1 i)) && decide (orR .i64 v (shlR .i64 1 i) < 128) && (List.range 7).all fun j => bitI (orR .i64 v (shlR .i64 1 i)) j == (bitI v j || decide (j = i))
theorem or_ok : orOK = true := by decide +kernel
def zeroOK : Bool := (List.range 7).all fun j => !bitI 0 j
theorem zero_ok : zeroOK = true := by decide +kernel
theorem or_bit {v : Int} {i : Nat} (h0 : 0 <= v) (h1 : v < 128) (hi : i < 7) : 0 <= orR .i64 v (shlR .i64 1 i) /\ orR .i64 v (shlR .i64 1 i) < 128 /\ ∀ j < 7,bitI (orR .i64 v (shlR .i64 1 i)) j = (bitI v j || decide (j = i)):= by
 obtain ⟨n,rfl⟩ : ∃ n : Nat,v = n := ⟨v.toNat,by omega⟩
 have h := List.all_eq_true.1 (List.all_eq_true.1 or_ok n (List.mem_range.2 (by omega))) i (List.mem_range.2 hi)
 simp only [Bool.and_eq_true,decide_eq_true_eq,List.all_eq_true,List.mem_range,beq_iff_eq] at h
 exact ⟨h.1.1,h.1.2,h.2⟩
theorem zero_bit {j : Nat} (hj : j < 7) : bitI 0 j = false:= by
 have := List.all_eq_true.1 zero_ok j (List.mem_range.2 hj)
 simpa using this
def RInv (p o : List Int) : Prop := (o.length : Int) = runsI p /\ ∀ (r : Nat) (v : Int),o[r]? = some v -> 0 <= v /\ v < 128 /\ ∀ j < 7,bitI v j = decide (p[j]? = some (r : Int))
theorem step_some {p o : List Int} {n : Int} (h : RInv p o) (h0 : 0 <= n) (hp : p.length < 7) (hn : n <= runsI p) : ∃ o',runStep o p.length n = some o' /\ RInv (p ++ [n]) o':= by
 obtain ⟨hl,hv⟩ := h
 refine ⟨_,by unfold runStep; rw [if_neg (by omega)],?_⟩
 have key : ∀ q : List Int,((q.length : Int) = max (runsI p) (n + 1)) -> (∀ (r : Nat) (v : Int),q[r]? = some v -> 0 <= v /\ v < 128 /\ ∀ j < 7,bitI v j = decide (p[j]? = some (r : Int))) -> RInv (p ++ [n]) (q.set n.toNat (orR .i64 (q.getD n.toNat 0) (shlR .i64 1 p.length))):= by
  intro q hq hqv
  refine ⟨by rw [List.length_set,runs_append]; exact hq,fun r v hr => ?_⟩
  rw [List.getElem?_set] at hr
  split at hr
  ·rename_i hrn
   split at hr
   ·rename_i hlt
    simp only [Option.some.injEq] at hr
    subst hr
    have hu : q[n.toNat]? = some (q.getD n.toNat 0) := by rw [List.getD_eq_getElem?_getD,List.getElem?_eq_getElem hlt]; rfl
    obtain ⟨u0,u1,u2⟩ := hqv _ _ hu
    obtain ⟨w0,w1,w2⟩ := or_bit u0 u1 hp
    refine ⟨w0,w1,fun j hj => ?_⟩
    rw [w2 j hj,u2 j hj]
    have hrn' : (r : Int) = n := by omega
    have hnn : (n.toNat : Int) = n := by omega
    rw [hnn,hrn']
    by_cases hjp : j = p.length
    ·subst hjp; simp
    ·by_cases hj2 : j < p.length
     ·rw [List.getElem?_append_left hj2]; simp [hjp]
     ·rw [List.getElem?_eq_none (by omega : p.length <= j),List.getElem?_eq_none (by simp; omega)]; simp [hjp]
   ·cases hr
  ·rename_i hrn
   obtain ⟨u0,u1,u2⟩ := hqv _ _ hr
   refine ⟨u0,u1,fun j hj => ?_⟩
   rw [u2 j hj]
   by_cases hjp : j = p.length
   ·subst hjp
    rw [List.getElem?_eq_none (Nat.le_refl _)]
    simp
    omega
   ·by_cases hj2 : j < p.length
    ·rw [List.getElem?_append_left hj2]
    ·rw [List.getElem?_eq_none (by omega : p.length <= j),List.getElem?_eq_none (by simp; omega)]
 split
 ·rename_i hnl
  refine key (o ++ [0]) (by simp; omega) fun r v hr => ?_
  by_cases hro : r < o.length
  ·rw [List.getElem?_append_left hro] at hr; exact hv r v hr
  ·rw [List.getElem?_append_right (by omega)] at hr
   have hr0 : r - o.length = 0:= by
    have := (List.getElem?_eq_some_iff.1 hr).1
    simp at this; omega
   rw [hr0] at hr
   simp at hr
   subst hr
   refine ⟨by omega,by omega,fun j hj => ?_⟩
   rw [zero_bit hj]
   symm
   rw [decide_eq_false_iff_not]
   intro hm
   have := runs_lt (List.mem_of_getElem? hm)
   omega
 ·exact key o (by omega) hv
theorem go_inv : ∀ (s p o : List Int),RInv p o -> (∀ x ∈ s,0 <= x) -> p.length + s.length <= 7 -> (rgsGo (runsI p) s = true /\ ∃ o',runsGo o p.length s = some o' /\ RInv (p ++ s) o') \/ (rgsGo (runsI p) s = false /\ runsGo o p.length s = none)
 | [],p,o,h,_,_ => .inl ⟨rfl,o,rfl,by rwa [List.append_nil]⟩
 | n :: s,p,o,h,h0,hl => by
  simp only [List.length_cons] at hl
  by_cases hn : n <= runsI p
  ·obtain ⟨o',h1,h2⟩ := step_some h (h0 n (by simp)) (by omega) hn
   have ih := go_inv s (p ++ [n]) o' h2 (fun x hx => h0 x (by simp [hx])) (by simp; omega)
   rw [runs_append,List.length_append,List.append_assoc] at ih
   simp only [rgsGo,decide_eq_true hn,Bool.true_and,runsGo,h1,Option.bind_some]
   exact ih
  ·refine .inr ⟨by simp [rgsGo,hn],?_⟩
   have : runStep o p.length n = none := by unfold runStep; rw [if_pos (by have := h.1; omega)]
   simp only [runsGo,this,Option.bind_none]
theorem sortsP_eq {W : List Span} {l : List Int} (hW : W.length <= 7) (hl : l.length <= 7) (h0 : ∀ x ∈ l,0 <= x) : sortsP W l = sortsB W l:= by
 have hg := go_inv l [] [] ⟨rfl,fun r v h => by simp at h⟩ h0 (by simpa using hl)
 have h00 : runsI [] = 0 := rfl
 rw [h00,List.length_nil,List.nil_append] at hg
 unfold sortsP sortsB runsR
 rcases hg with ⟨h1,o,h2,h3,h4⟩ | ⟨h1,h2⟩
 ·rw [h2,h1]
  simp only [Bool.true_and]
  have hlen : o.length = (runsI l).toNat := by omega
  have hb : ∀ (r : Nat) (v : Int),o[r]? = some v -> openS (ofB W v) = runB W l r := fun r v hr => by
   unfold ofB runB
   rw [pick_congr fun i hi => (h4 r v hr).2.2 i (by omega)]
  rw [<- hlen,Bool.eq_iff_iff]
  simp only [Bool.not_eq_true',List.any_eq_false,List.all_eq_true,List.mem_range]
  constructor
  ·intro h r hr
   have hx : o[r]? = some o[r] := by simp [hr]
   have := h o[r] (List.getElem_mem hr)
   rw [<- hb r _ hx]
   unfold shutB at this
   simpa using this
  ·intro h v hv
   obtain ⟨r,hr⟩ := List.getElem?_of_mem hv
   have := h r (List.getElem?_eq_some_iff.1 hr).1
   unfold shutB
   rw [hb r v hr,this]
   simp
 ·rw [h2,h1]; rfl
end Go.Abs
namespace Go.Abs
open Go.Proofs
set_option linter.unusedVariables false
set_option linter.unusedSimpArgs false
set_option maxRecDepth 100000
end Go.Abs
