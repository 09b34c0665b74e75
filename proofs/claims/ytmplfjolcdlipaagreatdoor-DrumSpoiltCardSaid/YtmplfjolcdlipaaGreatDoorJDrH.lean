/- The windows of sets of batches. -/
import Derived.Test.YtmplfjolcdlipaaGreatDoorJDrG
import Derived.Test.YtmplfjolcdlipaaGreatDoorJNcJ
set_option linter.unusedVariables false
set_option linter.unusedSimpArgs false
namespace Go.Abs
open Go.Proofs
set_option linter.unusedVariables false
set_option linter.unusedSimpArgs false
set_option maxRecDepth 100000
def spanV (s : Span) : Value := .agg #[.int .i64 s.low,.int .i64 s.high]
theorem spanV_val (s : Span) : valP (eS s) = some (spanV s) := rfl
theorem spanV_rep (s : Span) (w : World) (D : Nat -> Prop) : Rep w D (spanV s) (eS s) := .agg _ _ rfl fun j v p hv hp => by
 match j with
 | 0 => simp at hv; simp [eSpan] at hp; subst hv; subst hp; exact .int _ _
 | 1 => simp at hv; simp [eSpan] at hp; subst hv; subst hp; exact .int _ _
 | j + 2 => simp [eSpan] at hp
theorem zero67 (w : World) : (zeroValue 67).run Tryz.prog w = .ok (spanV ⟨0,0⟩) w := rfl
def ofB (W : List Span) (set : Int) : Span := meetL (pick W (bitI set))
def memoF (W : List Span) (n : Int) : Value := spanV (ofB W n)
theorem pick_succ {W : List Span} {k : Nat} {x : Span} (p : Nat -> Bool) (h : W[k]? = some x) : pick (W.take (k + 1)) p = if p k then pick (W.take k) p ++ [x] else pick (W.take k) p:= by
 have hk : k < W.length := (List.getElem?_eq_some_iff.1 h).1
 unfold pick
 rw [List.take_add_one,h]
 rw [List.zipIdx_append,List.filter_append,List.map_append]
 have : (W.take k).length = k := by simp; omega
 cases hb : p k <;> simp [this,hb]
theorem meet_succ {W : List Span} {k : Nat} {x : Span} (p : Nat -> Bool) (h : W[k]? = some x) : meetL (pick (W.take (k + 1)) p) = if p k then common (meetL (pick (W.take k) p)) x else meetL (pick (W.take k) p):= by
 rw [pick_succ p h]
 split
 ·simp [meetL,List.foldl_append]
 ·rfl
abbrev winF (W : List Span) (id : Nat) : FV := .agg [.pv (eSpans W),.mp id]
abbrev spanF (s : Span) : FV := .agg [.pv (vi s.low),.pv (vi s.high)]
set_option maxHeartbeats 4000000 in
theorem f102 (l : Nat) (W : List Span) (set : Int) (hW : W.length <= 1000) : ACallsX Tryz.prog 102 [winF W 0,.pv (vi set)] [(0,memoO (memoF W) l)] 1
  (fun sf => sf = mkSt [(0,spanF (ofB W set))] [(0,memoO (memoF W) l)] 1) (fun _ _ => False):= by
 refine ACallsX.of_body hT Tryz.func102 rfl (by kernel_rfl) rfl ?_
 (repeat (refine stq ?_))
 refine AL_doS rfl (op_lookMemo (f := memoF W) (l := l) (p := eS (ofB W set)) (z := eS ⟨0,0⟩) und127 und3 zero67 (spanV_val _) rfl rfl rfl rfl rfl (spanV_val _) (spanV_rep _) (spanV_rep _)) ?_
 rintro s' (rfl | rfl)
 ·(repeat (refine stq ?_))
  refine ⟨_,mkSt [(0,spanF (ofB W set))] [(0,memoO (memoF W) l)] 1,rfl,?_,rfl⟩
  (refine Le.mk ?_ ?_; all_goals (repeat' (first | exact trivial | refine sle ?_ | refine ⟨?_,rfl,?_⟩ | refine ⟨?_,by decide,rfl,?_⟩ | fail)))
 ·(repeat (refine stq ?_))
  refine AW_loopC (fun k : Nat => k <= W.length) (fun k => mkSt [(1,.pv (vi set)),(2,.box 1 0),(4,.box 2 0),(7,.box 4 0),(21,.pv (eSpans W)),(22,.pv (vi W.length)),(23,.pv (vi k))]
   [(0,memoO (memoF W) l),(1,.box [.pv (eSpans W),.mp 0]),(2,.box [.pv (vi 0),.pv (vi 0)]),(4,.box [.pv (vi (meetL (pick (W.take k) (bitI set))).low),.pv (vi (meetL (pick (W.take k) (bitI set))).high)])] 5) (fun k => W.length - k) 0 (Nat.zero_le _) ?_ ?_
  ·(refine Le.mk ?_ ?_; all_goals (repeat' (first | exact trivial | refine sle ?_ | refine ⟨?_,rfl,?_⟩ | refine ⟨?_,by decide,rfl,?_⟩ | fail)))
  ·intro k hk
   (repeat (refine stq ?_))
   refine AW_if rfl (fun hc => ?_) (fun hc => ?_)
   ·have hk' : k < W.length := by omega
    obtain ⟨x,hx⟩ : ∃ x,W[k]? = some x := ⟨W[k],by simp [hk']⟩
    have e1 := get_map eSpan hx
    have k145 := f145 set k
    have hs := meet_succ (bitI set) hx
    generalize meetL (pick (W.take k) (bitI set)) = u at *
    cases q : bitI set k with
    | true =>
     rw [q] at k145 hs
     rw [if_pos rfl] at hs
     (repeat' (first | refine stq ?_ | (refine AL_do2 rfl ?_; first | refine ⟨_,op_call1 rfl rfl rfl rfl (k145),nrmA rfl ?_⟩) | (with_reducible refine AL_id ?_); (fail_if_success (refine AL_glit rfl rfl rfl (by first | exact .inl (by with_reducible rfl) | exact .inr (by with_reducible rfl)) ?_)); first | refine AL_gdec rfl rfl rfl (fun hg => ?_) (fun hg => ?_) | refine AL_gnot rfl rfl rfl (fun hg => ?_) (fun hg => ?_) | refine AL_gcases rfl rfl rfl (fun hg => ?_) (fun hg => ?_)))
     refine ⟨k + 1,hk',by omega,?_⟩
     rw [hs]
     (refine Le.mk ?_ ?_; all_goals (repeat' (first | exact trivial | refine sle ?_ | refine ⟨?_,rfl,?_⟩ | refine ⟨?_,by decide,rfl,?_⟩ | fail)))
    | false =>
     rw [q] at k145 hs
     rw [if_neg (by simp)] at hs
     (repeat' (first | refine stq ?_ | (refine AL_do2 rfl ?_; first | refine ⟨_,op_call1 rfl rfl rfl rfl (k145),nrmA rfl ?_⟩) | (with_reducible refine AL_id ?_); (fail_if_success (refine AL_glit rfl rfl rfl (by first | exact .inl (by with_reducible rfl) | exact .inr (by with_reducible rfl)) ?_)); first | refine AL_gdec rfl rfl rfl (fun hg => ?_) (fun hg => ?_) | refine AL_gnot rfl rfl rfl (fun hg => ?_) (fun hg => ?_) | refine AL_gcases rfl rfl rfl (fun hg => ?_) (fun hg => ?_)))
     refine ⟨k + 1,hk',by omega,?_⟩
     rw [hs]
     (refine Le.mk ?_ ?_; all_goals (repeat' (first | exact trivial | refine sle ?_ | refine ⟨?_,rfl,?_⟩ | refine ⟨?_,by decide,rfl,?_⟩ | fail)))
   ·have hk' : k = W.length := by omega
    subst hk'
    rw [List.take_length]
    (repeat (refine stq ?_))
    refine AL_do2 rfl ⟨_,op_updateMemo (f := memoF W) (l := l) (p := eS (ofB W set)) und127 und3 rfl rfl rfl rfl rfl rfl (spanV_val _),?_⟩
    (repeat (refine stq ?_))
    refine ⟨_,mkSt [(0,spanF (ofB W set))] [(0,memoO (memoF W) l)] 1,rfl,?_,rfl⟩
    (refine Le.mk ?_ ?_; all_goals (repeat' (first | exact trivial | refine sle ?_ | refine ⟨?_,rfl,?_⟩ | refine ⟨?_,by decide,rfl,?_⟩ | fail)))
end Go.Abs
namespace Go.Abs
open Go.Proofs
set_option linter.unusedVariables false
set_option linter.unusedSimpArgs false
set_option maxRecDepth 100000
theorem f99 (l : Nat) (W : List Span) (set : Int) (hW : W.length <= 1000) : ACallsX Tryz.prog 99 [winF W 0,.pv (vi set)] [(0,memoO (memoF W) l)] 1
  (fun sf => sf = mkSt [(0,.pv (.bool (openS (ofB W set))))] [(0,memoO (memoF W) l)] 1) (fun _ _ => False):= by
 refine ACallsX.of_body hT Tryz.func99 rfl (by kernel_rfl) rfl ?_
 (repeat (refine stq ?_))
 refine AL_doS rfl (op_callXs (objs := [(0,memoO (memoF W) l)]) (n := 1) [] [0] [] (fun av => f102 l W set hW) rfl rfl rfl rfl (by (repeat' (first | exact trivial | refine And.intro ?_ ?_)); all_goals (first | rfl | decide)) rfl (by (repeat' (first | exact trivial | refine And.intro ?_ ?_)); all_goals (first | rfl | decide)) rfl trivial (by simp) (fun av sf h => by subst h; exact ⟨.inr ⟨_,_,_,_,_,rfl,rfl⟩,trivial⟩)) ?_
 rintro s' ⟨av,sf,rfl,rfl⟩
 (repeat (refine stq ?_))
 refine ⟨_,mkSt [(0,.pv (.bool (openS (ofB W set))))] [(0,memoO (memoF W) l)] 1,rfl,?_,rfl⟩
 (refine Le.mk ?_ ?_; all_goals (repeat' (first | exact trivial | refine sle ?_ | refine ⟨?_,rfl,?_⟩ | refine ⟨?_,by decide,rfl,?_⟩ | fail)))
def allB (n : Nat) : Int := shlR .i64 1 n - 1
theorem shl_small {n : Nat} (h : n <= 5) : shlR .i64 1 n = 2 ^ n /\ 1 <= shlR .i64 1 n /\ shlR .i64 1 n <= 32:= by
 match n,h with
 | 0,_ => decide
 | 1,_ => decide
 | 2,_ => decide
 | 3,_ => decide
 | 4,_ => decide
 | 5,_ => decide
theorem f100 (l : Nat) (W : List Span) (hW : W.length <= 5) : ACallsX Tryz.prog 100 [winF W 0] [(0,memoO (memoF W) l)] 1
  (fun sf => sf = mkSt [(0,.pv (vi (allB W.length)))] [(0,memoO (memoF W) l)] 1) (fun _ _ => False):= by
 have h1 := shl_small hW
 refine ACallsX.of_body hT Tryz.func100 rfl (by kernel_rfl) rfl ?_
 (repeat (refine stq ?_))
 refine ⟨_,mkSt [(0,.pv (vi (allB W.length)))] [(0,memoO (memoF W) l)] 1,rfl,?_,rfl⟩
 (refine Le.mk ?_ ?_; all_goals (repeat' (first | exact trivial | refine sle ?_ | refine ⟨?_,rfl,?_⟩ | refine ⟨?_,by decide,rfl,?_⟩ | fail)))
def eachB (W : List Span) : Bool := (List.range W.length).all fun i => openS (ofB W (shlR .i64 1 i))
theorem f118 (l : Nat) (W : List Span) (hW : W.length <= 5) : ACallsX Tryz.prog 118 [winF W 0] [(0,memoO (memoF W) l)] 1
  (fun sf => sf = mkSt [(0,.pv (.bool (eachB W)))] [(0,memoO (memoF W) l)] 1) (fun _ _ => False):= by
 refine ACallsX.of_body hT Tryz.func118 rfl (by kernel_rfl) rfl ?_
 (repeat (refine stq ?_))
 refine AW_loopC (fun k : Nat => k <= W.length /\ ∀ i,i < k -> openS (ofB W (shlR .i64 1 i)) = true) (fun k => mkSt [(1,.box 1 0),(5,.pv (eSpans W)),(6,.pv (vi W.length)),(7,.pv (vi k))] [(0,memoO (memoF W) l),(1,.box [.pv (eSpans W),.mp 0])] 2) (fun k => W.length - k) 0 ⟨Nat.zero_le _,fun i h => by omega⟩ ?_ ?_
 ·(refine Le.mk ?_ ?_; all_goals (repeat' (first | exact trivial | refine sle ?_ | refine ⟨?_,rfl,?_⟩ | refine ⟨?_,by decide,rfl,?_⟩ | fail)))
 ·rintro k ⟨hk,hall⟩
  (repeat (refine stq ?_))
  refine AW_if rfl (fun hc => ?_) (fun hc => ?_)
  ·have hk' : k < W.length := by omega
   have k99 := f99 l W (shlR .i64 1 k) (by omega)
   cases q : openS (ofB W (shlR .i64 1 k)) with
   | false =>
    rw [q] at k99
    (repeat (refine stq ?_))
    (repeat (first | refine DG_next (D_shl rfl rfl rfl rfl rfl (by omega)) ?_ | refine DG_next (D_callMemo rfl rfl rfl rfl (fun s1 => (by (repeat' (first | exact trivial | refine And.intro ?_ ?_)); all_goals (first | rfl | decide))) rfl rfl k99) ?_ | refine sdq ?_))
    refine DG_end hM (by kernel_rfl) ?_
    (repeat (refine stq ?_))
    refine ⟨_,mkSt [(0,.pv (.bool false))] [(0,memoO (memoF W) l)] 1,rfl,?_,?_⟩
    ·(refine Le.mk ?_ ?_; all_goals (repeat' (first | exact trivial | refine sle ?_ | refine ⟨?_,rfl,?_⟩ | refine ⟨?_,by decide,rfl,?_⟩ | fail)))
    ·have : eachB W = false:= by
      cases he : eachB W with
      | false => rfl
      | true => have := List.all_eq_true.1 he k (List.mem_range.2 hk'); rw [q] at this; cases this
     rw [this]
   | true =>
    rw [q] at k99
    (repeat (refine stq ?_))
    (repeat (first | refine DG_next (D_shl rfl rfl rfl rfl rfl (by omega)) ?_ | refine DG_next (D_callMemo rfl rfl rfl rfl (fun s1 => (by (repeat' (first | exact trivial | refine And.intro ?_ ?_)); all_goals (first | rfl | decide))) rfl rfl k99) ?_ | refine sdq ?_))
    refine DG_end hM (by kernel_rfl) ?_
    (repeat (refine stq ?_))
    refine ⟨k + 1,⟨hk',fun i hi => ?_⟩,by omega,?_⟩
    ·by_cases hik : i = k
     ·rw [hik]; exact q
     ·exact hall i (by omega)
    ·(refine Le.mk ?_ ?_; all_goals (repeat' (first | exact trivial | refine sle ?_ | refine ⟨?_,rfl,?_⟩ | refine ⟨?_,by decide,rfl,?_⟩ | fail)))
  ·have hk' : k = W.length := by omega
   (repeat (refine stq ?_))
   refine ⟨_,mkSt [(0,.pv (.bool true))] [(0,memoO (memoF W) l)] 1,rfl,?_,?_⟩
   ·(refine Le.mk ?_ ?_; all_goals (repeat' (first | exact trivial | refine sle ?_ | refine ⟨?_,rfl,?_⟩ | refine ⟨?_,by decide,rfl,?_⟩ | fail)))
   ·have : eachB W = true := List.all_eq_true.2 fun i hi => hall i (by rw [hk']; exact List.mem_range.1 hi)
    rw [this]
theorem f144 : ACalls Tryz.prog 144 [] (fun r => r = .pv (eS ⟨1,0⟩)):= by
 refine ACalls.of_body hT Tryz.func144 rfl (by kernel_rfl) rfl ?_
 (repeat (refine stq ?_))
 exact ⟨_,_,rfl,rfl,rfl⟩
set_option maxHeartbeats 4000000 in
theorem f98 (d : Drum) (hP : DrumP d) (hne : filledL d ≠ []) : ACallsX Tryz.prog 98 [.pv (eDrum d),.pv (eFilledL d (filledL d))] [] 0
  (fun sf => ∃ l,sf = mkSt [(0,winF (winP d) 0)] [(0,memoO (memoF (winP d)) l)] 1) (fun _ _ => False):= by
 have hbl := hP.b1
 refine ACallsX.of_body hT Tryz.func98 rfl (by kernel_rfl) rfl ?_
 (repeat (refine stq ?_))
 refine AL_doS rfl (op_makeMemo (memoF (winP d)) rfl rfl) ?_
 rintro s' ⟨l,rfl⟩
 (repeat (refine stq ?_))
 refine AW_nilBox 3 0 67 2 rfl rfl ?_
 refine AW_loopC (fun k : Nat => k <= d.batches.length) (fun k => mkSt [(1,.pv (.sl ((filledL d).map (eFilled d)))),(4,.box 1 0),(5,.box 3 0),(14,.pv (.sl (d.batches.map eBatch))),(15,.pv (vi d.batches.length)),(16,.pv (vi k))]
  [(1,.box [.nils,.pv .nilMap]),(2,memoO (memoF (winP d)) l),(3,.box [.arr 4,.mp 2]),(4,.arr 67 2 (((d.batches.take k).map (winP1 d)).map eSpan))] 5) (fun k => d.batches.length - k) 0 (Nat.zero_le _) ?_ ?_
 ·(refine Le.mk ?_ ?_; all_goals (repeat' (first | exact trivial | refine sle ?_ | refine ⟨?_,rfl,?_⟩ | refine ⟨?_,by decide,rfl,?_⟩ | fail)))
 ·intro k hk
  (repeat (refine stq ?_))
  refine AW_if rfl (fun hc => ?_) (fun hc => ?_)
  ·have hk' : k < d.batches.length := by omega
   obtain ⟨b,hb⟩ : ∃ b,d.batches[k]? = some b := ⟨d.batches[k],by simp [hk']⟩
   have e1 := get_map eBatch hb
   have k92 := f92 d hP hne b (hP.batch b (List.mem_of_getElem? hb))
   have k93 := f93 d hP hne b (hP.batch b (List.mem_of_getElem? hb))
   have hsn : (d.batches.take (k + 1)).map (winP1 d) = (d.batches.take k).map (winP1 d) ++ [winP1 d b] := map_take_succ _ hb
   have htl : ((d.batches.take k).map (winP1 d)).length <= 1000 := by simp; omega
   have hw : winP1 d b = if smoothI d b < 0 then ⟨1,0⟩ else ⟨smoothI d b,thinI d b⟩ := rfl
   generalize (d.batches.take k).map (winP1 d) = ts at *
   generalize smoothI d b = x at *
   generalize thinI d b = y at *
   (repeat (refine stq ?_))
   (repeat (first | refine sdq ?_ | refine DG_next (D_call rfl rfl rfl rfl rfl (k92)) ?_ | refine DG_next (D_call rfl rfl rfl rfl rfl (k93)) ?_))
   refine DG_end hM (by kernel_rfl) ?_
   (repeat (refine stq ?_))
   refine AW_if rfl (fun hc2 => ?_) (fun hc2 => ?_)
   ·rw [if_pos hc2] at hw
    (repeat' (first | refine stq ?_ | (refine AL_do2 rfl ?_; first | refine ⟨_,op_call1 rfl rfl rfl rfl (f144),nrmA rfl ?_⟩) | (with_reducible refine AL_id ?_); (fail_if_success (refine AL_glit rfl rfl rfl (by first | exact .inl (by with_reducible rfl) | exact .inr (by with_reducible rfl)) ?_)); first | refine AL_gdec rfl rfl rfl (fun hg => ?_) (fun hg => ?_) | refine AL_gnot rfl rfl rfl (fun hg => ?_) (fun hg => ?_) | refine AL_gcases rfl rfl rfl (fun hg => ?_) (fun hg => ?_)))
    refine ⟨k + 1,hk',by omega,?_⟩
    rw [hsn,hw]
    (refine Le.mkR [(1,1),(2,2),(3,3),(4,8)] ?_ ?_ rfl; all_goals (repeat' (first | exact trivial | refine sle ?_ | refine ⟨?_,rfl,?_⟩ | refine ⟨?_,by decide,rfl,?_⟩ | fail)))
    rw [List.map_append]; rfl
   ·rw [if_neg hc2] at hw
    (repeat (refine stq ?_))
    refine ⟨k + 1,hk',by omega,?_⟩
    rw [hsn,hw]
    (refine Le.mkR [(1,1),(2,2),(3,3),(4,8)] ?_ ?_ rfl; all_goals (repeat' (first | exact trivial | refine sle ?_ | refine ⟨?_,rfl,?_⟩ | refine ⟨?_,by decide,rfl,?_⟩ | fail)))
    rw [List.map_append]; rfl
  ·have hk' : k = d.batches.length := by omega
   subst hk'
   rw [List.take_length]
   refine AW_arrBox (b := 3) 0 rfl rfl rfl rfl ?_
   (repeat (refine stq ?_))
   refine ⟨_,mkSt [(0,winF (winP d) 0)] [(0,memoO (memoF (winP d)) l)] 1,rfl,?_,l,rfl⟩
   (refine Le.mkR [(0,2)] ?_ ?_ rfl; all_goals (repeat' (first | exact trivial | refine sle ?_ | refine ⟨?_,rfl,?_⟩ | refine ⟨?_,by decide,rfl,?_⟩ | fail)))
end Go.Abs
namespace Go.Abs
open Go.Proofs
set_option linter.unusedVariables false
set_option linter.unusedSimpArgs false
set_option maxRecDepth 100000
def allBitsOK : Bool := (List.range 6).all fun n => (List.range 5).all fun i => bitI (allB n) i == decide (i < n)
theorem all_bits_ok : allBitsOK = true := by decide +kernel
theorem all_bit {n i : Nat} (hn : n <= 5) (hi : i < n) : bitI (allB n) i = true:= by
 have := List.all_eq_true.1 (List.all_eq_true.1 all_bits_ok n (List.mem_range.2 (by omega))) i (List.mem_range.2 (by omega))
 have h : bitI (allB n) i = decide (i < n) := by simpa using this
 rw [h]; simp [hi]
theorem pick_congr {W : List Span} {p q : Nat -> Bool} (h : ∀ i,i < W.length -> p i = q i) : pick W p = pick W q:= by
 unfold pick
 congr 1
 refine List.filter_congr fun x hx => ?_
 obtain ⟨s,i⟩ := x
 exact h i (List.getElem?_eq_some_iff.1 (List.mem_zipIdx_iff_getElem?.1 hx)).1
theorem winP_len (d : Drum) : (winP d).length = d.batches.length := by simp [winP]
theorem of_all {d : Drum} (hP : DrumP d) : ofB (winP d) (allB d.batches.length) = allW d:= by
 unfold ofB allW
 rw [pick_congr fun i hi => all_bit hP.b1 (by rwa [winP_len] at hi)]
end Go.Abs
