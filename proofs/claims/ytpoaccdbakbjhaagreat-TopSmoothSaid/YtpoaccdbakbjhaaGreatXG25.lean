/- The windows of sets of batches. -/
import Derived.Test.YtpoaccdbakbjhaaGreatXG24
import Derived.Test.YtpoaccdbakbjhaaGreatXG18
import Derived.Test.YtpoaccdbakbjhaaGreatXG19
set_option linter.unusedVariables false
set_option linter.unusedSimpArgs false
namespace Go.Abs
open Go.Proofs
set_option maxRecDepth 100000
def spanV (s:Span):Value:=.agg #[.int .i64 s.low,.int .i64 s.high]
theorem spanV_val (s:Span):valP (eS s) = some (spanV s):=rfl
theorem spanV_rep (s:Span) (w:World) (D:Nat -> Prop):Rep w D (spanV s) (eS s):=.agg _ _ rfl fun j v p hv hp=>by
 match j with
 | 0=>simp at hv; simp [eSpan] at hp; subst hv; subst hp; exact .int _ _
 | 1=>simp at hv; simp [eSpan] at hp; subst hv; subst hp; exact .int _ _
 | j + 2=>simp [eSpan] at hp
theorem zero67 (w:World):(zeroValue 56).run Tryz.prog w = .ok (spanV ⟨0,0⟩) w:=rfl
def ofB (W:List Span) (set:Int):Span:=meetL (pick W (bitI set))
def memoF (W:List Span) (n:Int):Value:=spanV (ofB W n)
theorem pick_succ {W:List Span} {k:Nat} {x:Span} (p:Nat -> Bool) (h:W[k]? = some x):pick (W.take (k + 1)) p = if p k then pick (W.take k) p ++ [x] else pick (W.take k) p:= by
 have hk:k < W.length:=(List.getElem?_eq_some_iff.1 h).1
 unfold pick
 rw [List.take_add_one,h]
 rw [List.zipIdx_append,List.filter_append,List.map_append]
 have:(W.take k).length = k:=by simp; omega
 cases hb:p k <;> simp [this,hb]
theorem meet_succ {W:List Span} {k:Nat} {x:Span} (p:Nat -> Bool) (h:W[k]? = some x):meetL (pick (W.take (k + 1)) p) = if p k then common (meetL (pick (W.take k) p)) x else meetL (pick (W.take k) p):= by
 rw [pick_succ p h]
 split
 ·simp [meetL,List.foldl_append]
 ·rfl
abbrev winF (W:List Span) (id:Nat):FV:=.agg [.pv (eSpans W),.mp id]
abbrev spanF (s:Span):FV:=.agg [.pv (vi s.low),.pv (vi s.high)]
set_option maxHeartbeats 4000000 in
theorem f102 (l:Nat) (W:List Span) (set:Int) (hW:W.length <= 1000):ACallsX Tryz.prog 36 [winF W 0,.pv (vi set)] [(0,memoO (memoF W) l)] 1
  (fun sf=>sf = mkSt [(0,spanF (ofB W set))] [(0,memoO (memoF W) l)] 1) (fun _ _=>False):= by
 refine ACallsX.of_body hT Tryz.func36 rfl (by kernel_rfl) rfl ?_
 (repeat (refine stq ?_))
 refine AL_doS rfl (op_lookMemo (f:=memoF W) (l:=l) (p:=eS (ofB W set)) (z:=eS ⟨0,0⟩) und99 und3 zero67 (spanV_val _) rfl rfl rfl rfl rfl (spanV_val _) (spanV_rep _) (spanV_rep _)) ?_
 rintro s' (rfl|rfl)
 ·(repeat (refine stq ?_))
  refine ⟨_,mkSt [(0,spanF (ofB W set))] [(0,memoO (memoF W) l)] 1,rfl,?_,rfl⟩
  (refine Le.mk ?_ ?_; all_goals (repeat' (first|exact trivial|refine sle ?_|refine ⟨?_,rfl,?_⟩|refine ⟨?_,by decide,rfl,?_⟩|fail)))
 ·(repeat (refine stq ?_))
  refine AW_loopC (fun k:Nat=>k <= W.length) (fun k=>mkSt [(1,.pv (vi set)),(2,.box 1 0),(4,.box 2 0),(7,.box 4 0),(21,.pv (eSpans W)),(22,.pv (vi W.length)),(23,.pv (vi k))]
   [(0,memoO (memoF W) l),(1,.box [.pv (eSpans W),.mp 0]),(2,.box [.pv (vi 0),.pv (vi 0)]),(4,.box [.pv (vi (meetL (pick (W.take k) (bitI set))).low),.pv (vi (meetL (pick (W.take k) (bitI set))).high)])] 5) (fun k=>W.length - k) 0 (Nat.zero_le _) ?_ ?_
  ·(refine Le.mk ?_ ?_; all_goals (repeat' (first|exact trivial|refine sle ?_|refine ⟨?_,rfl,?_⟩|refine ⟨?_,by decide,rfl,?_⟩|fail)))
  ·intro k hk
   (repeat (refine stq ?_))
   refine AW_if rfl (fun hc=>?_) (fun hc=>?_)
   ·have hk':k < W.length:=by omega
    obtain ⟨x,hx⟩:∃ x,W[k]? = some x:=⟨W[k],by simp [hk']⟩
    have e1:=get_map eSpan hx
    have k145:=f145 set k
    have hs:=meet_succ (bitI set) hx
    generalize meetL (pick (W.take k) (bitI set)) = u at *
    cases q:bitI set k with
    | true =>
     rw [q] at k145 hs
     rw [if_pos rfl] at hs
     (repeat' (first|refine stq ?_|(refine AL_do2 rfl ?_; first|refine ⟨_,op_call1 rfl rfl rfl rfl (k145),nrmA rfl ?_⟩)|(with_reducible refine AL_id ?_); (fail_if_success (refine glq rfl rfl rfl ?_)); first|refine AL_gdec rfl rfl rfl (fun hg=>?_) (fun hg=>?_)|refine AL_gnot rfl rfl rfl (fun hg=>?_) (fun hg=>?_)|refine AL_gcases rfl rfl rfl (fun hg=>?_) (fun hg=>?_)))
     refine ⟨k + 1,hk',by omega,?_⟩
     rw [hs]
     (refine Le.mk ?_ ?_; all_goals (repeat' (first|exact trivial|refine sle ?_|refine ⟨?_,rfl,?_⟩|refine ⟨?_,by decide,rfl,?_⟩|fail)))
    | false =>
     rw [q] at k145 hs
     rw [if_neg (by simp)] at hs
     (repeat' (first|refine stq ?_|(refine AL_do2 rfl ?_; first|refine ⟨_,op_call1 rfl rfl rfl rfl (k145),nrmA rfl ?_⟩)|(with_reducible refine AL_id ?_); (fail_if_success (refine glq rfl rfl rfl ?_)); first|refine AL_gdec rfl rfl rfl (fun hg=>?_) (fun hg=>?_)|refine AL_gnot rfl rfl rfl (fun hg=>?_) (fun hg=>?_)|refine AL_gcases rfl rfl rfl (fun hg=>?_) (fun hg=>?_)))
     refine ⟨k + 1,hk',by omega,?_⟩
     rw [hs]
     (refine Le.mk ?_ ?_; all_goals (repeat' (first|exact trivial|refine sle ?_|refine ⟨?_,rfl,?_⟩|refine ⟨?_,by decide,rfl,?_⟩|fail)))
   ·have hk':k = W.length:=by omega
    subst hk'
    rw [List.take_length]
    (repeat (refine stq ?_))
    refine AL_do2 rfl ⟨_,op_updateMemo (f:=memoF W) (l:=l) (p:=eS (ofB W set)) und99 und3 rfl rfl rfl rfl rfl rfl (spanV_val _),?_⟩
    (repeat (refine stq ?_))
    refine ⟨_,mkSt [(0,spanF (ofB W set))] [(0,memoO (memoF W) l)] 1,rfl,?_,rfl⟩
    (refine Le.mk ?_ ?_; all_goals (repeat' (first|exact trivial|refine sle ?_|refine ⟨?_,rfl,?_⟩|refine ⟨?_,by decide,rfl,?_⟩|fail)))
end Go.Abs
namespace Go.Abs
open Go.Proofs
set_option maxRecDepth 100000
theorem f99 (l:Nat) (W:List Span) (set:Int) (hW:W.length <= 1000):ACallsX Tryz.prog 34 [winF W 0,.pv (vi set)] [(0,memoO (memoF W) l)] 1
  (fun sf=>sf = mkSt [(0,.pv (.bool (openS (ofB W set))))] [(0,memoO (memoF W) l)] 1) (fun _ _=>False):= by
 refine ACallsX.of_body hT Tryz.func34 rfl (by kernel_rfl) rfl ?_
 (repeat (refine stq ?_))
 refine AL_doS rfl (op_callXs (objs:=[(0,memoO (memoF W) l)]) (n:=1) [] [0] [] (fun av=>f102 l W set hW) rfl rfl rfl rfl (by (repeat' (first|exact trivial|refine And.intro ?_ ?_)); all_goals (first|rfl|decide)) rfl (by (repeat' (first|exact trivial|refine And.intro ?_ ?_)); all_goals (first|rfl|decide)) rfl trivial (by simp) (fun av sf h=>by subst h; exact ⟨.inr ⟨_,_,_,_,_,rfl,rfl⟩,trivial⟩)) ?_
 rintro s' ⟨av,sf,rfl,rfl⟩
 (repeat (refine stq ?_))
 refine ⟨_,mkSt [(0,.pv (.bool (openS (ofB W set))))] [(0,memoO (memoF W) l)] 1,rfl,?_,rfl⟩
 (refine Le.mk ?_ ?_; all_goals (repeat' (first|exact trivial|refine sle ?_|refine ⟨?_,rfl,?_⟩|refine ⟨?_,by decide,rfl,?_⟩|fail)))
def allB (n:Nat):Int:=shlR .i64 1 n - 1
theorem shl_small {n:Nat} (h:n <= 5):shlR .i64 1 n = 2 ^ n /\ 1 <= shlR .i64 1 n /\ shlR .i64 1 n <= 32:= by
 match n,h with
 | 0,_=>decide
 | 1,_=>decide
 | 2,_=>decide
 | 3,_=>decide
 | 4,_=>decide
 | 5,_=>decide
theorem f100 (l:Nat) (W:List Span) (hW:W.length <= 5):ACallsX Tryz.prog 35 [winF W 0] [(0,memoO (memoF W) l)] 1
  (fun sf=>sf = mkSt [(0,.pv (vi (allB W.length)))] [(0,memoO (memoF W) l)] 1) (fun _ _=>False):= by
 have h1:=shl_small hW
 refine ACallsX.of_body hT Tryz.func35 rfl (by kernel_rfl) rfl ?_
 (repeat (refine stq ?_))
 refine ⟨_,mkSt [(0,.pv (vi (allB W.length)))] [(0,memoO (memoF W) l)] 1,rfl,?_,rfl⟩
 (refine Le.mk ?_ ?_; all_goals (repeat' (first|exact trivial|refine sle ?_|refine ⟨?_,rfl,?_⟩|refine ⟨?_,by decide,rfl,?_⟩|fail)))
theorem f144:ACalls Tryz.prog 88 [] (fun r=>r = .pv (eS ⟨1,0⟩)):= by
 refine ACalls.of_body hT Tryz.func88 rfl (by kernel_rfl) rfl ?_
 (repeat (refine stq ?_))
 exact ⟨_,_,rfl,rfl,rfl⟩
set_option maxHeartbeats 4000000 in
theorem f98 (d:Drum) (hP:DrumP d) (hne:filledL d ≠ []):ACallsX Tryz.prog 33 [.pv (eDrum d),.pv (eFilledL d (filledL d))] [] 0
  (fun sf=>∃ l,sf = mkSt [(0,winF (winP d) 0)] [(0,memoO (memoF (winP d)) l)] 1) (fun _ _=>False):= by
 have hbl:=hP.b1
 refine ACallsX.of_body hT Tryz.func33 rfl (by kernel_rfl) rfl ?_
 (repeat (refine stq ?_))
 refine AL_doS rfl (op_makeMemo (memoF (winP d)) rfl rfl) ?_
 rintro s' ⟨l,rfl⟩
 (repeat (refine stq ?_))
 refine AW_nilBox 3 0 56 2 rfl rfl ?_
 refine AW_loopC (fun k:Nat=>k <= d.batches.length) (fun k=>mkSt [(1,.pv (.sl ((filledL d).map (eFilled d)))),(4,.box 1 0),(5,.box 3 0),(14,.pv (.sl (d.batches.map eBatch))),(15,.pv (vi d.batches.length)),(16,.pv (vi k))]
  [(1,.box [.nils,.pv .nilMap]),(2,memoO (memoF (winP d)) l),(3,.box [.arr 4,.mp 2]),(4,.arr 56 2 (((d.batches.take k).map (winP1 d)).map eSpan))] 5) (fun k=>d.batches.length - k) 0 (Nat.zero_le _) ?_ ?_
 ·(refine Le.mk ?_ ?_; all_goals (repeat' (first|exact trivial|refine sle ?_|refine ⟨?_,rfl,?_⟩|refine ⟨?_,by decide,rfl,?_⟩|fail)))
 ·intro k hk
  (repeat (refine stq ?_))
  refine AW_if rfl (fun hc=>?_) (fun hc=>?_)
  ·have hk':k < d.batches.length:=by omega
   obtain ⟨b,hb⟩:∃ b,d.batches[k]? = some b:=⟨d.batches[k],by simp [hk']⟩
   have e1:=get_map eBatch hb
   have k92:=f92 d hP hne b (hP.batch b (List.mem_of_getElem? hb))
   have k93:=f93 d hP hne b (hP.batch b (List.mem_of_getElem? hb))
   have hsn:(d.batches.take (k + 1)).map (winP1 d) = (d.batches.take k).map (winP1 d) ++ [winP1 d b]:=map_take_succ _ hb
   have htl:((d.batches.take k).map (winP1 d)).length <= 1000:=by simp; omega
   have hw:winP1 d b = if smoothI d b < 0 then ⟨1,0⟩ else ⟨smoothI d b,thinI d b⟩:=rfl
   generalize (d.batches.take k).map (winP1 d) = ts at *
   generalize smoothI d b = x at *
   generalize thinI d b = y at *
   (repeat (refine stq ?_))
   (repeat (first|refine sdq ?_|refine DG_next (D_call rfl rfl rfl rfl rfl (k92)) ?_|refine DG_next (D_call rfl rfl rfl rfl rfl (k93)) ?_))
   refine DG_end hM (by kernel_rfl) ?_
   (repeat (refine stq ?_))
   refine AW_if rfl (fun hc2=>?_) (fun hc2=>?_)
   ·rw [if_pos hc2] at hw
    (repeat' (first|refine stq ?_|(refine AL_do2 rfl ?_; first|refine ⟨_,op_call1 rfl rfl rfl rfl (f144),nrmA rfl ?_⟩)|(with_reducible refine AL_id ?_); (fail_if_success (refine glq rfl rfl rfl ?_)); first|refine AL_gdec rfl rfl rfl (fun hg=>?_) (fun hg=>?_)|refine AL_gnot rfl rfl rfl (fun hg=>?_) (fun hg=>?_)|refine AL_gcases rfl rfl rfl (fun hg=>?_) (fun hg=>?_)))
    refine ⟨k + 1,hk',by omega,?_⟩
    rw [hsn,hw]
    (refine Le.mkR [(1,1),(2,2),(3,3),(4,8)] ?_ ?_ rfl; all_goals (repeat' (first|exact trivial|refine sle ?_|refine ⟨?_,rfl,?_⟩|refine ⟨?_,by decide,rfl,?_⟩|fail)))
    rw [List.map_append]; rfl
   ·rw [if_neg hc2] at hw
    (repeat (refine stq ?_))
    refine ⟨k + 1,hk',by omega,?_⟩
    rw [hsn,hw]
    (refine Le.mkR [(1,1),(2,2),(3,3),(4,8)] ?_ ?_ rfl; all_goals (repeat' (first|exact trivial|refine sle ?_|refine ⟨?_,rfl,?_⟩|refine ⟨?_,by decide,rfl,?_⟩|fail)))
    rw [List.map_append]; rfl
  ·have hk':k = d.batches.length:=by omega
   subst hk'
   rw [List.take_length]
   refine AW_arrBox (b:=3) 0 rfl rfl rfl rfl ?_
   (repeat (refine stq ?_))
   refine ⟨_,mkSt [(0,winF (winP d) 0)] [(0,memoO (memoF (winP d)) l)] 1,rfl,?_,l,rfl⟩
   (refine Le.mkR [(0,2)] ?_ ?_ rfl; all_goals (repeat' (first|exact trivial|refine sle ?_|refine ⟨?_,rfl,?_⟩|refine ⟨?_,by decide,rfl,?_⟩|fail)))
end Go.Abs
namespace Go.Abs
open Go.Proofs
set_option maxRecDepth 100000
def allBitsOK:Bool:=(List.range 6).all fun n=>(List.range 5).all fun i=>bitI (allB n) i == decide (i < n)
theorem all_bits_ok:allBitsOK = true:=by decide +kernel
theorem all_bit {n i:Nat} (hn:n <= 5) (hi:i < n):bitI (allB n) i = true:= by
 have:=List.all_eq_true.1 (List.all_eq_true.1 all_bits_ok n (List.mem_range.2 (by omega))) i (List.mem_range.2 (by omega))
 have h:bitI (allB n) i = decide (i < n):=by simpa using this
 rw [h]; simp [hi]
theorem pick_congr {W:List Span} {p q:Nat -> Bool} (h:∀ i,i < W.length -> p i = q i):pick W p = pick W q:= by
 unfold pick
 congr 1
 refine List.filter_congr fun x hx=>?_
 obtain ⟨s,i⟩:=x
 exact h i (List.getElem?_eq_some_iff.1 (List.mem_zipIdx_iff_getElem?.1 hx)).1
theorem winP_len (d:Drum):(winP d).length = d.batches.length:=by simp [winP]
theorem of_all {d:Drum} (hP:DrumP d):ofB (winP d) (allB d.batches.length) = allW d:= by
 unfold ofB allW
 rw [pick_congr fun i hi=>all_bit hP.b1 (by rwa [winP_len] at hi)]
def windowE (d:Drum):Span × Int:=if errE d true = 0 then (if openS (allW d) then (allW d,0) else (⟨0,0⟩,5)) else (⟨0,0⟩,errE d true)
set_option maxHeartbeats 4000000 in
theorem f55 (d:Drum) (hd:drumOK d):ACalls Tryz.prog 13 [eDrum d] (fun r=>r = .tup [eS (windowE d).1,vi (windowE d).2]):= by
 have k84:=f84 d true hd
 refine ACalls.of_body hT Tryz.func13 rfl (by kernel_rfl) rfl ?_
 by_cases he:errE d true = 0
 ·obtain ⟨hP,_,hne,ha⟩:=asked_ok he
  rw [ha] at k84
  have k84:ACalls Tryz.prog 32 [eDrum d,.bool true] (fun r=>r = .tup [.sl ((filledL d).map (eFilled d)),vi 0]):=k84
  have hbl:=hP.b1
  have hwl:(winP d).length <= 5:=by rw [winP_len]; exact hbl
  have h1:=shl_small hbl
  (repeat' (first|refine stq ?_|(refine AL_do2 rfl ?_; first|refine ⟨_,op_call1 rfl rfl rfl rfl (k84),nrmA rfl ?_⟩)|(with_reducible refine AL_id ?_); (fail_if_success (refine glq rfl rfl rfl ?_)); first|refine AL_gdec rfl rfl rfl (fun hg=>?_) (fun hg=>?_)|refine AL_gnot rfl rfl rfl (fun hg=>?_) (fun hg=>?_)|refine AL_gcases rfl rfl rfl (fun hg=>?_) (fun hg=>?_)))
  refine AL_doS rfl (op_callXs (objs:=[]) (n:=0) [] [] [] (fun av=>f98 d hP hne) rfl rfl rfl rfl (by (repeat' (first|exact trivial|refine And.intro ?_ ?_)); all_goals (first|rfl|decide)) rfl (by (repeat' (first|exact trivial|refine And.intro ?_ ?_)); all_goals (first|rfl|decide)) rfl trivial (by simp) (fun av sf h=>trivial)) ?_
  rintro s' ⟨av,sf,⟨l,rfl⟩,rfl⟩
  have k100:=f100 l (winP d) hwl
  rw [winP_len] at k100
  have k99:=f99 l (winP d) (allB d.batches.length) (by omega)
  have k102:=f102 l (winP d) (allB d.batches.length) (by omega)
  rw [of_all hP] at k99 k102
  rw [windowE,if_pos he]
  cases q:openS (allW d) with
  | false =>
   rw [q] at k99
   (repeat (refine stq ?_))
   (repeat (first|refine DG_next (D_callMemo rfl rfl rfl rfl (fun s1=>(by (repeat' (first|exact trivial|refine And.intro ?_ ?_)); all_goals (first|rfl|decide))) rfl rfl k100) ?_|refine DG_next (D_callMemo rfl rfl rfl rfl (fun s1=>(by (repeat' (first|exact trivial|refine And.intro ?_ ?_)); all_goals (first|rfl|decide))) rfl rfl k99) ?_|refine sdq ?_))
   refine DG_end hM (by kernel_rfl) ?_
   (repeat (refine stq ?_))
   exact ⟨_,_,rfl,rfl,rfl⟩
  | true =>
   rw [q] at k99
   (repeat (refine stq ?_))
   (repeat (first|refine DG_next (D_callMemo rfl rfl rfl rfl (fun s1=>(by (repeat' (first|exact trivial|refine And.intro ?_ ?_)); all_goals (first|rfl|decide))) rfl rfl k100) ?_|refine DG_next (D_callMemo rfl rfl rfl rfl (fun s1=>(by (repeat' (first|exact trivial|refine And.intro ?_ ?_)); all_goals (first|rfl|decide))) rfl rfl k99) ?_|refine sdq ?_))
   refine DG_end hM (by kernel_rfl) ?_
   (repeat (refine stq ?_))
   (repeat (first|refine DG_next (D_callMemo rfl rfl rfl rfl (fun s1=>(by (repeat' (first|exact trivial|refine And.intro ?_ ?_)); all_goals (first|rfl|decide))) rfl rfl k100) ?_|refine sdq ?_))
   refine DG_end hM (by kernel_rfl) ?_
   (repeat (refine stq ?_))
   refine AL_doS rfl (op_callXs (objs:=[(0,memoO (memoF (winP d)) l)]) (n:=1) [(0,2)] [0] [] (fun av=>k102) rfl rfl rfl rfl (by (repeat' (first|exact trivial|refine And.intro ?_ ?_)); all_goals (first|rfl|decide)) rfl (by (repeat' (first|exact trivial|refine And.intro ?_ ?_)); all_goals (first|rfl|decide)) rfl trivial (by simp) (fun av sf h=>by subst h; exact ⟨.inr ⟨_,_,_,_,_,rfl,rfl⟩,trivial⟩)) ?_
   rintro s' ⟨av2,sf,rfl,rfl⟩
   (repeat (refine stq ?_))
   exact ⟨_,_,rfl,rfl,rfl⟩
 ·rw [asked_err he] at k84
  have k84:ACalls Tryz.prog 32 [eDrum d,.bool true] (fun r=>r = .tup [.sl [],vi (errE d true)]):=k84
  (repeat' (first|refine stq ?_|(refine AL_do2 rfl ?_; first|refine ⟨_,op_call1 rfl rfl rfl rfl (k84),nrmA rfl ?_⟩)|(with_reducible refine AL_id ?_); (fail_if_success (refine glq rfl rfl rfl ?_)); first|refine AL_gdec rfl rfl rfl (fun hg=>?_) (fun hg=>?_)|refine AL_gnot rfl rfl rfl (fun hg=>?_) (fun hg=>?_)|refine AL_gcases rfl rfl rfl (fun hg=>?_) (fun hg=>?_)))
  refine AW_if rfl (fun hc=>?_) (fun hc=>absurd (by omega) hc)
  (repeat (refine stq ?_))
  exact ⟨_,_,rfl,rfl,by rw [windowE,if_neg he]; rfl⟩
end Go.Abs
namespace Go.Abs
open Go.Proofs
set_option maxRecDepth 100000
theorem t19 (x lo hi:Int):ACalls Tryz.prog 19 [vi x,vi lo,vi hi] (fun r=>r = .pv (.bool (inB x lo hi))):= by
 refine ACalls.of_body hT Tryz.func19 rfl (by kernel_rfl) rfl ?_
 (repeat' (first|refine stq ?_|(with_reducible refine AL_id ?_); (fail_if_success (refine glq rfl rfl rfl ?_)); first|refine AL_gdec rfl rfl rfl (fun hg=>?_) (fun hg=>?_)|refine AL_gnot rfl rfl rfl (fun hg=>?_) (fun hg=>?_)|refine AL_gcases rfl rfl rfl (fun hg=>?_) (fun hg=>?_)))
 all_goals exact ⟨_,_,rfl,rfl,by simp_all [inB]; try omega⟩
theorem t103 (x lo hi:Int):ACalls Tryz.prog 103 [vi x,vi lo,vi hi] (fun r=>r = .pv (.bool (inB x lo hi))):= by
 refine ACalls.of_body hT Tryz.func103 rfl (by kernel_rfl) rfl ?_
 (repeat' (first|refine stq ?_|(with_reducible refine AL_id ?_); (fail_if_success (refine glq rfl rfl rfl ?_)); first|refine AL_gdec rfl rfl rfl (fun hg=>?_) (fun hg=>?_)|refine AL_gnot rfl rfl rfl (fun hg=>?_) (fun hg=>?_)|refine AL_gcases rfl rfl rfl (fun hg=>?_) (fun hg=>?_)))
 all_goals exact ⟨_,_,rfl,rfl,by simp_all [inB]; try omega⟩
theorem t17 (m:SMap) (hm:m.cells.length <= 1000):ACalls Tryz.prog 17 [eMap m] (fun r=>r = .pv (vi m.cells.length)):= by
 refine ACalls.of_body hT Tryz.func17 rfl (by kernel_rfl) rfl ?_
 (repeat (refine stq ?_))
 exact ⟨_,_,rfl,rfl,rfl⟩
theorem t16 (m:SMap) (hm:m.cells.length <= 1000) (hc:colsN m <= 1000):ACalls Tryz.prog 16 [eMap m] (fun r=>r = .pv (vi (colsN m))):= by
 refine ACalls.of_body hT Tryz.func16 rfl (by kernel_rfl) rfl ?_
 cases hcl:m.cells with
 | nil =>
  have e:m.cells.length = 0:=by rw [hcl]; rfl
  (repeat' (first|refine stq ?_|(with_reducible refine AL_id ?_); (fail_if_success (refine glq rfl rfl rfl ?_)); first|refine AL_gdec rfl rfl rfl (fun hg=>?_) (fun hg=>?_)|refine AL_gnot rfl rfl rfl (fun hg=>?_) (fun hg=>?_)|refine AL_gcases rfl rfl rfl (fun hg=>?_) (fun hg=>?_)))
  all_goals (try (exfalso; simp at hg; done))
  refine AW_if rfl (fun h0=>?_) (fun h0=>absurd (by omega) h0)
  (repeat (refine stq ?_))
  exact ⟨_,_,rfl,rfl,by rw [colsN,hcl]; rfl⟩
 | cons x t =>
  have e:m.cells.length = t.length + 1:=by rw [hcl]; rfl
  have ex:(m.cells.map eRow)[(0:Int).toNat]? = some (eRow x):=by rw [hcl]; rfl
  have ec:colsN m = x.length:=by rw [colsN,hcl]; rfl
  rw [ec] at hc ⊢
  (repeat' (first|refine stq ?_|(with_reducible refine AL_id ?_); (fail_if_success (refine glq rfl rfl rfl ?_)); first|refine AL_gdec rfl rfl rfl (fun hg=>?_) (fun hg=>?_)|refine AL_gnot rfl rfl rfl (fun hg=>?_) (fun hg=>?_)|refine AL_gcases rfl rfl rfl (fun hg=>?_) (fun hg=>?_)))
  refine AW_if rfl (fun h0=>absurd h0 (by omega)) (fun h0=>?_)
  (repeat (refine stq ?_))
  exact ⟨_,_,rfl,rfl,rfl⟩
theorem t18 (m:SMap) (hm:MapS m) (r c:Int):ACalls Tryz.prog 18 [eMap m,vi r,vi c] (fun x=>x = .pv (vi (cellI m r c))):= by
 have hl:=hm.r
 have k17:=t17 m (by omega)
 have k1:=t19 r 0 (m.cells.length - 1)
 refine ACalls.of_body hT Tryz.func18 rfl (by kernel_rfl) rfl ?_
 cases q1:inB r 0 (m.cells.length - 1) with
 | false =>
  rw [q1] at k1
  (repeat' (first|refine stq ?_|(refine AL_do2 rfl ?_; first|refine ⟨_,op_call1 rfl rfl rfl rfl (k17),nrmA rfl ?_⟩|refine ⟨_,op_call1 rfl rfl rfl rfl (k1),nrmA rfl ?_⟩)|(with_reducible refine AL_id ?_); (fail_if_success (refine glq rfl rfl rfl ?_)); first|refine AL_gdec rfl rfl rfl (fun hg=>?_) (fun hg=>?_)|refine AL_gnot rfl rfl rfl (fun hg=>?_) (fun hg=>?_)|refine AL_gcases rfl rfl rfl (fun hg=>?_) (fun hg=>?_)))
  all_goals (try (exfalso; simp at hg; done))
  exact ⟨_,_,rfl,rfl,by rw [cellI,atG_low q1]; rfl⟩
 | true =>
  rw [q1] at k1
  obtain ⟨x,hx⟩:=row_at q1
  have e1:=get_map eRow hx
  have hr:=inB_true q1
  have hx8:=hm.c x (List.mem_of_getElem? hx)
  have k2:=t19 c 0 (x.length - 1)
  cases q2:inB c 0 (x.length - 1) with
  | false =>
   rw [q2] at k2
   (repeat' (first|refine stq ?_|(refine AL_do2 rfl ?_; first|refine ⟨_,op_call1 rfl rfl rfl rfl (k17),nrmA rfl ?_⟩|refine ⟨_,op_call1 rfl rfl rfl rfl (k1),nrmA rfl ?_⟩|refine ⟨_,op_call1 rfl rfl rfl rfl (k2),nrmA rfl ?_⟩)|(with_reducible refine AL_id ?_); (fail_if_success (refine glq rfl rfl rfl ?_)); first|refine AL_gdec rfl rfl rfl (fun hg=>?_) (fun hg=>?_)|refine AL_gnot rfl rfl rfl (fun hg=>?_) (fun hg=>?_)|refine AL_gcases rfl rfl rfl (fun hg=>?_) (fun hg=>?_)))
   all_goals (try (exfalso; simp at hg; done))
   exact ⟨_,_,rfl,rfl,by rw [cellI,atG_out hx q2]; rfl⟩
  | true =>
   rw [q2] at k2
   have hc:=inB_true q2
   obtain ⟨y,hy⟩:∃ y,x[c.toNat]? = some y:=⟨x[c.toNat]'(by omega),by simp⟩
   have e2:=get_map eInt hy
   (repeat' (first|refine stq ?_|(refine AL_do2 rfl ?_; first|refine ⟨_,op_call1 rfl rfl rfl rfl (k17),nrmA rfl ?_⟩|refine ⟨_,op_call1 rfl rfl rfl rfl (k1),nrmA rfl ?_⟩|refine ⟨_,op_call1 rfl rfl rfl rfl (k2),nrmA rfl ?_⟩)|(with_reducible refine AL_id ?_); (fail_if_success (refine glq rfl rfl rfl ?_)); first|refine AL_gdec rfl rfl rfl (fun hg=>?_) (fun hg=>?_)|refine AL_gnot rfl rfl rfl (fun hg=>?_) (fun hg=>?_)|refine AL_gcases rfl rfl rfl (fun hg=>?_) (fun hg=>?_)))
   all_goals (try (exfalso; simp at hg; done))
   exact ⟨_,_,rfl,rfl,by rw [cellI,atG_in hr.1 hc.1 hx,hy]; rfl⟩
theorem t101 (m:SMap) (hm:MapS m) (r c:Int):ACalls Tryz.prog 101 [eMap m,vi r,vi c] (fun x=>x = .pv (.bool (thereB m r c))):= by
 have hl:=hm.r
 have hcl:=hm.cols
 have k17:=t17 m (by omega)
 have k16:=t16 m (by omega) (by omega)
 have k1:=t19 r 0 (m.cells.length - 1)
 have k2:=t19 c 0 (colsN m - 1)
 refine ACalls.of_body hT Tryz.func101 rfl (by kernel_rfl) rfl ?_
 cases q1:inB r 0 (m.cells.length - 1)
 all_goals
  rw [q1] at k1
  (repeat' (first|refine stq ?_|(refine AL_do2 rfl ?_; first|refine ⟨_,op_call1 rfl rfl rfl rfl (k17),nrmA rfl ?_⟩|refine ⟨_,op_call1 rfl rfl rfl rfl (k1),nrmA rfl ?_⟩|refine ⟨_,op_call1 rfl rfl rfl rfl (k16),nrmA rfl ?_⟩|refine ⟨_,op_call1 rfl rfl rfl rfl (k2),nrmA rfl ?_⟩)|(with_reducible refine AL_id ?_); (fail_if_success (refine glq rfl rfl rfl ?_)); first|refine AL_gdec rfl rfl rfl (fun hg=>?_) (fun hg=>?_)|refine AL_gnot rfl rfl rfl (fun hg=>?_) (fun hg=>?_)|refine AL_gcases rfl rfl rfl (fun hg=>?_) (fun hg=>?_)))
  all_goals (try (exfalso; simp at hg; done))
  exact ⟨_,_,rfl,rfl,by simp [thereB,q1]⟩
theorem t8 (w:Work) (n:Int) (hw:w.tubes.length <= 1000):ACalls Tryz.prog 8 [eWork w,vi n] (fun x=>x = .pv (.bool (inB n 0 (w.tubes.length - 1)))):= by
 have k1:=t19 n 0 (w.tubes.length - 1)
 refine ACalls.of_body hT Tryz.func8 rfl (by kernel_rfl) rfl ?_
 (repeat' (first|refine stq ?_|(refine AL_do2 rfl ?_; first|refine ⟨_,op_call1 rfl rfl rfl rfl (k1),nrmA rfl ?_⟩)|(with_reducible refine AL_id ?_); (fail_if_success (refine glq rfl rfl rfl ?_)); first|refine AL_gdec rfl rfl rfl (fun hg=>?_) (fun hg=>?_)|refine AL_gnot rfl rfl rfl (fun hg=>?_) (fun hg=>?_)|refine AL_gcases rfl rfl rfl (fun hg=>?_) (fun hg=>?_)))
 exact ⟨_,_,rfl,rfl,rfl⟩
end Go.Abs
namespace Go.Abs
open Go.Proofs
set_option maxRecDepth 100000
theorem t163 (m:SMap) (hm:MapP m) (r c:Int):ACalls Tryz.prog 163 [eMap m,vi r,vi c] (fun x=>x = .pv (.bool (thereB m r c))):= by
 have h1:=hm.r1; have h6:=hm.r6; have h8:=hm.c8
 obtain ⟨x,hx⟩:∃ x,m.cells[0]? = some x:=⟨m.cells[0]'(by omega),by simp⟩
 have e1:(m.cells.map eRow)[(0:Int).toNat]? = some (eRow x):=get_map eRow hx
 have hxl:=cols_row hm hx
 have k1:=t103 r 0 (m.cells.length - 1)
 have k2:=t103 c 0 (x.length - 1)
 have e:thereB m r c = (inB r 0 (m.cells.length - 1) && inB c 0 (x.length - 1)):=by rw [thereB,hxl]
 rw [e]
 refine ACalls.of_body hT Tryz.func163 rfl (by kernel_rfl) rfl ?_
 cases q1:inB r 0 (m.cells.length - 1)
 all_goals
  rw [q1] at k1
  (repeat' (first|refine stq ?_|(refine AL_do2 rfl ?_; first|refine ⟨_,op_call1 rfl rfl rfl rfl (k1),nrmA rfl ?_⟩|refine ⟨_,op_call1 rfl rfl rfl rfl (k2),nrmA rfl ?_⟩)|(with_reducible refine AL_id ?_); (fail_if_success (refine glq rfl rfl rfl ?_)); first|refine AL_gdec rfl rfl rfl (fun hg=>?_) (fun hg=>?_)|refine AL_gnot rfl rfl rfl (fun hg=>?_) (fun hg=>?_)|refine AL_gcases rfl rfl rfl (fun hg=>?_) (fun hg=>?_)))
  all_goals (try (exfalso; simp at hg; done))
  exact ⟨_,_,rfl,rfl,by simp⟩
theorem cell_there {m:SMap} (hm:MapP m) {r c:Int} (h:thereB m r c = false):cellI m r c = 1:= by
 simp only [thereB,Bool.and_eq_false_iff] at h
 rcases h with h|h
 ·rw [cellI,atG_low h]; rfl
 ·cases q:inB r 0 (m.cells.length - 1) with
  | false=>rw [cellI,atG_low q]; rfl
  | true =>
   obtain ⟨x,hx⟩:=row_at q
   rw [cellI,atG_out hx (by rw [hm.row x (List.mem_of_getElem? hx)]; exact h)]; rfl
theorem t140 (m:SMap) (hm:MapP m) (r c k:Int):ACalls Tryz.prog 140 [eMap m,vi r,vi c,vi k] (fun x=>x = .pv (.bool (thereB m r c && decide (cellI m r c = k)))):= by
 have h1:=hm.r1; have h6:=hm.r6; have h8:=hm.c8
 have k1:=t163 m hm r c
 refine ACalls.of_body hT Tryz.func140 rfl (by kernel_rfl) rfl ?_
 cases q:thereB m r c with
 | false =>
  rw [q] at k1
  (repeat' (first|refine stq ?_|(refine AL_do2 rfl ?_; first|refine ⟨_,op_call1 rfl rfl rfl rfl (k1),nrmA rfl ?_⟩)|(with_reducible refine AL_id ?_); (fail_if_success (refine glq rfl rfl rfl ?_)); first|refine AL_gdec rfl rfl rfl (fun hg=>?_) (fun hg=>?_)|refine AL_gnot rfl rfl rfl (fun hg=>?_) (fun hg=>?_)|refine AL_gcases rfl rfl rfl (fun hg=>?_) (fun hg=>?_)))
  all_goals (try (exfalso; simp at hg; done))
  exact ⟨_,_,rfl,rfl,rfl⟩
 | true =>
  rw [q] at k1
  simp only [thereB,Bool.and_eq_true] at q
  obtain ⟨x,hx⟩:=row_at q.1
  have hxl:=hm.row x (List.mem_of_getElem? hx)
  have b1:=inB_true q.1
  have b2:=inB_true q.2
  obtain ⟨y,hy⟩:∃ y,x[c.toNat]? = some y:=⟨x[c.toNat]'(by omega),by simp⟩
  have e1:=get_map eRow hx
  have e2:=get_map eInt hy
  have ec:cellI m r c = y:=by rw [cellI,atG_in b1.1 b2.1 hx,hy]; rfl
  rw [ec]
  (repeat' (first|refine stq ?_|(refine AL_do2 rfl ?_; first|refine ⟨_,op_call1 rfl rfl rfl rfl (k1),nrmA rfl ?_⟩)|(with_reducible refine AL_id ?_); (fail_if_success (refine glq rfl rfl rfl ?_)); first|refine AL_gdec rfl rfl rfl (fun hg=>?_) (fun hg=>?_)|refine AL_gnot rfl rfl rfl (fun hg=>?_) (fun hg=>?_)|refine AL_gcases rfl rfl rfl (fun hg=>?_) (fun hg=>?_)))
  all_goals (try (exfalso; simp at hg; done))
  exact ⟨_,_,rfl,rfl,by simp⟩
theorem t143 (k:Crack) (hr0:0 <= k.row) (hc0:0 <= k.col) (hr:k.row <= 1000) (hc:k.col <= 1000):ACalls Tryz.prog 143 [.agg (eCrack k)] (fun x=>x = .tup [vi (beyondR k),vi (beyondC k)]):= by
 refine ACalls.of_body hT Tryz.func143 rfl (by kernel_rfl) rfl ?_
 cases qd:k.down
 all_goals
  (repeat (refine stq ?_))
  refine AW_cond rfl (fun hb=>?_) (fun hb=>?_)
  all_goals (try (exfalso; rw [qd] at hb; cases hb; done))
  (repeat (refine stq ?_))
  iterate 6 (refine sdq ?_)
  refine DG_end hM (by kernel_rfl) ?_
  (repeat (refine stq ?_))
  exact ⟨_,_,rfl,rfl,by simp [beyondR,beyondC,qd]⟩
end Go.Abs
namespace Go.Abs
open Go.Proofs
set_option maxRecDepth 100000
theorem any_false {α:Type} (l:List α):(l.any fun _=>false) = false:=by simp
theorem t161 (c:Int) (h:1 <= c /\ c <= 3):ACalls Tryz.prog 161 [vi c] (fun x=>x = .pv (.bool false)):= by
 refine ACalls.of_body hT Tryz.func161 rfl (by kernel_rfl) rfl ?_
 (repeat' (first|refine stq ?_|(with_reducible refine AL_id ?_); (fail_if_success (refine glq rfl rfl rfl ?_)); first|refine AL_gdec rfl rfl rfl (fun hg=>?_) (fun hg=>?_)|refine AL_gnot rfl rfl rfl (fun hg=>?_) (fun hg=>?_)|refine AL_gcases rfl rfl rfl (fun hg=>?_) (fun hg=>?_)))
 all_goals (try (exfalso; omega))
 all_goals exact ⟨_,_,rfl,rfl,by simp; try omega⟩
theorem t162 (m:SMap) (hm:MapP m) (g:Gauge) (hg:gaugeB m g = true):ACalls Tryz.prog 162 [.agg (eGauge g),.ptr (eMapC m)] (fun x=>x = .pv (.bool false)):= by
 have hgb:=hg
 simp only [gaugeB,Bool.and_eq_true,Bool.not_eq_true',decide_eq_false_iff_not] at hgb
 have ht:thereB m g.row g.col = true:= by
  cases q:thereB m g.row g.col with
  | true=>rfl
  | false=>exact absurd (cell_there hm q) hgb.1.1
 have k1:=t163 m hm g.row g.col
 have k2:=t140 m hm g.row g.col 1
 have k3:=t103 g.seen 0 60
 have k4:=t103 g.off 0 9
 rw [ht,decide_eq_false hgb.1.1] at k2
 rw [ht] at k1
 rw [hgb.1.2] at k3
 rw [hgb.2] at k4
 refine ACalls.of_body hT Tryz.func162 rfl (by kernel_rfl) rfl ?_
 (repeat' (first|refine stq ?_|(refine AL_do2 rfl ?_; first|refine ⟨_,op_call1 rfl rfl rfl rfl (k1),nrmA rfl ?_⟩|refine ⟨_,op_call1 rfl rfl rfl rfl (k2),nrmA rfl ?_⟩|refine ⟨_,op_call1 rfl rfl rfl rfl (k3),nrmA rfl ?_⟩|refine ⟨_,op_call1 rfl rfl rfl rfl (k4),nrmA rfl ?_⟩)|(with_reducible refine AL_id ?_); (fail_if_success (refine glq rfl rfl rfl ?_)); first|refine AL_gdec rfl rfl rfl (fun hg=>?_) (fun hg=>?_)|refine AL_gnot rfl rfl rfl (fun hg=>?_) (fun hg=>?_)|refine AL_gcases rfl rfl rfl (fun hg=>?_) (fun hg=>?_)))
 all_goals (try (exfalso; simp_all; done))
 all_goals exact ⟨_,_,rfl,rfl,rfl⟩
theorem there_bd {m:SMap} {r c:Int} (h:thereB m r c = true):0 <= r /\ r < m.cells.length /\ 0 <= c /\ c < colsN m:= by
 simp only [thereB,Bool.and_eq_true] at h
 have:=inB_true h.1
 have:=inB_true h.2
 omega
theorem t164 (m:SMap) (hm:MapP m) (k:Crack) (hk:crackB m k = true):ACalls Tryz.prog 164 [.agg (eCrack k),.ptr (eMapC m)] (fun x=>x = .pv (.bool false)):= by
 simp only [crackB,Bool.and_eq_true] at hk
 have hb:=there_bd hk.1
 have:=hm.r6; have:=hm.c8
 have k0:=t143 k (by omega) (by omega) (by omega) (by omega)
 have k1:=t163 m hm k.row k.col
 have k2:=t163 m hm (beyondR k) (beyondC k)
 rw [hk.1] at k1
 rw [hk.2] at k2
 refine ACalls.of_body hT Tryz.func164 rfl (by kernel_rfl) rfl ?_
 (repeat' (first|refine stq ?_|(refine AL_do2 rfl ?_; first|refine ⟨_,op_call1 rfl rfl rfl rfl (k0),nrmA rfl ?_⟩|refine ⟨_,op_call1 rfl rfl rfl rfl (k1),nrmA rfl ?_⟩|refine ⟨_,op_call1 rfl rfl rfl rfl (k2),nrmA rfl ?_⟩)|(with_reducible refine AL_id ?_); (fail_if_success (refine glq rfl rfl rfl ?_)); first|refine AL_gdec rfl rfl rfl (fun hg=>?_) (fun hg=>?_)|refine AL_gnot rfl rfl rfl (fun hg=>?_) (fun hg=>?_)|refine AL_gcases rfl rfl rfl (fun hg=>?_) (fun hg=>?_)))
 all_goals (try (exfalso; simp_all; done))
 all_goals exact ⟨_,_,rfl,rfl,rfl⟩
theorem t166 (m:SMap) (hm:MapP m) (p:Place) (hp:probedB m p = true):ACalls Tryz.prog 166 [.agg (ePlace p),.ptr (eMapC m)] (fun x=>x = .pv (.bool false)):= by
 simp only [probedB,decide_eq_true_eq] at hp
 have ht:thereB m p.row p.col = true:= by
  cases q:thereB m p.row p.col with
  | true=>rfl
  | false=>rw [cell_there hm q] at hp; omega
 have k2:=t140 m hm p.row p.col 2
 rw [ht,decide_eq_true hp] at k2
 refine ACalls.of_body hT Tryz.func166 rfl (by kernel_rfl) rfl ?_
 (repeat' (first|refine stq ?_|(refine AL_do2 rfl ?_; first|refine ⟨_,op_call1 rfl rfl rfl rfl (k2),nrmA rfl ?_⟩)|(with_reducible refine AL_id ?_); (fail_if_success (refine glq rfl rfl rfl ?_)); first|refine AL_gdec rfl rfl rfl (fun hg=>?_) (fun hg=>?_)|refine AL_gnot rfl rfl rfl (fun hg=>?_) (fun hg=>?_)|refine AL_gcases rfl rfl rfl (fun hg=>?_) (fun hg=>?_)))
 exact ⟨_,_,rfl,rfl,rfl⟩
theorem t105 (t:Tube) (ht:TubeP t):ACalls Tryz.prog 105 [.agg (eTube t)] (fun x=>x = .pv (.bool false)):= by
 have k1:=t103 t.width 1 3
 have k2:=t103 t.need 1 60
 have k3:=t103 t.worth 1 100
 rw [inB_iff.2 ⟨ht.w1,ht.w3⟩] at k1
 rw [inB_iff.2 ⟨ht.n1,ht.n60⟩] at k2
 rw [inB_iff.2 ⟨ht.o1,ht.o100⟩] at k3
 refine ACalls.of_body hT Tryz.func105 rfl (by kernel_rfl) rfl ?_
 (repeat' (first|refine stq ?_|(refine AL_do2 rfl ?_; first|refine ⟨_,op_call1 rfl rfl rfl rfl (k1),nrmA rfl ?_⟩|refine ⟨_,op_call1 rfl rfl rfl rfl (k2),nrmA rfl ?_⟩|refine ⟨_,op_call1 rfl rfl rfl rfl (k3),nrmA rfl ?_⟩)|(with_reducible refine AL_id ?_); (fail_if_success (refine glq rfl rfl rfl ?_)); first|refine AL_gdec rfl rfl rfl (fun hg=>?_) (fun hg=>?_)|refine AL_gnot rfl rfl rfl (fun hg=>?_) (fun hg=>?_)|refine AL_gcases rfl rfl rfl (fun hg=>?_) (fun hg=>?_)))
 all_goals (try (exfalso; simp at hg; done))
 exact ⟨_,_,rfl,rfl,rfl⟩
set_option maxHeartbeats 4000000 in
theorem t102 (m:SMap) (hm:MapP m):ACalls Tryz.prog 102 [eMap m] (fun x=>x = .pv (.bool true)):= by
 have h1:=hm.r1; have h6:=hm.r6; have h8:=hm.c8; have c1:=hm.c1; have g8:=hm.g8; have kk8:=hm.k8; have p12:=hm.p12
 have k1:=t103 m.cells.length 1 6
 rw [inB_iff.2 (by omega)] at k1
 have k2:=t103 m.taper 0 9
 rw [inB_iff.2 ⟨hm.t0,hm.t9⟩] at k2
 have k3:=t103 m.hidden 0 3
 rw [inB_iff.2 ⟨hm.h0,hm.h3⟩] at k3
 have k4:=u147 m.gauges 162 [.ptr (eMapC m)] (fun _=>false) (by omega) (fun x hx=>t162 m hm x (hm.gg x hx))
 have k5:=u141 m.cracks 164 [.ptr (eMapC m)] (fun _=>false) (by omega) (fun x hx=>t164 m hm x (hm.kk x hx))
 have k6:=u165 m.probed 166 [.ptr (eMapC m)] (fun _=>false) (by omega) (fun x hx=>t166 m hm x (hm.pp x hx))
 rw [any_false] at k4 k5 k6
 obtain ⟨x0,hx0⟩:∃ x,m.cells[0]? = some x:=⟨m.cells[0]'(by omega),by simp⟩
 have e0:(m.cells.map eRow)[(0:Int).toNat]? = some (eRow x0):=get_map eRow hx0
 have hx0l:=cols_row hm hx0
 refine ACalls.of_body hT Tryz.func102 rfl (by kernel_rfl) rfl ?_
 (repeat' (first|refine stq ?_|(refine AL_do2 rfl ?_; first|refine ⟨_,op_call1 rfl rfl rfl rfl (k1),nrmA rfl ?_⟩)|(with_reducible refine AL_id ?_); (fail_if_success (refine glq rfl rfl rfl ?_)); first|refine AL_gdec rfl rfl rfl (fun hg=>?_) (fun hg=>?_)|refine AL_gnot rfl rfl rfl (fun hg=>?_) (fun hg=>?_)|refine AL_gcases rfl rfl rfl (fun hg=>?_) (fun hg=>?_)))
 refine AW_loopC (fun k:Nat=>k <= m.cells.length) (fun k=>mkSt [(1,.box 0 0),(11,.pv (eRows m.cells)),(12,.pv (vi m.cells.length)),(13,.pv (vi k))] [(0,boM m)] 1) (fun k=>m.cells.length - k) 0 (Nat.zero_le _) ?_ ?_
 ·(refine Le.mk ?_ ?_; all_goals (repeat' (first|exact trivial|refine sle ?_|refine ⟨?_,rfl,?_⟩|refine ⟨?_,by decide,rfl,?_⟩|fail)))
 ·intro k hk
  (repeat (refine stq ?_))
  refine AW_if rfl (fun hc=>?_) (fun hc=>?_)
  ·have hk':k < m.cells.length:=by omega
   obtain ⟨x,hx⟩:∃ x,m.cells[k]? = some x:=⟨m.cells[k],by simp [hk']⟩
   have e1:=get_map eRow hx
   have hxl:=cols_row hm hx
   have k7:=t103 x.length 1 8
   rw [inB_iff.2 (by omega)] at k7
   have k8:=u160 x 161 [] (fun _=>false) (by omega) (fun y hy=>t161 y (hm.cell x (List.mem_of_getElem? hx) y hy))
   rw [any_false] at k8
   (repeat' (first|refine stq ?_|(refine AL_do2 rfl ?_; first|refine ⟨_,op_call1 rfl rfl rfl rfl (k7),nrmA rfl ?_⟩|refine ⟨_,op_call1 rfl rfl rfl rfl (k8),nrmA rfl ?_⟩)|(with_reducible refine AL_id ?_); (fail_if_success (refine glq rfl rfl rfl ?_)); first|refine AL_gdec rfl rfl rfl (fun hg=>?_) (fun hg=>?_)|refine AL_gnot rfl rfl rfl (fun hg=>?_) (fun hg=>?_)|refine AL_gcases rfl rfl rfl (fun hg=>?_) (fun hg=>?_)))
   all_goals (try (exfalso; omega))
   all_goals (try (exfalso; simp at hg; done))
   refine ⟨k + 1,hk',by omega,?_⟩
   (refine Le.mk ?_ ?_; all_goals (repeat' (first|exact trivial|refine sle ?_|refine ⟨?_,rfl,?_⟩|refine ⟨?_,by decide,rfl,?_⟩|fail)))
  ·(repeat' (first|refine stq ?_|(refine AL_do2 rfl ?_; first|refine ⟨_,op_call1 rfl rfl rfl rfl (k2),nrmA rfl ?_⟩|refine ⟨_,op_call1 rfl rfl rfl rfl (k3),nrmA rfl ?_⟩|refine ⟨_,op_callB rfl rfl rfl rfl (k4) rfl,nrmA rfl ?_⟩|refine ⟨_,op_callB rfl rfl rfl rfl (k5) rfl,nrmA rfl ?_⟩|refine ⟨_,op_callB rfl rfl rfl rfl (k6) rfl,nrmA rfl ?_⟩|refine ⟨_,op_call1 rfl rfl rfl rfl (k4),nrmA rfl ?_⟩|refine ⟨_,op_call1 rfl rfl rfl rfl (k5),nrmA rfl ?_⟩|refine ⟨_,op_call1 rfl rfl rfl rfl (k6),nrmA rfl ?_⟩)|(with_reducible refine AL_id ?_); (fail_if_success (refine glq rfl rfl rfl ?_)); first|refine AL_gdec rfl rfl rfl (fun hg=>?_) (fun hg=>?_)|refine AL_gnot rfl rfl rfl (fun hg=>?_) (fun hg=>?_)|refine AL_gcases rfl rfl rfl (fun hg=>?_) (fun hg=>?_)))
   all_goals (try (exfalso; omega))
   all_goals (try (exfalso; simp at hg; done))
   all_goals exact ⟨_,_,rfl,rfl,rfl⟩
theorem t49 (w:Work) (hw:WorkP w):ACalls Tryz.prog 49 [eWork w] (fun x=>x = .pv (.bool true)):= by
 have h1:=hw.t1; have h4:=hw.t4
 have k1:=t102 w.map hw.map
 have k2:=t103 w.tubes.length 1 4
 rw [inB_iff.2 (by omega)] at k2
 have k3:=t103 w.kerf 0 5
 rw [inB_iff.2 ⟨hw.k0,hw.k5⟩] at k3
 have k4:=u104 w.tubes 105 [] (fun _=>false) (by omega) (fun x hx=>t105 x (hw.tt x hx))
 rw [any_false] at k4
 refine ACalls.of_body hT Tryz.func49 rfl (by kernel_rfl) rfl ?_
 (repeat' (first|refine stq ?_|(refine AL_do2 rfl ?_; first|refine ⟨_,op_call1 rfl rfl rfl rfl (k1),nrmA rfl ?_⟩|refine ⟨_,op_call1 rfl rfl rfl rfl (k2),nrmA rfl ?_⟩|refine ⟨_,op_call1 rfl rfl rfl rfl (k3),nrmA rfl ?_⟩|refine ⟨_,op_call1 rfl rfl rfl rfl (k4),nrmA rfl ?_⟩)|(with_reducible refine AL_id ?_); (fail_if_success (refine glq rfl rfl rfl ?_)); first|refine AL_gdec rfl rfl rfl (fun hg=>?_) (fun hg=>?_)|refine AL_gnot rfl rfl rfl (fun hg=>?_) (fun hg=>?_)|refine AL_gcases rfl rfl rfl (fun hg=>?_) (fun hg=>?_)))
 all_goals (try (exfalso; simp at hg; done))
 exact ⟨_,_,rfl,rfl,rfl⟩
end Go.Abs
