/- The house of the example is one. -/
import Derived.Test.YtpoaccdbakbjhaaGreatXG40
set_option linter.unusedVariables false
set_option linter.unusedSimpArgs false
namespace Go.Abs
open Go.Proofs
set_option maxRecDepth 100000
structure HouseP (h:SHouse):Prop where
 h1:1 <= h.hours
 h4:h.hours <= 4
 r1:1 <= h.rooms.length
 r2:h.rooms.length = 2
 f4:h.fans.length <= 4
 n1:1 <= h.hands.length
 n4:h.hands.length <= 4
 sl:h.sets.length = h.hours
 room:∀ r ∈ h.rooms,0 <= r.low /\ r.low <= r.high /\ r.high <= 50 /\ 0 <= r.load /\ r.load <= 1000 /\ 0 <= r.out /\ r.out <= 4 /\ 0 <= r.start /\ r.start <= 50
 fan:∀ f ∈ h.fans,0 <= f.room /\ f.room <= 1 /\ 0 <= f.draw /\ f.draw <= 50
 set:∀ s ∈ h.sets,setOK s
 hand:∀ x ∈ h.hands,0 <= x.dust /\ x.dust <= 2000 /\ 0 <= x.hours /\ x.hours <= 4
theorem hEx_ok:HouseP hEx:= by
 constructor
 all_goals first
  | decide
  | (intro x hx; simp only [hEx,List.mem_cons,List.not_mem_nil,or_false] at hx; rcases hx with rfl|rfl|rfl <;> first|decide|(unfold setOK; omega))
  | (intro x hx; simp only [hEx,List.mem_cons,List.not_mem_nil,or_false] at hx; rcases hx with rfl|rfl <;> decide)
theorem t120 (r:SRoom) (h:0 <= r.low /\ r.low <= r.high /\ r.high <= 50 /\ 0 <= r.load /\ r.load <= 1000 /\ 0 <= r.out /\ r.out <= 4 /\ 0 <= r.start /\ r.start <= 50):ACalls Tryz.prog 120 [.agg (eRoom r)] (fun x=>x = .pv (.bool false)):= by
 have k1:=t118 r.load 0 1000
 have k2:=t118 r.out 0 4
 have k3:=t118 r.start 0 50
 rw [inB_iff.2 (by omega)] at k1 k2 k3
 refine ACalls.of_body hT Tryz.func120 rfl (by kernel_rfl) rfl ?_
 (repeat' (first|refine stq ?_|(refine AL_do2 rfl ?_; first|refine ⟨_,op_call1 rfl rfl rfl rfl (k1),nrmA rfl ?_⟩|refine ⟨_,op_call1 rfl rfl rfl rfl (k2),nrmA rfl ?_⟩|refine ⟨_,op_call1 rfl rfl rfl rfl (k3),nrmA rfl ?_⟩)|((first|(with_reducible refine AL_id ?_); (fail_if_success (refine glq rfl rfl rfl ?_)); first|refine AL_gdec rfl rfl rfl (fun hg=>?_) (fun hg=>?_)|refine AL_gnot rfl rfl rfl (fun hg=>?_) (fun hg=>?_)|refine AL_gcases rfl rfl rfl (fun hg=>?_) (fun hg=>?_)) <;> (try (exfalso; omega)))|refine AW_if rfl (fun hc=>absurd hc (by omega)) (fun _=>?_)|refine AW_if rfl (fun _=>?_) (fun hc=>absurd (by omega) hc)))
 all_goals (try (exfalso; omega))
 exact ⟨_,_,rfl,rfl,by simp⟩
theorem t122 (h:SHouse) (hh:HouseP h) (f:SFan) (hf:0 <= f.room /\ f.room <= 1 /\ 0 <= f.draw /\ f.draw <= 50):ACalls Tryz.prog 122 [.agg (eFan f),.ptr (eHouseC h)] (fun x=>x = .pv (.bool false)):= by
 have h2:=hh.r2
 have k1:=t118 f.room 0 (h.rooms.length - 1)
 have k2:=t118 f.draw 0 50
 rw [inB_iff.2 (by omega)] at k1 k2
 refine ACalls.of_body hT Tryz.func122 rfl (by kernel_rfl) rfl ?_
 (repeat' (first|refine stq ?_|(refine AL_do2 rfl ?_; first|refine ⟨_,op_call1 rfl rfl rfl rfl (k1),nrmA rfl ?_⟩|refine ⟨_,op_call1 rfl rfl rfl rfl (k2),nrmA rfl ?_⟩)|(with_reducible refine AL_id ?_); (fail_if_success (refine glq rfl rfl rfl ?_)); first|refine AL_gdec rfl rfl rfl (fun hg=>?_) (fun hg=>?_)|refine AL_gnot rfl rfl rfl (fun hg=>?_) (fun hg=>?_)|refine AL_gcases rfl rfl rfl (fun hg=>?_) (fun hg=>?_)))
 exact ⟨_,_,rfl,rfl,rfl⟩
theorem t123 (h:SHouse) (hh:HouseP h) (s:Int) (hs:setOK s):ACalls Tryz.prog 123 [vi s,.ptr (eHouseC h)] (fun x=>x = .pv (.bool false)):= by
 have h2:=hh.r2
 have k1:=t118 s 0 3
 rw [inB_iff.2 (by rcases hs with h|h|h|h <;> omega)] at k1
 refine ACalls.of_body hT Tryz.func123 rfl (by kernel_rfl) rfl ?_
 (repeat (refine stq ?_))
 rw [show shlR IntKind.i64 1 (h.rooms.length:Int) = 4 by rw [h2]; decide]
 (repeat' (first|refine stq ?_|(refine AL_do2 rfl ?_; first|refine ⟨_,op_call1 rfl rfl rfl rfl (k1),nrmA rfl ?_⟩)|(with_reducible refine AL_id ?_); (fail_if_success (refine glq rfl rfl rfl ?_)); first|refine AL_gdec rfl rfl rfl (fun hg=>?_) (fun hg=>?_)|refine AL_gnot rfl rfl rfl (fun hg=>?_) (fun hg=>?_)|refine AL_gcases rfl rfl rfl (fun hg=>?_) (fun hg=>?_)))
 exact ⟨_,_,rfl,rfl,rfl⟩
theorem t125 (x:SHand) (h:0 <= x.dust /\ x.dust <= 2000 /\ 0 <= x.hours /\ x.hours <= 4):ACalls Tryz.prog 125 [.agg (eHand x)] (fun x=>x = .pv (.bool false)):= by
 have k1:=t118 x.dust 0 2000
 have k2:=t118 x.hours 0 4
 rw [inB_iff.2 (by omega)] at k1 k2
 refine ACalls.of_body hT Tryz.func125 rfl (by kernel_rfl) rfl ?_
 (repeat' (first|refine stq ?_|(refine AL_do2 rfl ?_; first|refine ⟨_,op_call1 rfl rfl rfl rfl (k1),nrmA rfl ?_⟩|refine ⟨_,op_call1 rfl rfl rfl rfl (k2),nrmA rfl ?_⟩)|(with_reducible refine AL_id ?_); (fail_if_success (refine glq rfl rfl rfl ?_)); first|refine AL_gdec rfl rfl rfl (fun hg=>?_) (fun hg=>?_)|refine AL_gnot rfl rfl rfl (fun hg=>?_) (fun hg=>?_)|refine AL_gcases rfl rfl rfl (fun hg=>?_) (fun hg=>?_)))
 exact ⟨_,_,rfl,rfl,rfl⟩
set_option maxHeartbeats 4000000 in
theorem t181 (l:List SRoom) (hl:l.length <= 1000) (g:Nat) (caps:List PV) (hg:∀ x ∈ l,ACalls Tryz.prog g ([.agg (eRoom x)] ++ caps) (fun r=>r = .pv (.bool false))):ACalls Tryz.prog 181 [.sl (l.map eRoom),.fn g caps] (fun r=>r = .pv (vi (-1))):= by
 refine ACalls.of_body hT Tryz.func181 rfl (by kernel_rfl) rfl ?_
 (repeat (refine stq ?_))
 refine AW_loopC (fun k:Nat=>k <= l.length) (fun k=>mkSt [(0,.pv (.sl (l.map eRoom))),(1,.pv (.fn g caps)),(7,.pv (vi l.length)),(8,.pv (vi k))] [] 0) (fun k=>l.length - k) 0 (Nat.zero_le _) ?_ ?_
 ·(refine Le.mk ?_ ?_; all_goals (repeat' (first|exact trivial|refine sle ?_|refine ⟨?_,rfl,?_⟩|refine ⟨?_,by decide,rfl,?_⟩|fail)))
 ·intro k hk
  (repeat (refine stq ?_))
  refine AW_if rfl (fun hc=>?_) (fun hc=>?_)
  ·have hk':k < l.length:=by omega
   obtain ⟨x,hx⟩:∃ x,l[k]? = some x:=⟨l[k],by simp [hk']⟩
   have e1:=get_map eRoom hx
   have hgx:=hg x (List.mem_of_getElem? hx)
   (repeat' (first|refine stq ?_|(refine AL_do2 rfl ?_; first|refine ⟨_,op_call1 rfl rfl rfl rfl (hgx),nrmA rfl ?_⟩)|(with_reducible refine AL_id ?_); (fail_if_success (refine glq rfl rfl rfl ?_)); first|refine AL_gdec rfl rfl rfl (fun hg=>?_) (fun hg=>?_)|refine AL_gnot rfl rfl rfl (fun hg=>?_) (fun hg=>?_)|refine AL_gcases rfl rfl rfl (fun hg=>?_) (fun hg=>?_)))
   refine ⟨k + 1,hk',by omega,?_⟩
   (refine Le.mk ?_ ?_; all_goals (repeat' (first|exact trivial|refine sle ?_|refine ⟨?_,rfl,?_⟩|refine ⟨?_,by decide,rfl,?_⟩|fail)))
  ·(repeat (refine stq ?_))
   exact ⟨_,_,rfl,rfl,rfl⟩
theorem t119 (l:List SRoom) (hl:l.length <= 1000) (g:Nat) (caps:List PV) (hg:∀ x ∈ l,ACalls Tryz.prog g ([.agg (eRoom x)] ++ caps) (fun r=>r = .pv (.bool false))):ACalls Tryz.prog 119 [.sl (l.map eRoom),.fn g caps] (fun r=>r = .pv (.bool false)):= by
 have k:=t181 l hl g caps hg
 refine ACalls.of_body hT Tryz.func119 rfl (by kernel_rfl) rfl ?_
 (repeat' (first|refine stq ?_|(refine AL_do2 rfl ?_; first|refine ⟨_,op_call1 rfl rfl rfl rfl (k),nrmA rfl ?_⟩)|(with_reducible refine AL_id ?_); (fail_if_success (refine glq rfl rfl rfl ?_)); first|refine AL_gdec rfl rfl rfl (fun hg=>?_) (fun hg=>?_)|refine AL_gnot rfl rfl rfl (fun hg=>?_) (fun hg=>?_)|refine AL_gcases rfl rfl rfl (fun hg=>?_) (fun hg=>?_)))
 exact ⟨_,_,rfl,rfl,rfl⟩
set_option maxHeartbeats 4000000 in
theorem t182 (l:List SFan) (hl:l.length <= 1000) (g:Nat) (caps:List PV) (hg:∀ x ∈ l,ACalls Tryz.prog g ([.agg (eFan x)] ++ caps) (fun r=>r = .pv (.bool false))):ACalls Tryz.prog 182 [.sl (l.map eFan),.fn g caps] (fun r=>r = .pv (vi (-1))):= by
 refine ACalls.of_body hT Tryz.func182 rfl (by kernel_rfl) rfl ?_
 (repeat (refine stq ?_))
 refine AW_loopC (fun k:Nat=>k <= l.length) (fun k=>mkSt [(0,.pv (.sl (l.map eFan))),(1,.pv (.fn g caps)),(7,.pv (vi l.length)),(8,.pv (vi k))] [] 0) (fun k=>l.length - k) 0 (Nat.zero_le _) ?_ ?_
 ·(refine Le.mk ?_ ?_; all_goals (repeat' (first|exact trivial|refine sle ?_|refine ⟨?_,rfl,?_⟩|refine ⟨?_,by decide,rfl,?_⟩|fail)))
 ·intro k hk
  (repeat (refine stq ?_))
  refine AW_if rfl (fun hc=>?_) (fun hc=>?_)
  ·have hk':k < l.length:=by omega
   obtain ⟨x,hx⟩:∃ x,l[k]? = some x:=⟨l[k],by simp [hk']⟩
   have e1:=get_map eFan hx
   have hgx:=hg x (List.mem_of_getElem? hx)
   (repeat' (first|refine stq ?_|(refine AL_do2 rfl ?_; first|refine ⟨_,op_call1 rfl rfl rfl rfl (hgx),nrmA rfl ?_⟩)|(with_reducible refine AL_id ?_); (fail_if_success (refine glq rfl rfl rfl ?_)); first|refine AL_gdec rfl rfl rfl (fun hg=>?_) (fun hg=>?_)|refine AL_gnot rfl rfl rfl (fun hg=>?_) (fun hg=>?_)|refine AL_gcases rfl rfl rfl (fun hg=>?_) (fun hg=>?_)))
   refine ⟨k + 1,hk',by omega,?_⟩
   (refine Le.mk ?_ ?_; all_goals (repeat' (first|exact trivial|refine sle ?_|refine ⟨?_,rfl,?_⟩|refine ⟨?_,by decide,rfl,?_⟩|fail)))
  ·(repeat (refine stq ?_))
   exact ⟨_,_,rfl,rfl,rfl⟩
theorem t121 (l:List SFan) (hl:l.length <= 1000) (g:Nat) (caps:List PV) (hg:∀ x ∈ l,ACalls Tryz.prog g ([.agg (eFan x)] ++ caps) (fun r=>r = .pv (.bool false))):ACalls Tryz.prog 121 [.sl (l.map eFan),.fn g caps] (fun r=>r = .pv (.bool false)):= by
 have k:=t182 l hl g caps hg
 refine ACalls.of_body hT Tryz.func121 rfl (by kernel_rfl) rfl ?_
 (repeat' (first|refine stq ?_|(refine AL_do2 rfl ?_; first|refine ⟨_,op_call1 rfl rfl rfl rfl (k),nrmA rfl ?_⟩)|(with_reducible refine AL_id ?_); (fail_if_success (refine glq rfl rfl rfl ?_)); first|refine AL_gdec rfl rfl rfl (fun hg=>?_) (fun hg=>?_)|refine AL_gnot rfl rfl rfl (fun hg=>?_) (fun hg=>?_)|refine AL_gcases rfl rfl rfl (fun hg=>?_) (fun hg=>?_)))
 exact ⟨_,_,rfl,rfl,rfl⟩
set_option maxHeartbeats 4000000 in
theorem t183 (l:List SHand) (hl:l.length <= 1000) (g:Nat) (caps:List PV) (hg:∀ x ∈ l,ACalls Tryz.prog g ([.agg (eHand x)] ++ caps) (fun r=>r = .pv (.bool false))):ACalls Tryz.prog 183 [.sl (l.map eHand),.fn g caps] (fun r=>r = .pv (vi (-1))):= by
 refine ACalls.of_body hT Tryz.func183 rfl (by kernel_rfl) rfl ?_
 (repeat (refine stq ?_))
 refine AW_loopC (fun k:Nat=>k <= l.length) (fun k=>mkSt [(0,.pv (.sl (l.map eHand))),(1,.pv (.fn g caps)),(7,.pv (vi l.length)),(8,.pv (vi k))] [] 0) (fun k=>l.length - k) 0 (Nat.zero_le _) ?_ ?_
 ·(refine Le.mk ?_ ?_; all_goals (repeat' (first|exact trivial|refine sle ?_|refine ⟨?_,rfl,?_⟩|refine ⟨?_,by decide,rfl,?_⟩|fail)))
 ·intro k hk
  (repeat (refine stq ?_))
  refine AW_if rfl (fun hc=>?_) (fun hc=>?_)
  ·have hk':k < l.length:=by omega
   obtain ⟨x,hx⟩:∃ x,l[k]? = some x:=⟨l[k],by simp [hk']⟩
   have e1:=get_map eHand hx
   have hgx:=hg x (List.mem_of_getElem? hx)
   (repeat' (first|refine stq ?_|(refine AL_do2 rfl ?_; first|refine ⟨_,op_call1 rfl rfl rfl rfl (hgx),nrmA rfl ?_⟩)|(with_reducible refine AL_id ?_); (fail_if_success (refine glq rfl rfl rfl ?_)); first|refine AL_gdec rfl rfl rfl (fun hg=>?_) (fun hg=>?_)|refine AL_gnot rfl rfl rfl (fun hg=>?_) (fun hg=>?_)|refine AL_gcases rfl rfl rfl (fun hg=>?_) (fun hg=>?_)))
   refine ⟨k + 1,hk',by omega,?_⟩
   (refine Le.mk ?_ ?_; all_goals (repeat' (first|exact trivial|refine sle ?_|refine ⟨?_,rfl,?_⟩|refine ⟨?_,by decide,rfl,?_⟩|fail)))
  ·(repeat (refine stq ?_))
   exact ⟨_,_,rfl,rfl,rfl⟩
theorem t124 (l:List SHand) (hl:l.length <= 1000) (g:Nat) (caps:List PV) (hg:∀ x ∈ l,ACalls Tryz.prog g ([.agg (eHand x)] ++ caps) (fun r=>r = .pv (.bool false))):ACalls Tryz.prog 124 [.sl (l.map eHand),.fn g caps] (fun r=>r = .pv (.bool false)):= by
 have k:=t183 l hl g caps hg
 refine ACalls.of_body hT Tryz.func124 rfl (by kernel_rfl) rfl ?_
 (repeat' (first|refine stq ?_|(refine AL_do2 rfl ?_; first|refine ⟨_,op_call1 rfl rfl rfl rfl (k),nrmA rfl ?_⟩)|(with_reducible refine AL_id ?_); (fail_if_success (refine glq rfl rfl rfl ?_)); first|refine AL_gdec rfl rfl rfl (fun hg=>?_) (fun hg=>?_)|refine AL_gnot rfl rfl rfl (fun hg=>?_) (fun hg=>?_)|refine AL_gcases rfl rfl rfl (fun hg=>?_) (fun hg=>?_)))
 exact ⟨_,_,rfl,rfl,rfl⟩
set_option maxHeartbeats 4000000 in
theorem t53 (h:SHouse) (hh:HouseP h):ACalls Tryz.prog 53 [eHouse h] (fun x=>x = .pv (.bool true)):= by
 have h1:=hh.h1; have h4:=hh.h4; have r1:=hh.r1; have r2:=hh.r2; have f4:=hh.f4; have n1:=hh.n1; have n4:=hh.n4; have sl:=hh.sl
 have k1:=t118 h.hours 1 4
 have k2:=t118 h.rooms.length 1 3
 have k3:=t118 h.hands.length 1 4
 rw [inB_iff.2 (by omega)] at k1 k2 k3
 have k4:=t119 h.rooms (by omega) 120 [] (fun x hx=>t120 x (hh.room x hx))
 have k5:=t121 h.fans (by omega) 122 [.ptr (eHouseC h)] (fun x hx=>t122 h hh x (hh.fan x hx))
 have k6:=t60 h.sets (by omega) 123 [.ptr (eHouseC h)] (fun _=>false) (fun x hx=>t123 h hh x (hh.set x hx))
 rw [show (h.sets.any fun _=>false) = false from List.any_eq_false.2 fun _ _=>by simp] at k6
 have k7:=t124 h.hands (by omega) 125 [] (fun x hx=>t125 x (hh.hand x hx))
 refine ACalls.of_body hT Tryz.func53 rfl (by kernel_rfl) rfl ?_
 (repeat' (first|refine stq ?_|(refine AL_do2 rfl ?_; first|refine ⟨_,op_call1 rfl rfl rfl rfl (k1),nrmA rfl ?_⟩|refine ⟨_,op_call1 rfl rfl rfl rfl (k2),nrmA rfl ?_⟩|refine ⟨_,op_call1 rfl rfl rfl rfl (k3),nrmA rfl ?_⟩|refine ⟨_,op_call1 rfl rfl rfl rfl (k4),nrmA rfl ?_⟩|refine ⟨_,op_callB rfl rfl rfl rfl (k5) rfl,nrmA rfl ?_⟩|refine ⟨_,op_callB rfl rfl rfl rfl (k6) rfl,nrmA rfl ?_⟩|refine ⟨_,op_call1 rfl rfl rfl rfl (k7),nrmA rfl ?_⟩)|((first|(with_reducible refine AL_id ?_); (fail_if_success (refine glq rfl rfl rfl ?_)); first|refine AL_gdec rfl rfl rfl (fun hg=>?_) (fun hg=>?_)|refine AL_gnot rfl rfl rfl (fun hg=>?_) (fun hg=>?_)|refine AL_gcases rfl rfl rfl (fun hg=>?_) (fun hg=>?_)) <;> (try (exfalso; omega)))|refine AW_if rfl (fun hc=>absurd hc (by omega)) (fun _=>?_)|refine AW_if rfl (fun _=>?_) (fun hc=>absurd (by omega) hc)))
 all_goals (try (exfalso; omega))
 exact ⟨_,_,rfl,rfl,rfl⟩
end Go.Abs
namespace Go.Abs
open Go.Proofs
def clearR (x r:Int):Int:=if hasR x r then x - 2 ^ r.toNat else x
def takeN (p left:List Int):Nat -> Option (List Int)
 | 0=>some left
 | i + 1=>match takeN p left i with
  | none=>none
  | some th=>match p[i]?,left[i]? with
   | some r,some x=>if r = -1 then some th else if hasR x r then some (th.set i (clearR x r)) else none
   | _,_=>none
def takeP (p left:List Int):Option (List Int):=takeN p left p.length
structure SS where
 fewest:Int
 out:Option (List (List Int))
def pruneB (n:Nat) (now:List (List Int)) (left:List Int) (hands:Int) (s:SS):Bool:=decide (hands >= s.fewest) || left.any fun x=>decide (popN x > (n:Int) - now.length)
def leafS (now:List (List Int)) (left:List Int) (hands:Int) (s:SS):SS:=if (left.any fun x=>decide (x ≠ 0)) then s else ⟨hands,some now⟩
def moreI (p:List Int) (hands:Int):Int:=if workedI p > 0 then hands + 1 else hands
def searchF (n:Nat) (own:List (List (List Int))):Nat -> List (List Int) -> List Int -> Int -> SS -> SS
 | 0,now,left,hands,s=>if pruneB n now left hands s then s else leafS now left hands s
 | d + 1,now,left,hands,s=>if pruneB n now left hands s then s else
  ((own[now.length]?).getD []).foldl (fun s p=>match takeP p left with
   | none=>s
   | some th=>searchF n own d (now ++ [p]) th (moreI p hands) s) s
def stepS (n:Nat) (own:List (List (List Int))) (d:Nat) (now:List (List Int)) (left:List Int) (hands:Int) (s:SS) (p:List Int):SS:=match takeP p left with
 | none=>s
 | some th=>searchF n own d (now ++ [p]) th (moreI p hands) s
theorem searchF_step {n:Nat} {own:List (List (List Int))} {d:Nat} {now:List (List Int)} {left:List Int} {hands:Int} {s:SS} (h:pruneB n now left hands s = false) {l:List (List Int)} (hl:own[now.length]? = some l) :
  searchF n own (d + 1) now left hands s = l.foldl (stepS n own d now left hands) s:= by
 rw [searchF,h,hl]; rfl
def pathOK (h:SHouse) (p:List Int):Prop:=p.length = h.sets.length /\ ∀ r ∈ p,r = -1 \/ roomOK r
theorem take_none {p left:List Int} {i:Nat} (h:takeN p left i = none):∀ j,i <= j -> takeN p left j = none
 | 0,hj=>by
  have:i = 0:=by omega
  subst this; exact h
 | j + 1,hj=>by
  by_cases hi:i = j + 1
  ·subst hi; exact h
  ·rw [takeN,take_none h j (by omega)]
theorem clear_ok {x r:Int} (hx:setOK x) (hr:roomOK r):setOK (clearR x r):= by
 rcases hx with rfl|rfl|rfl|rfl <;> rcases hr with rfl|rfl <;> first|exact .inl rfl|exact .inr (.inl rfl)|exact .inr (.inr (.inl rfl))|exact .inr (.inr (.inr rfl))
structure TakeP (left th:List Int) (i:Nat):Prop where
 len:th.length = left.length
 old:∀ j,i <= j -> th[j]? = left[j]?
 set:∀ x ∈ th,setOK x
theorem take_zero {left:List Int} (h:∀ x ∈ left,setOK x):TakeP left left 0:=⟨rfl,fun _ _=>rfl,h⟩
theorem take_same {left th:List Int} {i:Nat} (h:TakeP left th i):TakeP left th (i + 1):=⟨h.len,fun j hj=>h.old j (by omega),h.set⟩
theorem take_set {left th:List Int} {i:Nat} {y:Int} (h:TakeP left th i) (hy:setOK y):TakeP left (th.set i y) (i + 1):=⟨by rw [List.length_set]; exact h.len,fun j hj=>by rw [List.getElem?_set_ne (by omega)]; exact h.old j (by omega),fun x hx=>by
 rcases List.mem_or_eq_of_mem_set hx with h1|h1
 ·exact h.set x h1
 ·subst h1; exact hy⟩
end Go.Abs
namespace Go.Abs
open Go.Proofs
set_option maxRecDepth 100000
def suitB (h:SHouse) (now:List Int) (r:Int):Bool:=decide (r = -1) || hasR ((h.sets[now.length]?).getD 0) r
theorem t56 (h:SHouse) (hh:HouseP h) (now:List Int) (hn:now.length < h.sets.length) (r:Int) (hr:r = -1 \/ roomOK r):ACalls Tryz.prog 56 [eInts now,vi r,.ptr (eHouseC h)] (fun x=>x = .pv (.bool (suitB h now r))):= by
 have sl:=hh.sl; have h4:=hh.h4
 obtain ⟨s,hs⟩:∃ x,h.sets[now.length]? = some x:=⟨h.sets[now.length],by simp [hn]⟩
 have e1:=get_map eInt hs
 rw [suitB,hs]
 by_cases h1:r = -1
 ·subst h1
  refine ACalls.of_body hT Tryz.func56 rfl (by kernel_rfl) rfl ?_
  (repeat (refine stq ?_))
  exact ⟨_,_,rfl,rfl,rfl⟩
 ·have k57:=t57 s r (hh.set s (List.mem_of_getElem? hs)) (hr.resolve_left h1)
  rw [decide_eq_false h1,Bool.false_or]
  show ACalls Tryz.prog 56 _ (fun x=>x = .pv (.bool (hasR s r)))
  generalize hasR s r = b at *
  refine ACalls.of_body hT Tryz.func56 rfl (by kernel_rfl) rfl ?_
  (repeat' (first|refine stq ?_|(refine AL_do2 rfl ?_; first|refine ⟨_,op_call1 rfl rfl rfl rfl (k57),nrmA rfl ?_⟩)|((first|(with_reducible refine AL_id ?_); (fail_if_success (refine glq rfl rfl rfl ?_)); first|refine AL_gdec rfl rfl rfl (fun hg=>?_) (fun hg=>?_)|refine AL_gnot rfl rfl rfl (fun hg=>?_) (fun hg=>?_)|refine AL_gcases rfl rfl rfl (fun hg=>?_) (fun hg=>?_)) <;> (try (exfalso; omega)))|refine AW_if rfl (fun hc=>absurd hc (by omega)) (fun _=>?_)|refine AW_if rfl (fun _=>?_) (fun hc=>absurd (by omega) hc)))
  all_goals (try (exfalso; omega))
  exact ⟨_,_,rfl,rfl,rfl⟩
def optR:List Int:=[-1,0,1]
def walksP (h:SHouse):Nat -> List Int -> List (List Int)
 | 0,now=>[now]
 | d + 1,now=>optR.flatMap fun r=>if suitB h now r then walksP h d (now ++ [r]) else []
def preWP (h:SHouse) (d:Nat) (now:List Int) (k:Nat):List (List Int):=(optR.take k).flatMap fun r=>if suitB h now r then walksP h d (now ++ [r]) else []
theorem preW_succ {h:SHouse} {d:Nat} {now:List Int} {k:Nat} {r:Int} (hr:optR[k]? = some r):preWP h d now (k + 1) = preWP h d now k ++ if suitB h now r then walksP h d (now ++ [r]) else []:= by
 rw [preWP,preWP,List.take_add_one,hr,List.flatMap_append]; simp
theorem preW_pre {h:SHouse} {d:Nat} {now:List Int} {k:Nat}:∃ r,walksP h (d + 1) now = preWP h d now k ++ r:= by
 refine ⟨(optR.drop k).flatMap fun r=>if suitB h now r then walksP h d (now ++ [r]) else [],?_⟩
 rw [preWP,<- List.flatMap_append,List.take_append_drop]; rfl
theorem opt_room {k:Nat} {r:Int} (h:optR[k]? = some r):r = (k:Int) - 1 /\ (r = -1 \/ roomOK r):= by
 match k with
 | 0=>cases h; exact ⟨by omega,.inl rfl⟩
 | 1=>cases h; exact ⟨by omega,.inr (.inl rfl)⟩
 | 2=>cases h; exact ⟨by omega,.inr (.inr rfl)⟩
 | k + 3=>simp [optR] at h
def sfn (h:SHouse):PV:=.fn 56 [.ptr (eHouseC h)]
abbrev pthO (h:SHouse) (E:Ext) (m:Nat) (B:Nat -> Prop):List (Nat × AObj):=[(0,.ext E m B),(1,.box [.yld 0]),(2,.box [.fn 130 [.pv (.ptr (eHouseC h)),.box 1 0,.pv (.ptr [sfn h]),.box 2 0]])]
abbrev pthA (h:SHouse) (now:List Int):List FV:=[.pv (eInts now),.pv (.ptr (eHouseC h)),.box 1 0,.pv (.ptr [sfn h]),.box 2 0]
abbrev pthN (av:Nat -> Value):List (Nat × AObj):=ancL av [(3,1),(4,2)]
def PthQ (h:SHouse) (E:Ext) (d:Nat) (now:List Int):Prop:=∀ (m:Nat) (B:Nat -> Prop) (av:Nat -> Value),(∀ i x,(walksP h d now)[i]? = some x -> E.L[m + i]? = some [eInts x]) →
 ACallsX Tryz.prog 130 (pthA h now) (pthO h E m B ++ pthN av) 5 (fun sf=>∃ B',sf = mkSt [(0,.pv (.bool true))] (pthO h E (m + (walksP h d now).length) B' ++ pthN av) 5) (fun _ _=>False)
set_option maxHeartbeats 8000000 in
theorem t130 (h:SHouse) (hh:HouseP h) (E:Ext) (hE:E.Round Tryz.prog):∀ (d:Nat) (now:List Int),now.length + d = h.sets.length -> PthQ h E d now
 | 0,now,hn=>by
  intro m B av hx
  have sl:=hh.sl; have h4:=hh.h4
  have hx1:=hx 0 now rfl
  rw [Nat.add_zero] at hx1
  refine ACallsX.of_body hT Tryz.func130 rfl (by kernel_rfl) rfl ?_
  (repeat' (first|refine stq ?_|((first|(with_reducible refine AL_id ?_); (fail_if_success (refine glq rfl rfl rfl ?_)); first|refine AL_gdec rfl rfl rfl (fun hg=>?_) (fun hg=>?_)|refine AL_gnot rfl rfl rfl (fun hg=>?_) (fun hg=>?_)|refine AL_gcases rfl rfl rfl (fun hg=>?_) (fun hg=>?_)) <;> (try (exfalso; omega)))|refine AW_if rfl (fun hc=>absurd hc (by omega)) (fun _=>?_)|refine AW_if rfl (fun _=>?_) (fun hc=>absurd (by omega) hc)))
  all_goals (try (exfalso; omega))
  refine AL_doS rfl (op_yield hE rfl rfl rfl rfl rfl hx1) ?_
  rintro s' ⟨B',rfl⟩
  (repeat (refine stq ?_))
  refine ⟨_,mkSt [(0,.pv (.bool true))] (pthO h E (m + 1) B' ++ pthN av) 5,rfl,?_,B',rfl⟩
  (refine Le.mk ?_ ?_; all_goals (repeat' (first|exact trivial|refine sle ?_|refine ⟨?_,rfl,?_⟩|refine ⟨?_,by decide,rfl,?_⟩|fail)))
 | d + 1,now,hn=>by
  intro m B av hx
  have ih:=fun r=>t130 h hh E hE d (now ++ [r]) (by rw [List.length_append,List.length_singleton]; omega)
  have sl:=hh.sl; have h4:=hh.h4; have r2:=hh.r2
  have k64:=t64 now (by omega)
  have hpre:∀ k r,optR[k]? = some r -> suitB h now r = true -> ∀ i x,(walksP h d (now ++ [r]))[i]? = some x -> E.L[m + (preWP h d now k).length + i]? = some [eInts x]:=fun k r hr hs i x hi=>by
   obtain ⟨q,hq⟩:=preW_pre (h:=h) (d:=d) (now:=now) (k:=k + 1)
   rw [Nat.add_assoc]
   refine hx _ x ?_
   rw [hq,preW_succ hr,if_pos hs,List.append_assoc,List.getElem?_append_right (by omega),show (preWP h d now k).length + i - (preWP h d now k).length = i by omega,List.getElem?_append_left (List.getElem?_eq_some_iff.1 hi).1]
   exact hi
  refine ACallsX.of_body hT Tryz.func130 rfl (by kernel_rfl) rfl ?_
  (repeat' (first|refine stq ?_|((first|(with_reducible refine AL_id ?_); (fail_if_success (refine glq rfl rfl rfl ?_)); first|refine AL_gdec rfl rfl rfl (fun hg=>?_) (fun hg=>?_)|refine AL_gnot rfl rfl rfl (fun hg=>?_) (fun hg=>?_)|refine AL_gcases rfl rfl rfl (fun hg=>?_) (fun hg=>?_)) <;> (try (exfalso; omega)))|refine AW_if rfl (fun hc=>absurd hc (by omega)) (fun _=>?_)|refine AW_if rfl (fun _=>?_) (fun hc=>absurd (by omega) hc)))
  all_goals (try (exfalso; omega))
  refine AW_loopC (fun i:Nat × (Nat -> Prop)=>i.1 <= 3) (fun i=>mkSt [(0,.pv (eInts now)),(1,.pv (.ptr (eHouseC h))),(2,.box 1 0),(3,.pv (.ptr [sfn h])),(4,.box 2 0),(7,.pv (vi ((i.1:Int) - 1)))] (pthO h E (m + (preWP h d now i.1).length) i.2 ++ pthN av) 5) (fun i=>3 - i.1) (0,B) (by simp) ?_ ?_
  ·(refine Le.mk ?_ ?_; all_goals (repeat' (first|exact trivial|refine sle ?_|refine ⟨?_,rfl,?_⟩|refine ⟨?_,by decide,rfl,?_⟩|fail)))
  ·rintro ⟨k,Bk⟩ hk
   simp only at hk
   dsimp only
   (repeat (refine stq ?_))
   refine AW_if rfl (fun hc=>?_) (fun hc=>?_)
   ·have hk':k < 3:=by omega
    obtain ⟨r,hr⟩:∃ x,optR[k]? = some x:=⟨optR[k]'(by simpa [optR] using hk'),by simp⟩
    obtain ⟨hrk,hro⟩:=opt_room hr
    have k56:=t56 h hh now (by omega) r hro
    have hst:=preW_succ (h:=h) (d:=d) (now:=now) hr
    have hp:=hpre k r hr
    have ihr:=ih r
    rw [<- hrk]
    cases q:suitB h now r with
    | false =>
     rw [q] at k56 hst
     rw [if_neg (by simp),List.append_nil] at hst
     (repeat (refine stq ?_))
     (repeat (first|refine sdq ?_|refine DG_next (D_call rfl rfl rfl rfl rfl (k56)) ?_))
     refine DG_end hM (by kernel_rfl) ?_
     (repeat (refine stq ?_))
     refine ⟨(k + 1,Bk),hk',by simp only; omega,?_⟩
     dsimp only
     rw [hst,show ((k + 1:Nat):Int) - 1 = r + 1 by omega]
     (refine Le.mk ?_ ?_; all_goals (repeat' (first|exact trivial|refine sle ?_|refine ⟨?_,rfl,?_⟩|refine ⟨?_,by decide,rfl,?_⟩|fail)))
    | true =>
     rw [q] at k56 hst
     rw [if_pos rfl] at hst
     (repeat (refine stq ?_))
     (repeat (first|refine DG_next (D_append_p hT rfl rfl rfl rfl rfl rfl rfl rfl rfl rfl rfl rfl rfl (by intro y hy; (first|(simp only [List.mem_cons,List.not_mem_nil,or_false] at hy; subst hy; rfl)|(simp only [List.mem_cons,List.not_mem_nil,or_false] at hy; rcases hy with hy|hy <;> subst hy <;> rfl)|(obtain ⟨_,_,rfl⟩:=List.mem_map.1 hy; rfl)|(cases hy))) (by simp only [List.length_map,List.length_take,List.length_cons,List.length_nil,List.length_append]; omega) rfl) ?_|refine sdq ?_|refine DG_next (D_call rfl rfl rfl rfl rfl (k56)) ?_|refine DG_next (D_call_own rfl rfl rfl rfl rfl (k64)) ?_))
     refine DG_end hM (by kernel_rfl) ?_
     (repeat (refine stq ?_))
     have hap:eInts (now ++ [r]) = .sl (now.map eInt ++ [[vi r]]):=by simp [eInts,eInt]
     have ihy:=fun av=>ihr (m + (preWP h d now k).length) Bk av (hp q)
     rw [pthA,hap] at ihy
     refine AL_doS rfl (op_callXs (objs:=pthO h E (m + (preWP h d now k).length) Bk) (n:=5) [(0,0),(1,1),(2,2)] [0,1,2] [(3,1),(4,2)] ihy rfl rfl rfl rfl (by (repeat' (first|exact trivial|refine And.intro ?_ ?_)); all_goals (first|rfl|decide)) rfl (by (repeat' (first|exact trivial|refine And.intro ?_ ?_)); all_goals (first|rfl|decide)) rfl ⟨⟨rfl,rfl,⟨_,.tail _ (.head _)⟩,rfl⟩,⟨rfl,rfl,⟨_,.tail _ (.tail _ (.head _))⟩,rfl⟩,trivial⟩ (by simp) (fun av' sf hsf=>by obtain ⟨B',hsf⟩:=hsf; subst hsf; exact ⟨.inr ⟨_,_,_,_,_,rfl,rfl⟩,.inl ⟨3,by simp,rfl⟩,.inl ⟨4,by simp,rfl⟩,trivial⟩)) ?_
     rintro s' ⟨av',sf,⟨B',rfl⟩,rfl⟩
     (repeat (refine stq ?_))
     refine ⟨(k + 1,B'),hk',by simp only; omega,?_⟩
     dsimp only
     rw [hst,List.length_append,show ((k + 1:Nat):Int) - 1 = r + 1 by omega,<- Nat.add_assoc]
     (refine Le.mk ?_ ?_; all_goals (repeat' (first|exact trivial|refine sle ?_|refine ⟨?_,rfl,?_⟩|refine ⟨?_,by decide,rfl,?_⟩|fail)))
   ·have hk3:k = 3:=by omega
    subst hk3
    (repeat (refine stq ?_))
    refine ⟨_,mkSt [(0,.pv (.bool true))] (pthO h E (m + (walksP h (d + 1) now).length) Bk ++ pthN av) 5,rfl,?_,Bk,rfl⟩
    (refine Le.mk ?_ ?_; all_goals (repeat' (first|exact trivial|refine sle ?_|refine ⟨?_,rfl,?_⟩|refine ⟨?_,by decide,rfl,?_⟩|fail)))
def walksL (h:SHouse):List (List Int):=walksP h h.sets.length []
set_option maxHeartbeats 4000000 in
theorem it129 (h:SHouse) (hh:HouseP h):IterOK Tryz.prog 129 [.ptr (eHouseC h),.ptr [sfn h]] ((walksL h).map fun x=>[eInts x]):= by
 intro E B hEL hE
 have k130:=t130 h hh E hE h.sets.length [] (by simp)
 have ihy:=fun av=>k130 0 B av (fun i x hi=>by rw [hEL,Nat.zero_add,List.getElem?_map,show (walksL h)[i]? = some x from hi]; rfl)
 refine ACallsX.of_body hT Tryz.func129 rfl (by kernel_rfl) rfl ?_
 (repeat (refine stq ?_))
 refine AL_doS rfl (op_callXs (objs:=pthO h E 0 B) (n:=5) [(0,0),(1,1),(2,2)] [0] [(3,1),(4,2)] ihy rfl rfl rfl rfl (by (repeat' (first|exact trivial|refine And.intro ?_ ?_)); all_goals (first|rfl|decide)) rfl (by (repeat' (first|exact trivial|refine And.intro ?_ ?_)); all_goals (first|rfl|decide)) rfl ⟨⟨rfl,rfl,⟨_,.tail _ (.head _)⟩,rfl⟩,⟨rfl,rfl,⟨_,.tail _ (.tail _ (.head _))⟩,rfl⟩,trivial⟩ (by simp) (fun av' sf hsf=>by obtain ⟨B',hsf⟩:=hsf; subst hsf; exact ⟨.inr ⟨_,_,_,_,_,rfl,rfl⟩,trivial⟩)) ?_
 rintro s' ⟨av',sf,⟨B',rfl⟩,rfl⟩
 (repeat (refine stq ?_))
 refine ⟨_,mkSt [] [(0,.ext E ((walksL h).map fun x=>[eInts x]).length B')] 1,rfl,?_,B',rfl⟩
 rw [List.length_map,show (walksL h).length = 0 + (walksP h h.sets.length []).length by rw [Nat.zero_add]; rfl]
 (refine Le.mk ?_ ?_; all_goals (repeat' (first|exact trivial|refine sle ?_|refine ⟨?_,rfl,?_⟩|refine ⟨?_,by decide,rfl,?_⟩|fail)))
theorem t55 (h:SHouse):ACalls Tryz.prog 55 [eHouse h,sfn h] (fun r=>r = .pv (.fn 129 [.ptr (eHouseC h),.ptr [sfn h]])):= by
 refine ACalls.of_body hT Tryz.func55 rfl (by kernel_rfl) rfl ?_
 (repeat (refine stq ?_))
 exact ⟨_,_,rfl,rfl,rfl⟩
end Go.Abs
