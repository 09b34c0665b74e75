/- The reference's numbers of many words. -/
import Derived.Test.YtmplfjolcdlipaaGreatDoorJDrKMQ7
import Derived.Test.YtmplfjolcdlipaaGreatDoorJXQ7
set_option linter.unusedVariables false
set_option linter.unusedSimpArgs false
namespace Go.Abs
open Go.Proofs Go.RowKit
set_option linter.unusedVariables false
set_option linter.unusedSimpArgs false
set_option maxRecDepth 100000
def numsR (ws : List (List UInt8)) : Option (List Int) := if ws.all numG = true then some (ws.map numV) else none
theorem numV_nn {l : List UInt8} (h : numG l = true) : 0 <= numV l /\ numV l <= 9999:= by
 have w := numG_w h
 have := numV_bd w.dig w.l4
 omega
theorem numsR_ok {ws : List (List UInt8)} {r : List Int} (h : numsR ws = some r) : r.length = ws.length /\ ∀ x ∈ r,0 <= x /\ x <= 9999:= by
 unfold numsR at h
 split at h
 ·rename_i hg
  simp only [Option.some.injEq] at h
  subst h
  refine ⟨by simp,fun x hx => ?_⟩
  obtain ⟨w,hw,rfl⟩ := List.mem_map.1 hx
  exact numV_nn (List.all_eq_true.1 hg w hw)
 ·cases h
def ansN : Option (List Int) -> List PV
 | some r => [eInts r,.bool true]
 | none => [eInts [],.bool false]
set_option maxHeartbeats 4000000 in
theorem f114 (ws : List (List UInt8)) (hl : ∀ x ∈ ws,x.length <= 1000) (hw : ws.length <= 1000) : ACalls Tryz.prog 114 [.sl (ws.map eStrL)] (fun r => r = .tup (ansN (numsR ws))):= by
 refine ACalls.of_body hT Tryz.func114 rfl (by kernel_rfl) rfl ?_
 (repeat (refine stq ?_))
 refine AW_own_nil (e := 3) (sz := 1) (t := 4) rfl rfl ?_
 (repeat (refine stq ?_))
 refine AW_loopC (fun k : Nat => k <= ws.length /\ ∀ x ∈ ws.take k,numG x = true) (fun k => mkSt [(0,.pv (.sl (ws.map eStrL))),(4,.arr 0),(5,.pv (vi k))] [(0,.arr 3 1 ((ws.take k).map fun w => eInt (numV w)))] 1) (fun k => ws.length - k) 0 ⟨Nat.zero_le _,by simp⟩ ?_ ?_
 ·(refine Le.mk ?_ ?_; all_goals (repeat' (first | exact trivial | refine sle ?_ | refine ⟨?_,rfl,?_⟩ | refine ⟨?_,by decide,rfl,?_⟩ | fail)))
 ·rintro k ⟨hk,hg⟩
  (repeat (refine stq ?_))
  refine AW_if rfl (fun hc => ?_) (fun hc => ?_)
  ·have hk' : k < ws.length := by omega
   obtain ⟨x,hx⟩ : ∃ x,ws[k]? = some x := ⟨ws[k],by simp [hk']⟩
   have e1 : (ws.map eStrL)[((k : Nat) : Int).toNat]? = some (eStrL x) := get_map eStrL hx
   have hm := List.mem_of_getElem? hx
   have k164 := f164 x (hl x hm)
   have htl : (ws.take k).length <= 1000 := by simp; omega
   have hs : ws.take (k + 1) = ws.take k ++ [x] := by rw [List.take_add_one,hx]; rfl
   cases hb : numG x with
   | true =>
    rw [numR,if_pos hb] at k164
    have hv := numV_nn hb
    (repeat' (first | refine stq ?_ | (refine AL_do2 rfl ?_; first | refine ⟨_,op_call1 rfl rfl rfl rfl (k164),nrmA rfl ?_⟩) | (with_reducible refine AL_id ?_); (fail_if_success (refine AL_glit rfl rfl rfl (by first | exact .inl (by with_reducible rfl) | exact .inr (by with_reducible rfl)) ?_)); first | refine AL_gdec rfl rfl rfl (fun hg => ?_) (fun hg => ?_) | refine AL_gnot rfl rfl rfl (fun hg => ?_) (fun hg => ?_) | refine AL_gcases rfl rfl rfl (fun hg => ?_) (fun hg => ?_)))
    refine AW_if rfl (fun hc2 => absurd hc2 (by omega)) (fun _ => ?_)
    (repeat (refine stq ?_))
    refine ⟨k + 1,⟨hk',fun y hy => ?_⟩,by omega,?_⟩
    ·rw [hs] at hy
     rcases List.mem_append.1 hy with hy | hy
     ·exact hg y hy
     ·simp only [List.mem_singleton] at hy; subst hy; exact hb
    (refine Le.mkR [(0,2)] ?_ ?_ rfl; all_goals (repeat' (first | exact trivial | refine sle ?_ | refine ⟨?_,rfl,?_⟩ | refine ⟨?_,by decide,rfl,?_⟩ | fail)))
    show some (AObj.arr 3 1 (((ws.take k).map fun w => eInt (numV w)) ++ [eInt (numV x)])) = some (AObj.arr 3 1 ((ws.take (k + 1)).map fun w => eInt (numV w)))
    rw [hs,List.map_append]; rfl
   | false =>
    rw [numR,if_neg (by rw [hb]; decide)] at k164
    have hn : numsR ws = none:= by
     unfold numsR
     rw [if_neg]
     intro h
     rw [List.all_eq_true.1 h x hm] at hb
     cases hb
    rw [hn]
    (repeat' (first | refine stq ?_ | (refine AL_do2 rfl ?_; first | refine ⟨_,op_call1 rfl rfl rfl rfl (k164),nrmA rfl ?_⟩) | (with_reducible refine AL_id ?_); (fail_if_success (refine AL_glit rfl rfl rfl (by first | exact .inl (by with_reducible rfl) | exact .inr (by with_reducible rfl)) ?_)); first | refine AL_gdec rfl rfl rfl (fun hg => ?_) (fun hg => ?_) | refine AL_gnot rfl rfl rfl (fun hg => ?_) (fun hg => ?_) | refine AL_gcases rfl rfl rfl (fun hg => ?_) (fun hg => ?_)))
    exact ⟨_,_,rfl,rfl,rfl⟩
  ·have hk2 : k = ws.length := by omega
   subst hk2
   rw [List.take_length] at hg ⊢
   have hn : numsR ws = some (ws.map numV):= by
    unfold numsR
    rw [if_pos (List.all_eq_true.2 hg)]
   rw [hn]
   refine AW_pure (t := 4) rfl rfl ?_
   (repeat (refine stq ?_))
   refine ⟨_,_,rfl,rfl,?_⟩
   show RV.tup [.sl (ws.map fun w => eInt (numV w)),.bool true] = RV.tup [.sl ((ws.map numV).map eInt),.bool true]
   rw [List.map_map]; rfl
end Go.Abs
