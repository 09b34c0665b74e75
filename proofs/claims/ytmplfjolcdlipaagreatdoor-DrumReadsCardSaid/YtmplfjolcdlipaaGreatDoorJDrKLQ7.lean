/- The reference's cut of a text at a byte. -/
import Derived.Test.YtmplfjolcdlipaaGreatDoorJKGQ7
import Derived.Test.YtmplfjolcdlipaaGreatDoorJXQ7
set_option linter.unusedVariables false
set_option linter.unusedSimpArgs false
namespace Go.Abs
open Go.Proofs Go.RowKit
set_option linter.unusedVariables false
set_option linter.unusedSimpArgs false
set_option maxRecDepth 100000
theorem ext_mid (l : List UInt8) (a b : Nat) : (bytesOf l).extract a b = bytesOf ((l.drop a).take (b - a)) := bytes_ext (by rw [Lib.extract_data]; rfl)
set_option maxHeartbeats 4000000 in
theorem f113 (l : List UInt8) (c : UInt8) (hl : l.length <= 1000) : ACalls Tryz.prog 113 [.str (bytesOf l),.int .u8 c.toNat] (fun r => r = .own 9 1 ((splitS c l).map eStrL)):= by
 have hsz := bytesOf_size l
 refine ACalls.of_body hT Tryz.func113 rfl (by kernel_rfl) rfl ?_
 (repeat (refine stq ?_))
 refine AW_own_nil (e := 9) (sz := 1) (t := 5) rfl rfl ?_
 (repeat (refine stq ?_))
 refine AW_loopC (fun i : Nat × Nat × List (List UInt8) => i.1 <= i.2.1 /\ i.2.1 <= l.length /\ i.2.2.length <= i.1 /\ splitS c l = i.2.2 ++ splitS c (l.drop i.1) /\ c ∉ (l.drop i.1).take (i.2.1 - i.1))
  (fun i => mkSt [(0,.pv (.str (bytesOf l))),(1,.pv (.int .u8 c.toNat)),(5,.arr 0),(6,.pv (vi i.1)),(7,.pv (vi i.2.1))] [(0,.arr 9 1 (i.2.2.map eStrL))] 1) (fun i => l.length - i.2.1) (0,0,[]) ⟨Nat.le_refl _,Nat.zero_le _,Nat.le_refl _,rfl,by simp⟩ ?_ ?_
 ·(refine Le.mkR [(0,0)] ?_ ?_ rfl; all_goals (repeat' (first | exact trivial | refine sle ?_ | refine ⟨?_,rfl,?_⟩ | refine ⟨?_,by decide,rfl,?_⟩ | fail)))
 ·rintro ⟨fr,i,out⟩ ⟨h1,h2,h3,h4,h5⟩
  dsimp only at h1 h2 h3 h4 h5 ⊢
  have hol : out.length <= 1000 := by omega
  (repeat' (first | refine stq ?_ | (refine AL_do2 rfl ?_; first | refine ⟨_,op_len_str hT rfl rfl rfl rfl rfl,?_⟩) | (with_reducible refine AL_id ?_); (fail_if_success (refine AL_glit rfl rfl rfl (by first | exact .inl (by with_reducible rfl) | exact .inr (by with_reducible rfl)) ?_)); first | refine AL_gdec rfl rfl rfl (fun hg => ?_) (fun hg => ?_) | refine AL_gnot rfl rfl rfl (fun hg => ?_) (fun hg => ?_) | refine AL_gcases rfl rfl rfl (fun hg => ?_) (fun hg => ?_)))
  refine AW_if rfl (fun hc => ?_) (fun hc => ?_)
  ·have hi' : i < l.length := by omega
   obtain ⟨b,hb⟩ : ∃ b,l[i]? = some b := ⟨l[i],by simp [hi']⟩
   have hb' : (bytesOf l)[((i : Nat) : Int).toNat]? = some b:= by
    rw [Int.toNat_natCast,getElem?_pos (bytesOf l) i (by rw [hsz]; exact hi')]
    have := (List.getElem?_eq_some_iff.1 hb).2
    exact congrArg some ((rfl : (bytesOf l)[i]'(by rw [hsz]; exact hi') = l[i]'hi').trans this)
   have hdi : l.drop fr = (l.drop fr).take (i - fr) ++ b :: l.drop (i + 1):= by
    have e := List.take_append_drop (i - fr) (l.drop fr)
    rw [List.drop_drop,show fr + (i - fr) = i by omega,List.drop_eq_getElem_cons hi',(List.getElem?_eq_some_iff.1 hb).2] at e
    exact e.symm
   have htk : (l.drop fr).take (i + 1 - fr) = (l.drop fr).take (i - fr) ++ [b]:= by
    rw [show i + 1 - fr = (i - fr) + 1 by omega,List.take_add_one,List.getElem?_drop,show fr + (i - fr) = i by omega,hb]; rfl
   (repeat (refine stq ?_))
   refine AL_do2 rfl ⟨_,op_index_str hT rfl rfl rfl rfl rfl rfl (by omega) hb',?_⟩
   (repeat (refine stq ?_))
   refine AW_if rfl (fun hc2 => ?_) (fun hc2 => ?_)
   ·have hbc : b = c:= by
     apply UInt8.toNat_inj.1
     omega
    subst hbc
    (repeat (refine stq ?_))
    refine AL_do2 rfl ⟨_,op_slice_str (lo := fr) (hi := i) hT rfl rfl rfl rfl rfl (.inr ⟨_,.i64,rfl,rfl⟩) (.inr ⟨_,.i64,rfl,rfl⟩) h1 (by omega),?_⟩
    rw [ext_mid]
    (repeat (refine stq ?_))
    refine ⟨(i + 1,i + 1,out ++ [(l.drop fr).take (i - fr)]),⟨Nat.le_refl _,hi',by simp; omega,?_,by simp⟩,by dsimp only; omega,?_⟩
    ·have e := splitS_app (l.drop (i + 1)) h5
     rw [<- hdi] at e
     dsimp only
     rw [h4,e,List.append_assoc]
     rfl
    ·(refine Le.mkR [(0,2)] ?_ ?_ rfl; all_goals (repeat' (first | exact trivial | refine sle ?_ | refine ⟨?_,rfl,?_⟩ | refine ⟨?_,by decide,rfl,?_⟩ | fail)))
     show some (AObj.arr 9 1 (out.map eStrL ++ [eStrL ((l.drop fr).take (i - fr))])) = some (AObj.arr 9 1 ((out ++ [(l.drop fr).take (i - fr)]).map eStrL))
     rw [List.map_append]; rfl
   ·have hbc : c ≠ b := fun e => hc2 (by rw [e])
    (repeat (refine stq ?_))
    refine ⟨(fr,i + 1,out),⟨by dsimp only; omega,hi',h3,h4,?_⟩,by dsimp only; omega,?_⟩
    ·dsimp only
     rw [htk,List.mem_append,not_or]
     exact ⟨h5,by simpa using hbc⟩
    ·(refine Le.mk ?_ ?_; all_goals (repeat' (first | exact trivial | refine sle ?_ | refine ⟨?_,rfl,?_⟩ | refine ⟨?_,by decide,rfl,?_⟩ | fail)))
  ·have hi' : i = l.length := by omega
   subst hi'
   have hno : c ∉ l.drop fr := by rwa [List.take_of_length_le (by simp)] at h5
   (repeat (refine stq ?_))
   refine AL_do2 rfl ⟨_,op_slice_str (lo := fr) (hi := (bytesOf l).size) hT rfl rfl rfl rfl rfl (.inr ⟨_,.i64,rfl,rfl⟩) (.inl ⟨rfl,rfl⟩) (by omega) (Nat.le_refl _),?_⟩
   rw [ext_drop]
   (repeat (refine stq ?_))
   refine ⟨_,_,rfl,rfl,?_⟩
   rw [h4,splitS_one hno]
   show RV.own 9 1 (out.map eStrL ++ [eStrL (l.drop fr)]) = RV.own 9 1 ((out ++ [l.drop fr]).map eStrL)
   rw [List.map_append]; rfl
end Go.Abs
