/- Lists that are equal, as the reference tells it. -/
import Derived.Test.YtmplfjolcdlipaaGreatDoorJDrS
import Derived.Test.YtmplfjolcdlipaaGreatDoorJDrG
import Derived.Test.YtmplfjolcdlipaaGreatDoorJDrU
import Derived.Test.YtmplfjolcdlipaaGreatDoorJDrN
import Derived.Test.YtmplfjolcdlipaaGreatDoorJDrH
import Derived.Test.YtmplfjolcdlipaaGreatDoorJDrI
set_option linter.unusedVariables false
set_option linter.unusedSimpArgs false
namespace Go.Abs
open Go.Proofs
set_option linter.unusedVariables false
set_option linter.unusedSimpArgs false
set_option maxRecDepth 100000
theorem drop_iff {α : Type} {a b : List α} {k : Nat} {x y : α} (hx : a[k]? = some x) (hy : b[k]? = some y) : (a.drop k = b.drop k) ↔ (x = y /\ a.drop (k + 1) = b.drop (k + 1)):= by
 have hk := (List.getElem?_eq_some_iff.1 hx).1
 have hk2 := (List.getElem?_eq_some_iff.1 hy).1
 rw [List.drop_eq_getElem_cons hk,List.drop_eq_getElem_cons hk2,(List.getElem?_eq_some_iff.1 hx).2,(List.getElem?_eq_some_iff.1 hy).2,List.cons.injEq]
theorem f52 (a b : List Int) (ha : a.length <= 1000) : ACalls Tryz.prog 52 [eInts a,eInts b] (fun r => r = .pv (.bool (decide (a = b)))):= by
 refine ACalls.of_body hT Tryz.func52 rfl (by kernel_rfl) rfl ?_
 (repeat (refine stq ?_))
 refine AW_if rfl (fun hc => ?_) (fun hc => ?_)
 ·(repeat (refine stq ?_))
  exact ⟨_,_,rfl,rfl,by
   have : a ≠ b := by rintro rfl; simp at hc
   simp [this]⟩
 ·have hlen : a.length = b.length := by omega
  (repeat (refine stq ?_))
  refine AW_loopC (fun k : Nat => k <= a.length /\ (a = b ↔ a.drop k = b.drop k)) (fun k => mkSt [(0,.pv (eInts a)),(1,.pv (eInts b)),(5,.pv (vi k))] [] 0) (fun k => a.length - k) 0 ⟨Nat.zero_le _,by simp⟩ ?_ ?_
  ·(refine Le.mk ?_ ?_; all_goals (repeat' (first | exact trivial | refine sle ?_ | refine ⟨?_,rfl,?_⟩ | refine ⟨?_,by decide,rfl,?_⟩ | fail)))
  ·rintro k ⟨hk,hi⟩
   (repeat (refine stq ?_))
   refine AW_if rfl (fun hc => ?_) (fun hc => ?_)
   ·have hk' : k < a.length := by omega
    obtain ⟨x,hx⟩ : ∃ x,a[k]? = some x := ⟨a[k],by simp [hk']⟩
    obtain ⟨y,hy⟩ : ∃ y,b[k]? = some y := ⟨b[k]'(by omega),by simp⟩
    have e1 := get_map eInt hx
    have e2 := get_map eInt hy
    rw [drop_iff hx hy] at hi
    (repeat (refine stq ?_))
    iterate 8 (refine sdq ?_)
    refine sdq ?_
    refine DG_end hM (by kernel_rfl) ?_
    (repeat (refine stq ?_))
    refine AW_cond rfl (fun hc2 => ?_) (fun hc2 => ?_)
    ·(repeat (refine stq ?_))
     exact ⟨_,_,rfl,rfl,by
      have : a ≠ b := fun h => by
       have h1 := (hi.1 h).1
       subst h1
       simp at hc2
      simp [this]⟩
    ·(repeat (refine stq ?_))
     have hxy : x = y:= by
      simp_all
     refine ⟨k + 1,⟨by omega,by rw [hi]; simp [hxy]⟩,by omega,?_⟩
     (refine Le.mk ?_ ?_; all_goals (repeat' (first | exact trivial | refine sle ?_ | refine ⟨?_,rfl,?_⟩ | refine ⟨?_,by decide,rfl,?_⟩ | fail)))
   ·have hk' : k = a.length := by omega
    subst hk'
    (repeat (refine stq ?_))
    exact ⟨_,_,rfl,rfl,by
     have : a = b := hi.2 (by rw [List.drop_length,List.drop_eq_nil_of_le (by omega)])
     simp [this]⟩
theorem f28 (a b : List Span) (ha : a.length <= 1000) : ACalls Tryz.prog 28 [eSpans a,eSpans b] (fun r => r = .pv (.bool (decide (a = b)))):= by
 refine ACalls.of_body hT Tryz.func28 rfl (by kernel_rfl) rfl ?_
 (repeat (refine stq ?_))
 refine AW_if rfl (fun hc => ?_) (fun hc => ?_)
 ·(repeat (refine stq ?_))
  exact ⟨_,_,rfl,rfl,by
   have : a ≠ b := by rintro rfl; simp at hc
   simp [this]⟩
 ·have hlen : a.length = b.length := by omega
  (repeat (refine stq ?_))
  refine AW_loopC (fun k : Nat => k <= a.length /\ (a = b ↔ a.drop k = b.drop k)) (fun k => mkSt [(0,.pv (eSpans a)),(1,.pv (eSpans b)),(5,.pv (vi k))] [] 0) (fun k => a.length - k) 0 ⟨Nat.zero_le _,by simp⟩ ?_ ?_
  ·(refine Le.mk ?_ ?_; all_goals (repeat' (first | exact trivial | refine sle ?_ | refine ⟨?_,rfl,?_⟩ | refine ⟨?_,by decide,rfl,?_⟩ | fail)))
  ·rintro k ⟨hk,hi⟩
   (repeat (refine stq ?_))
   refine AW_if rfl (fun hc => ?_) (fun hc => ?_)
   ·have hk' : k < a.length := by omega
    obtain ⟨x,hx⟩ : ∃ x,a[k]? = some x := ⟨a[k],by simp [hk']⟩
    obtain ⟨y,hy⟩ : ∃ y,b[k]? = some y := ⟨b[k]'(by omega),by simp⟩
    have e1 := get_map eSpan hx
    have e2 := get_map eSpan hy
    rw [drop_iff hx hy] at hi
    (repeat (refine stq ?_))
    iterate 8 (refine sdq ?_)
    refine DG_next (D_neqS (ms := [x.low,x.high]) (ns := [y.low,y.high]) aggEq67 rfl rfl rfl rfl rfl rfl rfl) ?_
    refine DG_end hM (by kernel_rfl) ?_
    (repeat (refine stq ?_))
    refine AW_cond rfl (fun hc2 => ?_) (fun hc2 => ?_)
    ·(repeat (refine stq ?_))
     exact ⟨_,_,rfl,rfl,by
      have : a ≠ b := fun h => by
       have h1 := (hi.1 h).1
       subst h1
       simp at hc2
      simp [this]⟩
    ·(repeat (refine stq ?_))
     have hxy : x = y:= by
      cases x; cases y; simp_all
     refine ⟨k + 1,⟨by omega,by rw [hi]; simp [hxy]⟩,by omega,?_⟩
     (refine Le.mk ?_ ?_; all_goals (repeat' (first | exact trivial | refine sle ?_ | refine ⟨?_,rfl,?_⟩ | refine ⟨?_,by decide,rfl,?_⟩ | fail)))
   ·have hk' : k = a.length := by omega
    subst hk'
    (repeat (refine stq ?_))
    exact ⟨_,_,rfl,rfl,by
     have : a = b := hi.2 (by rw [List.drop_length,List.drop_eq_nil_of_le (by omega)])
     simp [this]⟩
end Go.Abs
namespace Go.Abs
open Go.Proofs
set_option linter.unusedVariables false
set_option linter.unusedSimpArgs false
set_option maxRecDepth 100000
def cD : Drum := ⟨[⟨⟨40,50⟩,⟨5,5⟩⟩,⟨⟨60,80⟩,⟨10,20⟩⟩],3,4,[0,0,0,0],[⟨1,40,5⟩],[⟨100,30,200,150,100,40⟩,⟨60,30,100,70,50,20⟩,⟨20,20,50,30,10,40⟩]⟩
def cF : Drum := { cD with batches := [⟨200,60,300,100,100,50⟩] }
theorem cD_ok : drumOK cD := ⟨by decide,by decide,by decide,by decide⟩
theorem cF_ok : drumOK cF := ⟨by decide,by decide,by decide,by decide⟩
theorem f83 (a b : Int) : ACalls Tryz.prog 83 [vi a,vi b] (fun r => r = .pv (eS ⟨a,b⟩)):= by
 refine ACalls.of_body hT Tryz.func83 rfl (by kernel_rfl) rfl ?_
 (repeat (refine stq ?_))
 exact ⟨_,_,rfl,rfl,rfl⟩
theorem f81 : ACalls Tryz.prog 81 [] (fun r => r = .pv (eDrum cD)):= by
 refine ACalls.of_body hT Tryz.func81 rfl (by kernel_rfl) rfl ?_
 (repeat' (first | (refine AL_do2 rfl ⟨_,op_buildSlice_p hT rfl rfl rfl rfl rfl rfl rfl rfl rfl,?_⟩) | refine stq ?_ | (refine AL_do2 rfl ?_; first | refine ⟨_,op_call1 rfl rfl rfl rfl (f83 40 50),nrmA rfl ?_⟩ | refine ⟨_,op_call1 rfl rfl rfl rfl (f83 5 5),nrmA rfl ?_⟩ | refine ⟨_,op_call1 rfl rfl rfl rfl (f83 60 80),nrmA rfl ?_⟩ | refine ⟨_,op_call1 rfl rfl rfl rfl (f83 10 20),nrmA rfl ?_⟩) | (with_reducible refine AL_id ?_); (fail_if_success (refine AL_glit rfl rfl rfl (by first | exact .inl (by with_reducible rfl) | exact .inr (by with_reducible rfl)) ?_)); first | refine AL_gdec rfl rfl rfl (fun hg => ?_) (fun hg => ?_) | refine AL_gnot rfl rfl rfl (fun hg => ?_) (fun hg => ?_) | refine AL_gcases rfl rfl rfl (fun hg => ?_) (fun hg => ?_)))
 exact ⟨_,_,rfl,rfl,rfl⟩
theorem f82 : ACalls Tryz.prog 82 [] (fun r => r = .pv (eDrum cF)):= by
 refine ACalls.of_body hT Tryz.func82 rfl (by kernel_rfl) rfl ?_
 (repeat' (first | (refine AL_do2 rfl ⟨_,op_buildSlice_p hT rfl rfl rfl rfl rfl rfl rfl rfl rfl,?_⟩) | refine stq ?_ | (refine AL_do2 rfl ?_; first | refine ⟨_,op_call1 rfl rfl rfl rfl (f81),nrmA rfl ?_⟩) | (with_reducible refine AL_id ?_); (fail_if_success (refine AL_glit rfl rfl rfl (by first | exact .inl (by with_reducible rfl) | exact .inr (by with_reducible rfl)) ?_)); first | refine AL_gdec rfl rfl rfl (fun hg => ?_) (fun hg => ?_) | refine AL_gnot rfl rfl rfl (fun hg => ?_) (fun hg => ?_) | refine AL_gcases rfl rfl rfl (fun hg => ?_) (fun hg => ?_)))
 exact ⟨_,_,rfl,rfl,rfl⟩
theorem c65 : ACalls Tryz.prog 65 [eDrum cD] (fun r => r = .tup [eInts [0,1],vi 0]):= by
 have h := f65 cD cD_ok
 have e : (numsA (askedE cD true).1,(askedE cD true).2) = ([0,1],0) := by decide +kernel
 rw [Prod.mk.injEq] at e
 rw [e.1,e.2] at h; exact h
theorem c25 : ACalls Tryz.prog 25 [eDrum cD] (fun r => r = .tup [eSpans [⟨40,65⟩,⟨35,45⟩,⟨20,40⟩,⟨0,35⟩],vi 0]):= by
 have h := f25 cD cD_ok
 have e : strengthE cD = ([⟨40,65⟩,⟨35,45⟩,⟨20,40⟩,⟨0,35⟩],0) := by decide +kernel
 rw [e] at h; exact h
theorem c26 : ACalls Tryz.prog 26 [eDrum cD,vi 4] (fun r => r = .tup [vi 0,vi 0]):= by
 have h := f26 cD 4 cD_ok
 have e : tellsE cD 4 = (0,0) := by decide +kernel
 rw [e] at h; exact h
def cB : List Bounds := (knownE cD 2).1
theorem c71 : ACalls Tryz.prog 71 [eDrum cD,vi 2] (fun r => r = .tup [eBoundsL cB,vi 0]):= by
 have h := f71 cD 2 cD_ok
 have e : (knownE cD 2).2 = 0 := by decide +kernel
 rw [e] at h; exact h
theorem cB0 : cB[0]? = some ⟨⟨0,25⟩,⟨156,170⟩⟩:= by
 have : cB.map (fun b => [b.rough.low,b.rough.high,b.thick.low,b.thick.high]) = cB.map (fun b => [b.rough.low,b.rough.high,b.thick.low,b.thick.high]) := rfl
 decide +kernel
theorem cB3 : cB.length = 3 := by decide +kernel
theorem c31 : ACalls Tryz.prog 31 [eDrum cD,vi 1] (fun r => r = .tup [vi 2,vi 0]):= by
 have h := f31 cD 1 cD_ok
 have e : hourE cD 1 (smoothI cD) = (2,0) := by decide +kernel
 rw [e] at h; exact h
theorem c32 : ACalls Tryz.prog 32 [eDrum cD,vi 1] (fun r => r = .tup [vi 3,vi 0]):= by
 have h := f32 cD 1 cD_ok
 have e : hourE cD 1 (thinI cD) = (3,0) := by decide +kernel
 rw [e] at h; exact h
theorem c56 : ACalls Tryz.prog 56 [eDrum cD] (fun r => r = .tup [eInts [2],vi 0]):= by
 have h := f56 cD cD_ok
 have e : namedE cD = ([2],0) := by decide +kernel
 rw [e] at h; exact h
theorem c45 : ACalls Tryz.prog 45 [eDrum cD] (fun r => r = .tup [eInts [0,0,1],vi 2,vi 0]):= by
 have h := f45 cD cD_ok
 have e : sortRE cD = ([0,0,1],2,0) := by decide +kernel
 rw [e] at h; exact h
theorem c46 : ACalls Tryz.prog 46 [eDrum cD] (fun r => r = .tup [eInts [0,2],vi 0]):= by
 have h := f46 cD cD_ok
 have e : apartE cD = ([0,2],0) := by decide +kernel
 rw [e] at h; exact h
theorem c35 : ACalls Tryz.prog 35 [eDrum cF,vi 2,vi 4] (fun r => r = .tup [vi 10,vi 0]):= by
 have h := f35 cF 2 4 cF_ok
 have e : topE cF 2 4 = (10,0) := by decide +kernel
 rw [e] at h; exact h
theorem c41 : ACalls Tryz.prog 41 [eDrum cDr] (fun r => r = .pv (.str (bytesOf txL))):= by
 have h := f41 cDr (by decide) (by decide) (by decide) (by decide) (fun x hx => by
  simp only [numsD,cDr,acN,faN,baN,List.flatMap_cons,List.flatMap_nil,List.append_nil,List.nil_append,List.cons_append,List.mem_cons,List.not_mem_nil,or_false] at hx
  omega)
 rw [text_c] at h; exact h
end Go.Abs
namespace Go.Abs
open Go.Proofs
set_option linter.unusedVariables false
set_option linter.unusedSimpArgs false
set_option maxRecDepth 100000
theorem same_of {n : Nat} {a b : PV} {p : Prop} [Decidable p] (h : ACalls Tryz.prog n [a,b] (fun r => r = .pv (.bool (decide p)))) (hp : p) : ACalls Tryz.prog n [a,b] (fun r => r = .pv (.bool true)):= by
 rw [decide_eq_true hp] at h; exact h
set_option maxHeartbeats 4000000 in
theorem f24 : ACalls Tryz.prog 24 [] (fun r => r = .pv (.bool true)):= by
 have s1 := same_of (f52 [0,1] [0,1] (by decide)) rfl
 have s2 := same_of (f28 [⟨40,65⟩,⟨35,45⟩,⟨20,40⟩,⟨0,35⟩] [⟨40,65⟩,⟨35,45⟩,⟨20,40⟩,⟨0,35⟩] (by decide)) rfl
 have s3 := same_of (f52 [2] [2] (by decide)) rfl
 have s4 := same_of (f52 [0,0,1] [0,0,1] (by decide)) rfl
 have s5 := same_of (f52 [0,2] [0,2] (by decide)) rfl
 have e0 : (cB.map eBounds)[(0 : Int).toNat]? = some (eBounds ⟨⟨0,25⟩,⟨156,170⟩⟩) := get_map eBounds cB0
 have hb3 := cB3
 refine ACalls.of_body hT Tryz.func24 rfl (by kernel_rfl) rfl ?_
 (repeat' (first | (refine AL_do2 rfl ⟨_,op_buildSlice_p hT rfl rfl rfl rfl rfl rfl rfl rfl rfl,?_⟩) | refine stq ?_ | (refine AL_do2 rfl ?_; first | refine ⟨_,op_call1 rfl rfl rfl rfl (f81),nrmA rfl ?_⟩ | refine ⟨_,op_call1 rfl rfl rfl rfl (f82),nrmA rfl ?_⟩ | refine ⟨_,op_call1 rfl rfl rfl rfl (c65),nrmA rfl ?_⟩ | refine ⟨_,op_call1 rfl rfl rfl rfl (c25),nrmA rfl ?_⟩ | refine ⟨_,op_call1 rfl rfl rfl rfl (c26),nrmA rfl ?_⟩ | refine ⟨_,op_call1 rfl rfl rfl rfl (c71),nrmA rfl ?_⟩ | refine ⟨_,op_call1 rfl rfl rfl rfl (c31),nrmA rfl ?_⟩ | refine ⟨_,op_call1 rfl rfl rfl rfl (c32),nrmA rfl ?_⟩ | refine ⟨_,op_call1 rfl rfl rfl rfl (c56),nrmA rfl ?_⟩ | refine ⟨_,op_call1 rfl rfl rfl rfl (c45),nrmA rfl ?_⟩ | refine ⟨_,op_call1 rfl rfl rfl rfl (c46),nrmA rfl ?_⟩ | refine ⟨_,op_call1 rfl rfl rfl rfl (c35),nrmA rfl ?_⟩ | refine ⟨_,op_call1 rfl rfl rfl rfl (f40c),nrmA rfl ?_⟩) | (with_reducible refine AL_id ?_); (fail_if_success (refine AL_glit rfl rfl rfl (by first | exact .inl (by with_reducible rfl) | exact .inr (by with_reducible rfl)) ?_)); first | refine AL_gdec rfl rfl rfl (fun hg => ?_) (fun hg => ?_) | refine AL_gnot rfl rfl rfl (fun hg => ?_) (fun hg => ?_) | refine AL_gcases rfl rfl rfl (fun hg => ?_) (fun hg => ?_)))
 (repeat (first | refine DG_next (D_neqS (ms := [0,25,156,170]) (ns := [0,25,156,170]) aggEq103 rfl rfl rfl rfl rfl rfl rfl) ?_ | refine sdq ?_ | refine DG_next (D_call rfl rfl rfl rfl rfl (s1)) ?_ | refine DG_next (D_call rfl rfl rfl rfl rfl (f83 40 65)) ?_ | refine DG_next (D_call rfl rfl rfl rfl rfl (f83 35 45)) ?_ | refine DG_next (D_call rfl rfl rfl rfl rfl (f83 20 40)) ?_ | refine DG_next (D_call rfl rfl rfl rfl rfl (f83 0 35)) ?_ | refine DG_next (D_call rfl rfl rfl rfl rfl (s2)) ?_ | refine DG_next (D_call rfl rfl rfl rfl rfl (f83 0 25)) ?_ | refine DG_next (D_call rfl rfl rfl rfl rfl (f83 156 170)) ?_))
 refine DG_end hM (by kernel_rfl) ?_
 (repeat' (first | (refine AL_do2 rfl ⟨_,op_buildSlice_p hT rfl rfl rfl rfl rfl rfl rfl rfl rfl,?_⟩) | refine stq ?_ | (refine AL_do2 rfl ?_; first | refine ⟨_,op_call1 rfl rfl rfl rfl (s3),nrmA rfl ?_⟩ | refine ⟨_,op_call1 rfl rfl rfl rfl (s4),nrmA rfl ?_⟩ | refine ⟨_,op_call1 rfl rfl rfl rfl (s5),nrmA rfl ?_⟩ | refine ⟨_,op_call1 rfl rfl rfl rfl (c41),nrmA rfl ?_⟩) | (with_reducible refine AL_id ?_); (fail_if_success (refine AL_glit rfl rfl rfl (by first | exact .inl (by with_reducible rfl) | exact .inr (by with_reducible rfl)) ?_)); first | refine AL_gdec rfl rfl rfl (fun hg => ?_) (fun hg => ?_) | refine AL_gnot rfl rfl rfl (fun hg => ?_) (fun hg => ?_) | refine AL_gcases rfl rfl rfl (fun hg => ?_) (fun hg => ?_)))
 refine AL_do2 rfl ⟨_,op_streqB (b := true) rfl rfl rfl rfl rfl,?_⟩
 (repeat' (first | (refine AL_do2 rfl ⟨_,op_buildSlice_p hT rfl rfl rfl rfl rfl rfl rfl rfl rfl,?_⟩) | refine stq ?_ | (refine AL_do2 rfl ?_; first | refine ⟨_,op_call1 rfl rfl rfl rfl (s3),nrmA rfl ?_⟩) | (with_reducible refine AL_id ?_); (fail_if_success (refine AL_glit rfl rfl rfl (by first | exact .inl (by with_reducible rfl) | exact .inr (by with_reducible rfl)) ?_)); first | refine AL_gdec rfl rfl rfl (fun hg => ?_) (fun hg => ?_) | refine AL_gnot rfl rfl rfl (fun hg => ?_) (fun hg => ?_) | refine AL_gcases rfl rfl rfl (fun hg => ?_) (fun hg => ?_)))
 all_goals first | exact ⟨_,_,rfl,rfl,rfl⟩ | (exfalso; revert hg; decide) | (exfalso; simp_all; done)
end Go.Abs
