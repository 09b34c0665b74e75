/- The examples of the document; equality of lists. -/
import Derived.Test.YtkmclnjmabljdaaGreatDoorKNdJ
import Derived.Test.YtkmclnjmabljdaaGreatDoorKNcG
import Derived.Test.YtkmclnjmabljdaaGreatDoorKNeO
set_option linter.unusedVariables false
set_option linter.unusedSimpArgs false
namespace Go.Abs
open Go.Proofs
set_option linter.unusedVariables false
set_option linter.unusedSimpArgs false
set_option maxRecDepth 100000
theorem f61 (a b : Int) : ACalls Tryz.prog 61 [vi a,vi b] (fun r => r = .pv (eS ⟨a,b⟩)):= by
 refine ACalls.of_body hT Tryz.func61 rfl (by kernel_rfl) rfl ?_
 (repeat (refine stp ?_))
 exact ⟨_,_,rfl,rfl,rfl⟩
theorem f60 (n : Int) : ACalls Tryz.prog 60 [vi n] (fun r => r = .pv (eS ⟨n,n⟩)):= by
 refine ACalls.of_body hT Tryz.func60 rfl (by kernel_rfl) rfl ?_
 (repeat' (first | refine stp ?_ | (refine AL_do2 rfl ?_; first | refine ⟨_,op_call1 rfl rfl rfl rfl (f61 n n),?_⟩) | refine AL_gdec rfl rfl rfl (fun hg => ?_) (fun hg => ?_) | refine AL_gnot rfl rfl rfl (fun hg => ?_) (fun hg => ?_) | refine AL_gcases rfl rfl rfl (fun hg => ?_) (fun hg => ?_)))
 exact ⟨_,_,rfl,rfl,rfl⟩
def cH : List Dye := [⟨[⟨2,3⟩,⟨5,5⟩,⟨8,10⟩],40⟩,⟨[⟨1,1⟩,⟨2,2⟩,⟨4,4⟩],20⟩]
def cA : List Bath := [⟨0,0,⟨4,5⟩⟩,⟨1,1,⟨3,3⟩⟩]
def cB : List Bath := [⟨0,0,⟨5,5⟩⟩]
def cDay : List Int := [1,1]
def cGas : List Int := [1,-2]
def cC : Coat := ⟨[cDay,cGas],⟨6,6⟩,[⟨12,14⟩,⟨10,12⟩],3⟩
def cL : List Stock := [⟨cB,2,5⟩,⟨[⟨0,1,⟨2,2⟩⟩],3,9⟩,⟨cB,2,4⟩]
def cS : Sorter := ⟨⟨2,3⟩,1,[⟨10,12⟩,⟨13,14⟩,⟨17,17⟩]⟩
theorem f97 : ACalls Tryz.prog 97 [] (fun r => r = .pv (eHouse cH)):= by
 refine ACalls.of_body hT Tryz.func97 rfl (by kernel_rfl) rfl ?_
 (repeat' (first | (refine AL_do2 rfl ⟨_,op_buildSlice_p hT rfl rfl rfl rfl rfl rfl rfl rfl rfl,?_⟩) | refine stp ?_ | (refine AL_do2 rfl ?_; first | refine ⟨_,op_call1 rfl rfl rfl rfl (f61 2 3),?_⟩ | refine ⟨_,op_call1 rfl rfl rfl rfl (f60 5),?_⟩ | refine ⟨_,op_call1 rfl rfl rfl rfl (f61 8 10),?_⟩ | refine ⟨_,op_call1 rfl rfl rfl rfl (f60 1),?_⟩ | refine ⟨_,op_call1 rfl rfl rfl rfl (f60 2),?_⟩ | refine ⟨_,op_call1 rfl rfl rfl rfl (f60 4),?_⟩) | refine AL_gdec rfl rfl rfl (fun hg => ?_) (fun hg => ?_) | refine AL_gnot rfl rfl rfl (fun hg => ?_) (fun hg => ?_) | refine AL_gcases rfl rfl rfl (fun hg => ?_) (fun hg => ?_)))
 exact ⟨_,_,rfl,rfl,rfl⟩
theorem f98 : ACalls Tryz.prog 98 [] (fun r => r = .pv (eBaths cA)):= by
 refine ACalls.of_body hT Tryz.func98 rfl (by kernel_rfl) rfl ?_
 (repeat' (first | (refine AL_do2 rfl ⟨_,op_buildSlice_p hT rfl rfl rfl rfl rfl rfl rfl rfl rfl,?_⟩) | refine stp ?_ | (refine AL_do2 rfl ?_; first | refine ⟨_,op_call1 rfl rfl rfl rfl (f61 4 5),?_⟩ | refine ⟨_,op_call1 rfl rfl rfl rfl (f60 3),?_⟩) | refine AL_gdec rfl rfl rfl (fun hg => ?_) (fun hg => ?_) | refine AL_gnot rfl rfl rfl (fun hg => ?_) (fun hg => ?_) | refine AL_gcases rfl rfl rfl (fun hg => ?_) (fun hg => ?_)))
 exact ⟨_,_,rfl,rfl,rfl⟩
theorem f99 : ACalls Tryz.prog 99 [] (fun r => r = .pv (eLamp cGas)):= by
 refine ACalls.of_body hT Tryz.func99 rfl (by kernel_rfl) rfl ?_
 (repeat' (first | (refine AL_do2 rfl ⟨_,op_buildSlice_p hT rfl rfl rfl rfl rfl rfl rfl rfl rfl,?_⟩) | refine stp ?_ | refine AL_gdec rfl rfl rfl (fun hg => ?_) (fun hg => ?_) | refine AL_gnot rfl rfl rfl (fun hg => ?_) (fun hg => ?_) | refine AL_gcases rfl rfl rfl (fun hg => ?_) (fun hg => ?_)))
 exact ⟨_,_,rfl,rfl,rfl⟩
theorem f100 : ACalls Tryz.prog 100 [] (fun r => r = .pv (eBaths cB)):= by
 refine ACalls.of_body hT Tryz.func100 rfl (by kernel_rfl) rfl ?_
 (repeat' (first | (refine AL_do2 rfl ⟨_,op_buildSlice_p hT rfl rfl rfl rfl rfl rfl rfl rfl rfl,?_⟩) | refine stp ?_ | (refine AL_do2 rfl ?_; first | refine ⟨_,op_call1 rfl rfl rfl rfl (f60 5),?_⟩) | refine AL_gdec rfl rfl rfl (fun hg => ?_) (fun hg => ?_) | refine AL_gnot rfl rfl rfl (fun hg => ?_) (fun hg => ?_) | refine AL_gcases rfl rfl rfl (fun hg => ?_) (fun hg => ?_)))
 exact ⟨_,_,rfl,rfl,rfl⟩
theorem f101 : ACalls Tryz.prog 101 [] (fun r => r = .pv (eLamp cDay)):= by
 refine ACalls.of_body hT Tryz.func101 rfl (by kernel_rfl) rfl ?_
 (repeat' (first | (refine AL_do2 rfl ⟨_,op_buildSlice_p hT rfl rfl rfl rfl rfl rfl rfl rfl rfl,?_⟩) | refine stp ?_ | refine AL_gdec rfl rfl rfl (fun hg => ?_) (fun hg => ?_) | refine AL_gnot rfl rfl rfl (fun hg => ?_) (fun hg => ?_) | refine AL_gcases rfl rfl rfl (fun hg => ?_) (fun hg => ?_)))
 exact ⟨_,_,rfl,rfl,rfl⟩
theorem f102 : ACalls Tryz.prog 102 [] (fun r => r = .pv (eCoat cC)):= by
 refine ACalls.of_body hT Tryz.func102 rfl (by kernel_rfl) rfl ?_
 (repeat' (first | (refine AL_do2 rfl ⟨_,op_buildSlice_p hT rfl rfl rfl rfl rfl rfl rfl rfl rfl,?_⟩) | refine stp ?_ | (refine AL_do2 rfl ?_; first | refine ⟨_,op_call1 rfl rfl rfl rfl (f101),?_⟩ | refine ⟨_,op_call1 rfl rfl rfl rfl (f99),?_⟩ | refine ⟨_,op_call1 rfl rfl rfl rfl (f60 6),?_⟩ | refine ⟨_,op_call1 rfl rfl rfl rfl (f61 12 14),?_⟩ | refine ⟨_,op_call1 rfl rfl rfl rfl (f61 10 12),?_⟩) | refine AL_gdec rfl rfl rfl (fun hg => ?_) (fun hg => ?_) | refine AL_gnot rfl rfl rfl (fun hg => ?_) (fun hg => ?_) | refine AL_gcases rfl rfl rfl (fun hg => ?_) (fun hg => ?_)))
 exact ⟨_,_,rfl,rfl,rfl⟩
theorem f103 : ACalls Tryz.prog 103 [] (fun r => r = .pv (eStocks cL)):= by
 refine ACalls.of_body hT Tryz.func103 rfl (by kernel_rfl) rfl ?_
 (repeat' (first | (refine AL_do2 rfl ⟨_,op_buildSlice_p hT rfl rfl rfl rfl rfl rfl rfl rfl rfl,?_⟩) | refine stp ?_ | (refine AL_do2 rfl ?_; first | refine ⟨_,op_call1 rfl rfl rfl rfl (f100),?_⟩ | refine ⟨_,op_call1 rfl rfl rfl rfl (f60 2),?_⟩) | refine AL_gdec rfl rfl rfl (fun hg => ?_) (fun hg => ?_) | refine AL_gnot rfl rfl rfl (fun hg => ?_) (fun hg => ?_) | refine AL_gcases rfl rfl rfl (fun hg => ?_) (fun hg => ?_)))
 exact ⟨_,_,rfl,rfl,rfl⟩
theorem f104 : ACalls Tryz.prog 104 [] (fun r => r = .pv (eSorter cS)):= by
 refine ACalls.of_body hT Tryz.func104 rfl (by kernel_rfl) rfl ?_
 (repeat' (first | (refine AL_do2 rfl ⟨_,op_buildSlice_p hT rfl rfl rfl rfl rfl rfl rfl rfl rfl,?_⟩) | refine stp ?_ | (refine AL_do2 rfl ?_; first | refine ⟨_,op_call1 rfl rfl rfl rfl (f61 2 3),?_⟩ | refine ⟨_,op_call1 rfl rfl rfl rfl (f61 10 12),?_⟩ | refine ⟨_,op_call1 rfl rfl rfl rfl (f61 13 14),?_⟩ | refine ⟨_,op_call1 rfl rfl rfl rfl (f60 17),?_⟩) | refine AL_gdec rfl rfl rfl (fun hg => ?_) (fun hg => ?_) | refine AL_gnot rfl rfl rfl (fun hg => ?_) (fun hg => ?_) | refine AL_gcases rfl rfl rfl (fun hg => ?_) (fun hg => ?_)))
 exact ⟨_,_,rfl,rfl,rfl⟩
theorem aggEq37 : AggEq Tryz.prog 37 2 := ⟨by kernel_rfl,fun xs ys w hx hy => by
 obtain ⟨a,b,rfl⟩ : ∃ a b,xs = [a,b] := by match xs,hx with | [a,b],_ => exact ⟨a,b,rfl⟩
 obtain ⟨c,d,rfl⟩ : ∃ c d,ys = [c,d] := by match ys,hy with | [c,d],_ => exact ⟨c,d,rfl⟩
 unfold intsV
 rw [run_equalIn_struct (P := Tryz.prog) w 9999 37 _ _ (by kernel_rfl) (by kernel_rfl)]
 have hf : (Tryz.prog.fieldsOf 37).toList.map (fun f => (f.name == "_", f.type, f.offset)) = [(false, 3, 0), (false, 3, 1)] := by kernel_rfl
 generalize (Tryz.prog.fieldsOf 37).toList = fs at hf
 cases fs with
 | nil => exact absurd (congrArg List.length hf) (by simp)
 | cons f0 fs => cases fs with
  | nil => exact absurd (congrArg List.length hf) (by simp)
  | cons f1 fs => cases fs with
  | cons f2 fs => exact absurd (congrArg List.length hf) (by simp)
  | nil =>
  simp only [List.map_cons,List.map_nil,List.cons.injEq,Prod.mk.injEq,beq_eq_false_iff_ne,and_true] at hf
  obtain ⟨⟨n0,t0,o0⟩,n1,t1,o1⟩ := hf
  have hu : Tryz.prog.underlying 3 = some (.int .i64) := und3
  have ht := hT.ty (t := 3) (i := ⟨1,false,8,[.pv (.int .i64 0)],.int .i64⟩) rfl
  have p0 : ∀ (x y : Int),(part 3 #[.int .i64 x,.int .i64 y] 0).run Tryz.prog w = .ok (.int .i64 x) w := fun x y => by
   simp [part,ht.run_agg w]
  have p1 : ∀ (x y : Int),(part 3 #[.int .i64 x,.int .i64 y] 1).run Tryz.prog w = .ok (.int .i64 y) w := fun x y => by
   simp [part,ht.run_agg w]
  simp only [List.map_cons,List.map_nil,Op.eqFields,t0,t1,o0,o1,n0,n1,ne_eq,not_false_eq_true,if_true,Sem.run_bind,p0,p1,Result.andThen_ok,run_equalIn_int w 9998 3 .i64 .i64 _ _ hu,Sem.run_ite,Sem.run_pure]
  by_cases h1 : a = c <;> by_cases h2 : b = d <;> simp [h1,h2]⟩
theorem drop_iff {α : Type} {a b : List α} {k : Nat} {x y : α} (hx : a[k]? = some x) (hy : b[k]? = some y) : (a.drop k = b.drop k) ↔ (x = y /\ a.drop (k + 1) = b.drop (k + 1)):= by
 have hk := (List.getElem?_eq_some_iff.1 hx).1
 have hk2 := (List.getElem?_eq_some_iff.1 hy).1
 rw [List.drop_eq_getElem_cons hk,List.drop_eq_getElem_cons hk2,(List.getElem?_eq_some_iff.1 hx).2,(List.getElem?_eq_some_iff.1 hy).2,List.cons.injEq]
theorem f32 (a b : List Span) (ha : a.length <= 1000) : ACalls Tryz.prog 32 [eSpans a,eSpans b] (fun r => r = .pv (.bool (decide (a = b)))):= by
 refine ACalls.of_body hT Tryz.func32 rfl (by kernel_rfl) rfl ?_
 (repeat (refine stp ?_))
 refine AW_cond rfl (fun hc => ?_) (fun hc => ?_)
 ·(repeat (refine stp ?_))
  exact ⟨_,_,rfl,rfl,by
   have : a ≠ b := by rintro rfl; simp at hc
   simp [this]⟩
 ·have hlen : a.length = b.length := by simp at hc; omega
  (repeat (refine stp ?_))
  refine AW_loopC (fun k : Nat => k <= a.length /\ (a = b ↔ a.drop k = b.drop k)) (fun k => mkSt [(0,.pv (eSpans a)),(1,.pv (eSpans b)),(5,.pv (vi k))] [] 0) (fun k => a.length - k) 0 ⟨Nat.zero_le _,by simp⟩ ?_ ?_
  ·(refine Le.mk ?_ ?_; all_goals (repeat' (first | exact trivial | refine sle ?_ | refine ⟨?_,rfl,?_⟩ | refine ⟨?_,by decide,rfl,?_⟩ | fail)))
  ·rintro k ⟨hk,hi⟩
   (repeat (refine stp ?_))
   refine AW_if rfl (fun hc => ?_) (fun hc => ?_)
   ·have hk' : k < a.length := by omega
    obtain ⟨x,hx⟩ : ∃ x,a[k]? = some x := ⟨a[k],by simp [hk']⟩
    obtain ⟨y,hy⟩ : ∃ y,b[k]? = some y := ⟨b[k]'(by omega),by simp⟩
    have e1 := get_map eSpan hx
    have e2 := get_map eSpan hy
    rw [drop_iff hx hy] at hi
    (repeat (refine stp ?_))
    (repeat (refine sdr ?_))
    refine DG_next (D_neqS (ms := [x.low,x.high]) (ns := [y.low,y.high]) aggEq37 rfl rfl rfl rfl rfl rfl rfl) ?_
    refine DG_end hM (by kernel_rfl) ?_
    (repeat (refine stp ?_))
    refine AW_cond rfl (fun hc2 => ?_) (fun hc2 => ?_)
    ·(repeat (refine stp ?_))
     exact ⟨_,_,rfl,rfl,by
      have : a ≠ b := fun h => by
       have h1 := (hi.1 h).1
       subst h1
       simp at hc2
      simp [this]⟩
    ·(repeat (refine stp ?_))
     have hxy : x = y:= by
      cases x; cases y; simp_all
     refine ⟨k + 1,⟨by omega,by rw [hi]; simp [hxy]⟩,by omega,?_⟩
     (refine Le.mk ?_ ?_; all_goals (repeat' (first | exact trivial | refine sle ?_ | refine ⟨?_,rfl,?_⟩ | refine ⟨?_,by decide,rfl,?_⟩ | fail)))
   ·have hk' : k = a.length := by omega
    subst hk'
    (repeat (refine stp ?_))
    exact ⟨_,_,rfl,rfl,by
     have : a = b := hi.2 (by rw [List.drop_length,List.drop_eq_nil_of_le (by omega)])
     simp [this]⟩
theorem f38 (a b : List Int) (ha : a.length <= 1000) : ACalls Tryz.prog 38 [eInts a,eInts b] (fun r => r = .pv (.bool (decide (a = b)))):= by
 refine ACalls.of_body hT Tryz.func38 rfl (by kernel_rfl) rfl ?_
 (repeat (refine stp ?_))
 refine AW_cond rfl (fun hc => ?_) (fun hc => ?_)
 ·(repeat (refine stp ?_))
  exact ⟨_,_,rfl,rfl,by
   have : a ≠ b := by rintro rfl; simp at hc
   simp [this]⟩
 ·have hlen : a.length = b.length := by simp at hc; omega
  (repeat (refine stp ?_))
  refine AW_loopC (fun k : Nat => k <= a.length /\ (a = b ↔ a.drop k = b.drop k)) (fun k => mkSt [(0,.pv (eInts a)),(1,.pv (eInts b)),(5,.pv (vi k))] [] 0) (fun k => a.length - k) 0 ⟨Nat.zero_le _,by simp⟩ ?_ ?_
  ·(refine Le.mk ?_ ?_; all_goals (repeat' (first | exact trivial | refine sle ?_ | refine ⟨?_,rfl,?_⟩ | refine ⟨?_,by decide,rfl,?_⟩ | fail)))
  ·rintro k ⟨hk,hi⟩
   (repeat (refine stp ?_))
   refine AW_if rfl (fun hc => ?_) (fun hc => ?_)
   ·have hk' : k < a.length := by omega
    obtain ⟨x,hx⟩ : ∃ x,a[k]? = some x := ⟨a[k],by simp [hk']⟩
    obtain ⟨y,hy⟩ : ∃ y,b[k]? = some y := ⟨b[k]'(by omega),by simp⟩
    have e1 := get_map eInt hx
    have e2 := get_map eInt hy
    rw [drop_iff hx hy] at hi
    (repeat (refine stp ?_))
    (repeat (refine sdr ?_))
    refine DG_end hM (by kernel_rfl) ?_
    (repeat (refine stp ?_))
    refine AW_cond rfl (fun hc2 => ?_) (fun hc2 => ?_)
    ·(repeat (refine stp ?_))
     exact ⟨_,_,rfl,rfl,by
      have : a ≠ b := fun h => by
       have h1 := (hi.1 h).1
       subst h1
       simp at hc2
      simp [this]⟩
    ·(repeat (refine stp ?_))
     have hxy : x = y:= by
      simp_all
     refine ⟨k + 1,⟨by omega,by rw [hi]; simp [hxy]⟩,by omega,?_⟩
     (refine Le.mk ?_ ?_; all_goals (repeat' (first | exact trivial | refine sle ?_ | refine ⟨?_,rfl,?_⟩ | refine ⟨?_,by decide,rfl,?_⟩ | fail)))
   ·have hk' : k = a.length := by omega
    subst hk'
    (repeat (refine stp ?_))
    exact ⟨_,_,rfl,rfl,by
     have : a = b := hi.2 (by rw [List.drop_length,List.drop_eq_nil_of_le (by omega)])
     simp [this]⟩
theorem f59 (a b : List Int) (ha : a.length <= 1000) : ACalls Tryz.prog 59 [eInts a,eInts b] (fun r => r = .pv (.bool (decide (a = b)))):= by
 refine ACalls.of_body hT Tryz.func59 rfl (by kernel_rfl) rfl ?_
 (repeat (refine stp ?_))
 refine AW_cond rfl (fun hc => ?_) (fun hc => ?_)
 ·(repeat (refine stp ?_))
  exact ⟨_,_,rfl,rfl,by
   have : a ≠ b := by rintro rfl; simp at hc
   simp [this]⟩
 ·have hlen : a.length = b.length := by simp at hc; omega
  (repeat (refine stp ?_))
  refine AW_loopC (fun k : Nat => k <= a.length /\ (a = b ↔ a.drop k = b.drop k)) (fun k => mkSt [(0,.pv (eInts a)),(1,.pv (eInts b)),(5,.pv (vi k))] [] 0) (fun k => a.length - k) 0 ⟨Nat.zero_le _,by simp⟩ ?_ ?_
  ·(refine Le.mk ?_ ?_; all_goals (repeat' (first | exact trivial | refine sle ?_ | refine ⟨?_,rfl,?_⟩ | refine ⟨?_,by decide,rfl,?_⟩ | fail)))
  ·rintro k ⟨hk,hi⟩
   (repeat (refine stp ?_))
   refine AW_if rfl (fun hc => ?_) (fun hc => ?_)
   ·have hk' : k < a.length := by omega
    obtain ⟨x,hx⟩ : ∃ x,a[k]? = some x := ⟨a[k],by simp [hk']⟩
    obtain ⟨y,hy⟩ : ∃ y,b[k]? = some y := ⟨b[k]'(by omega),by simp⟩
    have e1 := get_map eInt hx
    have e2 := get_map eInt hy
    rw [drop_iff hx hy] at hi
    (repeat (refine stp ?_))
    (repeat (refine sdr ?_))
    refine DG_end hM (by kernel_rfl) ?_
    (repeat (refine stp ?_))
    refine AW_cond rfl (fun hc2 => ?_) (fun hc2 => ?_)
    ·(repeat (refine stp ?_))
     exact ⟨_,_,rfl,rfl,by
      have : a ≠ b := fun h => by
       have h1 := (hi.1 h).1
       subst h1
       simp at hc2
      simp [this]⟩
    ·(repeat (refine stp ?_))
     have hxy : x = y:= by
      simp_all
     refine ⟨k + 1,⟨by omega,by rw [hi]; simp [hxy]⟩,by omega,?_⟩
     (refine Le.mk ?_ ?_; all_goals (repeat' (first | exact trivial | refine sle ?_ | refine ⟨?_,rfl,?_⟩ | refine ⟨?_,by decide,rfl,?_⟩ | fail)))
   ·have hk' : k = a.length := by omega
    subst hk'
    (repeat (refine stp ?_))
    exact ⟨_,_,rfl,rfl,by
     have : a = b := hi.2 (by rw [List.drop_length,List.drop_eq_nil_of_le (by omega)])
     simp [this]⟩
end Go.Abs
namespace Go.Abs
open Go.Proofs
set_option linter.unusedVariables false
set_option linter.unusedSimpArgs false
set_option maxRecDepth 100000
theorem k29 : ACalls Tryz.prog 29 [eHouse cH,eBaths cA] (fun r => r = .tup [eSpans [⟨8,15⟩,⟨6,6⟩],vi 0]):= by
 have h := f29 cH cA ⟨by decide,by decide⟩ (by decide)
 have e : knownI cH cA = ([⟨8,15⟩,⟨6,6⟩],0) := by decide +kernel
 rw [e] at h; exact h
theorem k66 : ACalls Tryz.prog 66 [eHouse cH,eLamp cGas,eBaths cA,eBaths cB] (fun r => r = .tup [eS ⟨-15,-12⟩,vi 0]):= by
 have h := f66 cH cGas cA cB ⟨by decide,by decide⟩ (by decide) (by decide) (by decide)
 have e : apartE cH cGas cA cB = (⟨-15,-12⟩,0) := by decide +kernel
 rw [e] at h; exact h
theorem k35 : ACalls Tryz.prog 35 [eHouse cH,eLamps [cDay,cGas],eBaths cA,eBaths cB,eS ⟨4,4⟩] (fun r => r = .tup [eInts [2,1],vi 0]):= by
 have h := f35 cH [cDay,cGas] cA cB ⟨4,4⟩ ⟨by decide,by decide⟩ ⟨by decide,by decide⟩ (by decide) (by decide)
 have e : wordsE cH [cDay,cGas] cA cB ⟨4,4⟩ = ([2,1],0) := by decide +kernel
 rw [e] at h; exact h
theorem k40 : ACalls Tryz.prog 40 [eHouse cH,eLamp cDay,eBaths cB,vi 1,vi 2,eS ⟨18,30⟩] (fun r => r = .tup [eS ⟨2,3⟩,vi 0]):= by
 have h := f40 cH cDay cB 1 2 ⟨18,30⟩ ⟨by decide,by decide⟩ (by decide) (by decide)
 have e : ripeI cH cDay cB 1 2 ⟨18,30⟩ = (⟨2,3⟩,0) := by decide +kernel
 rw [e] at h; exact h
theorem k48 : ACalls Tryz.prog 48 [eHouse cH,eCoat cC,eStocks cL] (fun r => r = .tup [vi 2,vi 0]):= by
 have h := f48 cH cC cL ⟨by decide,by decide⟩ ⟨by decide,by decide,by decide⟩ ⟨by decide,by decide⟩
 have e : coatE cH cC cL = (2,0) := by decide +kernel
 rw [e] at h; exact h
theorem k53 : ACalls Tryz.prog 53 [eSorter cS,eInts [10,14,17],vi 2] (fun r => r = .tup [eInts [0,1,1],vi 0]):= by
 have h := f53 cS [10,14,17] 2 (by decide) (by decide)
 have e : layE cS [10,14,17] 2 = ([0,1,1],0) := by decide +kernel
 rw [e] at h; exact h
theorem k54 : ACalls Tryz.prog 54 [eSorter cS,eInts [0,0,1]] (fun r => r = .tup [eSpans cS.looks,eS ⟨2,3⟩,vi 0]):= by
 have h := f54 cS [0,0,1] (by decide) (by decide)
 have e : provesE cS [0,0,1] = (cS.looks,⟨2,3⟩,0) := by decide +kernel
 rw [e] at h; exact h
theorem k58 : ACalls Tryz.prog 58 [eSorter cS,vi 1,vi 2] (fun r => r = .tup [vi 2,vi 0]):= by
 have h := f58 cS 1 2 (by decide)
 have e : togetherE cS 1 2 = (2,0) := by decide +kernel
 rw [e] at h; exact h
def exText : ByteArray := "house 2 0\ndye 40 2 3 5 5 8 10\ndye 20 1 1 2 2 4 4\nend 056\n".toUTF8
theorem numOK {x : Int} (h0 : 0 <= x) (h : x < 100) : ACalls Tryz.prog 201 [vi x] (fun r => r = .pv (.str (itoaB x))) /\ (itoaB x).size <= 20:= by
 obtain ⟨n,rfl⟩ := Int.eq_ofNat_of_zero_le h0
 have hn : n < 100 := by omega
 exact ⟨f201 n hn,by have := itoa_size hn; omega⟩
def dig (n : Nat) : List UInt8 := if n < 10 then [UInt8.ofNat (48 + n)] else [UInt8.ofNat (48 + n / 10),UInt8.ofNat (48 + n % 10)]
theorem dig_eq {n : Nat} (h : n < 100) : Lib.decDigits n = dig n:= by
 unfold Lib.decDigits dig
 split
 ·rfl
 ·unfold Lib.decDigits
  rw [dif_pos (by omega)]; rfl
def itoaD (n : Int) : ByteArray := bytesOf (dig n.toNat)
theorem itoaD_eq {n : Int} (h : n < 100) : itoaB n = itoaD n := by unfold itoaB itoaD; rw [dig_eq (by omega)]
def lineD (nm : ByteArray) (nums : List Int) : ByteArray := nums.foldl (fun acc x => acc ++ (spB ++ itoaD x)) nm
theorem lineD_eq (nm : ByteArray) : ∀ {nums : List Int},(∀ x ∈ nums,x < 100) -> lineB nm nums = lineD nm nums:= by
 intro nums
 induction nums using snocInd with
 | h0 => intro _; rfl
 | h1 l x ih =>
  intro h
  rw [lineB_snoc,ih fun y hy => h y (by simp [hy]),itoaD_eq (h x (by simp))]
  simp [lineD]
theorem text_ex : textB cH [] = exText:= by
 have e1 : linesB cH [] = [lineD nmTop [2,0],lineD nmDye [40,2,3,5,5,8,10],lineD nmDye [20,1,1,2,2,4,4]]:= by
  show [lineB nmTop [2,0],lineB nmDye [40,2,3,5,5,8,10],lineB nmDye [20,1,1,2,2,4,4]] = _
  rw [lineD_eq nmTop (by decide),lineD_eq nmDye (nums := [40,2,3,5,5,8,10]) (by decide),lineD_eq nmDye (nums := [20,1,1,2,2,4,4]) (by decide)]
 unfold textB
 rw [e1]
 have e2 : checkI [lineD nmTop [2,0],lineD nmDye [40,2,3,5,5,8,10],lineD nmDye [20,1,1,2,2,4,4]] % 113 = 56 := by decide +kernel
 unfold textOf
 rw [e2,itoaD_eq (by decide),itoaD_eq (by decide),itoaD_eq (by decide)]
 decide +kernel
theorem k90 : ACalls Tryz.prog 90 [eHouse cH,.sl []] (fun r => r = .tup [.str exText,vi 0]):= by
 have h := f90 cH [] ⟨by decide,by decide⟩ ⟨by decide,by simp⟩ fun _ _ ns hns x hx => by
  have h1 : ∀ ns ∈ rowsNums cH [],∀ x ∈ ns,0 <= x /\ x < 100 := by decide +kernel
  obtain ⟨g1,g2⟩ := h1 ns hns x hx
  exact numOK g1 g2
 have e : printE cH [] = (textB cH [],0):= by
  have : (isHouseB cH && areStocksB cH [] 0) = true := by decide +kernel
  unfold printE; rw [if_pos this]
 rw [e,text_ex] at h
 exact h
theorem same_of {n : Nat} {a b : PV} {p : Prop} [Decidable p] (h : ACalls Tryz.prog n [a,b] (fun r => r = .pv (.bool (decide p)))) (hp : p) : ACalls Tryz.prog n [a,b] (fun r => r = .pv (.bool true)):= by
 rw [decide_eq_true hp] at h; exact h
set_option maxHeartbeats 4000000 in
theorem f28 : ACalls Tryz.prog 28 [] (fun r => r = .pv (.bool true)):= by
 refine ACalls.of_body hT Tryz.func28 rfl (by kernel_rfl) rfl ?_
 (repeat' (first | (refine AL_do2 rfl ⟨_,op_buildSlice_p hT rfl rfl rfl rfl rfl rfl rfl rfl rfl,?_⟩) | refine stp ?_ | (refine AL_do2 rfl ?_; first | refine ⟨_,op_call1 rfl rfl rfl rfl (f97),?_⟩ | refine ⟨_,op_call1 rfl rfl rfl rfl (f98),?_⟩ | refine ⟨_,op_call1 rfl rfl rfl rfl (f99),?_⟩ | refine ⟨_,op_call1 rfl rfl rfl rfl (f100),?_⟩ | refine ⟨_,op_call1 rfl rfl rfl rfl (f101),?_⟩ | refine ⟨_,op_call1 rfl rfl rfl rfl (f102),?_⟩ | refine ⟨_,op_call1 rfl rfl rfl rfl (f103),?_⟩ | refine ⟨_,op_call1 rfl rfl rfl rfl (f104),?_⟩ | refine ⟨_,op_call1 rfl rfl rfl rfl (f60 4),?_⟩ | refine ⟨_,op_call1 rfl rfl rfl rfl (f61 18 30),?_⟩ | refine ⟨_,op_call1 rfl rfl rfl rfl (k29),?_⟩ | refine ⟨_,op_call1 rfl rfl rfl rfl (k66),?_⟩ | refine ⟨_,op_call1 rfl rfl rfl rfl (k35),?_⟩ | refine ⟨_,op_call1 rfl rfl rfl rfl (k40),?_⟩ | refine ⟨_,op_call1 rfl rfl rfl rfl (k48),?_⟩ | refine ⟨_,op_call1 rfl rfl rfl rfl (k53),?_⟩ | refine ⟨_,op_call1 rfl rfl rfl rfl (k54),?_⟩ | refine ⟨_,op_call1 rfl rfl rfl rfl (k58),?_⟩ | refine ⟨_,op_call1 rfl rfl rfl rfl (k90),?_⟩) | refine AL_gdec rfl rfl rfl (fun hg => ?_) (fun hg => ?_) | refine AL_gnot rfl rfl rfl (fun hg => ?_) (fun hg => ?_) | refine AL_gcases rfl rfl rfl (fun hg => ?_) (fun hg => ?_)))
 have s1 := same_of (f32 [⟨8,15⟩,⟨6,6⟩] [⟨8,15⟩,⟨6,6⟩] (by decide)) rfl
 have s2 := same_of (f38 [2,1] [2,1] (by decide)) rfl
 have s3 := same_of (f59 [0,1,1] [0,1,1] (by decide)) rfl
 have s4 := same_of (f32 cS.looks cS.looks (by decide)) rfl
 (repeat (first | refine DG_next (D_neqS (ms := [-15,-12]) (ns := [-15,-12]) aggEq37 rfl rfl rfl rfl rfl rfl rfl) ?_ | refine DG_next (D_neqS (ms := [2,3]) (ns := [2,3]) aggEq37 rfl rfl rfl rfl rfl rfl rfl) ?_ | refine sdr ?_ | refine DG_next (D_call rfl rfl rfl rfl rfl (f61 8 15)) ?_ | refine DG_next (D_call rfl rfl rfl rfl rfl (f60 6)) ?_ | refine DG_next (D_call rfl rfl rfl rfl rfl (s1)) ?_ | refine DG_next (D_call rfl rfl rfl rfl rfl (f61 (-15) (-12))) ?_ | refine DG_next (D_call rfl rfl rfl rfl rfl (s2)) ?_ | refine DG_next (D_call rfl rfl rfl rfl rfl (f61 2 3)) ?_))
 refine DG_end hM (by kernel_rfl) ?_
 (repeat (refine stp ?_))
 (repeat (first | refine DG_next (D_eqlS (ms := [2,3]) (ns := [2,3]) aggEq37 rfl rfl rfl rfl rfl rfl rfl) ?_ | refine DG_next (D_streq rfl rfl rfl rfl rfl) ?_ | refine sdr ?_ | refine DG_next (D_call rfl rfl rfl rfl rfl (f104)) ?_ | refine DG_next (D_call rfl rfl rfl rfl rfl (s3)) ?_ | refine DG_next (D_call rfl rfl rfl rfl rfl (s4)) ?_ | refine DG_next (D_call rfl rfl rfl rfl rfl (f61 2 3)) ?_))
 refine DG_end hM (by kernel_rfl) ?_
 (repeat (refine stp ?_))
 refine ⟨_,_,rfl,rfl,?_⟩
 show RV.pv _ = RV.pv _
 kernel_rfl
end Go.Abs
