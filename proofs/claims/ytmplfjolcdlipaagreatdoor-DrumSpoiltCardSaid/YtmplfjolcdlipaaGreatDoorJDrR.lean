/- The slip of the chapter's example, read: the walk. -/
import Derived.Test.YtmplfjolcdlipaaGreatDoorJDrQ
import Derived.Test.YtmplfjolcdlipaaGreatDoorJNcG
import Derived.Test.YtmplfjolcdlipaaGreatDoorJDrD
import Derived.Test.YtmplfjolcdlipaaGreatDoorJDrC
set_option linter.unusedVariables false
set_option linter.unusedSimpArgs false
namespace Go.Abs
open Go.Proofs
set_option linter.unusedVariables false
set_option linter.unusedSimpArgs false
set_option maxRecDepth 100000
def fa110 : Nat -> List (List PV)
 | 0 => []
 | _ + 1 => [eAcid ⟨⟨5,5⟩,⟨0,0⟩⟩]
def fb110 : Nat -> List (List PV)
 | 0 => []
 | 1 => []
 | 2 => []
 | _ + 3 => [eBatch ⟨0,0,0,0,0,0⟩]
def fc110 : Nat -> FV
 | 0 => .nils
 | 1 => .nils
 | _ + 2 => .pv (eInts [0])
abbrev s110 (k : Nat) : ASt := mkSt [(0,.pv (.str (bytesOf txL))),(2,.box 0 0),(5,.box 1 0),(6,.box 2 0),(40,.pv (.sl ([ln1,ln2,ln3].map eStrL))),(41,.pv (vi 3)),(42,.pv (vi k))]
 [(0,.box [.nils,.pv (vi 0),.pv (vi 0),.nils,.nils,.nils]),(1,.box [.arr 3,.pv (vi 1),.pv (vi 1),fc110 k,.nils,.arr 4]),(2,wdO),(3,.arr 137 4 (fa110 k)),(4,.arr 77 6 (fb110 k))] 5
theorem k162_1 : ACalls Tryz.prog 162 [.str (bytesOf ln1),.str (byB 32)] (fun r => r = .tup [.str (bytesOf [97,99,105,100]),.str (bytesOf (ln1.drop 5)),.bool true]):= by
 have := f162 ln1 32 (by decide); rwa [ct1] at this
theorem k162_2 : ACalls Tryz.prog 162 [.str (bytesOf ln2),.str (byB 32)] (fun r => r = .tup [.str (bytesOf [97,100,100]),.str (bytesOf (ln2.drop 4)),.bool true]):= by
 have := f162 ln2 32 (by decide); rwa [ct2] at this
theorem k162_3 : ACalls Tryz.prog 162 [.str (bytesOf ln3),.str (byB 32)] (fun r => r = .tup [.str (bytesOf [98,97,116,99,104]),.str (bytesOf (ln3.drop 6)),.bool true]):= by
 have := f162 ln3 32 (by decide); rwa [ct3] at this
theorem numOK {x : Int} (h0 : 0 <= x) (h : x < 100) : ACalls Tryz.prog 156 [vi x] (fun r => r = .pv (.str (itoaB x))) /\ (itoaB x).size <= 20:= by
 obtain ⟨n,rfl⟩ := Int.eq_ofNat_of_zero_le h0
 have hn : n < 100 := by omega
 exact ⟨f156 n hn,by have := itoa_size hn; omega⟩
theorem nums_c : NumsOK (numsD cDr):= by
 intro x hx
 simp only [numsD,cDr,acN,faN,baN,List.flatMap_cons,List.flatMap_nil,List.append_nil,List.nil_append,List.cons_append,List.mem_cons,List.not_mem_nil,or_false] at hx
 exact numOK (by omega) (by omega)
theorem k105_c : ACalls Tryz.prog 105 [eDrum cDr] (fun r => r = .pv (.str (bytesOf txL))):= by
 have := f105 cDr (by decide) (by decide) (by decide) (by decide) nums_c
 rwa [text_c] at this
set_option maxHeartbeats 4000000 in
theorem f110 : ACalls Tryz.prog 110 [.str (bytesOf txL)] (fun r => r = .pv (eDrum cDr)):= by
 have k159 := f159 txL 10 (by decide)
 rw [tx_split] at k159
 have k160 := f160t (bytesOf txL)
 have g0 : ([ln0,ln1,ln2,ln3,ln4,ln5].map eStrL)[(0 : Int).toNat]? = some (eStrL ln0) := rfl
 refine ACalls.of_body hT Tryz.func110 rfl (by kernel_rfl) rfl ?_
 (repeat (refine stq ?_))
 refine AL_do2 rfl ⟨_,op_call1 rfl rfl rfl rfl k159,?_⟩
 refine AL_pure (t := 17) rfl rfl ?_
 (repeat (refine stq ?_))
 rw [show decide ((([ln0,ln1,ln2,ln3,ln4,ln5].length : Nat) : Int) >= 3) = true from rfl]
 (repeat' (first | refine stq ?_ | (refine AL_do2 rfl ?_; first | refine ⟨_,op_call1 rfl rfl rfl rfl (k160),nrmA rfl ?_⟩) | (with_reducible refine AL_id ?_); (fail_if_success (refine AL_glit rfl rfl rfl (by first | exact .inl (by with_reducible rfl) | exact .inr (by with_reducible rfl)) ?_)); first | refine AL_gdec rfl rfl rfl (fun hg => ?_) (fun hg => ?_) | refine AL_gnot rfl rfl rfl (fun hg => ?_) (fun hg => ?_) | refine AL_gcases rfl rfl rfl (fun hg => ?_) (fun hg => ?_)))
 refine AL_do2 rfl ⟨_,op_callB rfl rfl rfl rfl k161_0 rfl,?_⟩
 refine AL_pure (t := 27) rfl rfl ?_
 have p0 : ([1,1].map eInt)[(0 : Int).toNat]? = some (eInt 1) := rfl
 have p1 : ([1,1].map eInt)[(1 : Int).toNat]? = some (eInt 1) := rfl
 (repeat (refine stq ?_))
 iterate 7 (refine sdq ?_)
 refine DG_next (D_allocE hT rfl rfl rfl rfl) ?_
 refine DG_next (D_storeE hT rfl rfl rfl rfl rfl rfl rfl rfl rfl rfl) ?_
 refine DG_end hM (by kernel_rfl) ?_
 (repeat' (first | refine stq ?_ | (refine AL_do2 rfl ?_; first | refine ⟨_,op_call1 rfl rfl rfl rfl (f154'),nrmA rfl ?_⟩) | (with_reducible refine AL_id ?_); (fail_if_success (refine AL_glit rfl rfl rfl (by first | exact .inl (by with_reducible rfl) | exact .inr (by with_reducible rfl)) ?_)); first | refine AL_gdec rfl rfl rfl (fun hg => ?_) (fun hg => ?_) | refine AL_gnot rfl rfl rfl (fun hg => ?_) (fun hg => ?_) | refine AL_gcases rfl rfl rfl (fun hg => ?_) (fun hg => ?_)))
 rw [show (([ln0,ln1,ln2,ln3,ln4,ln5].length : Nat) : Int) = 6 from rfl]
 (repeat (refine stq ?_))
 refine AL_do2 rfl ⟨_,op_slice_sl (lo := 1) (hi := 4) hT rfl rfl rfl rfl rfl rfl (by intro y hy; obtain ⟨_,_,rfl⟩ := List.mem_map.1 hy; rfl) (.inr ⟨_,.i64,rfl,rfl⟩) (.inr ⟨_,.i64,rfl,rfl⟩) (by omega) (by decide),?_⟩
 (repeat (refine stq ?_))
 rw [show (([ln0,ln1,ln2,ln3,ln4,ln5].map eStrL).take 4).drop 1 = [ln1,ln2,ln3].map eStrL from rfl]
 (repeat (refine stq ?_))
 refine AW_nilBox 4 0 137 4 rfl rfl ?_
 refine AW_nilBox 4 5 77 6 rfl rfl ?_
 refine AW_loopC (fun k : Nat => k <= 3) s110 (fun k => 3 - k) 0 (by omega) ?_ ?_
 ·(refine Le.mkR [(0,0),(1,4),(2,5),(3,6),(4,7)] ?_ ?_ rfl; all_goals (repeat' (first | exact trivial | refine sle ?_ | refine ⟨?_,rfl,?_⟩ | refine ⟨?_,by decide,rfl,?_⟩ | fail)))
 ·intro k hk
  by_cases hk3 : k = 3
  ·subst hk3
   (repeat (refine stq ?_))
   refine AL_do2 rfl ⟨_,op_callB rfl rfl rfl rfl k105_c rfl,?_⟩
   (repeat (refine stq ?_))
   refine AL_do2 rfl ⟨_,op_streqB (b := true) rfl rfl rfl rfl rfl,?_⟩
   (repeat (refine stq ?_))
   refine AL_do2 rfl ⟨_,op_call1 rfl rfl rfl rfl k160,?_⟩
   refine AL_arrBox (b := 1) 0 rfl rfl rfl rfl ?_
   refine AL_arrBox (b := 1) 5 rfl rfl rfl rfl ?_
   (repeat (refine stq ?_))
   exact ⟨_,_,rfl,rfl,rfl⟩
  ·have h3 : k = 0 \/ k = 1 \/ k = 2 := by omega
   rcases h3 with rfl | rfl | rfl
   ·have e1 : ([ln1,ln2,ln3].map eStrL)[((0 : Nat) : Int).toNat]? = some (eStrL ln1) := rfl
    (repeat' (first | refine stq ?_ | (refine AL_do2 rfl ?_; first | refine ⟨_,op_call1 rfl rfl rfl rfl (k162_1),nrmA rfl ?_⟩) | (with_reducible refine AL_id ?_); (fail_if_success (refine AL_glit rfl rfl rfl (by first | exact .inl (by with_reducible rfl) | exact .inr (by with_reducible rfl)) ?_)); first | refine AL_gdec rfl rfl rfl (fun hg => ?_) (fun hg => ?_) | refine AL_gnot rfl rfl rfl (fun hg => ?_) (fun hg => ?_) | refine AL_gcases rfl rfl rfl (fun hg => ?_) (fun hg => ?_)))
    refine AL_do2 rfl ⟨_,op_streqB (b := true) rfl rfl rfl rfl rfl,?_⟩
    (repeat (refine stq ?_))
    refine AL_do2 rfl ⟨_,op_callB rfl rfl rfl rfl k161_1 rfl,?_⟩
    refine AL_pure (t := 86) rfl rfl ?_
    have p0 : ([5,5,0,0].map eInt)[(0 : Int).toNat]? = some (eInt 5) := rfl
    have p1 : ([5,5,0,0].map eInt)[(1 : Int).toNat]? = some (eInt 5) := rfl
    have p2 : ([5,5,0,0].map eInt)[(2 : Int).toNat]? = some (eInt 0) := rfl
    have p3 : ([5,5,0,0].map eInt)[(3 : Int).toNat]? = some (eInt 0) := rfl
    have hA : (fa110 0).length = 0 := rfl
    (repeat (refine stq ?_))
    (repeat (first | refine sdq ?_))
    refine DG_end hM (by kernel_rfl) ?_
    (repeat (refine stq ?_))
    refine ⟨1,by omega,by omega,?_⟩
    (refine Le.mkR [(0,0),(1,1),(2,2),(3,7),(4,4)] ?_ ?_ rfl; all_goals (repeat' (first | exact trivial | refine sle ?_ | refine ⟨?_,rfl,?_⟩ | refine ⟨?_,by decide,rfl,?_⟩ | fail)))
   ·have e1 : ([ln1,ln2,ln3].map eStrL)[((1 : Nat) : Int).toNat]? = some (eStrL ln2) := rfl
    have k163 : ACalls Tryz.prog 163 [.str (bytesOf ln2),.str (byB 32)] (fun r => r = .pv (vi 1)) := f163 (bytesOf ln2) 32
    (repeat' (first | refine stq ?_ | (refine AL_do2 rfl ?_; first | refine ⟨_,op_call1 rfl rfl rfl rfl (k162_2),nrmA rfl ?_⟩) | (with_reducible refine AL_id ?_); (fail_if_success (refine AL_glit rfl rfl rfl (by first | exact .inl (by with_reducible rfl) | exact .inr (by with_reducible rfl)) ?_)); first | refine AL_gdec rfl rfl rfl (fun hg => ?_) (fun hg => ?_) | refine AL_gnot rfl rfl rfl (fun hg => ?_) (fun hg => ?_) | refine AL_gcases rfl rfl rfl (fun hg => ?_) (fun hg => ?_)))
    refine AL_do2 rfl ⟨_,op_streqB (b := false) rfl rfl rfl rfl rfl,?_⟩
    (repeat (refine stq ?_))
    refine AL_do2 rfl ⟨_,op_streqB (b := true) rfl rfl rfl rfl rfl,?_⟩
    (repeat' (first | refine stq ?_ | (refine AL_do2 rfl ?_; first | refine ⟨_,op_call1 rfl rfl rfl rfl (k163),nrmA rfl ?_⟩) | (with_reducible refine AL_id ?_); (fail_if_success (refine AL_glit rfl rfl rfl (by first | exact .inl (by with_reducible rfl) | exact .inr (by with_reducible rfl)) ?_)); first | refine AL_gdec rfl rfl rfl (fun hg => ?_) (fun hg => ?_) | refine AL_gnot rfl rfl rfl (fun hg => ?_) (fun hg => ?_) | refine AL_gcases rfl rfl rfl (fun hg => ?_) (fun hg => ?_)))
    refine AL_do2 rfl ⟨_,op_appendZ (m := 1) (zp := [.str ByteArray.empty]) hT und3 rfl rfl rfl rfl rfl rfl rfl rfl rfl rfl rfl rfl (by omega) (by decide) rfl,?_⟩
    (repeat (refine stq ?_))
    refine AL_do2 rfl ⟨_,op_callB rfl rfl rfl rfl k161_2 rfl,?_⟩
    refine AL_pure (t := 117) rfl rfl ?_
    (repeat (refine stq ?_))
    refine ⟨2,by omega,by omega,?_⟩
    (refine Le.mk ?_ ?_; all_goals (repeat' (first | exact trivial | refine sle ?_ | refine ⟨?_,rfl,?_⟩ | refine ⟨?_,by decide,rfl,?_⟩ | fail)))
   ·have e1 : ([ln1,ln2,ln3].map eStrL)[((2 : Nat) : Int).toNat]? = some (eStrL ln3) := rfl
    (repeat' (first | refine stq ?_ | (refine AL_do2 rfl ?_; first | refine ⟨_,op_call1 rfl rfl rfl rfl (k162_3),nrmA rfl ?_⟩) | (with_reducible refine AL_id ?_); (fail_if_success (refine AL_glit rfl rfl rfl (by first | exact .inl (by with_reducible rfl) | exact .inr (by with_reducible rfl)) ?_)); first | refine AL_gdec rfl rfl rfl (fun hg => ?_) (fun hg => ?_) | refine AL_gnot rfl rfl rfl (fun hg => ?_) (fun hg => ?_) | refine AL_gcases rfl rfl rfl (fun hg => ?_) (fun hg => ?_)))
    refine AL_do2 rfl ⟨_,op_streqB (b := false) rfl rfl rfl rfl rfl,?_⟩
    (repeat (refine stq ?_))
    refine AL_do2 rfl ⟨_,op_streqB (b := false) rfl rfl rfl rfl rfl,?_⟩
    (repeat (refine stq ?_))
    refine AL_do2 rfl ⟨_,op_streqB (b := false) rfl rfl rfl rfl rfl,?_⟩
    (repeat (refine stq ?_))
    refine AL_do2 rfl ⟨_,op_callB rfl rfl rfl rfl k161_3 rfl,?_⟩
    refine AL_pure (t := 55) rfl rfl ?_
    have hB : (fb110 2).length = 0 := rfl
    have q0 : ([0,0,0,0,0,0].map eInt)[(0 : Int).toNat]? = some (eInt 0) := rfl
    have q1 : ([0,0,0,0,0,0].map eInt)[(1 : Int).toNat]? = some (eInt 0) := rfl
    have q2 : ([0,0,0,0,0,0].map eInt)[(2 : Int).toNat]? = some (eInt 0) := rfl
    have q3 : ([0,0,0,0,0,0].map eInt)[(3 : Int).toNat]? = some (eInt 0) := rfl
    have q4 : ([0,0,0,0,0,0].map eInt)[(4 : Int).toNat]? = some (eInt 0) := rfl
    have q5 : ([0,0,0,0,0,0].map eInt)[(5 : Int).toNat]? = some (eInt 0) := rfl
    (repeat (refine stq ?_))
    (repeat (first | refine sdq ?_))
    refine DG_end hM (by kernel_rfl) ?_
    (repeat (refine stq ?_))
    refine ⟨3,by omega,by omega,?_⟩
    (refine Le.mkR [(0,0),(1,1),(2,2),(3,3),(4,7)] ?_ ?_ rfl; all_goals (repeat' (first | exact trivial | refine sle ?_ | refine ⟨?_,rfl,?_⟩ | refine ⟨?_,by decide,rfl,?_⟩ | fail)))
end Go.Abs
namespace Go.Abs
open Go.Proofs
set_option linter.unusedVariables false
set_option linter.unusedSimpArgs false
set_option maxRecDepth 100000
abbrev zeroR : List FV := [.nils,.pv (vi 0),.pv (vi 0),.nils,.nils,.nils]
abbrev cDrF : List FV := (eDrumC cDr).map FV.pv
abbrev rdO (f : List FV) : List (Nat × AObj) := [(0,.box [.pv (.str (bytesOf txL))]),(1,.box f)]
abbrev rdA : List (Nat × Nat) := [(2,0),(3,1)]
theorem f109c (av : Nat -> Value) : ACallsX Tryz.prog 109 [.box 0 0,.box 1 0] (rdO zeroR ++ ancL av rdA) 4 (fun sf => sf = mkSt [(0,.tup [])] (rdO cDrF ++ ancL av rdA) 4) (fun _ _ => False):= by
 refine ACallsX.of_body hT Tryz.func109 rfl (by kernel_rfl) rfl ?_
 (repeat' (first | refine stq ?_ | (refine AL_do2 rfl ?_; first | refine ⟨_,op_call1 rfl rfl rfl rfl (f110),nrmA rfl ?_⟩) | (with_reducible refine AL_id ?_); (fail_if_success (refine AL_glit rfl rfl rfl (by first | exact .inl (by with_reducible rfl) | exact .inr (by with_reducible rfl)) ?_)); first | refine AL_gdec rfl rfl rfl (fun hg => ?_) (fun hg => ?_) | refine AL_gnot rfl rfl rfl (fun hg => ?_) (fun hg => ?_) | refine AL_gcases rfl rfl rfl (fun hg => ?_) (fun hg => ?_)))
 refine ⟨_,mkSt [(0,.tup [])] (rdO cDrF ++ ancL av rdA) 4,rfl,?_,rfl⟩
 (refine Le.mk ?_ ?_; all_goals (repeat' (first | exact trivial | refine sle ?_ | refine ⟨?_,rfl,?_⟩ | refine ⟨?_,by decide,rfl,?_⟩ | fail)))
abbrev tcO (f : List FV) (e : Int) (av : Nat -> Value) (v : Value) : List (Nat × AObj) := rdO f ++ ancL av rdA ++ [(4,.box [.pv (vi e)]),(5,.anc v (.fn 158 [.box 4 0]))]
def Q108c (av : Nat -> Value) (v : Value) : Exit -> ASt -> Prop
 | .ret,s' => Le s' (mkSt [(2,.box 4 0)] (tcO cDrF 0 av v) 6)
 | _,_ => False
set_option maxHeartbeats 4000000 in
theorem f108c (av : Nat -> Value) : ACallsX Tryz.prog 108 [.fn 109 [.box 0 0,.box 1 0]] (rdO zeroR ++ ancL av rdA) 4 (fun sf => sf = mkSt [(0,.pv (vi 0))] (rdO cDrF ++ ancL av rdA) 4) (fun _ _ => False):= by
 refine ACallsX.of_deferring (fn := Tryz.f108) rfl rfl (by kernel_rfl) rfl ?_
 refine AWR_seq (Qx := fun _ _ => False) ?_ (fun _ _ _ _ _ _ _ _ h => by obtain ⟨_,_,_,_,h⟩ := h; exact h.elim)
 (repeat (refine stq ?_))
 refine AWR_defer (f := .tmp 3) rfl (op_mkfunc rfl rfl rfl) rfl rfl rfl rfl fun v => ?_
 refine AWR_end (Qx := Q108c av v) ?_ ?_
 ·(repeat (refine stq ?_))
  refine AL_doS rfl (op_callXs (objs := rdO zeroR) (n := 4) [(0,0),(1,1)] [0,1] rdA (fun av => f109c av) rfl rfl rfl rfl (by (repeat' (first | exact trivial | refine And.intro ?_ ?_)); all_goals (first | rfl | decide)) rfl (by (repeat' (first | exact trivial | refine And.intro ?_ ?_)); all_goals (first | rfl | decide)) rfl ⟨⟨rfl,rfl,⟨_,.head _⟩,rfl⟩,⟨rfl,rfl,⟨_,.tail _ (.head _)⟩,rfl⟩,trivial⟩ (by simp) ?_) ?_
  ·rintro av' sf rfl
   exact ⟨.inl ⟨2,by simp,rfl⟩,.inl ⟨3,by simp,rfl⟩,trivial⟩
  ·rintro s' ⟨av',sf,rfl,rfl⟩
   (repeat (refine stq ?_))
   show Le _ _
   (refine Le.mk ?_ ?_; all_goals (repeat' (first | exact trivial | refine sle ?_ | refine ⟨?_,rfl,?_⟩ | refine ⟨?_,by decide,rfl,?_⟩ | fail)))
 ·rintro W0 D0 e a' w hr hp ⟨s',D',φ',hI,hq⟩
  have hen : Enters Tryz.prog 158 := enters_of (fn := Tryz.f158) rfl rfl (by kernel_rfl)
  cases e with
  | ret =>
   have hle : Le s' (mkSt [(2,.box 4 0)] (tcO cDrF 0 av v) 6) := hq
   obtain ⟨φ2,hI2⟩ := hle.inv hI
   refine leaves_deferred (A := 5) (u' := .returning) [(0,4)] [0] [(1,0)] (objs := [(0,.box [.pv (vi 0)])]) (fun av => d158r 0 av) hen rfl (by (repeat' (first | exact trivial | refine And.intro ?_ ?_)); all_goals (first | rfl | decide)) rfl (by (repeat' (first | exact trivial | refine And.intro ?_ ?_)); all_goals (first | rfl | decide)) rfl ⟨⟨rfl,rfl,⟨_,.head _⟩,rfl⟩,trivial⟩ (by simp) ?_ (by simp) rfl hp hr.2.2 hI2 ?_
   ·rintro av' sf rfl
    exact ⟨.inl ⟨1,by simp,rfl⟩,trivial⟩
   ·rintro av' sf D2 φ3 w' rfl hI3
    refine retX_post (fn := Tryz.f108) (D0 := { D0 with pd := none }) hT hI3 (sf := mkSt [(0,.pv (vi 0))] (rdO cDrF ++ ancL av rdA) 4) rfl ?_ rfl
    (refine Le.mk ?_ ?_; all_goals (repeat' (first | exact trivial | refine sle ?_ | refine ⟨?_,rfl,?_⟩ | refine ⟨?_,by decide,rfl,?_⟩ | fail)))
  | _ => exact hq.elim
theorem drum_c : drumB cDr = true := by decide +kernel
theorem f40c : ACalls Tryz.prog 40 [.str (bytesOf txL)] (fun r => r = .tup [eDrum cDr,vi 0]):= by
 have k104 := f104 cDr ⟨by decide,by decide,by decide,by decide⟩
 rw [drum_c] at k104
 have hsz : (bytesOf txL).size = 65 := rfl
 refine ACalls.of_body hT Tryz.func40 rfl (by kernel_rfl) rfl ?_
 (repeat' (first | refine stq ?_ | (refine AL_do2 rfl ?_; first | refine ⟨_,op_len_str hT rfl rfl rfl rfl rfl,?_⟩) | ((first | (with_reducible refine AL_id ?_); (fail_if_success (refine AL_glit rfl rfl rfl (by first | exact .inl (by with_reducible rfl) | exact .inr (by with_reducible rfl)) ?_)); first | refine AL_gdec rfl rfl rfl (fun hg => ?_) (fun hg => ?_) | refine AL_gnot rfl rfl rfl (fun hg => ?_) (fun hg => ?_) | refine AL_gcases rfl rfl rfl (fun hg => ?_) (fun hg => ?_)) <;> (try (exfalso; omega))) | refine AW_if rfl (fun hc => absurd hc (by omega)) (fun _ => ?_) | refine AW_if rfl (fun _ => ?_) (fun hc => absurd (by omega) hc)))
 refine AL_doS rfl (op_callXs (objs := rdO zeroR) (n := 4) [(0,0),(1,2)] [0,1] rdA (fun av => f108c av) rfl rfl rfl rfl (by (repeat' (first | exact trivial | refine And.intro ?_ ?_)); all_goals (first | rfl | decide)) rfl (by (repeat' (first | exact trivial | refine And.intro ?_ ?_)); all_goals (first | rfl | decide)) rfl ⟨⟨rfl,rfl,⟨_,.head _⟩,rfl⟩,⟨rfl,rfl,⟨_,.tail _ (.head _)⟩,rfl⟩,trivial⟩ (by simp) ?_) ?_
 ·rintro av' sf rfl
  exact ⟨.inl ⟨2,by simp,rfl⟩,.inl ⟨3,by simp,rfl⟩,trivial⟩
 ·rintro s' ⟨av',sf,rfl,rfl⟩
  (repeat' (first | refine stq ?_ | (refine AL_do2 rfl ?_; first | refine ⟨_,op_call1 rfl rfl rfl rfl (k104),nrmA rfl ?_⟩) | (with_reducible refine AL_id ?_); (fail_if_success (refine AL_glit rfl rfl rfl (by first | exact .inl (by with_reducible rfl) | exact .inr (by with_reducible rfl)) ?_)); first | refine AL_gdec rfl rfl rfl (fun hg => ?_) (fun hg => ?_) | refine AL_gnot rfl rfl rfl (fun hg => ?_) (fun hg => ?_) | refine AL_gcases rfl rfl rfl (fun hg => ?_) (fun hg => ?_)))
  exact ⟨_,_,rfl,rfl,rfl⟩
end Go.Abs
