/- Count and Index of one byte, by the shelf; a string cut at single bytes: strings.Split. -/
import Derived.Test.YtkmclnjmabljdaaGreatDoorKNeO
import Derived.Test.YtkmclnjmabljdaaGreatDoorKNdA
import Derived.Test.YtkmclnjmabljdaaGreatDoorKNcK
import Derived.Test.YtkmclnjmabljdaaGreatDoorKNcG
import Derived.Test.YtkmclnjmabljdaaGreatDoorKNcI
import Derived.Lib.IndexBytes
import Derived.Laws.RangeString
import Derived.Laws.RangeAny
set_option linter.unusedVariables false
set_option linter.unusedSimpArgs false
namespace Go.Abs
open Go.Proofs Go.RowKit
set_option linter.unusedVariables false
set_option linter.unusedSimpArgs false
set_option maxRecDepth 100000
theorem ACalls.of_int {P : Program} {f : FuncId} {ps : List PV} {n : Int} (hE : Enters P f) (h : ∀ W D vs,RepL W D vs ps -> (∀ b,D b -> b < W.heap.size) -> Calls P f vs W fun e w' => e = .returned (.int .i64 n) /\ Below W.heap.size W w') : ACalls P f ps (fun r => r = .pv (vi n)) :=
 ⟨hE,fun W D vs hko hD hr => (h W D vs hr hD).mono fun e w' ⟨he,hb⟩ => ⟨_,.pv (vi n),D,he,hb,fun _ h => h,fun _ h => .inl h,fun b hb' => Nat.lt_of_lt_of_le (hD b hb') hb.size,.int .i64 n,rfl⟩⟩
theorem two_strs {W : World} {D : Nat -> Prop} {vs : Array Value} {u v : ByteArray} (h : RepL W D vs [.str u,.str v]) : vs = #[.string u,.string v]:= by
 obtain ⟨h1,h2⟩ := h
 apply Array.ext
 ·simpa using h1
 ·intro j q1 q2
  match j with
  | 0 => have := h2 0 vs[0] (.str u) (by simp) rfl; simpa using this.inv_str
  | 1 => have := h2 1 vs[1] (.str v) (by simp) rfl; simpa using this.inv_str
  | j + 2 => simp at q2; omega
def byB (c : UInt8) : ByteArray := ⟨#[c]⟩
theorem f236 (s : ByteArray) (c : UInt8) : ACalls Tryz.prog 236 [.str s,.str (byB c)] (fun r => r = .pv (vi (Lib.countByte s.data.toList c))):= by
 refine ACalls.of_int (enters_of (fn := Tryz.f236) rfl rfl (by kernel_rfl)) fun W D vs hr hD => ?_
 rw [two_strs hr]
 exact (Tryz.strings_Count_one s c W).mono fun e w' ⟨he,hw⟩ => ⟨he,by rw [hw]; exact Below.refl _ _⟩
theorem f237 (s : ByteArray) (c : UInt8) : ACalls Tryz.prog 237 [.str s,.str (byB c)] (fun r => r = .pv (vi (Lib.indexByte s.data.toList c))):= by
 refine ACalls.of_int (enters_of (fn := Tryz.f237) rfl rfl (by kernel_rfl)) fun W D vs hr hD => ?_
 rw [two_strs hr]
 exact (Tryz.strings_Index_one s c W).mono fun e w' ⟨he,hw⟩ => ⟨he,by rw [hw]; exact Below.refl _ _⟩
theorem bytes_ext {a b : ByteArray} (h : a.data.toList = b.data.toList) : a = b:= by
 cases a; cases b; simp only [ByteArray.mk.injEq] at *; exact Array.toList_inj.1 h
theorem ext_take (l : List UInt8) (k : Nat) : (bytesOf l).extract 0 k = bytesOf (l.take k) := bytes_ext (by rw [Lib.extract_data,List.drop_zero,Nat.sub_zero]; rfl)
theorem ext_drop (l : List UInt8) (k : Nat) : (bytesOf l).extract k (bytesOf l).size = bytesOf (l.drop k) := bytes_ext (by rw [Lib.extract_to_end]; rfl)
theorem bytesOf_size (l : List UInt8) : (bytesOf l).size = l.length := rfl
theorem bytesOf_toList (l : List UInt8) : (bytesOf l).toList = l := by rw [Lib.toList_data]; rfl
def splitF : Nat -> UInt8 -> List UInt8 -> List (List UInt8)
 | 0,_,l => [l]
 | n + 1,c,l => if Lib.indexByte l c < 0 then [l] else l.take (Lib.indexByte l c).toNat :: splitF n c (l.drop ((Lib.indexByte l c).toNat + 1))
def splitN (c : UInt8) (l : List UInt8) : Nat := min (Lib.countByte l c) l.length
def splitL (c : UInt8) (l : List UInt8) : List (List UInt8) := splitF (splitN c l) c l
def eStrL (l : List UInt8) : List PV := [.str (bytesOf l)]
theorem splitF_len (c : UInt8) : ∀ (n : Nat) (l : List UInt8),1 <= (splitF n c l).length /\ (splitF n c l).length <= n + 1
 | 0,l => by simp [splitF]
 | n + 1,l => by
  unfold splitF
  split
  ·simp
  ·have := splitF_len c n (l.drop ((Lib.indexByte l c).toNat + 1))
   simp only [List.length_cons]; omega
theorem index_lt {l : List UInt8} {c : UInt8} {j : Nat} (h : Lib.indexByte l c = (j : Int)) : j < l.length:= by
 have := (Lib.indexByte_some h).1
 exact (List.getElem?_eq_some_iff.1 this).1
theorem set_mid {α : Type} (a : List α) (x y : α) (r : List α) : (a ++ x :: r).set a.length y = a ++ y :: r := by simp
section
variable {P : Program} {nt : Nat} {s : ASt} {o : Oper} {ops : Array Oper}
theorem op_streqB {t t' : TypeId} {x y : Operand} {u v : ByteArray} {b : Bool} (hb : (u.data.toList == v.data.toList) = b) (ho : o.op = .binOp .eql t x y t') (hd : dstB nt o.dst = true) (hx : s.ev x = some (.pv (.str u))) (hy : s.ev y = some (.pv (.str v))) : OpTo P nt o s (s.putO o.dst (some (.pv (.bool b)))):= by
 have := op_streq (P := P) ho hd hx hy
 rw [Lib.toList_data,Lib.toList_data,hb] at this
 exact this
theorem op_strneB {t t' : TypeId} {x y : Operand} {u v : ByteArray} {b : Bool} (hb : (!(u.data.toList == v.data.toList)) = b) (ho : o.op = .binOp .neq t x y t') (hd : dstB nt o.dst = true) (hx : s.ev x = some (.pv (.str u))) (hy : s.ev y = some (.pv (.str v))) : OpTo P nt o s (s.putO o.dst (some (.pv (.bool b)))):= by
 have := op_strne (P := P) ho hd hx hy
 rw [Lib.toList_data,Lib.toList_data,hb] at this
 exact this
end
set_option maxHeartbeats 4000000 in
theorem f227 (l : List UInt8) (c : UInt8) (hl : l.length <= 100000) : ACalls Tryz.prog 227 [.str (bytesOf l),.str (byB c),vi 0,vi (-1)] (fun r => r = .own 9 1 ((splitL c l).map eStrL)):= by
 have k236 : ACalls Tryz.prog 236 [.str (bytesOf l),.str (byB c)] (fun r => r = .pv (vi (Lib.countByte l c))) := f236 (bytesOf l) c
 have hcl : Lib.countByte l c <= l.length := List.count_le_length
 have hmin : min (((Lib.countByte l c : Nat) : Int) + 1) (((bytesOf l).size : Int) + 1) = (((splitN c l + 1 : Nat)) : Int) := by rw [bytesOf_size]; unfold splitN; omega
 have hN : splitN c l <= 100000 := by unfold splitN; omega
 have hsz := bytesOf_size l
 unfold splitL
 generalize hNn : splitN c l = N at *
 refine ACalls.of_body hT Tryz.func227 rfl (by kernel_rfl) rfl ?_
 (repeat (refine stq ?_))
 refine AL_do2 rfl ⟨_,op_streqB (b := false) (by rfl) rfl rfl rfl rfl,?_⟩
 (repeat' (first | refine stq ?_ | refine sty ?_ | (refine AL_do2 rfl ?_; first | refine ⟨_,op_call1 rfl rfl rfl rfl (k236),nrmA rfl ?_⟩) | (with_reducible refine AL_id ?_); (fail_if_success (refine AL_glit rfl rfl rfl (by first | exact .inl (by with_reducible rfl) | exact .inr (by with_reducible rfl)) ?_)); first | refine AL_gdec rfl rfl rfl (fun hg => ?_) (fun hg => ?_) | refine AL_gnot rfl rfl rfl (fun hg => ?_) (fun hg => ?_) | refine AL_gcases rfl rfl rfl (fun hg => ?_) (fun hg => ?_)))
 rw [hmin]
 (repeat (refine stq ?_))
 refine AL_do2 rfl ⟨_,op_makeSlice (n := N + 1) (zp := [.str ByteArray.empty]) hT rfl rfl rfl rfl rfl rfl rfl rfl rfl rfl (by omega) rfl,?_⟩
 (repeat (refine stq ?_))
 rw [show ((N + 1 : Nat) : Int) - 1 = (N : Int) by omega]
 refine AW_loopC (fun i : List (List UInt8) × List UInt8 => i.1.length <= N /\ i.2.length <= 100000 /\ i.1 ++ splitF (N - i.1.length) c i.2 = splitF N c l)
  (fun i => mkSt [(0,.pv (.str (bytesOf i.2))),(1,.pv (.str (byB c))),(2,.pv (vi 0)),(3,.pv (vi N)),(9,.arr 0),(10,.pv (vi i.1.length))] [(0,.arr 9 1 (i.1.map eStrL ++ List.replicate (N + 1 - i.1.length) [.str ByteArray.empty]))] 1)
  (fun i => N - i.1.length) ([],l) ⟨Nat.zero_le _,hl,rfl⟩ ?_ ?_
 ·(refine Le.mk ?_ ?_; all_goals (repeat' (first | exact trivial | refine sle ?_ | refine ⟨?_,rfl,?_⟩ | refine ⟨?_,by decide,rfl,?_⟩ | fail)))
 ·rintro ⟨out,cur⟩ ⟨hk,hcur,hsp⟩
  dsimp only at hk hcur hsp ⊢
  (repeat (refine stq ?_))
  refine AW_if rfl (fun hc => ?_) (fun hc => ?_)
  ·have hk' : out.length < N := by omega
   obtain ⟨n,hn⟩ : ∃ n,N - out.length = n + 1 := ⟨N - out.length - 1,by omega⟩
   have k237 : ACalls Tryz.prog 237 [.str (bytesOf cur),.str (byB c)] (fun r => r = .pv (vi (Lib.indexByte cur c))) := f237 (bytesOf cur) c
   have hge := Lib.indexByte_ge cur c
   by_cases hneg : Lib.indexByte cur c < 0
   ·have hs1 : splitF (N - out.length) c cur = [cur] := by rw [hn,splitF,if_pos hneg]
    (repeat' (first | refine stq ?_ | (refine AL_do2 rfl ?_; first | refine ⟨_,op_call1 rfl rfl rfl rfl (k237),nrmA rfl ?_⟩) | (with_reducible refine AL_id ?_); (fail_if_success (refine AL_glit rfl rfl rfl (by first | exact .inl (by with_reducible rfl) | exact .inr (by with_reducible rfl)) ?_)); first | refine AL_gdec rfl rfl rfl (fun hg => ?_) (fun hg => ?_) | refine AL_gnot rfl rfl rfl (fun hg => ?_) (fun hg => ?_) | refine AL_gcases rfl rfl rfl (fun hg => ?_) (fun hg => ?_)))
    refine AW_if rfl (fun hc2 => ?_) (fun hc2 => absurd hneg hc2)
    rw [hs1] at hsp
    have hrep : List.replicate (N + 1 - out.length) [PV.str ByteArray.empty] = [PV.str ByteArray.empty] :: List.replicate (N - out.length) [PV.str ByteArray.empty]:= by
     rw [show N + 1 - out.length = (N - out.length) + 1 by omega,List.replicate_succ]
    have e3 : (out.map eStrL ++ List.replicate (N + 1 - out.length) [PV.str ByteArray.empty])[((out.length : Nat) : Int).toNat]? = some [PV.str ByteArray.empty]:= by
     rw [hrep,Int.toNat_natCast,List.getElem?_append_right (by simp)]; simp
    have hlt : ((out.length : Nat) : Int).toNat < (out.map eStrL ++ List.replicate (N + 1 - out.length) [PV.str ByteArray.empty]).length:= by
     rw [Int.toNat_natCast]; simp; omega
    have hset : ∀ y,(out.map eStrL ++ List.replicate (N + 1 - out.length) [PV.str ByteArray.empty]).set (((out.length : Nat) : Int).toNat) [y] = out.map eStrL ++ [y] :: List.replicate (N - out.length) [PV.str ByteArray.empty] := fun y => by
     rw [hrep,Int.toNat_natCast]
     have := set_mid (out.map eStrL) [PV.str ByteArray.empty] [y] (List.replicate (N - out.length) [PV.str ByteArray.empty])
     rwa [List.length_map] at this
    (repeat (refine stq ?_))
    refine AL_do2 rfl ⟨_,op_indexAddr_arr (k := .i64) (n := (out.length : Int)) (id := 0) (e' := 9) (sz := 1) (es := out.map eStrL ++ List.replicate (N + 1 - out.length) [PV.str ByteArray.empty]) hT rfl rfl rfl rfl rfl rfl rfl rfl (by omega) hlt rfl,?_⟩
    refine AL_do2 rfl ⟨_,op_store_aptr (el := [PV.str ByteArray.empty]) hT rfl rfl rfl rfl rfl e3 rfl rfl rfl rfl,?_⟩
    change AL _ _ _ _ _ (ASt.setObj _ 0 (some (.arr 9 1 ((out.map eStrL ++ List.replicate (N + 1 - out.length) [PV.str ByteArray.empty]).set (((out.length : Nat) : Int).toNat) [.str (bytesOf cur)]))))
    rw [hset]
    (repeat (refine stq ?_))
    refine AL_do2 rfl ⟨_,op_slice_own (hi := out.length + 1) hT rfl rfl rfl rfl rfl rfl rfl rfl (by simp),?_⟩
    rw [show (out.map eStrL ++ [PV.str (bytesOf cur)] :: List.replicate (N - out.length) [PV.str ByteArray.empty]).take (out.length + 1) = (splitF N c l).map eStrL by
     rw [<- hsp,List.map_append,List.take_append,List.length_map,List.take_of_length_le (by simp),show out.length + 1 - out.length = 1 by omega]; rfl]
    (repeat (refine stq ?_))
    exact ⟨_,_,rfl,rfl,rfl⟩
   ·obtain ⟨j,hj⟩ : ∃ j : Nat,Lib.indexByte cur c = j := ⟨(Lib.indexByte cur c).toNat,by omega⟩
    have hjl := index_lt hj
    have hs1 : splitF (N - out.length) c cur = cur.take j :: splitF (N - (out ++ [cur.take j]).length) c (cur.drop (j + 1)):= by
     rw [hn,splitF,if_neg hneg,hj,Int.toNat_natCast]
     rw [show N - (out ++ [cur.take j]).length = n by rw [List.length_append,List.length_singleton]; omega]
    rw [hj] at k237
    have hrep : List.replicate (N + 1 - out.length) [PV.str ByteArray.empty] = [PV.str ByteArray.empty] :: List.replicate (N - out.length) [PV.str ByteArray.empty]:= by
     rw [show N + 1 - out.length = (N - out.length) + 1 by omega,List.replicate_succ]
    have e3 : (out.map eStrL ++ List.replicate (N + 1 - out.length) [PV.str ByteArray.empty])[((out.length : Nat) : Int).toNat]? = some [PV.str ByteArray.empty]:= by
     rw [hrep,Int.toNat_natCast,List.getElem?_append_right (by simp)]; simp
    have hlt : ((out.length : Nat) : Int).toNat < (out.map eStrL ++ List.replicate (N + 1 - out.length) [PV.str ByteArray.empty]).length:= by
     rw [Int.toNat_natCast]; simp; omega
    have hset : ∀ y,(out.map eStrL ++ List.replicate (N + 1 - out.length) [PV.str ByteArray.empty]).set (((out.length : Nat) : Int).toNat) [y] = out.map eStrL ++ [y] :: List.replicate (N - out.length) [PV.str ByteArray.empty] := fun y => by
     rw [hrep,Int.toNat_natCast]
     have := set_mid (out.map eStrL) [PV.str ByteArray.empty] [y] (List.replicate (N - out.length) [PV.str ByteArray.empty])
     rwa [List.length_map] at this
    (repeat' (first | refine stq ?_ | (refine AL_do2 rfl ?_; first | refine ⟨_,op_call1 rfl rfl rfl rfl (k237),nrmA rfl ?_⟩) | (with_reducible refine AL_id ?_); (fail_if_success (refine AL_glit rfl rfl rfl (by first | exact .inl (by with_reducible rfl) | exact .inr (by with_reducible rfl)) ?_)); first | refine AL_gdec rfl rfl rfl (fun hg => ?_) (fun hg => ?_) | refine AL_gnot rfl rfl rfl (fun hg => ?_) (fun hg => ?_) | refine AL_gcases rfl rfl rfl (fun hg => ?_) (fun hg => ?_)))
    refine AL_do2 rfl ⟨_,op_slice_str (lo := 0) (hi := j) hT rfl rfl rfl rfl rfl (.inl ⟨rfl,rfl⟩) (.inr ⟨_,.i64,rfl,rfl⟩) (by omega) (by rw [bytesOf_size]; omega),?_⟩
    rw [ext_take]
    (repeat (refine stq ?_))
    refine AL_do2 rfl ⟨_,op_indexAddr_arr (k := .i64) (n := (out.length : Int)) (id := 0) (e' := 9) (sz := 1) (es := out.map eStrL ++ List.replicate (N + 1 - out.length) [PV.str ByteArray.empty]) hT rfl rfl rfl rfl rfl rfl rfl rfl (by omega) hlt rfl,?_⟩
    refine AL_do2 rfl ⟨_,op_store_aptr (el := [PV.str ByteArray.empty]) hT rfl rfl rfl rfl rfl e3 rfl rfl rfl rfl,?_⟩
    change AL _ _ _ _ _ (ASt.setObj _ 0 (some (.arr 9 1 ((out.map eStrL ++ List.replicate (N + 1 - out.length) [PV.str ByteArray.empty]).set (((out.length : Nat) : Int).toNat) [.str (bytesOf (cur.take j))]))))
    rw [hset]
    have hbs : (byB c).size = 1 := rfl
    (repeat' (first | refine stq ?_ | refine sty ?_ | (with_reducible refine AL_id ?_); (fail_if_success (refine AL_glit rfl rfl rfl (by first | exact .inl (by with_reducible rfl) | exact .inr (by with_reducible rfl)) ?_)); first | refine AL_gdec rfl rfl rfl (fun hg => ?_) (fun hg => ?_) | refine AL_gnot rfl rfl rfl (fun hg => ?_) (fun hg => ?_) | refine AL_gcases rfl rfl rfl (fun hg => ?_) (fun hg => ?_)))
    refine AL_do2 rfl ⟨_,op_slice_str (lo := j + 1) (hi := (bytesOf cur).size) hT rfl rfl rfl rfl rfl (.inr ⟨_,.i64,rfl,rfl⟩) (.inl ⟨rfl,rfl⟩) (by rw [bytesOf_size]; omega) (Nat.le_refl _),?_⟩
    rw [ext_drop]
    (repeat (refine stq ?_))
    refine ⟨(out ++ [cur.take j],cur.drop (j + 1)),⟨by simp; omega,by simp; omega,?_⟩,by simp; omega,?_⟩
    ·dsimp only
     rw [List.append_assoc,<- hsp,hs1]; rfl
    ·dsimp only
     (refine Le.mk ?_ ?_; all_goals (repeat' (first | exact trivial | refine sle ?_ | refine ⟨?_,rfl,?_⟩ | refine ⟨?_,by decide,rfl,?_⟩ | fail)))
     ·show some (FV.pv (vi ((out.length : Int) + 1))) = some (FV.pv (vi ((out ++ [cur.take j]).length : Nat)))
      rw [List.length_append,List.length_singleton]; rfl
     ·show some (AObj.arr 9 1 (out.map eStrL ++ [PV.str (bytesOf (cur.take j))] :: List.replicate (N - out.length) [PV.str ByteArray.empty])) = some (AObj.arr 9 1 ((out ++ [cur.take j]).map eStrL ++ List.replicate (N + 1 - (out ++ [cur.take j]).length) [PV.str ByteArray.empty]))
      rw [List.map_append,List.length_append,List.length_singleton,show N + 1 - (out.length + 1) = N - out.length by omega,List.append_assoc]; rfl
  ·have hk' : out.length = N := by omega
   have hs1 : splitF (N - out.length) c cur = [cur] := by rw [show N - out.length = 0 by omega]; rfl
   rw [hs1] at hsp
   have hrep : List.replicate (N + 1 - out.length) [PV.str ByteArray.empty] = [PV.str ByteArray.empty] :: List.replicate (N - out.length) [PV.str ByteArray.empty]:= by
    rw [show N + 1 - out.length = (N - out.length) + 1 by omega,List.replicate_succ]
   have e3 : (out.map eStrL ++ List.replicate (N + 1 - out.length) [PV.str ByteArray.empty])[((out.length : Nat) : Int).toNat]? = some [PV.str ByteArray.empty]:= by
    rw [hrep,Int.toNat_natCast,List.getElem?_append_right (by simp)]; simp
   have hlt : ((out.length : Nat) : Int).toNat < (out.map eStrL ++ List.replicate (N + 1 - out.length) [PV.str ByteArray.empty]).length:= by
    rw [Int.toNat_natCast]; simp; omega
   have hset : ∀ y,(out.map eStrL ++ List.replicate (N + 1 - out.length) [PV.str ByteArray.empty]).set (((out.length : Nat) : Int).toNat) [y] = out.map eStrL ++ [y] :: List.replicate (N - out.length) [PV.str ByteArray.empty] := fun y => by
    rw [hrep,Int.toNat_natCast]
    have := set_mid (out.map eStrL) [PV.str ByteArray.empty] [y] (List.replicate (N - out.length) [PV.str ByteArray.empty])
    rwa [List.length_map] at this
   (repeat (refine stq ?_))
   refine AL_do2 rfl ⟨_,op_indexAddr_arr (k := .i64) (n := (out.length : Int)) (id := 0) (e' := 9) (sz := 1) (es := out.map eStrL ++ List.replicate (N + 1 - out.length) [PV.str ByteArray.empty]) hT rfl rfl rfl rfl rfl rfl rfl rfl (by omega) hlt rfl,?_⟩
   refine AL_do2 rfl ⟨_,op_store_aptr (el := [PV.str ByteArray.empty]) hT rfl rfl rfl rfl rfl e3 rfl rfl rfl rfl,?_⟩
   change AL _ _ _ _ _ (ASt.setObj _ 0 (some (.arr 9 1 ((out.map eStrL ++ List.replicate (N + 1 - out.length) [PV.str ByteArray.empty]).set (((out.length : Nat) : Int).toNat) [.str (bytesOf cur)]))))
   rw [hset]
   (repeat (refine stq ?_))
   refine AL_do2 rfl ⟨_,op_slice_own (hi := out.length + 1) hT rfl rfl rfl rfl rfl rfl rfl rfl (by simp),?_⟩
   rw [show (out.map eStrL ++ [PV.str (bytesOf cur)] :: List.replicate (N - out.length) [PV.str ByteArray.empty]).take (out.length + 1) = (splitF N c l).map eStrL by
    rw [<- hsp,List.map_append,List.take_append,List.length_map,List.take_of_length_le (by simp),show out.length + 1 - out.length = 1 by omega]; rfl]
   (repeat (refine stq ?_))
   exact ⟨_,_,rfl,rfl,rfl⟩
theorem f203 (l : List UInt8) (c : UInt8) (hl : l.length <= 100000) : ACalls Tryz.prog 203 [.str (bytesOf l),.str (byB c)] (fun r => r = .own 9 1 ((splitL c l).map eStrL)):= by
 refine ACalls.of_body hT Tryz.func203 rfl (by kernel_rfl) rfl ?_
 (repeat' (first | refine stq ?_ | (refine AL_do2 rfl ?_; first | refine ⟨_,op_call1 rfl rfl rfl rfl (f227 l c hl),nrmA rfl ?_⟩) | (with_reducible refine AL_id ?_); (fail_if_success (refine AL_glit rfl rfl rfl (by first | exact .inl (by with_reducible rfl) | exact .inr (by with_reducible rfl)) ?_)); first | refine AL_gdec rfl rfl rfl (fun hg => ?_) (fun hg => ?_) | refine AL_gnot rfl rfl rfl (fun hg => ?_) (fun hg => ?_) | refine AL_gcases rfl rfl rfl (fun hg => ?_) (fun hg => ?_)))
 exact ⟨_,_,rfl,rfl,rfl⟩
end Go.Abs
namespace Go.Abs
open Go.Proofs Go.RowKit
set_option linter.unusedVariables false
set_option linter.unusedSimpArgs false
set_option maxRecDepth 100000
theorem ACalls.of_strK {P : Program} {f : FuncId} {ps : List PV} {s : ByteArray} (hE : Enters P f) (h : ∀ W D vs,KOK P W D (fun _ => False) -> RepL W D vs ps -> (∀ b,D b -> b < W.heap.size) -> Calls P f vs W fun e w' => e = .returned (.string s) /\ Below W.heap.size W w') : ACalls P f ps (fun r => r = .pv (.str s)) :=
 ⟨hE,fun W D vs hko hD hr => (h W D vs hko hr hD).mono fun e w' ⟨he,hb⟩ => ⟨_,.pv (.str s),D,he,hb,fun _ h => h,fun _ h => .inl h,fun b hb' => Nat.lt_of_lt_of_le (hD b hb') hb.size,.str s,rfl⟩⟩
theorem f201K (n : Nat) (hn : n < 1000000) : ACalls Tryz.prog 201 [vi n] (fun r => r = .pv (.str (itoaB n))):= by
 refine ACalls.of_strK (enters_of (fn := Tryz.f201) rfl rfl (by kernel_rfl)) fun W D vs hko hr hD => ?_
 obtain ⟨h1,h2⟩ := hr
 have h0 : vs = #[.int .i64 n]:= by
  apply Array.ext
  ·simpa using h1
  ·intro j q1 q2
   have hj : j = 0 := by simp at q2; omega
   subst hj
   have := h2 0 vs[0] (vi n) (by simp [q1]) rfl
   simpa using this.inv_int
 subst h0
 obtain ⟨g,_,_,_,_,htab⟩ := hko
 refine (Tryz.strconv_Itoa n (by omega) (by omega) W htab).mono fun e w' ⟨he,k,os,hw⟩ => ⟨?_,?_⟩
 ·rw [he]
  have : Lib.itoa (n : Int) = Lib.decDigits (n : Int).toNat := by unfold Lib.itoa; rw [if_neg (by omega)]
  rw [this]; rfl
 ·rw [hw]
  exact ⟨rfl,rfl,rfl,by simp [Sort.grow,World.drewN],fun j hj => by simp [Sort.grow,World.drewN,Array.getElem?_append_left hj]⟩
theorem f204t (x : ByteArray) : ACalls Tryz.prog 204 [.bool true,.str x] (fun r => r = .tup []):= by
 refine ACalls.of_body hT Tryz.func204 rfl (by kernel_rfl) rfl ?_
 (repeat (refine stq ?_))
 exact ⟨_,_,rfl,rfl,rfl⟩
def numV (l : List UInt8) : Int := l.foldl (fun n b => 10 * n + ((b.toNat : Int) - 48)) 0
def digB (b : UInt8) : Bool := decide (48 <= b.toNat) && decide (b.toNat <= 57)
theorem numV_snoc (l : List UInt8) (b : UInt8) : numV (l ++ [b]) = 10 * numV l + ((b.toNat : Int) - 48) := by simp [numV]
theorem numV_bd {l : List UInt8} (h : ∀ b ∈ l,digB b = true) (hl : l.length <= 3) : 0 <= numV l /\ numV l <= 999:= by
 have h' : ∀ b ∈ l,48 <= b.toNat /\ b.toNat <= 57 := fun b hb => by have := h b hb; simpa [digB] using this
 match l,hl,h' with
 | [],_,_ => decide
 | [a],_,h => have := h a (by simp); simp only [numV,List.foldl_cons,List.foldl_nil]; omega
 | [a,b],_,h => have := h a (by simp); have := h b (by simp); simp only [numV,List.foldl_cons,List.foldl_nil]; omega
 | [a,b,c],_,h => have := h a (by simp); have := h b (by simp); have := h c (by simp); simp only [numV,List.foldl_cons,List.foldl_nil]; omega
theorem wrap32 {n : Int} (h : 0 <= n /\ n <= 1000) : IntKind.i64.wrap (IntKind.i32.wrap n) = n:= by
 unfold IntKind.wrap; simp [IntKind.signed,IntKind.bits]; omega
theorem dec_at {l : List UInt8} {j : Nat} {b : UInt8} (hb : l[j]? = some b) (h : b.toNat < 128) : Utf8.decode (bytesOf l) j = (b.toNat,1):= by
 have hj : j < (bytesOf l).size := (List.getElem?_eq_some_iff.1 hb).1
 have hg : (bytesOf l)[j]'hj = b:= by
  have := (List.getElem?_eq_some_iff.1 hb).2
  exact (rfl : (bytesOf l)[j]'hj = l[j]'(List.getElem?_eq_some_iff.1 hb).1).trans this
 rw [decode_ascii (bytesOf l) j hj (by rw [hg]; exact h),hg]
set_option maxHeartbeats 4000000 in
theorem f226 (l : List UInt8) (hd : ∀ b ∈ l,digB b = true) (h1 : 1 <= l.length) (h4 : l.length <= 3) (hI : ACalls Tryz.prog 201 [vi (numV l)] (fun r => r = .pv (.str (itoaB (numV l))))) (he : itoaB (numV l) = bytesOf l) :
  ACalls Tryz.prog 226 [.str (bytesOf l)] (fun r => r = .pv (vi (numV l))):= by
 have k204 := f204t (bytesOf l)
 have hsz := bytesOf_size l
 refine ACalls.of_body hT Tryz.func226 rfl (by kernel_rfl) rfl ?_
 (repeat (refine stq ?_))
 refine AL_do2 rfl ⟨_,op_rangeStr (by kernel_rfl) rfl rfl rfl,?_⟩
 (repeat (refine stq ?_))
 refine AW_loopC (fun j : Nat => j <= l.length) (fun j => mkSt [(0,.pv (.str (bytesOf l))),(3,.pv (vi (numV (l.take j)))),(7,.box 0 0)] [(0,.siter (bytesOf l) j)] 1) (fun j => l.length - j) 0 (Nat.zero_le _) ?_ ?_
 ·(refine Le.mk ?_ ?_; all_goals (repeat' (first | exact trivial | refine sle ?_ | refine ⟨?_,rfl,?_⟩ | refine ⟨?_,by decide,rfl,?_⟩ | fail)))
 ·intro j hj
  (repeat (refine stq ?_))
  by_cases hj' : j < l.length
  ·obtain ⟨b,hb⟩ : ∃ b,l[j]? = some b := ⟨l[j],by simp [hj']⟩
   have hbd := hd b (List.mem_of_getElem? hb)
   simp only [digB,Bool.and_eq_true,decide_eq_true_eq] at hbd
   have hs : l.take (j + 1) = l.take j ++ [b] := by rw [List.take_add_one,hb]; rfl
   have hv := numV_bd (l := l.take j) (fun x hx => hd x (List.mem_of_mem_take hx)) (by simp; omega)
   have hsn := numV_snoc (l.take j) b
   have hw := wrap32 (n := (b.toNat : Int) - 48) (by omega)
   have hm : -9223372036854775808 <= 10 * numV (l.take j) /\ 10 * numV (l.take j) <= 9223372036854775807 := by omega
   generalize numV (l.take j) = n at *
   refine AL_do2 rfl ⟨_,op_nextStr rfl rfl rfl rfl (by rw [hsz]; exact hj') (dec_at hb (by omega)),?_⟩
   (repeat' (first | refine stq ?_ | (refine AL_do2 rfl ?_; first | refine ⟨_,op_call1 rfl rfl rfl rfl (k204),nrmA rfl ?_⟩ | refine ⟨_,op_len_str hT rfl rfl rfl rfl rfl,?_⟩) | ((first | (with_reducible refine AL_id ?_); (fail_if_success (refine AL_glit rfl rfl rfl (by first | exact .inl (by with_reducible rfl) | exact .inr (by with_reducible rfl)) ?_)); first | refine AL_gdec rfl rfl rfl (fun hg => ?_) (fun hg => ?_) | refine AL_gnot rfl rfl rfl (fun hg => ?_) (fun hg => ?_) | refine AL_gcases rfl rfl rfl (fun hg => ?_) (fun hg => ?_)) <;> (try (exfalso; omega))) | refine AW_if rfl (fun hc => absurd hc (by omega)) (fun _ => ?_) | refine AW_if rfl (fun _ => ?_) (fun hc => absurd (by omega) hc)))
   rw [show decide (((bytesOf l).size : Int) <= 3) = true from decide_eq_true (by rw [hsz]; omega)]
   (repeat' (first | refine stq ?_ | (refine AL_do2 rfl ?_; first | refine ⟨_,op_call1 rfl rfl rfl rfl (k204),nrmA rfl ?_⟩) | ((first | (with_reducible refine AL_id ?_); (fail_if_success (refine AL_glit rfl rfl rfl (by first | exact .inl (by with_reducible rfl) | exact .inr (by with_reducible rfl)) ?_)); first | refine AL_gdec rfl rfl rfl (fun hg => ?_) (fun hg => ?_) | refine AL_gnot rfl rfl rfl (fun hg => ?_) (fun hg => ?_) | refine AL_gcases rfl rfl rfl (fun hg => ?_) (fun hg => ?_)) <;> (try (exfalso; omega))) | refine AW_if rfl (fun hc => absurd hc (by omega)) (fun _ => ?_) | refine AW_if rfl (fun _ => ?_) (fun hc => absurd (by omega) hc)))
   refine AL_do2 rfl ⟨_,op_bin (k := .i32) (op := .sub) rfl rfl rfl rfl rfl,?_⟩
   refine AL_do2 rfl ⟨_,op_conv hT rfl rfl rfl rfl rfl rfl rfl,?_⟩
   rw [hw]
   (repeat (refine stq ?_))
   refine ⟨j + 1,hj',by omega,?_⟩
   (refine Le.mk ?_ ?_; all_goals (repeat' (first | exact trivial | refine sle ?_ | refine ⟨?_,rfl,?_⟩ | refine ⟨?_,by decide,rfl,?_⟩ | fail)))
   show some (FV.pv (vi (10 * n + ((b.toNat : Int) - 48)))) = some (FV.pv (vi (numV (l.take (j + 1)))))
   rw [hs,hsn]
  ·have hj2 : j = l.length := by omega
   subst hj2
   rw [List.take_length]
   refine AL_do2 rfl ⟨_,op_nextStr_end rfl rfl rfl rfl (by rw [hsz]; exact Nat.le_refl _),?_⟩
   (repeat (refine stq ?_))
   have hne : (!((bytesOf l).data.toList == ByteArray.empty.data.toList)) = true:= by
    show (!(l == [])) = true
    cases l with
    | nil => simp at h1
    | cons => rfl
   refine AL_do2 rfl ⟨_,op_strneB (b := true) hne rfl rfl rfl rfl,?_⟩
   (repeat' (first | refine stq ?_ | (refine AL_do2 rfl ?_; first | refine ⟨_,op_call1 rfl rfl rfl rfl (hI),nrmA rfl ?_⟩ | refine ⟨_,op_call1 rfl rfl rfl rfl (k204),nrmA rfl ?_⟩) | (with_reducible refine AL_id ?_); (fail_if_success (refine AL_glit rfl rfl rfl (by first | exact .inl (by with_reducible rfl) | exact .inr (by with_reducible rfl)) ?_)); first | refine AL_gdec rfl rfl rfl (fun hg => ?_) (fun hg => ?_) | refine AL_gnot rfl rfl rfl (fun hg => ?_) (fun hg => ?_) | refine AL_gcases rfl rfl rfl (fun hg => ?_) (fun hg => ?_)))
   refine AL_do2 rfl ⟨_,op_streqB (b := true) (by rw [he]; simp) rfl rfl rfl rfl,?_⟩
   (repeat' (first | refine stq ?_ | (refine AL_do2 rfl ?_; first | refine ⟨_,op_call1 rfl rfl rfl rfl (k204),nrmA rfl ?_⟩) | (with_reducible refine AL_id ?_); (fail_if_success (refine AL_glit rfl rfl rfl (by first | exact .inl (by with_reducible rfl) | exact .inr (by with_reducible rfl)) ?_)); first | refine AL_gdec rfl rfl rfl (fun hg => ?_) (fun hg => ?_) | refine AL_gnot rfl rfl rfl (fun hg => ?_) (fun hg => ?_) | refine AL_gcases rfl rfl rfl (fun hg => ?_) (fun hg => ?_)))
   exact ⟨_,_,rfl,rfl,rfl⟩
def panW (c : TypeId × Value) : Prop := ∃ x : ByteArray,c = (197,.agg #[.string x])
theorem f204f (x : ByteArray) : ACallsP Tryz.prog 204 [.bool false,.str x] (197,.agg #[.string x]):= by
 refine ACallsP.of_body hT Tryz.func204 rfl (by kernel_rfl) rfl ?_
 (repeat (refine stq ?_))
 refine AL_do2 rfl ⟨_,op_mkiface hT rfl rfl rfl rfl rfl,?_⟩
 refine AL_panicV rfl rfl rfl rfl ?_
 (repeat (first | refine then_panic ?_ | refine inblk_panic ?_))
 rfl
structure NumW (x : List UInt8) : Prop where
 dig : ∀ b ∈ x,digB b = true
 l1 : 1 <= x.length
 l4 : x.length <= 3
 itoa : ACalls Tryz.prog 201 [vi (numV x)] (fun r => r = .pv (.str (itoaB (numV x))))
 same : itoaB (numV x) = bytesOf x
def numG (l : List UInt8) : Bool := l.all digB && decide (1 <= l.length) && decide (l.length <= 3) && decide (Lib.decDigits (numV l).toNat = l)
def numO (l : List UInt8) : Option Int := if numG l = true then some (numV l) else none
theorem numG_w {l : List UInt8} (h : numG l = true) : NumW l:= by
 simp only [numG,Bool.and_eq_true,decide_eq_true_eq,List.all_eq_true] at h
 obtain ⟨⟨⟨h1,h2⟩,h3⟩,h4⟩ := h
 have hb := numV_bd h1 h3
 refine ⟨h1,h2,h3,?_,?_⟩
 ·have := f201K (numV l).toNat (by omega)
  rw [show (((numV l).toNat : Nat) : Int) = numV l by omega] at this
  exact this
 ·unfold itoaB; rw [h4]
theorem bytesOf_inj {a b : List UInt8} (h : bytesOf a = bytesOf b) : a = b:= by
 have := congrArg (fun x : ByteArray => x.data.toList) h
 simpa [bytesOf] using this
theorem dec_any {l : List UInt8} {j : Nat} {b : UInt8} (hb : l[j]? = some b) : ∃ c w,Utf8.decode (bytesOf l) j = (c,w) /\ (b.toNat < 128 -> c = b.toNat /\ w = 1) /\ (128 <= b.toNat -> 128 <= c):= by
 by_cases h : b.toNat < 128
 ·exact ⟨_,_,dec_at hb h,fun _ => ⟨rfl,rfl⟩,fun h' => by omega⟩
 ·have hj : j < (bytesOf l).size := (List.getElem?_eq_some_iff.1 hb).1
  have hg : (bytesOf l)[j]'hj = b:= by
   have := (List.getElem?_eq_some_iff.1 hb).2
   exact (rfl : (bytesOf l)[j]'hj = l[j]'(List.getElem?_eq_some_iff.1 hb).1).trans this
  have := decode_high (bytesOf l) j hj (by rw [hg]; omega)
  exact ⟨_,_,rfl,fun h' => by omega,fun _ => this.1⟩
set_option maxHeartbeats 4000000 in
theorem f226f (l : List UInt8) (h : numG l = false) : ACallsB Tryz.prog 226 [.str (bytesOf l)] (fun _ => False) panW:= by
 have k204 := f204t (bytesOf l)
 have k204f := f204f (bytesOf l)
 have hsz := bytesOf_size l
 refine ACallsB.of_body hT Tryz.func226 rfl (by kernel_rfl) rfl ?_
 (repeat (refine stq ?_))
 refine AL_do2 rfl ⟨_,op_rangeStr (by kernel_rfl) rfl rfl rfl,?_⟩
 (repeat (refine stq ?_))
 refine AW_loopC (fun j : Nat => j <= l.length /\ (∀ b ∈ l.take j,digB b = true) /\ (0 < j -> l.length <= 3)) (fun j => mkSt [(0,.pv (.str (bytesOf l))),(3,.pv (vi (numV (l.take j)))),(7,.box 0 0)] [(0,.siter (bytesOf l) j)] 1) (fun j => l.length - j) 0 ⟨Nat.zero_le _,by simp,by omega⟩ ?_ ?_
 ·(refine Le.mk ?_ ?_; all_goals (repeat' (first | exact trivial | refine sle ?_ | refine ⟨?_,rfl,?_⟩ | refine ⟨?_,by decide,rfl,?_⟩ | fail)))
 ·rintro j ⟨hj,hdg,h4⟩
  (repeat (refine stq ?_))
  by_cases hj' : j < l.length
  ·obtain ⟨b,hb⟩ : ∃ b,l[j]? = some b := ⟨l[j],by simp [hj']⟩
   obtain ⟨c,wd,hdec,hc1,hc2⟩ := dec_any hb
   by_cases hok : digB b = true /\ l.length <= 3
   ·obtain ⟨hbd,hl4⟩ := hok
    have hbd' := hbd
    simp only [digB,Bool.and_eq_true,decide_eq_true_eq] at hbd
    obtain ⟨rfl,rfl⟩ := hc1 (by omega)
    have hs : l.take (j + 1) = l.take j ++ [b] := by rw [List.take_add_one,hb]; rfl
    have hv := numV_bd (l := l.take j) hdg (by simp; omega)
    have hsn := numV_snoc (l.take j) b
    have hw := wrap32 (n := (b.toNat : Int) - 48) (by omega)
    have hm : -9223372036854775808 <= 10 * numV (l.take j) /\ 10 * numV (l.take j) <= 9223372036854775807 := by omega
    generalize numV (l.take j) = n at *
    refine AL_do2 rfl ⟨_,op_nextStr rfl rfl rfl rfl (by rw [hsz]; exact hj') hdec,?_⟩
    (repeat' (first | refine stq ?_ | (refine AL_do2 rfl ?_; first | refine ⟨_,op_call1 rfl rfl rfl rfl (k204),nrmA rfl ?_⟩ | refine ⟨_,op_len_str hT rfl rfl rfl rfl rfl,?_⟩) | ((first | (with_reducible refine AL_id ?_); (fail_if_success (refine AL_glit rfl rfl rfl (by first | exact .inl (by with_reducible rfl) | exact .inr (by with_reducible rfl)) ?_)); first | refine AL_gdec rfl rfl rfl (fun hg => ?_) (fun hg => ?_) | refine AL_gnot rfl rfl rfl (fun hg => ?_) (fun hg => ?_) | refine AL_gcases rfl rfl rfl (fun hg => ?_) (fun hg => ?_)) <;> (try (exfalso; omega))) | refine AW_if rfl (fun hc => absurd hc (by omega)) (fun _ => ?_) | refine AW_if rfl (fun _ => ?_) (fun hc => absurd (by omega) hc)))
    rw [show decide (((bytesOf l).size : Int) <= 3) = true from decide_eq_true (by rw [hsz]; omega)]
    (repeat' (first | refine stq ?_ | (refine AL_do2 rfl ?_; first | refine ⟨_,op_call1 rfl rfl rfl rfl (k204),nrmA rfl ?_⟩) | ((first | (with_reducible refine AL_id ?_); (fail_if_success (refine AL_glit rfl rfl rfl (by first | exact .inl (by with_reducible rfl) | exact .inr (by with_reducible rfl)) ?_)); first | refine AL_gdec rfl rfl rfl (fun hg => ?_) (fun hg => ?_) | refine AL_gnot rfl rfl rfl (fun hg => ?_) (fun hg => ?_) | refine AL_gcases rfl rfl rfl (fun hg => ?_) (fun hg => ?_)) <;> (try (exfalso; omega))) | refine AW_if rfl (fun hc => absurd hc (by omega)) (fun _ => ?_) | refine AW_if rfl (fun _ => ?_) (fun hc => absurd (by omega) hc)))
    refine AL_do2 rfl ⟨_,op_bin (k := .i32) (op := .sub) rfl rfl rfl rfl rfl,?_⟩
    refine AL_do2 rfl ⟨_,op_conv hT rfl rfl rfl rfl rfl rfl rfl,?_⟩
    rw [hw]
    (repeat (refine stq ?_))
    refine ⟨j + 1,⟨hj',fun x hx => ?_,fun _ => hl4⟩,by omega,?_⟩
    ·rw [hs] at hx
     rcases List.mem_append.1 hx with hx | hx
     ·exact hdg x hx
     ·simp only [List.mem_singleton] at hx; subst hx; exact hbd'
    (refine Le.mk ?_ ?_; all_goals (repeat' (first | exact trivial | refine sle ?_ | refine ⟨?_,rfl,?_⟩ | refine ⟨?_,by decide,rfl,?_⟩ | fail)))
    show some (FV.pv (vi (10 * n + ((b.toNat : Int) - 48)))) = some (FV.pv (vi (numV (l.take (j + 1)))))
    rw [hs,hsn]
   ·have hbad : ¬ ((48 : Int) <= c /\ (c : Int) <= 57 /\ ((bytesOf l).size : Int) <= 3):= by
     rintro ⟨h1,h2,h3⟩
     refine hok ⟨?_,by omega⟩
     by_cases hlt : b.toNat < 128
     ·have := (hc1 hlt).1
      simp only [digB,Bool.and_eq_true,decide_eq_true_eq]; omega
     ·have := hc2 (by omega); omega
    refine AL_do2 rfl ⟨_,op_nextStr rfl rfl rfl rfl (by rw [hsz]; exact hj') hdec,?_⟩
    (repeat' (first | refine stq ?_ | (refine AL_do2 rfl ?_; first | refine ⟨_,op_len_str hT rfl rfl rfl rfl rfl,?_⟩) | ((first | (with_reducible refine AL_id ?_); (fail_if_success (refine AL_glit rfl rfl rfl (by first | exact .inl (by with_reducible rfl) | exact .inr (by with_reducible rfl)) ?_)); first | refine AL_gdec rfl rfl rfl (fun hg => ?_) (fun hg => ?_) | refine AL_gnot rfl rfl rfl (fun hg => ?_) (fun hg => ?_) | refine AL_gcases rfl rfl rfl (fun hg => ?_) (fun hg => ?_)) <;> (try (exfalso; omega))) | refine AW_if rfl (fun hc => absurd hc (by omega)) (fun _ => ?_) | refine AW_if rfl (fun _ => ?_) (fun hc => absurd (by omega) hc)))
    all_goals (try rw [show decide (((bytesOf l).size : Int) <= 3) = false from decide_eq_false (by omega)])
    all_goals (refine AL_callPn rfl rfl rfl rfl k204f ?_)
    all_goals (repeat (first | refine then_panic ?_ | refine inblk_panic ?_))
    all_goals exact ⟨_,⟨_,rfl⟩,rfl⟩
  ·have hj2 : j = l.length := by omega
   subst hj2
   rw [List.take_length] at hdg ⊢
   refine AL_do2 rfl ⟨_,op_nextStr_end rfl rfl rfl rfl (by rw [hsz]; exact Nat.le_refl _),?_⟩
   (repeat (refine stq ?_))
   cases l with
   | nil =>
    refine AL_do2 rfl ⟨_,op_strneB (b := false) rfl rfl rfl rfl rfl,?_⟩
    (repeat (refine stq ?_))
    refine AL_callPn rfl rfl rfl rfl k204f ?_
    (repeat (first | refine then_panic ?_ | refine inblk_panic ?_))
    exact ⟨_,⟨_,rfl⟩,rfl⟩
   | cons x l =>
    have h4' := h4 (by simp)
    have hb := numV_bd hdg h4'
    have hI := f201K (numV (x :: l)).toNat (by omega)
    rw [show (((numV (x :: l)).toNat : Nat) : Int) = numV (x :: l) by omega] at hI
    have hne : ((itoaB (numV (x :: l))).data.toList == (bytesOf (x :: l)).data.toList) = false:= by
     have hall : (x :: l).all digB = true := List.all_eq_true.2 hdg
     simp only [numG,hall,h4',decide_true,Bool.true_and,Bool.and_true,Bool.and_eq_false_iff,decide_eq_false_iff_not] at h
     rcases h with h | h
     ·simp at h
     ·rw [beq_eq_false_iff_ne]; exact h
    refine AL_do2 rfl ⟨_,op_strneB (b := true) rfl rfl rfl rfl rfl,?_⟩
    (repeat' (first | refine stq ?_ | (refine AL_do2 rfl ?_; first | refine ⟨_,op_call1 rfl rfl rfl rfl (hI),nrmA rfl ?_⟩) | (with_reducible refine AL_id ?_); (fail_if_success (refine AL_glit rfl rfl rfl (by first | exact .inl (by with_reducible rfl) | exact .inr (by with_reducible rfl)) ?_)); first | refine AL_gdec rfl rfl rfl (fun hg => ?_) (fun hg => ?_) | refine AL_gnot rfl rfl rfl (fun hg => ?_) (fun hg => ?_) | refine AL_gcases rfl rfl rfl (fun hg => ?_) (fun hg => ?_)))
    refine AL_do2 rfl ⟨_,op_streqB (b := false) hne rfl rfl rfl rfl,?_⟩
    (repeat (refine stq ?_))
    refine AL_callPn rfl rfl rfl rfl k204f ?_
    (repeat (first | refine then_panic ?_ | refine inblk_panic ?_))
    exact ⟨_,⟨_,rfl⟩,rfl⟩
theorem f226t {l : List UInt8} (h : numG l = true) : ACalls Tryz.prog 226 [.str (bytesOf l)] (fun r => r = .pv (vi (numV l))) :=
 let w := numG_w h
 f226 l w.dig w.l1 w.l4 w.itoa w.same
end Go.Abs
