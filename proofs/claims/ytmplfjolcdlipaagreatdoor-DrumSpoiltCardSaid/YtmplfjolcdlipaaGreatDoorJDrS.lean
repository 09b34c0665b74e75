/- Structs compared; numbers in decimal, as the reference has them. -/
import Derived.Test.YtmplfjolcdlipaaGreatDoorJDrR
import Derived.Test.YtmplfjolcdlipaaGreatDoorJNcK
set_option linter.unusedVariables false
set_option linter.unusedSimpArgs false
namespace Go.Abs
open Go.Proofs
set_option linter.unusedVariables false
set_option linter.unusedSimpArgs false
set_option maxRecDepth 100000
theorem eqI (d : Nat) : Nonempty (EqT Tryz.prog (d + 1) 3 1) := eqT_int hT (t := 3) rfl rfl rfl
theorem eqS67 (d : Nat) : ∃ E : EqT Tryz.prog (d + 2) 67 2,E.val = intsV := eqT_struct [(3,1),(3,1)] hT rfl rfl rfl (by kernel_rfl) (by kernel_rfl) (by kernel_rfl) rfl (fun p hp => by simp only [List.mem_cons,List.not_mem_nil,or_false] at hp; rcases hp with rfl | rfl <;> exact eqI d)
theorem aggEq67 : AggEq Tryz.prog 67 2 := aggEq_of (by kernel_rfl) (eqS67 9998)
theorem aggEq103 : AggEq Tryz.prog 103 4 := aggEq_of (by kernel_rfl) (eqT_struct [(67,2),(67,2)] hT rfl rfl rfl (by kernel_rfl) (by kernel_rfl) (by kernel_rfl) rfl (fun p hp => by simp only [List.mem_cons,List.not_mem_nil,or_false] at hp; rcases hp with rfl | rfl <;> exact ⟨(eqS67 9997).choose⟩))
theorem aggEq137 : AggEq Tryz.prog 137 4 := aggEq_of (by kernel_rfl) (eqT_struct [(67,2),(67,2)] hT rfl rfl rfl (by kernel_rfl) (by kernel_rfl) (by kernel_rfl) rfl (fun p hp => by simp only [List.mem_cons,List.not_mem_nil,or_false] at hp; rcases hp with rfl | rfl <;> exact ⟨(eqS67 9997).choose⟩))
theorem aggEq74 : AggEq Tryz.prog 74 3 := aggEq_of (by kernel_rfl) (eqT_struct [(3,1),(3,1),(3,1)] hT rfl rfl rfl (by kernel_rfl) (by kernel_rfl) (by kernel_rfl) rfl (fun p hp => by simp only [List.mem_cons,List.not_mem_nil,or_false] at hp; rcases hp with rfl | rfl | rfl <;> exact eqI 9998))
theorem aggEq77 : AggEq Tryz.prog 77 6 := aggEq_of (by kernel_rfl) (eqT_struct [(3,1),(3,1),(3,1),(3,1),(3,1),(3,1)] hT rfl rfl rfl (by kernel_rfl) (by kernel_rfl) (by kernel_rfl) rfl (fun p hp => by simp only [List.mem_cons,List.not_mem_nil,or_false] at hp; rcases hp with rfl | rfl | rfl | rfl | rfl | rfl <;> exact eqI 9998))
theorem wrap8 {n : Nat} (h : n < 10) : IntKind.u8.wrap (48 + (n : Int)) = 48 + n:= by
 unfold IntKind.wrap; simp [IntKind.signed,IntKind.bits]; omega
theorem wrap64 {n : Nat} (h : n < 1000000) : IntKind.i64.wrap (n : Int) = n:= by
 unfold IntKind.wrap; simp [IntKind.signed,IntKind.bits]; omega
theorem one_byte {n : Nat} (h : n < 10) : strOfNums [48 + (n : Int)] = bytesOf [UInt8.ofNat (48 + n)]:= by
 unfold strOfNums bytesOf
 simp only [List.map_cons,List.map_nil]
 rw [show (48 + (n : Int)).toNat = 48 + n by omega]
theorem dec_last (m : Nat) : ∃ q,Lib.decDigits m = q ++ [UInt8.ofNat (48 + m % 10)] /\ (10 <= m -> q = Lib.decDigits (m / 10)) /\ (m < 10 -> q = []):= by
 by_cases h : m < 10
 ·refine ⟨[],?_,fun h2 => by omega,fun _ => rfl⟩
  rw [dec_one h,show m % 10 = m by omega]; rfl
 ·refine ⟨Lib.decDigits (m / 10),?_,fun _ => rfl,fun h2 => absurd h2 h⟩
  conv => lhs; unfold Lib.decDigits
  rw [dif_neg h]
theorem dec_len : ∀ (k n : Nat),n < 10 ^ k -> (Lib.decDigits n).length <= max 1 k
 | 0,n,h => by
  have : n < 10 := by simp at h; omega
  rw [dec_one this]; simp
 | k + 1,n,h => by
  obtain ⟨q,h1,h2,h3⟩ := dec_last n
  rw [h1,List.length_append,List.length_singleton]
  by_cases h10 : 10 <= n
  ·rw [h2 h10]
   have := dec_len k (n / 10) (by rw [Nat.pow_succ] at h; omega)
   have hk : 1 <= k:= by
    cases k with
    | zero => simp at h; omega
    | succ k => omega
   omega
  ·rw [h3 (by omega)]; simp
set_option maxHeartbeats 4000000 in
theorem f112 (n : Nat) (hn : n < 1000000) : ACalls Tryz.prog 112 [vi n] (fun r => r = .pv (.str (bytesOf (Lib.decDigits n)))):= by
 have h10 : (n : Int).tmod 10 = ((n % 10 : Nat) : Int) := rfl
 have w8 := wrap8 (n := n % 10) (by omega)
 refine ACalls.of_body hT Tryz.func112 rfl (by kernel_rfl) rfl ?_
 (repeat (refine stq ?_))
 refine AL_do2 rfl ⟨_,op_rem rfl rfl rfl rfl (by decide),?_⟩
 rw [h10]
 (repeat' (first | refine stq ?_ | (refine AL_do2 rfl ?_; first | refine ⟨_,op_conv hT rfl rfl rfl rfl rfl rfl rfl,?_⟩) | (with_reducible refine AL_id ?_); (fail_if_success (refine AL_glit rfl rfl rfl (by first | exact .inl (by with_reducible rfl) | exact .inr (by with_reducible rfl)) ?_)); first | refine AL_gdec rfl rfl rfl (fun hg => ?_) (fun hg => ?_) | refine AL_gnot rfl rfl rfl (fun hg => ?_) (fun hg => ?_) | refine AL_gcases rfl rfl rfl (fun hg => ?_) (fun hg => ?_)))
 rw [w8]
 (repeat (refine stq ?_))
 refine AL_do2 rfl ⟨_,op_convBytes (ns := [48 + ((n % 10 : Nat) : Int)]) hT rfl rfl rfl rfl rfl rfl rfl rfl (by simp) rfl,?_⟩
 rw [one_byte (by omega)]
 (repeat (refine stq ?_))
 have hdl := dec_len 6 n hn
 refine AW_loopC (fun i : Nat × List UInt8 => i.1 < 1000000 /\ ∃ q,Lib.decDigits i.1 = q ++ [UInt8.ofNat (48 + i.1 % 10)] /\ q ++ i.2 = Lib.decDigits n /\ (10 <= i.1 -> q = Lib.decDigits (i.1 / 10)) /\ (i.1 < 10 -> q = [])) (fun i => mkSt [(0,.pv (vi i.1)),(3,.pv (.str (bytesOf i.2)))] [] 1) (fun i => i.1) (n,[UInt8.ofNat (48 + n % 10)]) ?_ ?_ ?_
 ·obtain ⟨q,h1,h2,h3⟩ := dec_last n
  exact ⟨hn,q,h1,h1.symm,h2,h3⟩
 ·(refine Le.mk ?_ ?_; all_goals (repeat' (first | exact trivial | refine sle ?_ | refine ⟨?_,rfl,?_⟩ | refine ⟨?_,by decide,rfl,?_⟩ | fail)))
 ·rintro ⟨m,suf⟩ ⟨hm,q,h1,h2,h3,h4⟩
  dsimp only at hm h1 h2 h3 h4 ⊢
  have hsl : suf.length <= 6:= by
   have := congrArg List.length h2
   rw [List.length_append] at this; omega
  (repeat (refine stq ?_))
  refine AW_if rfl (fun hc => ?_) (fun hc => ?_)
  ·have hm10 : 10 <= m := by omega
   have hq : IntKind.i64.wrap ((m : Int).tdiv 10) = ((m / 10 : Nat) : Int) := by rw [show (m : Int).tdiv 10 = ((m / 10 : Nat) : Int) from rfl,wrap64 (by omega)]
   have hr : ((m / 10 : Nat) : Int).tmod 10 = ((m / 10 % 10 : Nat) : Int) := rfl
   have w8' := wrap8 (n := m / 10 % 10) (by omega)
   have hs1 : (bytesOf [UInt8.ofNat (48 + m / 10 % 10)]).size + (bytesOf suf).size <= 1000000 := by rw [bytesOf_size,bytesOf_size]; simp; omega
   (repeat (refine stq ?_))
   refine AL_do2 rfl ⟨_,op_quo rfl rfl rfl rfl (by decide),?_⟩
   rw [hq]
   (repeat (refine stq ?_))
   refine AL_do2 rfl ⟨_,op_rem rfl rfl rfl rfl (by decide),?_⟩
   rw [hr]
   (repeat' (first | refine stq ?_ | (refine AL_do2 rfl ?_; first | refine ⟨_,op_conv hT rfl rfl rfl rfl rfl rfl rfl,?_⟩) | (with_reducible refine AL_id ?_); (fail_if_success (refine AL_glit rfl rfl rfl (by first | exact .inl (by with_reducible rfl) | exact .inr (by with_reducible rfl)) ?_)); first | refine AL_gdec rfl rfl rfl (fun hg => ?_) (fun hg => ?_) | refine AL_gnot rfl rfl rfl (fun hg => ?_) (fun hg => ?_) | refine AL_gcases rfl rfl rfl (fun hg => ?_) (fun hg => ?_)))
   rw [w8']
   (repeat (refine stq ?_))
   refine AL_do2 rfl ⟨_,op_convBytes (ns := [48 + ((m / 10 % 10 : Nat) : Int)]) hT rfl rfl rfl rfl rfl rfl rfl rfl (by simp) rfl,?_⟩
   rw [one_byte (by omega)]
   (repeat (refine stq ?_))
   refine AL_do2 rfl ⟨_,op_strcat (u := bytesOf [UInt8.ofNat (48 + m / 10 % 10)]) (v := bytesOf suf) rfl rfl rfl rfl hs1,?_⟩
   rw [show bytesOf [UInt8.ofNat (48 + m / 10 % 10)] ++ bytesOf suf = bytesOf (UInt8.ofNat (48 + m / 10 % 10) :: suf) from bytes_ext (by simp [bytesOf])]
   (repeat (refine stq ?_))
   obtain ⟨q',g1,g2,g3⟩ := dec_last (m / 10)
   refine ⟨(m / 10,UInt8.ofNat (48 + m / 10 % 10) :: suf),⟨by dsimp only; omega,q',g1,?_,g2,g3⟩,by dsimp only; omega,?_⟩
   ·dsimp only
    rw [<- h2,h3 hm10,g1]; simp
   ·dsimp only
    (refine Le.mk ?_ ?_; all_goals (repeat' (first | exact trivial | refine sle ?_ | refine ⟨?_,rfl,?_⟩ | refine ⟨?_,by decide,rfl,?_⟩ | fail)))
  ·have hm10 : m < 10 := by omega
   have hq := h4 hm10
   subst hq
   rw [List.nil_append] at h2
   subst h2
   (repeat (refine stq ?_))
   exact ⟨_,_,rfl,rfl,rfl⟩
def wordsR (l : List Int) : ByteArray := lineB ByteArray.empty l
end Go.Abs
namespace Go.Abs
open Go.Proofs
set_option linter.unusedVariables false
set_option linter.unusedSimpArgs false
set_option maxRecDepth 100000
def SmallL (l : List Int) : Prop := ∀ x ∈ l,0 <= x /\ x < 1000000
theorem itoa_sz {x : Int} (h : 0 <= x /\ x < 1000000) : (itoaB x).size <= 20:= by
 have := dec_len 6 x.toNat (by omega)
 show (Lib.decDigits x.toNat).length <= 20
 omega
theorem lineB_sz {nm : ByteArray} : ∀ {nums : List Int},SmallL nums -> (lineB nm nums).size <= nm.size + 21 * nums.length:= by
 intro nums
 induction nums using snocInd with
 | h0 => intro _; simp [lineB]
 | h1 l x ih =>
  intro h
  have h1 := ih fun y hy => h y (by simp [hy])
  have h2 := itoa_sz (h x (by simp))
  have h3 : spB.size = 1 := rfl
  rw [lineB_snoc,app_size,app_size]
  simp only [List.length_append,List.length_singleton]
  omega
theorem f111 (l : List Int) (hs : SmallL l) (hl : l.length <= 1000) : ACalls Tryz.prog 111 [eInts l] (fun r => r = .pv (.str (wordsR l))):= by
 refine ACalls.of_body hT Tryz.func111 rfl (by kernel_rfl) rfl ?_
 (repeat (refine stq ?_))
 refine AW_loopC (fun k : Nat => k <= l.length) (fun k => mkSt [(0,.pv (eInts l)),(3,.pv (.str (wordsR (l.take k)))),(4,.pv (vi k))] [] 0) (fun k => l.length - k) 0 (Nat.zero_le _) ?_ ?_
 ·(refine Le.mk ?_ ?_; all_goals (repeat' (first | exact trivial | refine sle ?_ | refine ⟨?_,rfl,?_⟩ | refine ⟨?_,by decide,rfl,?_⟩ | fail)))
 ·intro k hk
  (repeat (refine stq ?_))
  refine AW_if rfl (fun hc => ?_) (fun hc => ?_)
  ·have hk' : k < l.length := by omega
   obtain ⟨x,hx⟩ : ∃ x,l[k]? = some x := ⟨l[k],by simp [hk']⟩
   have e1 := get_map eInt hx
   have hb := hs x (List.mem_of_getElem? hx)
   have k112 : ACalls Tryz.prog 112 [vi x] (fun r => r = .pv (.str (itoaB x))):= by
    have := f112 x.toNat (by omega)
    rw [show ((x.toNat : Nat) : Int) = x by omega] at this
    exact this
   have hsn : wordsR (l.take (k + 1)) = (wordsR (l.take k) ++ spB) ++ itoaB x:= by
    rw [List.take_add_one,hx]
    show lineB _ (l.take k ++ [x]) = _
    rw [lineB_snoc,ByteArray.append_assoc]; rfl
   have hls := lineB_sz (nm := ByteArray.empty) (nums := l.take k) fun y hy => hs y (List.mem_of_mem_take hy)
   have htk : (l.take k).length <= 1000 := by simp; omega
   have he0 : ByteArray.empty.size = 0 := rfl
   have his := itoa_sz hb
   have hws : (wordsR (l.take k)).size <= 21000 := by unfold wordsR; omega
   have hsp : spB.size = 1 := rfl
   have h1 : (wordsR (l.take k)).size + spB.size <= 1000000 := by omega
   have h2 : (wordsR (l.take k) ++ spB).size + (itoaB x).size <= 1000000 := by rw [app_size]; omega
   (repeat (refine stq ?_))
   refine AL_do2 rfl ⟨_,op_strcat (v := spB) rfl rfl rfl rfl h1,?_⟩
   (repeat' (first | refine stq ?_ | (refine AL_do2 rfl ?_; first | refine ⟨_,op_call1 rfl rfl rfl rfl (k112),nrmA rfl ?_⟩) | (with_reducible refine AL_id ?_); (fail_if_success (refine AL_glit rfl rfl rfl (by first | exact .inl (by with_reducible rfl) | exact .inr (by with_reducible rfl)) ?_)); first | refine AL_gdec rfl rfl rfl (fun hg => ?_) (fun hg => ?_) | refine AL_gnot rfl rfl rfl (fun hg => ?_) (fun hg => ?_) | refine AL_gcases rfl rfl rfl (fun hg => ?_) (fun hg => ?_)))
   refine AL_do2 rfl ⟨_,op_strcat (u := wordsR (l.take k) ++ spB) rfl rfl rfl rfl h2,?_⟩
   (repeat (refine stq ?_))
   refine ⟨k + 1,hk',by omega,?_⟩
   rw [hsn]
   (refine Le.mk ?_ ?_; all_goals (repeat' (first | exact trivial | refine sle ?_ | refine ⟨?_,rfl,?_⟩ | refine ⟨?_,by decide,rfl,?_⟩ | fail)))
  ·have hk' : k = l.length := by omega
   rw [hk',List.take_length]
   (repeat (refine stq ?_))
   exact ⟨_,_,rfl,rfl,rfl⟩
theorem line_words (nm : ByteArray) (l : List Int) : nm ++ wordsR l = lineB nm l:= by
 induction l using snocInd with
 | h0 => unfold wordsR lineB; simp
 | h1 l x ih =>
  unfold wordsR at ih ⊢
  rw [lineB_snoc,lineB_snoc,<- ByteArray.append_assoc,ih]
def sB (L : List ByteArray) : ByteArray := L.foldl (fun s x => (s ++ x) ++ nlB) ByteArray.empty
theorem sB_snoc (L : List ByteArray) (x : ByteArray) : sB (L ++ [x]) = (sB L ++ x) ++ nlB := by simp [sB]
def jl (L : List ByteArray) : List UInt8 := L.flatMap fun x => x.data.toList ++ [10]
theorem sB_data (L : List ByteArray) : (sB L).data.toList = jl L:= by
 induction L using snocInd with
 | h0 => rfl
 | h1 L x ih =>
  rw [sB_snoc]
  simp only [ByteArray.data_append,Array.toList_append,ih,jl,List.flatMap_append,List.flatMap_cons,List.flatMap_nil,List.append_nil,List.append_assoc]
  rfl
theorem tail_jl (r : List (List UInt8)) (e : List UInt8) : Lib.joinTail [10] (r ++ [e]) = [10] ++ (r.flatMap fun x => x ++ [10]) ++ e:= by
 induction r with
 | nil => simp [Lib.joinTail]
 | cons x r ih =>
  have hc : Lib.joinTail [10] (x :: r ++ [e]) = ([10] ++ x) ++ Lib.joinTail [10] (r ++ [e]) := rfl
  rw [hc,ih,List.flatMap_cons]
  simp only [List.append_assoc]
theorem sB_join (L : List ByteArray) (E : ByteArray) : sB L ++ E = joinB (L ++ [E]) nlB:= by
 apply bytes_ext
 rw [ByteArray.data_append,Array.toList_append,sB_data]
 show _ = Lib.join ((L ++ [E]).map (·.data.toList)) [10]
 cases L with
 | nil => simp [jl,Lib.join_one]
 | cons x r =>
  rw [List.cons_append,List.map_cons,Lib.join_cons,List.map_append,List.map_cons,List.map_nil,tail_jl]
  simp [jl,List.flatMap_map]
end Go.Abs
