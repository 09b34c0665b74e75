/- Plain: a string cut at single bytes; the digits of a number; numbers of words. -/
import Derived.Test.YtkmclnjmabljdaaGreatDoorKNiA
import Derived.Test.YtkmclnjmabljdaaGreatDoorKNcK
set_option linter.unusedVariables false
set_option linter.unusedSimpArgs false
namespace Go.Abs
open Go.Proofs Go.RowKit
set_option linter.unusedVariables false
set_option linter.unusedSimpArgs false
set_option maxRecDepth 100000
def consH (b : UInt8) : List (List UInt8) -> List (List UInt8)
 | [] => [[b]]
 | x :: xs => (b :: x) :: xs
def splitS (c : UInt8) : List UInt8 -> List (List UInt8)
 | [] => [[]]
 | b :: r => if b = c then [] :: splitS c r else consH b (splitS c r)
theorem index_cons_ne {b c : UInt8} (h : b ≠ c) (l : List UInt8) : Lib.indexByte (b :: l) c = if Lib.indexByte l c = -1 then -1 else Lib.indexByte l c + 1:= by
 simp [Lib.indexByte,h]
theorem splitF_ne {b c : UInt8} (h : b ≠ c) : ∀ (n : Nat) (l : List UInt8),splitF n c (b :: l) = consH b (splitF n c l)
 | 0,l => rfl
 | n + 1,l => by
  have hge := Lib.indexByte_ge l c
  simp only [splitF,index_cons_ne h]
  by_cases hi : Lib.indexByte l c = -1
  ·rw [if_pos hi,hi]; rfl
  ·rw [if_neg hi,if_neg (by omega),if_neg (by omega)]
   have e1 : (Lib.indexByte l c + 1).toNat = (Lib.indexByte l c).toNat + 1 := by omega
   rw [e1]; rfl
theorem splitF_eq (c : UInt8) (n : Nat) (l : List UInt8) : splitF (n + 1) c (c :: l) = [] :: splitF n c l:= by
 have : Lib.indexByte (c :: l) c = 0 := by simp [Lib.indexByte]
 simp only [splitF,this]
 rfl
theorem splitF_S (c : UInt8) : ∀ (l : List UInt8) (n : Nat),Lib.countByte l c <= n -> splitF n c l = splitS c l
 | [],n,_ => by
  cases n with
  | zero => rfl
  | succ n => simp [splitF,Lib.indexByte,splitS]
 | b :: l,n,h => by
  by_cases hb : b = c
  ·subst hb
   unfold Lib.countByte at h
   rw [List.count_cons_self] at h
   obtain ⟨m,rfl⟩ : ∃ m,n = m + 1 := ⟨n - 1,by omega⟩
   rw [splitF_eq,splitF_S b l m (by unfold Lib.countByte; omega),splitS,if_pos rfl]
  ·unfold Lib.countByte at h
   rw [List.count_cons_of_ne hb] at h
   rw [splitF_ne hb,splitF_S c l n h,splitS,if_neg hb]
theorem splitL_S (c : UInt8) (l : List UInt8) : splitL c l = splitS c l:= by
 have h : Lib.countByte l c <= l.length := List.count_le_length
 exact splitF_S c l _ (by unfold splitN; omega)
theorem splitS_ne (c : UInt8) : ∀ (l : List UInt8),splitS c l ≠ []
 | [] => by simp [splitS]
 | b :: l => by
  unfold splitS
  split
  ·simp
  ·cases h : splitS c l <;> simp [consH]
theorem splitS_one {c : UInt8} : ∀ {x : List UInt8},c ∉ x -> splitS c x = [x]
 | [],_ => rfl
 | b :: x,h => by
  simp only [List.mem_cons,not_or] at h
  rw [splitS,if_neg (fun e => h.1 e.symm),splitS_one h.2]; rfl
theorem splitS_app {c : UInt8} : ∀ {x : List UInt8} (r : List UInt8),c ∉ x -> splitS c (x ++ c :: r) = x :: splitS c r
 | [],r,_ => by simp [splitS]
 | b :: x,r,h => by
  simp only [List.mem_cons,not_or] at h
  rw [List.cons_append,splitS,if_neg (fun e => h.1 e.symm),splitS_app r h.2]; rfl
def joinW (w : List UInt8) (ws : List (List UInt8)) : List UInt8 := w ++ ws.flatMap fun x => 32 :: x
theorem split_words : ∀ (ws : List (List UInt8)) (w : List UInt8),(32 : UInt8) ∉ w -> (∀ x ∈ ws,(32 : UInt8) ∉ x) -> splitS 32 (joinW w ws) = w :: ws
 | [],w,h,_ => by simp [joinW,splitS_one h]
 | x :: ws,w,h,hs => by
  have ih := split_words ws x (hs x (by simp)) fun y hy => hs y (by simp [hy])
  unfold joinW at ih ⊢
  rw [List.flatMap_cons]
  show splitS 32 (w ++ 32 :: (x ++ ws.flatMap fun x => 32 :: x)) = _
  rw [splitS_app _ h,ih]
theorem split_lines : ∀ (L : List (List UInt8)),(∀ x ∈ L,(10 : UInt8) ∉ x) -> splitS 10 (L.flatMap fun x => x ++ [10]) = L ++ [[]]
 | [],_ => rfl
 | x :: L,h => by
  have ih := split_lines L fun y hy => h y (by simp [hy])
  rw [List.flatMap_cons,List.append_assoc]
  show splitS 10 (x ++ 10 :: (L.flatMap fun x => x ++ [10])) = _
  rw [splitS_app _ (h x (by simp)),ih]; rfl
def dD (n : Int) : List UInt8 := Lib.decDigits n.toNat
theorem dec_unf (m : Nat) : Lib.decDigits m = if m < 10 then [UInt8.ofNat (48 + m)] else Lib.decDigits (m / 10) ++ [UInt8.ofNat (48 + m % 10)]:= by
 rw [Lib.decDigits]
 split <;> rfl
theorem dig_of {k : Nat} (h : k < 10) : digB (UInt8.ofNat (48 + k)) = true /\ (UInt8.ofNat (48 + k)).toNat = 48 + k:= by
 have : (UInt8.ofNat (48 + k)).toNat = 48 + k := by simp; omega
 refine ⟨?_,this⟩
 simp only [digB,Bool.and_eq_true,decide_eq_true_eq]
 omega
theorem dec_dig : ∀ (k m : Nat),m < 10 ^ k -> (∀ b ∈ Lib.decDigits m,digB b = true) /\ numV (Lib.decDigits m) = m
 | 0,m,h => by
  have : m = 0 := by simpa using h
  subst this
  rw [dec_unf,if_pos (by decide)]
  decide
 | k + 1,m,h => by
  rw [dec_unf]
  split
  ·rename_i hm
   obtain ⟨h1,h2⟩ := dig_of hm
   refine ⟨fun b hb => by simp only [List.mem_singleton] at hb; subst hb; exact h1,?_⟩
   simp only [numV,List.foldl_cons,List.foldl_nil,h2]; omega
  ·obtain ⟨g1,g2⟩ := dec_dig k (m / 10) (by rw [Nat.pow_succ] at h; omega)
   obtain ⟨h1,h2⟩ := dig_of (k := m % 10) (by omega)
   refine ⟨fun b hb => ?_,?_⟩
   ·rcases List.mem_append.1 hb with hb | hb
    ·exact g1 b hb
    ·simp only [List.mem_singleton] at hb; subst hb; exact h1
   ·rw [numV_snoc,g2,h2]; omega
theorem dec_one {n : Nat} (h : n < 10) : Lib.decDigits n = [UInt8.ofNat (48 + n)]:= by
 unfold Lib.decDigits; simp [h]
theorem dec_last (m : Nat) : ∃ q,Lib.decDigits m = q ++ [UInt8.ofNat (48 + m % 10)] /\ (10 <= m -> q = Lib.decDigits (m / 10)) /\ (m < 10 -> q = []):= by
 by_cases h : m < 10
 ·refine ⟨[],?_,fun h2 => by omega,fun _ => rfl⟩
  rw [dec_one h,show m % 10 = m by omega]; rfl
 ·refine ⟨Lib.decDigits (m / 10),?_,fun _ => rfl,fun h2 => absurd h2 h⟩
  conv => lhs; unfold Lib.decDigits
  rw [dif_neg h]
theorem dec_len : ∀ (k n : Nat),n < 10 ^ k -> (Lib.decDigits n).length <= max 1 k
 | 0,n,h => by
  have : n < 10 := by simp at h; omega
  rw [dec_one this]; simp
 | k + 1,n,h => by
  obtain ⟨q,h1,h2,h3⟩ := dec_last n
  rw [h1,List.length_append,List.length_singleton]
  by_cases h10 : 10 <= n
  ·rw [h2 h10]
   have := dec_len k (n / 10) (by rw [Nat.pow_succ] at h; omega)
   have hk : 1 <= k:= by
    cases k with
    | zero => simp at h; omega
    | succ k => omega
   omega
  ·rw [h3 (by omega)]; simp
theorem num_dD {n : Int} (h : 0 <= n /\ n <= 999) : numO (dD n) = some n:= by
 obtain ⟨h1,h2⟩ := dec_dig 3 n.toNat (by omega)
 have hv : numV (dD n) = n := by unfold dD; rw [h2]; omega
 have hl : (dD n).length <= 3 := by have := dec_len 3 n.toNat (by omega); unfold dD; omega
 have hp : 1 <= (dD n).length := by unfold dD; rw [dec_unf]; split <;> simp
 have hg : numG (dD n) = true:= by
  simp only [numG,Bool.and_eq_true,decide_eq_true_eq,List.all_eq_true]
  refine ⟨⟨⟨h1,hp⟩,hl⟩,?_⟩
  rw [hv]; rfl
 unfold numO
 rw [if_pos hg,hv]
theorem dD_no {n : Int} (h : 0 <= n /\ n <= 999) : (32 : UInt8) ∉ dD n /\ (10 : UInt8) ∉ dD n:= by
 obtain ⟨h1,_⟩ := dec_dig 4 n.toNat (by omega)
 refine ⟨fun hm => ?_,fun hm => ?_⟩
 ·have := h1 _ hm; revert this; decide
 ·have := h1 _ hm; revert this; decide
theorem line_data (nm : ByteArray) (l : List Int) : (lineB nm l).data.toList = joinW nm.data.toList (l.map dD):= by
 induction l using snocInd with
 | h0 => simp [lineB,joinW]
 | h1 l x ih =>
  rw [lineB_snoc,ByteArray.data_append,Array.toList_append,ih]
  simp only [joinW,List.map_append,List.flatMap_append,List.map_cons,List.map_nil,List.flatMap_cons,List.flatMap_nil,List.append_nil,List.append_assoc]
  rw [ByteArray.data_append,Array.toList_append]
  rfl
theorem splitF_each (c : UInt8) : ∀ (n : Nat) (l x : List UInt8),x ∈ splitF n c l -> x.length <= l.length
 | 0,l,x,h => by simp only [splitF,List.mem_singleton] at h; subst h; exact Nat.le_refl _
 | n + 1,l,x,h => by
  unfold splitF at h
  split at h
  ·simp only [List.mem_singleton] at h; subst h; exact Nat.le_refl _
  ·rcases List.mem_cons.1 h with rfl | h
   ·simp; omega
   ·have := splitF_each c n _ x h
    simp only [List.length_drop] at this; omega
theorem splitL_each {c : UInt8} {l x : List UInt8} (h : x ∈ splitL c l) : x.length <= l.length := splitF_each c _ l x h
theorem splitL_len (c : UInt8) (l : List UInt8) : 1 <= (splitL c l).length /\ (splitL c l).length <= l.length + 1:= by
 have := splitF_len c (splitN c l) l
 have h2 : splitN c l <= l.length := by unfold splitN; omega
 unfold splitL; omega
def numsR (ws : List (List UInt8)) : Option (List Int) := if ws.all numG = true then some (ws.map numV) else none
theorem numV_nn {l : List UInt8} (h : numG l = true) : 0 <= numV l /\ numV l <= 999:= by
 have w := numG_w h
 have := numV_bd w.dig w.l4
 omega
theorem numsR_ok {ws : List (List UInt8)} {r : List Int} (h : numsR ws = some r) : r.length = ws.length /\ ∀ x ∈ r,0 <= x /\ x <= 999:= by
 unfold numsR at h
 split at h
 ·rename_i hg
  simp only [Option.some.injEq] at h
  subst h
  refine ⟨by simp,fun x hx => ?_⟩
  obtain ⟨w,hw,rfl⟩ := List.mem_map.1 hx
  exact numV_nn (List.all_eq_true.1 hg w hw)
 ·cases h
theorem splitS_len (c : UInt8) (l : List UInt8) : 1 <= (splitS c l).length /\ (splitS c l).length <= l.length + 1:= by
 rw [<- splitL_S]; exact splitL_len c l
theorem splitS_each {c : UInt8} {l x : List UInt8} (h : x ∈ splitS c l) : x.length <= l.length:= by
 rw [<- splitL_S] at h; exact splitL_each h
theorem numG_dD {n : Int} (h : 0 <= n /\ n <= 999) : numG (dD n) = true /\ numV (dD n) = n:= by
 have e := num_dD h
 unfold numO at e
 split at e
 ·rename_i hg
  exact ⟨hg,by simpa using e⟩
 ·cases e
theorem numsR_dD {l : List Int} (h : ∀ x ∈ l,0 <= x /\ x <= 999) : numsR (l.map dD) = some l:= by
 unfold numsR
 rw [if_pos (List.all_eq_true.2 fun x hx => by obtain ⟨n,hn,rfl⟩ := List.mem_map.1 hx; exact (numG_dD (h n hn)).1),List.map_map]
 have : ∀ m : List Int,(∀ x ∈ m,0 <= x /\ x <= 999) -> m.map (numV ∘ dD) = m:= by
  intro m
  induction m with
  | nil => intro _; rfl
  | cons n m ih =>
   intro hm
   rw [List.map_cons,ih fun x hx => hm x (by simp [hx])]
   congr 1
   exact (numG_dD (hm n (by simp))).2
 rw [this l h]
theorem data_bytes (s : List UInt8) : (bytesOf s).data.toList = s := by simp [bytesOf]
theorem consH_set {c b' : UInt8} (x : UInt8) (L : List (List UInt8)) (k j : Nat) (y : List UInt8) (hL : L ≠ []) (hk : L[k]? = some y) : ∃ k' j' y',(consH x L)[k']? = some y' /\ y'[j']? = y[j]? /\ consH x (L.set k (y.set j b')) = (consH x L).set k' (y'.set j' b'):= by
 match L,k with
 | z :: L,0 =>
  simp only [List.getElem?_cons_zero,Option.some.injEq] at hk
  subst hk
  exact ⟨0,j + 1,x :: z,rfl,by simp,rfl⟩
 | z :: L,k + 1 =>
  simp only [List.getElem?_cons_succ] at hk
  exact ⟨k + 1,j,y,by simpa [consH] using hk,rfl,rfl⟩
theorem splitS_set {c b b' : UInt8} (hb : b ≠ c) (hb' : b' ≠ c) : ∀ (l : List UInt8) (i : Nat),l[i]? = some b -> ∃ k j y,(splitS c l)[k]? = some y /\ y[j]? = some b /\ splitS c (l.set i b') = (splitS c l).set k (y.set j b')
 | [],i,h => by simp at h
 | x :: l,0,h => by
  simp only [List.getElem?_cons_zero,Option.some.injEq] at h
  subst h
  have hne := splitS_ne c l
  rw [List.set_cons_zero,show splitS c (b' :: l) = consH b' (splitS c l) by rw [splitS,if_neg hb'],show splitS c (x :: l) = consH x (splitS c l) by rw [splitS,if_neg hb]]
  cases hs : splitS c l with
  | nil => exact absurd hs hne
  | cons z L => exact ⟨0,0,x :: z,rfl,rfl,rfl⟩
 | x :: l,i + 1,h => by
  simp only [List.getElem?_cons_succ] at h
  obtain ⟨k,j,y,h1,h2,h3⟩ := splitS_set hb hb' l i h
  rw [List.set_cons_succ,splitS,splitS]
  by_cases hx : x = c
  ·rw [if_pos hx,if_pos hx,h3]
   exact ⟨k + 1,j,y,by simpa using h1,h2,rfl⟩
  ·rw [if_neg hx,if_neg hx,h3]
   obtain ⟨k',j',y',g1,g2,g3⟩ := consH_set (c := c) (b' := b') x (splitS c l) k j y (splitS_ne c l) h1
   exact ⟨k',j',y',g1,by rw [g2,h2],g3⟩
theorem bsum_set (b' : UInt8) : ∀ (x : List UInt8) (p : Int) (j : Nat) (b : UInt8),x[j]? = some b -> bsum (x.set j b') p = bsum x p + ((b'.toNat : Int) - b.toNat) * (p + j)
 | [],p,j,b,h => by simp at h
 | y :: x,p,0,b,h => by
  simp only [List.getElem?_cons_zero,Option.some.injEq] at h
  subst h
  simp only [List.set_cons_zero,bsum,Int.natCast_zero,Int.add_zero,Int.sub_mul]
  omega
 | y :: x,p,j + 1,b,h => by
  simp only [List.getElem?_cons_succ] at h
  simp only [List.set_cons_succ,bsum,bsum_set b' x (p + 1) j b h]
  rw [show p + 1 + (j : Int) = p + ((j + 1 : Nat) : Int) by omega]
  omega
theorem sumI_cons (m : Int) (M : List Int) : sumI (m :: M) = m + sumI M := rfl
theorem sumI_set : ∀ (M : List Int) (k : Nat) (u v : Int),M[k]? = some u -> sumI (M.set k v) = sumI M + (v - u)
 | [],k,u,v,h => by simp at h
 | m :: M,0,u,v,h => by
  simp only [List.getElem?_cons_zero,Option.some.injEq] at h
  subst h
  simp only [List.set_cons_zero,sumI_cons]
  omega
 | m :: M,k + 1,u,v,h => by
  simp only [List.getElem?_cons_succ] at h
  simp only [List.set_cons_succ,sumI_cons,sumI_set M k u v h]
  omega
theorem ito1 {k : Int} (h : 0 <= k /\ k < 10) : (itoaB k).data.toList = [UInt8.ofNat (48 + k.toNat)]:= by
 show Lib.decDigits k.toNat = _
 rw [dec_unf,if_pos (by omega)]
theorem ofNat_inj {a b : Nat} (ha : a < 256) (hb : b < 256) (h : UInt8.ofNat a = UInt8.ofNat b) : a = b:= by
 have := congrArg UInt8.toNat h
 simp only [UInt8.toNat_ofNat',Nat.reducePow] at this
 omega
theorem mod113 : ∀ a < 10,a ≠ 0 -> ∀ n < 113,n ≠ 0 -> (a * n) % 113 ≠ 0 := by decide +kernel
theorem prod_mod {u v : Int} (hu : u ≠ 0) (h1 : -9 <= u /\ u <= 9) (h2 : 1 <= v /\ v <= 112) : (u * v) % 113 ≠ 0:= by
 obtain ⟨n,rfl⟩ : ∃ n : Nat,v = n := ⟨v.toNat,by omega⟩
 by_cases hp : 0 <= u
 ·obtain ⟨a,rfl⟩ : ∃ a : Nat,u = a := ⟨u.toNat,by omega⟩
  have := mod113 a (by omega) (by omega) n (by omega) (by omega)
  rw [<- Int.natCast_mul]
  omega
 ·obtain ⟨a,ha⟩ : ∃ a : Nat,u = -(a : Int) := ⟨(-u).toNat,by omega⟩
  subst ha
  have := mod113 a (by omega) (by omega) n (by omega) (by omega)
  rw [Int.neg_mul,<- Int.natCast_mul]
  omega
end Go.Abs
namespace Go.Abs
open Go.Proofs Go.RowKit
set_option linter.unusedVariables false
set_option linter.unusedSimpArgs false
set_option maxRecDepth 100000
theorem wrap8 {n : Nat} (h : n < 10) : IntKind.u8.wrap (48 + (n : Int)) = 48 + n:= by
 unfold IntKind.wrap; simp [IntKind.signed,IntKind.bits]; omega
theorem wrap64 {n : Nat} (h : n < 1000000) : IntKind.i64.wrap (n : Int) = n:= by
 unfold IntKind.wrap; simp [IntKind.signed,IntKind.bits]; omega
theorem one_byte {n : Nat} (h : n < 10) : strOfNums [48 + (n : Int)] = bytesOf [UInt8.ofNat (48 + n)]:= by
 unfold strOfNums bytesOf
 simp only [List.map_cons,List.map_nil]
 rw [show (48 + (n : Int)).toNat = 48 + n by omega]
set_option maxHeartbeats 4000000 in
theorem f160 (n : Nat) (hn : n < 1000000) : ACalls Tryz.prog 160 [vi n] (fun r => r = .pv (.str (bytesOf (Lib.decDigits n)))):= by
 have h10 : (n : Int).tmod 10 = ((n % 10 : Nat) : Int) := rfl
 have w8 := wrap8 (n := n % 10) (by omega)
 refine ACalls.of_body hT Tryz.func160 rfl (by kernel_rfl) rfl ?_
 (repeat (refine stq ?_))
 refine AL_do2 rfl ⟨_,op_rem rfl rfl rfl rfl (by decide),?_⟩
 rw [h10]
 (repeat' (first | refine stq ?_ | (refine AL_do2 rfl ?_; first | refine ⟨_,op_conv hT rfl rfl rfl rfl rfl rfl rfl,?_⟩) | (with_reducible refine AL_id ?_); (fail_if_success (refine AL_glit rfl rfl rfl (by first | exact .inl (by with_reducible rfl) | exact .inr (by with_reducible rfl)) ?_)); first | refine AL_gdec rfl rfl rfl (fun hg => ?_) (fun hg => ?_) | refine AL_gnot rfl rfl rfl (fun hg => ?_) (fun hg => ?_) | refine AL_gcases rfl rfl rfl (fun hg => ?_) (fun hg => ?_)))
 rw [w8]
 (repeat (refine stq ?_))
 refine AL_do2 rfl ⟨_,op_convBytes (ns := [48 + ((n % 10 : Nat) : Int)]) hT rfl rfl rfl rfl rfl rfl rfl rfl (by simp) rfl,?_⟩
 rw [one_byte (by omega)]
 (repeat (refine stq ?_))
 have hdl := dec_len 6 n hn
 refine AW_loopC (fun i : Nat × List UInt8 => i.1 < 1000000 /\ ∃ q,Lib.decDigits i.1 = q ++ [UInt8.ofNat (48 + i.1 % 10)] /\ q ++ i.2 = Lib.decDigits n /\ (10 <= i.1 -> q = Lib.decDigits (i.1 / 10)) /\ (i.1 < 10 -> q = [])) (fun i => mkSt [(0,.pv (vi i.1)),(3,.pv (.str (bytesOf i.2)))] [] 1) (fun i => i.1) (n,[UInt8.ofNat (48 + n % 10)]) ?_ ?_ ?_
 ·obtain ⟨q,h1,h2,h3⟩ := dec_last n
  exact ⟨hn,q,h1,h1.symm,h2,h3⟩
 ·(refine Le.mk ?_ ?_; all_goals (repeat' (first | exact trivial | refine sle ?_ | refine ⟨?_,rfl,?_⟩ | refine ⟨?_,by decide,rfl,?_⟩ | fail)))
 ·rintro ⟨m,suf⟩ ⟨hm,q,h1,h2,h3,h4⟩
  dsimp only at hm h1 h2 h3 h4 ⊢
  have hsl : suf.length <= 6:= by
   have := congrArg List.length h2
   rw [List.length_append] at this; omega
  (repeat (refine stq ?_))
  refine AW_if rfl (fun hc => ?_) (fun hc => ?_)
  ·have hm10 : 10 <= m := by omega
   have hq : IntKind.i64.wrap ((m : Int).tdiv 10) = ((m / 10 : Nat) : Int) := by rw [show (m : Int).tdiv 10 = ((m / 10 : Nat) : Int) from rfl,wrap64 (by omega)]
   have hr : ((m / 10 : Nat) : Int).tmod 10 = ((m / 10 % 10 : Nat) : Int) := rfl
   have w8' := wrap8 (n := m / 10 % 10) (by omega)
   have hs1 : (bytesOf [UInt8.ofNat (48 + m / 10 % 10)]).size + (bytesOf suf).size <= 1000000 := by rw [bytesOf_size,bytesOf_size]; simp; omega
   (repeat (refine stq ?_))
   refine AL_do2 rfl ⟨_,op_quo rfl rfl rfl rfl (by decide),?_⟩
   rw [hq]
   (repeat (refine stq ?_))
   refine AL_do2 rfl ⟨_,op_rem rfl rfl rfl rfl (by decide),?_⟩
   rw [hr]
   (repeat' (first | refine stq ?_ | (refine AL_do2 rfl ?_; first | refine ⟨_,op_conv hT rfl rfl rfl rfl rfl rfl rfl,?_⟩) | (with_reducible refine AL_id ?_); (fail_if_success (refine AL_glit rfl rfl rfl (by first | exact .inl (by with_reducible rfl) | exact .inr (by with_reducible rfl)) ?_)); first | refine AL_gdec rfl rfl rfl (fun hg => ?_) (fun hg => ?_) | refine AL_gnot rfl rfl rfl (fun hg => ?_) (fun hg => ?_) | refine AL_gcases rfl rfl rfl (fun hg => ?_) (fun hg => ?_)))
   rw [w8']
   (repeat (refine stq ?_))
   refine AL_do2 rfl ⟨_,op_convBytes (ns := [48 + ((m / 10 % 10 : Nat) : Int)]) hT rfl rfl rfl rfl rfl rfl rfl rfl (by simp) rfl,?_⟩
   rw [one_byte (by omega)]
   (repeat (refine stq ?_))
   refine AL_do2 rfl ⟨_,op_strcat (u := bytesOf [UInt8.ofNat (48 + m / 10 % 10)]) (v := bytesOf suf) rfl rfl rfl rfl hs1,?_⟩
   rw [show bytesOf [UInt8.ofNat (48 + m / 10 % 10)] ++ bytesOf suf = bytesOf (UInt8.ofNat (48 + m / 10 % 10) :: suf) from bytes_ext (by simp [bytesOf])]
   (repeat (refine stq ?_))
   obtain ⟨q',g1,g2,g3⟩ := dec_last (m / 10)
   refine ⟨(m / 10,UInt8.ofNat (48 + m / 10 % 10) :: suf),⟨by dsimp only; omega,q',g1,?_,g2,g3⟩,by dsimp only; omega,?_⟩
   ·dsimp only
    rw [<- h2,h3 hm10,g1]; simp
   ·dsimp only
    (refine Le.mk ?_ ?_; all_goals (repeat' (first | exact trivial | refine sle ?_ | refine ⟨?_,rfl,?_⟩ | refine ⟨?_,by decide,rfl,?_⟩ | fail)))
  ·have hm10 : m < 10 := by omega
   have hq := h4 hm10
   subst hq
   rw [List.nil_append] at h2
   subst h2
   (repeat (refine stq ?_))
   exact ⟨_,_,rfl,rfl,rfl⟩
def SmallL (l : List Int) : Prop := ∀ x ∈ l,0 <= x /\ x < 1000000
theorem itoa_sz {x : Int} (h : 0 <= x /\ x < 1000000) : (itoaB x).size <= 20:= by
 have := dec_len 6 x.toNat (by omega)
 show (Lib.decDigits x.toNat).length <= 20
 omega
theorem lineB_sz {nm : ByteArray} : ∀ {nums : List Int},SmallL nums -> (lineB nm nums).size <= nm.size + 21 * nums.length:= by
 intro nums
 induction nums using snocInd with
 | h0 => intro _; simp [lineB]
 | h1 l x ih =>
  intro h
  have h1 := ih fun y hy => h y (by simp [hy])
  have h2 := itoa_sz (h x (by simp))
  have h3 : spB.size = 1 := rfl
  rw [lineB_snoc,app_size,app_size]
  simp only [List.length_append,List.length_singleton]
  omega
end Go.Abs
namespace Go.Abs
open Go.Proofs Go.RowKit
set_option linter.unusedVariables false
set_option linter.unusedSimpArgs false
set_option maxRecDepth 100000
theorem f159 (nm : ByteArray) (l : List Int) (hs : SmallL l) (hnm : nm.size <= 100) (hl : l.length <= 1000) : ACalls Tryz.prog 159 [.str nm,eInts l] (fun r => r = .pv (.str (lineB nm l))):= by
 refine ACalls.of_body hT Tryz.func159 rfl (by kernel_rfl) rfl ?_
 (repeat (refine stq ?_))
 refine AW_loopC (fun k : Nat => k <= l.length) (fun k => mkSt [(1,.pv (eInts l)),(5,.pv (.str (lineB nm (l.take k)))),(6,.pv (vi k))] [] 0) (fun k => l.length - k) 0 (Nat.zero_le _) ?_ ?_
 ·(refine Le.mk ?_ ?_; all_goals (repeat' (first | exact trivial | refine sle ?_ | refine ⟨?_,rfl,?_⟩ | refine ⟨?_,by decide,rfl,?_⟩ | fail)))
 ·intro k hk
  (repeat (refine stq ?_))
  refine AW_if rfl (fun hc => ?_) (fun hc => ?_)
  ·have hk' : k < l.length := by omega
   obtain ⟨x,hx⟩ : ∃ x,l[k]? = some x := ⟨l[k],by simp [hk']⟩
   have e1 := get_map eInt hx
   have hb := hs x (List.mem_of_getElem? hx)
   have k160 : ACalls Tryz.prog 160 [vi x] (fun r => r = .pv (.str (itoaB x))):= by
    have := f160 x.toNat (by omega)
    rw [show ((x.toNat : Nat) : Int) = x by omega] at this
    exact this
   have hsn : lineB nm (l.take (k + 1)) = (lineB nm (l.take k) ++ spB) ++ itoaB x:= by
    rw [List.take_add_one,hx]
    show lineB _ (l.take k ++ [x]) = _
    rw [lineB_snoc,ByteArray.append_assoc]
   have hls := lineB_sz (nm := nm) (nums := l.take k) fun y hy => hs y (List.mem_of_mem_take hy)
   have htk : (l.take k).length <= 1000 := by simp; omega
   have his := itoa_sz hb
   have hws : (lineB nm (l.take k)).size <= 21100 := by omega
   have hsp : spB.size = 1 := rfl
   have h1 : (lineB nm (l.take k)).size + spB.size <= 1000000 := by omega
   have h2 : (lineB nm (l.take k) ++ spB).size + (itoaB x).size <= 1000000 := by rw [app_size]; omega
   (repeat (refine stq ?_))
   refine AL_do2 rfl ⟨_,op_strcat (v := spB) rfl rfl rfl rfl h1,?_⟩
   (repeat' (first | refine stq ?_ | (refine AL_do2 rfl ?_; first | refine ⟨_,op_call1 rfl rfl rfl rfl (k160),nrmA rfl ?_⟩) | (with_reducible refine AL_id ?_); (fail_if_success (refine AL_glit rfl rfl rfl (by first | exact .inl (by with_reducible rfl) | exact .inr (by with_reducible rfl)) ?_)); first | refine AL_gdec rfl rfl rfl (fun hg => ?_) (fun hg => ?_) | refine AL_gnot rfl rfl rfl (fun hg => ?_) (fun hg => ?_) | refine AL_gcases rfl rfl rfl (fun hg => ?_) (fun hg => ?_)))
   refine AL_do2 rfl ⟨_,op_strcat (u := lineB nm (l.take k) ++ spB) rfl rfl rfl rfl h2,?_⟩
   (repeat (refine stq ?_))
   refine ⟨k + 1,hk',by omega,?_⟩
   rw [hsn]
   (refine Le.mk ?_ ?_; all_goals (repeat' (first | exact trivial | refine sle ?_ | refine ⟨?_,rfl,?_⟩ | refine ⟨?_,by decide,rfl,?_⟩ | fail)))
  ·have hk' : k = l.length := by omega
   rw [hk',List.take_length]
   (repeat (refine stq ?_))
   exact ⟨_,_,rfl,rfl,rfl⟩
end Go.Abs
