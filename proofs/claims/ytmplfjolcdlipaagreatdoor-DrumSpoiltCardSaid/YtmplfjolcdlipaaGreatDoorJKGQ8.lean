/- Plain: a text cut at one byte; the words of a slip. -/
import Derived.Test.YtmplfjolcdlipaaGreatDoorJKD
import Derived.Lib.IndexLaws
import Derived.Test.YtmplfjolcdlipaaGreatDoorJXQ8
import Derived.Test.YtmplfjolcdlipaaGreatDoorJLa
set_option linter.unusedVariables false
set_option linter.unusedSimpArgs false
namespace Go.Abs
open Go.Proofs Go.RowKit
set_option linter.unusedVariables false
set_option linter.unusedSimpArgs false
set_option maxRecDepth 100000
def consH (b : UInt8) : List (List UInt8) -> List (List UInt8)
 | [] => [[b]]
 | x :: xs => (b :: x) :: xs
def splitS (c : UInt8) : List UInt8 -> List (List UInt8)
 | [] => [[]]
 | b :: r => if b = c then [] :: splitS c r else consH b (splitS c r)
theorem index_cons_ne {b c : UInt8} (h : b ≠ c) (l : List UInt8) : Lib.indexByte (b :: l) c = if Lib.indexByte l c = -1 then -1 else Lib.indexByte l c + 1:= by
 simp [Lib.indexByte,h]
theorem splitF_ne {b c : UInt8} (h : b ≠ c) : ∀ (n : Nat) (l : List UInt8),splitF n c (b :: l) = consH b (splitF n c l)
 | 0,l => rfl
 | n + 1,l => by
  have hge := Lib.indexByte_ge l c
  simp only [splitF,index_cons_ne h]
  by_cases hi : Lib.indexByte l c = -1
  ·rw [if_pos hi,hi]; rfl
  ·rw [if_neg hi,if_neg (by omega),if_neg (by omega)]
   have e1 : (Lib.indexByte l c + 1).toNat = (Lib.indexByte l c).toNat + 1 := by omega
   rw [e1]; rfl
theorem splitF_eq (c : UInt8) (n : Nat) (l : List UInt8) : splitF (n + 1) c (c :: l) = [] :: splitF n c l:= by
 have : Lib.indexByte (c :: l) c = 0 := by simp [Lib.indexByte]
 simp only [splitF,this]
 rfl
theorem splitF_S (c : UInt8) : ∀ (l : List UInt8) (n : Nat),Lib.countByte l c <= n -> splitF n c l = splitS c l
 | [],n,_ => by
  cases n with
  | zero => rfl
  | succ n => simp [splitF,Lib.indexByte,splitS]
 | b :: l,n,h => by
  by_cases hb : b = c
  ·subst hb
   unfold Lib.countByte at h
   rw [List.count_cons_self] at h
   obtain ⟨m,rfl⟩ : ∃ m,n = m + 1 := ⟨n - 1,by omega⟩
   rw [splitF_eq,splitF_S b l m (by unfold Lib.countByte; omega),splitS,if_pos rfl]
  ·unfold Lib.countByte at h
   rw [List.count_cons_of_ne hb] at h
   rw [splitF_ne hb,splitF_S c l n h,splitS,if_neg hb]
theorem splitL_S (c : UInt8) (l : List UInt8) : splitL c l = splitS c l:= by
 have h : Lib.countByte l c <= l.length := List.count_le_length
 exact splitF_S c l _ (by unfold splitN; omega)
theorem splitS_ne (c : UInt8) : ∀ (l : List UInt8),splitS c l ≠ []
 | [] => by simp [splitS]
 | b :: l => by
  unfold splitS
  split
  ·simp
  ·cases h : splitS c l <;> simp [consH]
theorem splitS_app {c : UInt8} : ∀ {x : List UInt8} (r : List UInt8),c ∉ x -> splitS c (x ++ c :: r) = x :: splitS c r
 | [],r,_ => by simp [splitS]
 | b :: x,r,h => by
  simp only [List.mem_cons,not_or] at h
  rw [List.cons_append,splitS,if_neg (fun e => h.1 e.symm),splitS_app r h.2]; rfl
def joinW (w : List UInt8) (ws : List (List UInt8)) : List UInt8 := w ++ ws.flatMap fun x => 32 :: x
theorem split_lines : ∀ (L : List (List UInt8)),(∀ x ∈ L,(10 : UInt8) ∉ x) -> splitS 10 (L.flatMap fun x => x ++ [10]) = L ++ [[]]
 | [],_ => rfl
 | x :: L,h => by
  have ih := split_lines L fun y hy => h y (by simp [hy])
  rw [List.flatMap_cons,List.append_assoc]
  show splitS 10 (x ++ 10 :: (L.flatMap fun x => x ++ [10])) = _
  rw [splitS_app _ (h x (by simp)),ih]; rfl
def dD (n : Int) : List UInt8 := Lib.decDigits n.toNat
theorem dec_unf (m : Nat) : Lib.decDigits m = if m < 10 then [UInt8.ofNat (48 + m)] else Lib.decDigits (m / 10) ++ [UInt8.ofNat (48 + m % 10)]:= by
 rw [Lib.decDigits]
 split <;> rfl
theorem dig_of {k : Nat} (h : k < 10) : digB (UInt8.ofNat (48 + k)) = true /\ (UInt8.ofNat (48 + k)).toNat = 48 + k:= by
 have : (UInt8.ofNat (48 + k)).toNat = 48 + k := by simp; omega
 refine ⟨?_,this⟩
 simp only [digB,Bool.and_eq_true,decide_eq_true_eq]
 omega
theorem dec_dig : ∀ (k m : Nat),m < 10 ^ k -> (∀ b ∈ Lib.decDigits m,digB b = true) /\ numV (Lib.decDigits m) = m
 | 0,m,h => by
  have : m = 0 := by simpa using h
  subst this
  rw [dec_unf,if_pos (by decide)]
  decide
 | k + 1,m,h => by
  rw [dec_unf]
  split
  ·rename_i hm
   obtain ⟨h1,h2⟩ := dig_of hm
   refine ⟨fun b hb => by simp only [List.mem_singleton] at hb; subst hb; exact h1,?_⟩
   simp only [numV,List.foldl_cons,List.foldl_nil,h2]; omega
  ·obtain ⟨g1,g2⟩ := dec_dig k (m / 10) (by rw [Nat.pow_succ] at h; omega)
   obtain ⟨h1,h2⟩ := dig_of (k := m % 10) (by omega)
   refine ⟨fun b hb => ?_,?_⟩
   ·rcases List.mem_append.1 hb with hb | hb
    ·exact g1 b hb
    ·simp only [List.mem_singleton] at hb; subst hb; exact h1
   ·rw [numV_snoc,g2,h2]; omega
theorem dD_no {n : Int} (h : 0 <= n /\ n <= 9999) : (32 : UInt8) ∉ dD n /\ (10 : UInt8) ∉ dD n:= by
 obtain ⟨h1,_⟩ := dec_dig 4 n.toNat (by omega)
 refine ⟨fun hm => ?_,fun hm => ?_⟩
 ·have := h1 _ hm; revert this; decide
 ·have := h1 _ hm; revert this; decide
theorem line_data (nm : ByteArray) (l : List Int) : (lineB nm l).data.toList = joinW nm.data.toList (l.map dD):= by
 induction l using snocInd with
 | h0 => simp [lineB,joinW]
 | h1 l x ih =>
  rw [lineB_snoc,ByteArray.data_append,Array.toList_append,ih]
  simp only [joinW,List.map_append,List.flatMap_append,List.map_cons,List.map_nil,List.flatMap_cons,List.flatMap_nil,List.append_nil,List.append_assoc]
  rw [ByteArray.data_append,Array.toList_append]
  rfl
end Go.Abs
namespace Go.Abs
open Go.Proofs Go.RowKit
set_option linter.unusedVariables false
set_option linter.unusedSimpArgs false
set_option maxRecDepth 100000
def wDrum : List UInt8 := [100,114,117,109]
def wKnown : List UInt8 := [107,110,111,119,110]
def wFall : List UInt8 := [102,97,108,108]
def hdW (d : Drum) : List UInt8 := joinW wDrum [dD d.hours,wKnown,dD d.known]
def acW (a : Acid) : List UInt8 := joinW wAcid [dD a.strength.low,dD a.strength.high,wFall,dD a.fall.low,dD a.fall.high]
def adW (l : List Int) : List UInt8 := joinW wAdd (l.map dD)
def stW (s : Strip) : List UInt8 := joinW wStrip [dD s.hour,dD s.seen,dD s.off]
def baW (b : Batch) : List UInt8 := joinW wBatch [dD b.rough,dD b.goal,dD b.thick,dD b.least,dD b.polish,dD b.eat]
def bodyW (d : Drum) : List (List UInt8) := d.acids.map acW ++ (adW d.adds :: (d.strips.map stW ++ d.batches.map baW))
theorem hd_data (d : Drum) : (hdL d).data.toList = hdW d:= by
 unfold hdL
 rw [ByteArray.data_append,Array.toList_append,line_data,line_data]
 simp [joinW,hdW,nmDrum,nmKnown,bytesOf,wDrum,wKnown]
theorem ac_data (a : Acid) : (acL a).data.toList = acW a:= by
 unfold acL
 rw [ByteArray.data_append,Array.toList_append,line_data,line_data]
 simp [joinW,acW,nmAcid,nmFall,bytesOf,wAcid,wFall,acN,faN]
theorem ad_data (l : List Int) : (lineB nmAdd l).data.toList = adW l := by rw [line_data]; rfl
theorem st_data (s : Strip) : (lineB nmStrip (stN s)).data.toList = stW s := by rw [line_data]; rfl
theorem ba_data (b : Batch) : (lineB nmBatch (baN b)).data.toList = baW b := by rw [line_data]; rfl
theorem lines_data (d : Drum) : (linesD d).map (·.data.toList) = hdW d :: bodyW d:= by
 simp only [linesD,L3,L2,L1,bodyW,List.map_append,List.map_cons,List.map_map,List.map_nil,hd_data,ad_data,List.cons_append,List.append_assoc,List.nil_append]
 congr 2
 ·exact List.map_congr_left fun a _ => ac_data a
 ·congr 2
  ·exact List.map_congr_left fun a _ => st_data a
  ·exact List.map_congr_left fun a _ => ba_data a
def endW (d : Drum) : List UInt8 := (endL (checkI (linesD d) % 103)).data.toList
theorem text_data (d : Drum) : (textD d).data.toList = (hdW d :: bodyW d ++ [endW d]).flatMap fun x => x ++ [10]:= by
 unfold textD textOf
 rw [<- sB_join,<- sB_snoc,sB_data,jl,<- lines_data]
 show _ = (((linesD d).map (·.data.toList)) ++ [endW d]).flatMap _
 rw [show [endW d] = [endL (checkI (linesD d) % 103)].map (·.data.toList) from rfl,<- List.map_append,List.flatMap_map]
theorem no_join {c : UInt8} {w : List UInt8} {ws : List (List UInt8)} (hc : c ≠ 32) (h : c ∉ w) (hs : ∀ x ∈ ws,c ∉ x) : c ∉ joinW w ws:= by
 unfold joinW
 rw [List.mem_append,not_or]
 refine ⟨h,fun hm => ?_⟩
 obtain ⟨x,hx,hm⟩ := List.mem_flatMap.1 hm
 rcases List.mem_cons.1 hm with rfl | hm
 ·exact hc rfl
 ·exact hs x hx hm
theorem end_no (d : Drum) : (10 : UInt8) ∉ endW d:= by
 have hd : ∀ n : Int,(10 : UInt8) ∉ (itoaB n).data.toList:= by
  intro n hm
  have := (dec_dig n.toNat n.toNat (Nat.lt_pow_self (by decide))).1 _ (by simpa [itoaB,bytesOf] using hm)
  revert this; decide
 unfold endW endL
 simp only [ByteArray.data_append,Array.toList_append,List.mem_append,not_or]
 exact ⟨⟨⟨by decide,hd _⟩,hd _⟩,hd _⟩
theorem sm_ac {d : Drum} (h : SmallD d) {a : Acid} (ha : a ∈ d.acids) : (∀ x ∈ acN a,0 <= x /\ x <= 9999) /\ ∀ x ∈ faN a,0 <= x /\ x <= 9999 :=
 ⟨fun x hx => h x (by simp only [numsD,List.mem_cons,List.mem_append,List.mem_flatMap]; exact .inr (.inr (.inl ⟨a,ha,.inl hx⟩))),fun x hx => h x (by simp only [numsD,List.mem_cons,List.mem_append,List.mem_flatMap]; exact .inr (.inr (.inl ⟨a,ha,.inr hx⟩)))⟩
theorem sm_ad {d : Drum} (h : SmallD d) : ∀ x ∈ d.adds,0 <= x /\ x <= 9999 := fun x hx => h x (by simp only [numsD,List.mem_cons,List.mem_append]; exact .inr (.inr (.inr (.inl hx))))
theorem sm_st {d : Drum} (h : SmallD d) {s : Strip} (hs : s ∈ d.strips) : ∀ x ∈ stN s,0 <= x /\ x <= 9999 := fun x hx => h x (by simp only [numsD,List.mem_cons,List.mem_append,List.mem_flatMap]; exact .inr (.inr (.inr (.inr (.inl ⟨s,hs,hx⟩)))))
theorem sm_ba {d : Drum} (h : SmallD d) {b : Batch} (hb : b ∈ d.batches) : ∀ x ∈ baN b,0 <= x /\ x <= 9999 := fun x hx => h x (by simp only [numsD,List.mem_cons,List.mem_append,List.mem_flatMap]; exact .inr (.inr (.inr (.inr (.inr ⟨b,hb,hx⟩)))))
theorem sm_hd {d : Drum} (h : SmallD d) : (0 <= d.hours /\ d.hours <= 9999) /\ (0 <= d.known /\ d.known <= 9999) := ⟨h _ (by simp [numsD]),h _ (by simp [numsD])⟩
theorem body_no {d : Drum} (h : SmallD d) : ∀ x ∈ hdW d :: bodyW d ++ [endW d],(10 : UInt8) ∉ x:= by
 intro x hx
 simp only [bodyW,List.mem_append,List.mem_cons,List.mem_map,List.not_mem_nil,or_false] at hx
 rcases hx with (rfl | ⟨a,ha,rfl⟩ | rfl | ⟨s,hs,rfl⟩ | ⟨b,hb,rfl⟩) | rfl
 ·refine no_join (by decide) (by decide) fun y hy => ?_
  simp only [List.mem_cons,List.not_mem_nil,or_false] at hy
  rcases hy with rfl | rfl | rfl
  ·exact (dD_no (sm_hd h).1).2
  ·decide
  ·exact (dD_no (sm_hd h).2).2
 ·obtain ⟨h1,h2⟩ := sm_ac h ha
  refine no_join (by decide) (by decide) fun y hy => ?_
  simp only [List.mem_cons,List.not_mem_nil,or_false] at hy
  rcases hy with rfl | rfl | rfl | rfl | rfl
  ·exact (dD_no (h1 _ (by simp [acN]))).2
  ·exact (dD_no (h1 _ (by simp [acN]))).2
  ·decide
  ·exact (dD_no (h2 _ (by simp [faN]))).2
  ·exact (dD_no (h2 _ (by simp [faN]))).2
 ·refine no_join (by decide) (by decide) fun y hy => ?_
  obtain ⟨n,hn,rfl⟩ := List.mem_map.1 hy
  exact (dD_no (sm_ad h n hn)).2
 ·have h1 := sm_st h hs
  refine no_join (by decide) (by decide) fun y hy => ?_
  simp only [List.mem_cons,List.not_mem_nil,or_false] at hy
  rcases hy with rfl | rfl | rfl <;> exact (dD_no (h1 _ (by simp [stN]))).2
 ·have h1 := sm_ba h hb
  refine no_join (by decide) (by decide) fun y hy => ?_
  simp only [List.mem_cons,List.not_mem_nil,or_false] at hy
  rcases hy with rfl | rfl | rfl | rfl | rfl | rfl <;> exact (dD_no (h1 _ (by simp [baN]))).2
 ·exact end_no d
theorem split_text {d : Drum} (h : SmallD d) : splitS 10 (textD d).data.toList = hdW d :: bodyW d ++ [endW d] ++ [[]]:= by
 rw [text_data,split_lines _ (body_no h)]
end Go.Abs
namespace Go.Abs
open Go.Proofs Go.RowKit
set_option linter.unusedVariables false
set_option linter.unusedSimpArgs false
set_option maxRecDepth 100000
set_option maxHeartbeats 8000000 in
theorem f42s (d : Drum) (hd : drumOK d) : ACalls Tryz.prog 42 [eDrum d,eDrum d] (fun r => r = .pv (.bool true)):= by
 have h1 : d.acids.length <= 1000 := hd.1
 have h2 : d.adds.length <= 1000 := hd.2.1
 have h3 : d.strips.length <= 1000 := hd.2.2.1
 have h4 : d.batches.length <= 1000 := hd.2.2.2
 have k52 := ints_same d.adds h2
 refine ACalls.of_body hT Tryz.func42 rfl (by kernel_rfl) rfl ?_
 (repeat' (first | refine stq ?_ | (refine AL_do2 rfl ?_; first | refine ⟨_,op_call1 rfl rfl rfl rfl (k52),nrmA rfl ?_⟩) | ((first | (with_reducible refine AL_id ?_); (fail_if_success (refine AL_glit rfl rfl rfl (by first | exact .inl (by with_reducible rfl) | exact .inr (by with_reducible rfl)) ?_)); first | refine AL_gdec rfl rfl rfl (fun hg => ?_) (fun hg => ?_) | refine AL_gnot rfl rfl rfl (fun hg => ?_) (fun hg => ?_) | refine AL_gcases rfl rfl rfl (fun hg => ?_) (fun hg => ?_)) <;> (try (exfalso; omega))) | refine AW_if rfl (fun hc => absurd hc (by omega)) (fun _ => ?_) | refine AW_if rfl (fun _ => ?_) (fun hc => absurd (by omega) hc)))
 all_goals (try (exfalso; first | omega | (simp at hg; done)))
 (repeat (refine stq ?_))
 refine AW_loopC (fun k : Nat => k <= d.acids.length) (fun k => mkSt [(2,.box 0 0),(3,.box 1 0),(5,.pv (vi k))] [(0,boO d),(1,boO d)] 2) (fun k => d.acids.length - k) 0 (Nat.zero_le _) ?_ ?_
 ·(refine Le.mk ?_ ?_; all_goals (repeat' (first | exact trivial | refine sle ?_ | refine ⟨?_,rfl,?_⟩ | refine ⟨?_,by decide,rfl,?_⟩ | fail)))
 ·intro k hk
  (repeat (refine stq ?_))
  refine AW_if rfl (fun hc => ?_) (fun hc => ?_)
  ·have hk' : k < d.acids.length := by omega
   obtain ⟨x,hx⟩ : ∃ x,d.acids[k]? = some x := ⟨d.acids[k],by simp [hk']⟩
   have e1 := get_map eAcid hx
   (repeat (refine stq ?_))
   iterate 10 (refine sdq ?_)
   refine DG_next (D_neqS (ms := [x.strength.low,x.strength.high,x.fall.low,x.fall.high]) (ns := [x.strength.low,x.strength.high,x.fall.low,x.fall.high]) aggEq137 rfl rfl rfl rfl rfl rfl rfl) ?_
   refine DG_end hM (by kernel_rfl) ?_
   (repeat (refine stq ?_))
   refine AW_cond rfl (fun hc2 => absurd hc2 (by simp)) (fun hc2 => ?_)
   (repeat (refine stq ?_))
   refine ⟨k + 1,hk',by omega,?_⟩
   (refine Le.mk ?_ ?_; all_goals (repeat' (first | exact trivial | refine sle ?_ | refine ⟨?_,rfl,?_⟩ | refine ⟨?_,by decide,rfl,?_⟩ | fail)))
  ·have hk' : k = d.acids.length := by omega
   subst hk'
   (repeat (refine stq ?_))
   refine AW_loopC (fun k : Nat => k <= d.strips.length) (fun k => mkSt [(2,.box 0 0),(3,.box 1 0),(6,.pv (vi k))] [(0,boO d),(1,boO d)] 2) (fun k => d.strips.length - k) 0 (Nat.zero_le _) ?_ ?_
   ·(refine Le.mk ?_ ?_; all_goals (repeat' (first | exact trivial | refine sle ?_ | refine ⟨?_,rfl,?_⟩ | refine ⟨?_,by decide,rfl,?_⟩ | fail)))
   ·intro k hk
    (repeat (refine stq ?_))
    refine AW_if rfl (fun hc => ?_) (fun hc => ?_)
    ·have hk' : k < d.strips.length := by omega
     obtain ⟨x,hx⟩ : ∃ x,d.strips[k]? = some x := ⟨d.strips[k],by simp [hk']⟩
     have e1 := get_map eStrip hx
     (repeat (refine stq ?_))
     iterate 10 (refine sdq ?_)
     refine DG_next (D_neqS (ms := [x.hour,x.seen,x.off]) (ns := [x.hour,x.seen,x.off]) aggEq74 rfl rfl rfl rfl rfl rfl rfl) ?_
     refine DG_end hM (by kernel_rfl) ?_
     (repeat (refine stq ?_))
     refine AW_cond rfl (fun hc2 => absurd hc2 (by simp)) (fun hc2 => ?_)
     (repeat (refine stq ?_))
     refine ⟨k + 1,hk',by omega,?_⟩
     (refine Le.mk ?_ ?_; all_goals (repeat' (first | exact trivial | refine sle ?_ | refine ⟨?_,rfl,?_⟩ | refine ⟨?_,by decide,rfl,?_⟩ | fail)))
    ·have hk' : k = d.strips.length := by omega
     subst hk'
     (repeat (refine stq ?_))
     refine AW_loopC (fun k : Nat => k <= d.batches.length) (fun k => mkSt [(2,.box 0 0),(3,.box 1 0),(7,.pv (vi k))] [(0,boO d),(1,boO d)] 2) (fun k => d.batches.length - k) 0 (Nat.zero_le _) ?_ ?_
     ·(refine Le.mk ?_ ?_; all_goals (repeat' (first | exact trivial | refine sle ?_ | refine ⟨?_,rfl,?_⟩ | refine ⟨?_,by decide,rfl,?_⟩ | fail)))
     ·intro k hk
      (repeat (refine stq ?_))
      refine AW_if rfl (fun hc => ?_) (fun hc => ?_)
      ·have hk' : k < d.batches.length := by omega
       obtain ⟨x,hx⟩ : ∃ x,d.batches[k]? = some x := ⟨d.batches[k],by simp [hk']⟩
       have e1 := get_map eBatch hx
       (repeat (refine stq ?_))
       iterate 10 (refine sdq ?_)
       refine DG_next (D_neqS (ms := [x.rough,x.goal,x.thick,x.least,x.polish,x.eat]) (ns := [x.rough,x.goal,x.thick,x.least,x.polish,x.eat]) aggEq77 rfl rfl rfl rfl rfl rfl rfl) ?_
       refine DG_end hM (by kernel_rfl) ?_
       (repeat (refine stq ?_))
       refine AW_cond rfl (fun hc2 => absurd hc2 (by simp)) (fun hc2 => ?_)
       (repeat (refine stq ?_))
       refine ⟨k + 1,hk',by omega,?_⟩
       (refine Le.mk ?_ ?_; all_goals (repeat' (first | exact trivial | refine sle ?_ | refine ⟨?_,rfl,?_⟩ | refine ⟨?_,by decide,rfl,?_⟩ | fail)))
      ·have hk' : k = d.batches.length := by omega
       subst hk'
       (repeat (refine stq ?_))
       exact ⟨_,_,rfl,rfl,rfl⟩
end Go.Abs
namespace Go.Abs
open Go.Proofs Go.RowKit
set_option linter.unusedVariables false
set_option linter.unusedSimpArgs false
set_option maxRecDepth 100000
theorem smallD {d : Drum} (hP : DrumP d) : SmallD d:= by
 have hk := known_bd hP
 have h1 := hP.h1; have h0 := hP.h0
 intro x hx
 simp only [numsD,List.mem_cons,List.mem_append,List.mem_flatMap] at hx
 rcases hx with rfl | rfl | ⟨a,ha,hx⟩ | hx | ⟨s,hs,hx⟩ | ⟨b,hb,hx⟩
 ·omega
 ·omega
 ·have q := hP.acid a ha
  have := q.s0; have := q.s1; have := q.s2; have := q.f0; have := q.f1; have := q.f2
  simp only [acN,faN,List.mem_append,List.mem_cons,List.not_mem_nil,or_false] at hx
  omega
 ·have := hP.add x hx; omega
 ·have q := hP.strip s hs
  have := q.h0; have := q.h1; have := q.s0; have := q.s1; have := q.o0; have := q.o1
  simp only [stN,List.mem_cons,List.not_mem_nil,or_false] at hx
  omega
 ·have q := hP.batch b hb
  have := q.r0; have := q.r1; have := q.g0; have := q.g1; have := q.t0; have := q.t1; have := q.l0; have := q.l1; have := q.p0; have := q.p1; have := q.e0; have := q.e1
  simp only [baN,List.mem_cons,List.not_mem_nil,or_false] at hx
  omega
theorem dD4 {n : Int} (h : 0 <= n /\ n <= 9999) : (dD n).length <= 4:= by
 have := dec_len 4 n.toNat (by omega)
 unfold dD; omega
theorem joinW_len (w : List UInt8) (l : List Int) (h : ∀ x ∈ l,0 <= x /\ x <= 9999) : (joinW w (l.map dD)).length <= w.length + 5 * l.length:= by
 induction l using snocInd with
 | h0 => simp [joinW]
 | h1 l x ih =>
  have h1 := ih fun y hy => h y (by simp [hy])
  have h2 := dD4 (h x (by simp))
  simp only [joinW,List.map_append,List.flatMap_append,List.length_append,List.map_cons,List.map_nil,List.flatMap_cons,List.flatMap_nil,List.append_nil,List.length_cons,List.length_nil] at h1 ⊢
  omega
theorem fm_len (L : List (List UInt8)) : (L.flatMap fun x => x ++ [10]).length = (L.map List.length).sum + L.length:= by
 induction L with
 | nil => rfl
 | cons x L ih => simp only [List.flatMap_cons,List.length_append,List.length_cons,List.length_nil,List.map_cons,List.sum_cons,ih]; omega
theorem sum_le {α : Type} (f : α -> Nat) (B : Nat) : ∀ (l : List α),(∀ x ∈ l,f x <= B) -> (l.map f).sum <= B * l.length
 | [],_ => by simp
 | x :: l,h => by
  have h1 := sum_le f B l fun y hy => h y (by simp [hy])
  have h2 := h x (by simp)
  simp only [List.map_cons,List.sum_cons,List.length_cons]
  rw [Nat.mul_add]; omega
theorem end_len (d : Drum) : (endW d).length = 7:= by
 have hc : 0 <= checkI (linesD d) % 103 /\ checkI (linesD d) % 103 < 103 := ⟨Int.emod_nonneg _ (by omega),Int.emod_lt_of_pos _ (by omega)⟩
 have h1 : ∀ k : Int,0 <= k -> k < 10 -> (itoaB k).data.toList.length = 1:= by
  intro k h0 h9
  show (Lib.decDigits k.toNat).length = 1
  rw [dec_unf,if_pos (by omega)]; rfl
 unfold endW endL
 generalize checkI (linesD d) % 103 = c at *
 simp only [ByteArray.data_append,Array.toList_append,List.length_append]
 rw [h1 _ (by omega) (by omega),h1 _ (by omega) (by omega),h1 _ (by omega) (by omega)]
 rfl
theorem text_len {d : Drum} (hP : DrumP d) : (textD d).data.toList.length <= 600:= by
 have hs := smallD hP
 rw [text_data,fm_len]
 have a1 := hP.a1; have al := hP.al; have h1 := hP.h1; have sl := hP.sl; have b1 := hP.b1
 have e0 := end_len d
 obtain ⟨g1,g2⟩ := sm_hd hs
 have e1 : (hdW d).length <= 20:= by
  have := dD4 g1; have := dD4 g2
  simp only [hdW,joinW,wDrum,wKnown,List.length_append,List.flatMap_cons,List.flatMap_nil,List.length_cons,List.length_nil]; omega
 have e2 := sum_le (fun a => (acW a).length) 29 d.acids fun a ha => by
  obtain ⟨q1,q2⟩ := sm_ac hs ha
  have := dD4 (q1 a.strength.low (by simp [acN])); have := dD4 (q1 a.strength.high (by simp [acN])); have := dD4 (q2 a.fall.low (by simp [faN])); have := dD4 (q2 a.fall.high (by simp [faN]))
  simp only [acW,joinW,wAcid,wFall,List.length_append,List.flatMap_cons,List.flatMap_nil,List.length_cons,List.length_nil]; omega
 have e3 := joinW_len wAdd d.adds (sm_ad hs)
 have e4 := sum_le (fun s => (stW s).length) 20 d.strips fun s h => by
  have := joinW_len wStrip (stN s) (sm_st hs h)
  exact this
 have e5 := sum_le (fun b => (baW b).length) 35 d.batches fun b h => by
  have := joinW_len wBatch (baN b) (sm_ba hs h)
  exact this
 have w3 : wAdd.length = 3 := rfl
 have e6 : (adW d.adds).length <= 3 + 5 * d.adds.length := e3
 have hc1 : ∀ {α : Type} (f : α -> List UInt8) (l : List α),(l.map f).map List.length = l.map fun x => (f x).length := fun f l => by simp
 simp only [bodyW,List.map_cons,List.map_append,List.map_nil,List.sum_cons,List.sum_append,List.sum_nil,List.length_cons,List.length_append,List.length_map,List.length_nil,hc1]
 omega
end Go.Abs
