/- The reference's Read, of any text of at most 700 bytes: the walk. -/
import Derived.Test.YtmplfjolcdlipaaGreatDoorJDrKOQ7
import Derived.Test.YtmplfjolcdlipaaGreatDoorJNcAbsSLQ7
import Derived.Test.YtmplfjolcdlipaaGreatDoorJXQ7
set_option linter.unusedVariables false
set_option linter.unusedSimpArgs false
namespace Go.Abs
open Go.Proofs Go.RowKit
set_option linter.unusedVariables false
set_option linter.unusedSimpArgs false
set_option maxRecDepth 100000
def ansR : Option Drum -> List PV
 | some d => [eDrum d,.bool true]
 | none => [eDrum zeroD,.bool false]
abbrev ob43 (d : Drum) : List (Nat × AObj) := [(0,.box [.nils,.pv (vi 0),.pv (vi 0),.nils,.nils,.nils]),(1,.box [.arr 3,.pv (vi d.known),.pv (vi d.hours),.pv (eInts d.adds),.arr 4,.arr 5]),(3,.arr 137 4 (d.acids.map eAcid)),(4,.arr 74 3 (d.strips.map eStrip)),(5,.arr 77 6 (d.batches.map eBatch))]
abbrev st43 (s : List UInt8) (L : List (List UInt8)) (k : Nat) (d : Drum) : ASt := mkSt [(0,.pv (.str (bytesOf s))),(2,.box 0 0),(4,.box 1 0),(5,.pv (.sl (L.map eStrL))),(9,.pv (vi ((k + 1 : Nat) : Int)))] (ob43 d) 6
abbrev st43w (s : List UInt8) (L : List (List UInt8)) (k : Nat) (d : Drum) (w : List (List UInt8)) : ASt := mkSt [(0,.pv (.str (bytesOf s))),(2,.box 0 0),(4,.box 1 0),(5,.pv (.sl (L.map eStrL))),(9,.pv (vi ((k + 1 : Nat) : Int))),(10,.pv (.sl (w.map eStrL)))] (ob43 d) 6
theorem len_ne {α : Type} {l : List α} {n : Nat} (h : l.length ≠ n) : ¬ ((l.length : Nat) : Int) = n := by omega
set_option maxHeartbeats 16000000 in
theorem f43 (s : List UInt8) (hs : s.length <= 700) : ACalls Tryz.prog 43 [.str (bytesOf s)] (fun r => r = .tup (ansR (readR s))):= by
 have k113 := f113 s 10 (by omega)
 have hLl := splitS_len 10 s
 have hLe : ∀ x ∈ splitS 10 s,x.length <= 700 := fun x hx => Nat.le_trans (splitS_each hx) hs
 unfold readR
 generalize splitS 10 s = L at *
 obtain ⟨l0,hl0⟩ : ∃ l0,L[0]? = some l0 := ⟨L[0]'(by omega),by simp⟩
 have g0 : (L.map eStrL)[(0 : Int).toNat]? = some (eStrL l0) := by simp [hl0]
 have hl0l := hLe l0 (List.mem_of_getElem? hl0)
 have hhd : L.headD [] = l0:= by
  cases L with
  | nil => simp at hl0
  | cons x L => simpa using hl0
 have k113h := f113 l0 32 (by omega)
 have hHl := splitS_len 32 l0
 have hHe : ∀ x ∈ splitS 32 l0,x.length <= 700 := fun x hx => Nat.le_trans (splitS_each hx) hl0l
 refine ACalls.of_body hT Tryz.func43 rfl (by kernel_rfl) rfl ?_
 (repeat (refine stq ?_))
 refine AL_do2 rfl ⟨_,op_call1 rfl rfl rfl rfl k113,?_⟩
 refine AL_pure (t := 14) rfl rfl ?_
 (repeat (refine stq ?_))
 refine AL_do2 rfl ⟨_,op_call1 rfl rfl rfl rfl k113h,?_⟩
 refine AL_pure (t := 18) rfl rfl ?_
 unfold headR
 rw [hhd]
 generalize hH0 : splitS 32 l0 = H at *
 by_cases h3 : L.length < 3
 ·rw [if_pos h3]
  (repeat' (first | refine stq ?_ | (refine AL_do2 rfl ?_; first | refine ⟨_,op_call1 rfl rfl rfl rfl (k113),nrmA rfl ?_⟩) | ((first | (with_reducible refine AL_id ?_); (fail_if_success (refine AL_glit rfl rfl rfl (by first | exact .inl (by with_reducible rfl) | exact .inr (by with_reducible rfl)) ?_)); first | refine AL_gdec rfl rfl rfl (fun hg => ?_) (fun hg => ?_) | refine AL_gnot rfl rfl rfl (fun hg => ?_) (fun hg => ?_) | refine AL_gcases rfl rfl rfl (fun hg => ?_) (fun hg => ?_)) <;> (try (exfalso; omega))) | refine AW_if rfl (fun hc => absurd hc (by omega)) (fun _ => ?_) | refine AW_if rfl (fun _ => ?_) (fun hc => absurd (by omega) hc)))
  all_goals first | exact ⟨_,_,rfl,rfl,rfl⟩ | (exfalso; omega)
 ·rw [if_neg h3]
  by_cases h4 : H.length = 4
  ·match H,h4 with
   | [q0,q1,q2,q3],_ =>
    have m1 := hHe q1 (by simp)
    have m3 := hHe q3 (by simp)
    have k114 := f114 [q1,q3] (by intro x hx; simp only [List.mem_cons,List.not_mem_nil,or_false] at hx; rcases hx with rfl | rfl <;> omega) (by simp)
    have p1 : ([q0,q1,q2,q3].map eStrL)[(1 : Int).toNat]? = some (eStrL q1) := rfl
    have p3 : ([q0,q1,q2,q3].map eStrL)[(3 : Int).toNat]? = some (eStrL q3) := rfl
    cases hn : numsR [q1,q3] with
    | none =>
     rw [hn] at k114
     have hh : headH [q0,q1,q2,q3] = none := by unfold headH; simp only; rw [hn]
     rw [hh]
     (repeat' (first | refine stq ?_ | (refine AL_do2 rfl ?_; first | refine ⟨_,op_call1 rfl rfl rfl rfl (k113),nrmA rfl ?_⟩) | ((first | (with_reducible refine AL_id ?_); (fail_if_success (refine AL_glit rfl rfl rfl (by first | exact .inl (by with_reducible rfl) | exact .inr (by with_reducible rfl)) ?_)); first | refine AL_gdec rfl rfl rfl (fun hg => ?_) (fun hg => ?_) | refine AL_gnot rfl rfl rfl (fun hg => ?_) (fun hg => ?_) | refine AL_gcases rfl rfl rfl (fun hg => ?_) (fun hg => ?_)) <;> (try (exfalso; omega))) | refine AW_if rfl (fun hc => absurd hc (by omega)) (fun _ => ?_) | refine AW_if rfl (fun _ => ?_) (fun hc => absurd (by omega) hc)))
     all_goals (try (exfalso; first | omega | (simp at hg; done)))
     (repeat (first | refine sdq ?_ | refine DG_next (D_call_tup rfl rfl rfl rfl rfl (k114)) ?_))
     refine DG_end hM (by kernel_rfl) ?_
     (repeat (refine stq ?_))
     exact ⟨_,_,rfl,rfl,rfl⟩
    | some r =>
     obtain ⟨hrl,hrb⟩ := numsR_ok hn
     obtain ⟨a,b,rfl⟩ := len2 hrl
     rw [hn] at k114
     have k114 : ACalls Tryz.prog 114 [.sl ([q1,q3].map eStrL)] (fun r => r = .tup [eInts [a,b],.bool true]) := k114
     have hh : headH [q0,q1,q2,q3] = some ⟨[],b,a,[],[],[]⟩ := by unfold headH; simp only; rw [hn]
     have hm1 := (headR_ok (L := L) (d := ⟨[],b,a,[],[],[]⟩) (by unfold headR; rw [hhd]; exact hH0 ▸ hh)).1
     rw [hh]
     have j0 : ([a,b].map eInt)[(0 : Int).toNat]? = some (eInt a) := rfl
     have j1 : ([a,b].map eInt)[(1 : Int).toNat]? = some (eInt b) := rfl
     (repeat' (first | refine stq ?_ | (refine AL_do2 rfl ?_; first | refine ⟨_,op_call1 rfl rfl rfl rfl (k113),nrmA rfl ?_⟩) | ((first | (with_reducible refine AL_id ?_); (fail_if_success (refine AL_glit rfl rfl rfl (by first | exact .inl (by with_reducible rfl) | exact .inr (by with_reducible rfl)) ?_)); first | refine AL_gdec rfl rfl rfl (fun hg => ?_) (fun hg => ?_) | refine AL_gnot rfl rfl rfl (fun hg => ?_) (fun hg => ?_) | refine AL_gcases rfl rfl rfl (fun hg => ?_) (fun hg => ?_)) <;> (try (exfalso; omega))) | refine AW_if rfl (fun hc => absurd hc (by omega)) (fun _ => ?_) | refine AW_if rfl (fun _ => ?_) (fun hc => absurd (by omega) hc)))
     all_goals (try (exfalso; first | omega | (simp at hg; done)))
     (repeat (first | refine sdq ?_ | refine DG_next (D_call_tup rfl rfl rfl rfl rfl (k114)) ?_))
     refine DG_end hM (by kernel_rfl) ?_
     (repeat (refine stq ?_))
     iterate 7 (refine sdq ?_)
     refine DG_next (D_store hT rfl rfl rfl rfl rfl rfl rfl rfl rfl rfl) ?_
     refine DG_end hM (by kernel_rfl) ?_
     (repeat (refine stq ?_))
     obtain ⟨n,hLn⟩ : ∃ n : Nat,L.length = n + 3 := ⟨L.length - 3,by omega⟩
     refine AW_nilBox 1 0 137 4 rfl rfl ?_
     refine AW_nilBox 1 4 74 3 rfl rfl ?_
     refine AW_nilBox 1 5 77 6 rfl rfl ?_
     refine AW_nilBox 1 3 3 1 rfl rfl ?_
     refine AW_arrBox (b := 1) 3 rfl rfl rfl rfl ?_
     have hMg : ∀ k x,((L.drop 1).take (L.length - 3))[k]? = some x -> L[k + 1]? = some x:= by
      intro k x h
      rw [List.getElem?_take] at h
      split at h
      ·rw [List.getElem?_drop] at h; rwa [Nat.add_comm 1 k] at h
      ·cases h
     have hML : ((L.drop 1).take (L.length - 3)).length = L.length - 3 := by simp; omega
     have hMe : ∀ x ∈ (L.drop 1).take (L.length - 3),x.length <= 700 := fun x hx => hLe x (List.mem_of_mem_drop (List.mem_of_mem_take hx))
     generalize (L.drop 1).take (L.length - 3) = M at *
     refine AW_loopC (fun i : Nat × Drum => i.1 <= M.length /\ stepsR ⟨[],b,a,[],[],[]⟩ (M.take i.1) = some i.2) (fun i => st43 s L i.1 i.2) (fun i => M.length - i.1) (0,⟨[],b,a,[],[],[]⟩) ⟨Nat.zero_le _,rfl⟩ ?_ ?_
     ·(refine Le.mkR [(0,0),(1,1),(3,4),(4,5),(5,6)] ?_ ?_ rfl; all_goals (repeat' (first | exact trivial | refine sle ?_ | refine ⟨?_,rfl,?_⟩ | refine ⟨?_,by decide,rfl,?_⟩ | fail)))
     ·rintro ⟨k,d⟩ ⟨hk,hst⟩
      dsimp only at hk hst ⊢
      obtain ⟨hsm,hcnt,hadd⟩ := stepsR_ok _ hst hm1 (by simp) (fun x hx => by have := hMe x (List.mem_of_mem_take hx); omega)
      simp only [List.length_nil,List.length_take,Nat.zero_add] at hcnt
      have hA : d.acids.length <= 700 := by omega
      have hS : d.strips.length <= 700 := by omega
      have hB : d.batches.length <= 700 := by omega
      by_cases hk3 : k = M.length
      ·subst hk3
       rw [List.take_length] at hst
       rw [hst]
       have k41 := f41w d (by omega) hadd hsm.small
       (repeat (refine stq ?_))
       refine AW_if rfl (fun hc => absurd hc (by omega)) (fun _ => ?_)
       (repeat (refine stq ?_))
       refine AL_do2 rfl ⟨_,op_callB rfl rfl rfl rfl k41 rfl,?_⟩
       refine AL_arrBox (b := 1) 0 rfl rfl rfl rfl ?_
       refine AL_arrBox (b := 1) 4 rfl rfl rfl rfl ?_
       refine AL_arrBox (b := 1) 5 rfl rfl rfl rfl ?_
       by_cases ht : textD d = bytesOf s
       ·(repeat (refine stq ?_))
        refine AL_do2 rfl ⟨_,op_strneB (b := false) (by rw [ht]; simp) rfl rfl rfl rfl,?_⟩
        (repeat (refine stq ?_))
        refine ⟨_,_,rfl,rfl,?_⟩
        dsimp only
        rw [if_pos ht]; rfl
       ·(repeat (refine stq ?_))
        refine AL_do2 rfl ⟨_,op_strneB (b := true) (by rw [beq_eq_false_iff_ne.2 fun h => ht (bytes_ext h)]; rfl) rfl rfl rfl rfl,?_⟩
        (repeat (refine stq ?_))
        refine ⟨_,_,rfl,rfl,?_⟩
        dsimp only
        rw [if_neg ht]; rfl
      ·have hk' : k < M.length := by omega
       obtain ⟨x,hx⟩ : ∃ x,M[k]? = some x := ⟨M[k],by simp [hk']⟩
       have hxl := hMe x (List.mem_of_getElem? hx)
       have e1 : (L.map eStrL)[(((k + 1 : Nat) : Int)).toNat]? = some (eStrL x) := get_map eStrL (hMg k x hx)
       obtain ⟨hbad,hgo⟩ := stepsR_at hx hst
       have k113x := f113 x 32 (by omega)
       (repeat (refine stq ?_))
       refine AW_if rfl (fun _ => ?_) (fun hc => absurd (show (((k + 1 : Nat) : Int)) < L.length - 2 by omega) hc)
       (repeat (refine stq ?_))
       refine AL_do2 rfl ⟨_,op_call1 rfl rfl rfl rfl k113x,?_⟩
       refine AL_pure (t := 61) rfl rfl ?_
       iterate 2 (refine stq ?_)
       obtain ⟨wh,wr,hwE,hwl,hwe⟩ := wrdR_ok x
       have hst2 : stepR d x = stepW d wh wr := by unfold stepR; rw [hwE]; rfl
       rw [hst2] at hbad hgo
       refine AW_mid1 (st43w s L k d (wh :: wr)) ?_ ?_
       ·unfold wrdR at hwE
        have hXl := splitS_len 32 x
        have hXe : ∀ y ∈ splitS 32 x,y.length <= 700 := fun y hy => Nat.le_trans (splitS_each hy) hxl
        generalize splitS 32 x = X at *
        obtain ⟨x0,xr,rfl⟩ : ∃ x0 xr,X = x0 :: xr:= by
         match X,hXl with
         | x0 :: xr,_ => exact ⟨x0,xr,rfl⟩
        have g1 : ((x0 :: xr).map eStrL)[(0 : Int).toNat]? = some (eStrL x0) := rfl
        by_cases w1 : x0 = wAcid
        ·by_cases w6 : xr.length = 5
         ·match xr,w6 with
          | [x1,x2,x3,x4,x5],_ =>
           rw [if_pos ⟨w1,rfl⟩] at hwE
           simp only [List.cons.injEq] at hwE
           obtain ⟨rfl,rfl⟩ := hwE
           have p1 : ([x0,x1,x2,x3,x4,x5].map eStrL)[(1 : Int).toNat]? = some (eStrL x1) := rfl
           have p2 : ([x0,x1,x2,x3,x4,x5].map eStrL)[(2 : Int).toNat]? = some (eStrL x2) := rfl
           have p4 : ([x0,x1,x2,x3,x4,x5].map eStrL)[(4 : Int).toNat]? = some (eStrL x4) := rfl
           have p5 : ([x0,x1,x2,x3,x4,x5].map eStrL)[(5 : Int).toNat]? = some (eStrL x5) := rfl
           (repeat (refine stq ?_))
           refine AL_do2 rfl ⟨_,op_streqB (b := true) (eqw (b := wAcid) rfl _ (decide_eq_true w1)) rfl rfl rfl rfl,?_⟩
           (repeat (refine stq ?_))
           (repeat (first | refine sdq ?_))
           refine DG_end hM (by kernel_rfl) ?_
           (repeat (refine stq ?_))
           (refine Le.mk ?_ ?_; all_goals (repeat' (first | exact trivial | refine sle ?_ | refine ⟨?_,rfl,?_⟩ | refine ⟨?_,by decide,rfl,?_⟩ | fail)))
         ·rw [if_neg (fun h => w6 (by simpa using h.2))] at hwE
          simp only [List.cons.injEq] at hwE
          obtain ⟨rfl,rfl⟩ := hwE
          have hxr : xr.length <= 700 := by simp only [List.length_cons] at hXl; omega
          (repeat (refine stq ?_))
          refine AL_do2 rfl ⟨_,op_streqB (b := true) (eqw (b := wAcid) rfl _ (decide_eq_true w1)) rfl rfl rfl rfl,?_⟩
          (repeat (refine stq ?_))
          refine AW_if rfl (fun hc => absurd hc (by simp only [List.length_cons]; omega)) (fun _ => ?_)
          (repeat (refine stq ?_))
          (refine Le.mk ?_ ?_; all_goals (repeat' (first | exact trivial | refine sle ?_ | refine ⟨?_,rfl,?_⟩ | refine ⟨?_,by decide,rfl,?_⟩ | fail)))
        ·rw [if_neg (fun h => w1 h.1)] at hwE
         simp only [List.cons.injEq] at hwE
         obtain ⟨rfl,rfl⟩ := hwE
         (repeat (refine stq ?_))
         refine AL_do2 rfl ⟨_,op_streqB (b := false) (eqw (b := wAcid) rfl _ (decide_eq_false w1)) rfl rfl rfl rfl,?_⟩
         (repeat (refine stq ?_))
         (refine Le.mk ?_ ?_; all_goals (repeat' (first | exact trivial | refine sle ?_ | refine ⟨?_,rfl,?_⟩ | refine ⟨?_,by decide,rfl,?_⟩ | fail)))
       ·have hwr : wr.length <= 700 := by omega
        have k114w := f114 wr (fun y hy => by have := hwe y (by simp [hy]); omega) (by omega)
        have g1 : ((wh :: wr).map eStrL)[(0 : Int).toNat]? = some (eStrL wh) := rfl
        (repeat (refine stq ?_))
        refine AL_do2 rfl ⟨_,op_slice_sl (lo := 1) (hi := ((wh :: wr).map eStrL).length) hT rfl rfl rfl rfl rfl rfl (by intro y hy; obtain ⟨_,_,rfl⟩ := List.mem_map.1 hy; rfl) (.inr ⟨_,.i64,rfl,rfl⟩) (.inl ⟨rfl,rfl⟩) (by simp) (Nat.le_refl _),?_⟩
        rw [show (((wh :: wr).map eStrL).take ((wh :: wr).map eStrL).length).drop 1 = wr.map eStrL by rw [List.take_length]; rfl]
        cases hnw : numsR wr with
        | none =>
         have hsn := stepW_n (d := d) (h := wh) hnw
         rw [hnw] at k114w
         have k114w : ACalls Tryz.prog 114 [.sl (wr.map eStrL)] (fun r => r = .tup [eInts [],.bool false]) := k114w
         (repeat' (first | refine stq ?_ | (refine AL_do2 rfl ?_; first | refine ⟨_,op_call1 rfl rfl rfl rfl (k114w),nrmA rfl ?_⟩) | (with_reducible refine AL_id ?_); (fail_if_success (refine AL_glit rfl rfl rfl (by first | exact .inl (by with_reducible rfl) | exact .inr (by with_reducible rfl)) ?_)); first | refine AL_gdec rfl rfl rfl (fun hg => ?_) (fun hg => ?_) | refine AL_gnot rfl rfl rfl (fun hg => ?_) (fun hg => ?_) | refine AL_gcases rfl rfl rfl (fun hg => ?_) (fun hg => ?_)))
         refine ⟨_,_,rfl,rfl,?_⟩
         rw [hbad hsn]; rfl
        | some xs =>
         obtain ⟨hxsl,hxsb⟩ := numsR_ok hnw
         have hxs7 : xs.length <= 700 := by omega
         rw [hnw] at k114w
         have k114w : ACalls Tryz.prog 114 [.sl (wr.map eStrL)] (fun r => r = .tup [eInts xs,.bool true]) := k114w
         (repeat' (first | refine stq ?_ | (refine AL_do2 rfl ?_; first | refine ⟨_,op_call1 rfl rfl rfl rfl (k114w),nrmA rfl ?_⟩) | (with_reducible refine AL_id ?_); (fail_if_success (refine AL_glit rfl rfl rfl (by first | exact .inl (by with_reducible rfl) | exact .inr (by with_reducible rfl)) ?_)); first | refine AL_gdec rfl rfl rfl (fun hg => ?_) (fun hg => ?_) | refine AL_gnot rfl rfl rfl (fun hg => ?_) (fun hg => ?_) | refine AL_gcases rfl rfl rfl (fun hg => ?_) (fun hg => ?_)))
         by_cases w1 : wh = wAcid
         ·refine AL_do2 rfl ⟨_,op_streqB (b := true) (eqw (b := wAcid) rfl _ (decide_eq_true w1)) rfl rfl rfl rfl,?_⟩
          subst w1
          by_cases w4 : xs.length = 4
          ·obtain ⟨a1,a2,a3,a4,rfl⟩ := len4 w4
           have hgo' := hgo _ (stepW_ac hnw)
           have p0 : ([a1,a2,a3,a4].map eInt)[(0 : Int).toNat]? = some (eInt a1) := rfl
           have p1 : ([a1,a2,a3,a4].map eInt)[(1 : Int).toNat]? = some (eInt a2) := rfl
           have p2 : ([a1,a2,a3,a4].map eInt)[(2 : Int).toNat]? = some (eInt a3) := rfl
           have p3 : ([a1,a2,a3,a4].map eInt)[(3 : Int).toNat]? = some (eInt a4) := rfl
           (repeat (refine stq ?_))
           (repeat (first | refine sdq ?_))
           refine DG_end hM (by kernel_rfl) ?_
           (repeat (refine stq ?_))
           refine ⟨(k + 1,_),⟨hk',hgo'⟩,by dsimp only; omega,?_⟩
           (refine Le.mkR [(0,0),(1,1),(3,6),(4,4),(5,5)] ?_ ?_ rfl; all_goals (repeat' (first | exact trivial | refine sle ?_ | refine ⟨?_,rfl,?_⟩ | refine ⟨?_,by decide,rfl,?_⟩ | fail)))
           show some (AObj.arr 137 4 (d.acids.map eAcid ++ [eAcid ⟨⟨a1,a2⟩,⟨a3,a4⟩⟩])) = some (AObj.arr 137 4 ((d.acids ++ [(⟨⟨a1,a2⟩,⟨a3,a4⟩⟩ : Acid)]).map eAcid))
           rw [List.map_append]; rfl
          ·have hsn := stepW_acn (d := d) hnw w4
           (repeat (refine stq ?_))
           refine AW_if rfl (fun _ => ?_) (fun hc => absurd (len_ne w4) hc)
           (repeat (refine stq ?_))
           refine ⟨_,_,rfl,rfl,?_⟩
           rw [hbad hsn]; rfl
         ·refine AL_do2 rfl ⟨_,op_streqB (b := false) (eqw (b := wAcid) rfl _ (decide_eq_false w1)) rfl rfl rfl rfl,?_⟩
          (repeat (refine stq ?_))
          by_cases w2 : wh = wAdd
          ·refine AL_do2 rfl ⟨_,op_streqB (b := true) (eqw (b := wAdd) rfl _ (decide_eq_true w2)) rfl rfl rfl rfl,?_⟩
           subst w2
           have hgo' := hgo _ (stepW_ad hnw)
           (repeat (refine stq ?_))
           refine ⟨(k + 1,_),⟨hk',hgo'⟩,by dsimp only; omega,?_⟩
           (refine Le.mk ?_ ?_; all_goals (repeat' (first | exact trivial | refine sle ?_ | refine ⟨?_,rfl,?_⟩ | refine ⟨?_,by decide,rfl,?_⟩ | fail)))
          ·refine AL_do2 rfl ⟨_,op_streqB (b := false) (eqw (b := wAdd) rfl _ (decide_eq_false w2)) rfl rfl rfl rfl,?_⟩
           (repeat (refine stq ?_))
           by_cases w3 : wh = wStrip
           ·refine AL_do2 rfl ⟨_,op_streqB (b := true) (eqw (b := wStrip) rfl _ (decide_eq_true w3)) rfl rfl rfl rfl,?_⟩
            subst w3
            by_cases w4 : xs.length = 3
            ·obtain ⟨a1,a2,a3,rfl⟩ := len3 w4
             have hgo' := hgo _ (stepW_st hnw)
             have p0 : ([a1,a2,a3].map eInt)[(0 : Int).toNat]? = some (eInt a1) := rfl
             have p1 : ([a1,a2,a3].map eInt)[(1 : Int).toNat]? = some (eInt a2) := rfl
             have p2 : ([a1,a2,a3].map eInt)[(2 : Int).toNat]? = some (eInt a3) := rfl
             (repeat (refine stq ?_))
             (repeat (first | refine sdq ?_))
             refine DG_end hM (by kernel_rfl) ?_
             (repeat (refine stq ?_))
             refine ⟨(k + 1,_),⟨hk',hgo'⟩,by dsimp only; omega,?_⟩
             (refine Le.mkR [(0,0),(1,1),(3,3),(4,6),(5,5)] ?_ ?_ rfl; all_goals (repeat' (first | exact trivial | refine sle ?_ | refine ⟨?_,rfl,?_⟩ | refine ⟨?_,by decide,rfl,?_⟩ | fail)))
             show some (AObj.arr 74 3 (d.strips.map eStrip ++ [eStrip ⟨a1,a2,a3⟩])) = some (AObj.arr 74 3 ((d.strips ++ [(⟨a1,a2,a3⟩ : Strip)]).map eStrip))
             rw [List.map_append]; rfl
            ·have hsn := stepW_stn (d := d) hnw w4
             (repeat (refine stq ?_))
             refine AW_if rfl (fun _ => ?_) (fun hc => absurd (len_ne w4) hc)
             (repeat (refine stq ?_))
             refine ⟨_,_,rfl,rfl,?_⟩
             rw [hbad hsn]; rfl
           ·refine AL_do2 rfl ⟨_,op_streqB (b := false) (eqw (b := wStrip) rfl _ (decide_eq_false w3)) rfl rfl rfl rfl,?_⟩
            (repeat (refine stq ?_))
            by_cases w5 : wh = wBatch
            ·refine AL_do2 rfl ⟨_,op_streqB (b := true) (eqw (b := wBatch) rfl _ (decide_eq_true w5)) rfl rfl rfl rfl,?_⟩
             subst w5
             by_cases w4 : xs.length = 6
             ·obtain ⟨a1,a2,a3,a4,a5,a6,rfl⟩ := len6 w4
              have hgo' := hgo _ (stepW_ba hnw)
              have p0 : ([a1,a2,a3,a4,a5,a6].map eInt)[(0 : Int).toNat]? = some (eInt a1) := rfl
              have p1 : ([a1,a2,a3,a4,a5,a6].map eInt)[(1 : Int).toNat]? = some (eInt a2) := rfl
              have p2 : ([a1,a2,a3,a4,a5,a6].map eInt)[(2 : Int).toNat]? = some (eInt a3) := rfl
              have p3 : ([a1,a2,a3,a4,a5,a6].map eInt)[(3 : Int).toNat]? = some (eInt a4) := rfl
              have p4 : ([a1,a2,a3,a4,a5,a6].map eInt)[(4 : Int).toNat]? = some (eInt a5) := rfl
              have p5 : ([a1,a2,a3,a4,a5,a6].map eInt)[(5 : Int).toNat]? = some (eInt a6) := rfl
              (repeat (refine stq ?_))
              (repeat (first | refine sdq ?_))
              refine DG_end hM (by kernel_rfl) ?_
              (repeat (refine stq ?_))
              refine ⟨(k + 1,_),⟨hk',hgo'⟩,by dsimp only; omega,?_⟩
              (refine Le.mkR [(0,0),(1,1),(3,3),(4,4),(5,6)] ?_ ?_ rfl; all_goals (repeat' (first | exact trivial | refine sle ?_ | refine ⟨?_,rfl,?_⟩ | refine ⟨?_,by decide,rfl,?_⟩ | fail)))
              show some (AObj.arr 77 6 (d.batches.map eBatch ++ [eBatch ⟨a1,a2,a3,a4,a5,a6⟩])) = some (AObj.arr 77 6 ((d.batches ++ [(⟨a1,a2,a3,a4,a5,a6⟩ : Batch)]).map eBatch))
              rw [List.map_append]; rfl
             ·have hsn := stepW_ban (d := d) hnw w4
              (repeat (refine stq ?_))
              refine AW_if rfl (fun _ => ?_) (fun hc => absurd (len_ne w4) hc)
              (repeat (refine stq ?_))
              refine ⟨_,_,rfl,rfl,?_⟩
              rw [hbad hsn]; rfl
            ·refine AL_do2 rfl ⟨_,op_streqB (b := false) (eqw (b := wBatch) rfl _ (decide_eq_false w5)) rfl rfl rfl rfl,?_⟩
             have hsn := stepW_o (d := d) (r := wr) w1 w2 w3 w5
             (repeat (refine stq ?_))
             refine ⟨_,_,rfl,rfl,?_⟩
             rw [hbad hsn]; rfl
  ·rw [headH_ne h4]
   (repeat' (first | refine stq ?_ | (refine AL_do2 rfl ?_; first | refine ⟨_,op_call1 rfl rfl rfl rfl (k113),nrmA rfl ?_⟩) | ((first | (with_reducible refine AL_id ?_); (fail_if_success (refine AL_glit rfl rfl rfl (by first | exact .inl (by with_reducible rfl) | exact .inr (by with_reducible rfl)) ?_)); first | refine AL_gdec rfl rfl rfl (fun hg => ?_) (fun hg => ?_) | refine AL_gnot rfl rfl rfl (fun hg => ?_) (fun hg => ?_) | refine AL_gcases rfl rfl rfl (fun hg => ?_) (fun hg => ?_)) <;> (try (exfalso; omega))) | refine AW_if rfl (fun hc => absurd hc (by omega)) (fun _ => ?_) | refine AW_if rfl (fun _ => ?_) (fun hc => absurd (by omega) hc)))
   all_goals first | exact ⟨_,_,rfl,rfl,rfl⟩ | (exfalso; omega)
end Go.Abs
