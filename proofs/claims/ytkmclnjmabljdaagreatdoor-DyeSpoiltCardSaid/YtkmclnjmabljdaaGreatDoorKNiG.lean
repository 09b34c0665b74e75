/- Plain: what the program's reader makes of a text of a house with stocks. -/
import Derived.Test.YtkmclnjmabljdaaGreatDoorKNiF
set_option linter.unusedVariables false
set_option linter.unusedSimpArgs false
namespace Go.Abs
open Go.Proofs Go.RowKit
set_option linter.unusedVariables false
set_option linter.unusedSimpArgs false
set_option maxRecDepth 100000
abbrev Lines := List (List UInt8)
def dyeOf (n : List Int) : Dye := ⟨[⟨n.getD 1 0,n.getD 2 0⟩,⟨n.getD 3 0,n.getD 4 0⟩,⟨n.getD 5 0,n.getD 6 0⟩],n.getD 0 0⟩
def bathOf (n : List Int) : Bath := ⟨n.getD 0 0,n.getD 1 0,⟨n.getD 2 0,n.getD 3 0⟩⟩
def dyesM : Nat -> Lines -> Option (List Dye × Lines)
 | 0,L => some ([],L)
 | n + 1,L => match nextM wDye 7 L with
  | none => none
  | some (ns,r) => (dyesM n r).map fun p => (dyeOf ns :: p.1,p.2)
def bathsM : Nat -> Lines -> Option (List Bath × Lines)
 | 0,L => some ([],L)
 | n + 1,L => match nextM wBath 4 L with
  | none => none
  | some (ns,r) => (bathsM n r).map fun p => (bathOf ns :: p.1,p.2)
def stocksM : Nat -> Lines -> Option (List Stock × Lines)
 | 0,L => some ([],L)
 | n + 1,L => match nextM wStock 3 L with
  | none => none
  | some (ns,r) => match bathsM (ns.getD 2 0).toNat r with
   | none => none
   | some (bs,r') => (stocksM n r').map fun p => (⟨bs,ns.getD 0 0,ns.getD 1 0⟩ :: p.1,p.2)
def readC (s : List UInt8) (h : List Dye) : Option (List Stock × Lines) -> Option (List Dye × List Stock)
 | none => none
 | some (l,_) => if textB h l = bytesOf s then some (h,l) else none
def readB (s : List UInt8) (b : Nat) : Option (List Dye × Lines) -> Option (List Dye × List Stock)
 | none => none
 | some (h,L2) => readC s h (stocksM b L2)
def readM (s : List UInt8) : Option (List Dye × List Stock) :=
 match nextM wTop 2 (splitS 10 s) with
 | none => none
 | some (ns,L1) => readB s (ns.getD 1 0).toNat (dyesM (ns.getD 0 0).toNat L1)
theorem readM_none {s : List UInt8} (h : nextM wTop 2 (splitS 10 s) = none) : readM s = none := by unfold readM; rw [h]
theorem readM_some {s : List UInt8} {a b : Int} {L1 : Lines} (h : nextM wTop 2 (splitS 10 s) = some ([a,b],L1)) : readM s = readB s b.toNat (dyesM a.toNat L1) := by unfold readM; rw [h]; rfl
def ShortL (n : Nat) (L : Lines) : Prop := L.length <= n /\ ∀ x ∈ L,x.length <= 700
theorem next_short {nm : List UInt8} {many n : Nat} {L r : Lines} {ns : List Int} (h : nextM nm many L = some (ns,r)) (hs : ShortL n L) : 1 <= n /\ ShortL (n - 1) r /\ ns.length = many /\ ∀ x ∈ ns,0 <= x /\ x <= 999:= by
 obtain ⟨x,rfl,h1,h2,h3⟩ := next_some h
 obtain ⟨g1,g2⟩ := numsR_ok h3
 obtain ⟨s1,s2⟩ := hs
 simp only [List.length_cons] at s1
 refine ⟨by omega,⟨by omega,fun y hy => s2 y (by simp [hy])⟩,?_,g2⟩
 rw [g1,List.length_drop]; omega
def smallI (x : Int) : Prop := 0 <= x /\ x <= 999
def SmallDy (d : Dye) : Prop := d.takes.length = 3 /\ ∀ x ∈ dyeNums d,smallI x
def SmallSt (s : Stock) : Prop := smallI s.many /\ smallI s.price /\ ∀ b ∈ s.baths,∀ x ∈ baNums b,smallI x
theorem dyeOf_small {ns : List Int} (hl : ns.length = 7) (hb : ∀ x ∈ ns,0 <= x /\ x <= 999) : SmallDy (dyeOf ns) /\ dyeNums (dyeOf ns) = ns:= by
 match ns,hl with
 | [a,b,c,d,e,f,g],_ => exact ⟨⟨rfl,hb⟩,rfl⟩
theorem bathOf_small {ns : List Int} (hl : ns.length = 4) (hb : ∀ x ∈ ns,0 <= x /\ x <= 999) : (∀ x ∈ baNums (bathOf ns),smallI x) /\ baNums (bathOf ns) = ns:= by
 match ns,hl with
 | [a,b,c,d],_ => exact ⟨hb,rfl⟩
theorem dyesM_ok : ∀ (n m : Nat) (L r : Lines) (ds : List Dye),ShortL m L -> dyesM n L = some (ds,r) -> ShortL (m - n) r /\ ds.length = n /\ n <= m /\ ∀ d ∈ ds,SmallDy d
 | 0,m,L,r,ds,hs,h => by
  simp only [dyesM,Option.some.injEq,Prod.mk.injEq] at h
  obtain ⟨rfl,rfl⟩ := h
  exact ⟨hs,rfl,Nat.zero_le _,fun d hd => by cases hd⟩
 | n + 1,m,L,r,ds,hs,h => by
  rw [dyesM] at h
  cases hn : nextM wDye 7 L with
  | none => rw [hn] at h; cases h
  | some p =>
   obtain ⟨ns,r1⟩ := p
   rw [hn] at h
   obtain ⟨g1,g2,g3,g4⟩ := next_short hn hs
   cases hd : dyesM n r1 with
   | none => simp only [hd,Option.map_none] at h; cases h
   | some p =>
    obtain ⟨es,r2⟩ := p
    simp only [hd,Option.map_some,Option.some.injEq,Prod.mk.injEq] at h
    obtain ⟨rfl,rfl⟩ := h
    obtain ⟨q1,q2,q3,q4⟩ := dyesM_ok n (m - 1) r1 r2 es g2 hd
    refine ⟨by rw [show m - (n + 1) = m - 1 - n by omega]; exact q1,by simp [q2],by omega,fun d hd => ?_⟩
    rcases List.mem_cons.1 hd with rfl | hd
    ·exact (dyeOf_small g3 g4).1
    ·exact q4 d hd
theorem bathsM_ok : ∀ (n m : Nat) (L r : Lines) (bs : List Bath),ShortL m L -> bathsM n L = some (bs,r) -> ShortL (m - n) r /\ bs.length = n /\ n <= m /\ ∀ b ∈ bs,∀ x ∈ baNums b,smallI x
 | 0,m,L,r,ds,hs,h => by
  simp only [bathsM,Option.some.injEq,Prod.mk.injEq] at h
  obtain ⟨rfl,rfl⟩ := h
  exact ⟨hs,rfl,Nat.zero_le _,fun d hd => by cases hd⟩
 | n + 1,m,L,r,ds,hs,h => by
  rw [bathsM] at h
  cases hn : nextM wBath 4 L with
  | none => rw [hn] at h; cases h
  | some p =>
   obtain ⟨ns,r1⟩ := p
   rw [hn] at h
   obtain ⟨g1,g2,g3,g4⟩ := next_short hn hs
   cases hd : bathsM n r1 with
   | none => simp only [hd,Option.map_none] at h; cases h
   | some p =>
    obtain ⟨es,r2⟩ := p
    simp only [hd,Option.map_some,Option.some.injEq,Prod.mk.injEq] at h
    obtain ⟨rfl,rfl⟩ := h
    obtain ⟨q1,q2,q3,q4⟩ := bathsM_ok n (m - 1) r1 r2 es g2 hd
    refine ⟨by rw [show m - (n + 1) = m - 1 - n by omega]; exact q1,by simp [q2],by omega,fun d hd => ?_⟩
    rcases List.mem_cons.1 hd with rfl | hd
    ·exact (bathOf_small g3 g4).1
    ·exact q4 d hd
theorem le_sumN {a : Nat} : ∀ {l : List Nat},a ∈ l -> a <= l.sum
 | x :: l,h => by
  rw [List.sum_cons]
  rcases List.mem_cons.1 h with rfl | h
  ·omega
  ·have := le_sumN h; omega
def stLines (l : List Stock) : Nat := (l.map fun s => s.baths.length + 1).sum
theorem stocksM_ok : ∀ (n m : Nat) (L r : Lines) (l : List Stock),ShortL m L -> stocksM n L = some (l,r) -> ShortL (m - stLines l) r /\ stLines l <= m /\ l.length = n /\ ∀ s ∈ l,SmallSt s
 | 0,m,L,r,ds,hs,h => by
  simp only [stocksM,Option.some.injEq,Prod.mk.injEq] at h
  obtain ⟨rfl,rfl⟩ := h
  exact ⟨hs,Nat.zero_le _,rfl,fun d hd => by cases hd⟩
 | n + 1,m,L,r,ds,hs,h => by
  rw [stocksM] at h
  cases hn : nextM wStock 3 L with
  | none => rw [hn] at h; cases h
  | some p =>
   obtain ⟨ns,r1⟩ := p
   rw [hn] at h
   simp only at h
   obtain ⟨g1,g2,g3,g4⟩ := next_short hn hs
   cases hb : bathsM (ns.getD 2 0).toNat r1 with
   | none => rw [hb] at h; cases h
   | some p =>
    obtain ⟨bs,r2⟩ := p
    rw [hb] at h
    simp only at h
    obtain ⟨p1,p2,p3,p4⟩ := bathsM_ok _ _ _ _ _ g2 hb
    cases hd : stocksM n r2 with
    | none => simp only [hd,Option.map_none] at h; cases h
    | some p =>
     obtain ⟨es,r3⟩ := p
     simp only [hd,Option.map_some,Option.some.injEq,Prod.mk.injEq] at h
     obtain ⟨rfl,rfl⟩ := h
     obtain ⟨q1,q2,q3,q4⟩ := stocksM_ok n _ r2 r3 es p1 hd
     have hsl : stLines (⟨bs,ns.getD 0 0,ns.getD 1 0⟩ :: es) = bs.length + 1 + stLines es := by simp [stLines]
     rw [hsl]
     refine ⟨by rw [show m - (bs.length + 1 + stLines es) = m - 1 - (ns.getD 2 0).toNat - stLines es by omega]; exact q1,by omega,by simp [q3],fun d hd => ?_⟩
     rcases List.mem_cons.1 hd with rfl | hd
     ·match ns,g3 with
      | [a,b,c],_ => exact ⟨g4 a (by simp),g4 b (by simp),p4⟩
     ·exact q4 d hd
theorem dyesM_step {n : Nat} {L r : Lines} {ns : List Int} (h : nextM wDye 7 L = some (ns,r)) : dyesM (n + 1) L = (dyesM n r).map fun p => (dyeOf ns :: p.1,p.2) := by rw [dyesM,h]
theorem dyesM_none {n : Nat} {L : Lines} (h : nextM wDye 7 L = none) : dyesM (n + 1) L = none := by rw [dyesM,h]
theorem bathsM_step {n : Nat} {L r : Lines} {ns : List Int} (h : nextM wBath 4 L = some (ns,r)) : bathsM (n + 1) L = (bathsM n r).map fun p => (bathOf ns :: p.1,p.2) := by rw [bathsM,h]
theorem bathsM_none {n : Nat} {L : Lines} (h : nextM wBath 4 L = none) : bathsM (n + 1) L = none := by rw [bathsM,h]
theorem stocksM_step {n : Nat} {L r : Lines} {ns : List Int} (h : nextM wStock 3 L = some (ns,r)) : stocksM (n + 1) L = match bathsM (ns.getD 2 0).toNat r with
  | none => none
  | some (bs,r') => (stocksM n r').map fun p => (⟨bs,ns.getD 0 0,ns.getD 1 0⟩ :: p.1,p.2) := by rw [stocksM,h]
theorem stocksM_none {n : Nat} {L : Lines} (h : nextM wStock 3 L = none) : stocksM (n + 1) L = none := by rw [stocksM,h]
theorem rows_small {h : List Dye} {l : List Stock} (hh : ∀ d ∈ h,SmallDy d) (hl : ∀ s ∈ l,SmallSt s) (b1 : h.length <= 900) (b2 : stLines l <= 900) : ∀ ns ∈ rowsNums h l,SmallL ns:= by
 have hbl : ∀ s ∈ l,s.baths.length + 1 <= stLines l:= by
  intro s hs
  unfold stLines
  exact le_sumN (List.mem_map.2 ⟨s,hs,rfl⟩)
 have hll : l.length <= stLines l:= by
  have : ∀ l : List Stock,l.length <= stLines l:= by
   intro l
   induction l with
   | nil => exact Nat.le_refl _
   | cons s l ih => simp only [stLines,List.map_cons,List.sum_cons,List.length_cons] at ih ⊢; omega
  exact this l
 intro ns hns x hx
 simp only [rowsNums,topNums,List.mem_cons,List.mem_append,List.mem_map,List.mem_flatMap] at hns
 rcases hns with rfl | ⟨d,hd,rfl⟩ | ⟨s,hs,rfl | ⟨b,hb,rfl⟩⟩
 ·simp only [List.mem_cons,List.not_mem_nil,or_false] at hx
  rcases hx with rfl | rfl <;> omega
 ·have := (hh d hd).2 x hx
  unfold smallI at this; omega
 ·obtain ⟨h1,h2,h3⟩ := hl s hs
  unfold smallI at h1 h2
  have := hbl s hs
  simp only [stNums,List.mem_cons,List.not_mem_nil,or_false] at hx
  rcases hx with rfl | rfl | rfl <;> omega
 ·have := (hl s hs).2.2 b hb x hx
  unfold smallI at this; omega
theorem lines_OK {h : List Dye} {l : List Stock} (hh : ∀ d ∈ h,SmallDy d) (hl : ∀ s ∈ l,SmallSt s) (hb : 1 + h.length + stLines l <= 900) : SizesOK (linesB h l):= by
 have hsm := rows_small hh hl (by omega) (by omega)
 have hnum : ∀ ns ∈ rowsNums h l,NumsOK ns := fun ns hns => numsK (hsm ns hns)
 refine ⟨by simp [linesB,headB],?_,?_⟩
 ·have key : ∀ l : List Stock,(l.flatMap blkB).length = stLines l:= by
   intro l
   induction l with
   | nil => rfl
   | cons s l ih => simp only [List.flatMap_cons,List.length_append,ih,stLines,List.map_cons,List.sum_cons,blkB,List.length_cons,List.length_map]
  simp only [linesB,headB,List.length_append,List.length_cons,List.length_map,key]; omega
 ·intro x hx
  have z1 : nmTop.size <= 5 := by decide
  have z2 : nmDye.size <= 5 := by decide
  have z3 : nmStock.size <= 5 := by decide
  have z4 : nmBath.size <= 5 := by decide
  simp only [linesB,headB,List.cons_append,List.mem_cons,List.mem_append,List.mem_map,List.mem_flatMap,blkB] at hx
  rcases hx with rfl | ⟨d,hd,rfl⟩ | ⟨s,hs,rfl | ⟨b,hb,rfl⟩⟩
  ·have := lineB_size (nm := nmTop) (hnum (topNums h l) (by simp [rowsNums]))
   simp only [topNums,List.length_cons,List.length_nil] at this ⊢; omega
  ·have := lineB_size (nm := nmDye) (hnum (dyeNums d) (by simp only [rowsNums,List.mem_cons,List.mem_append,List.mem_map]; exact .inr (.inl ⟨d,hd,rfl⟩)))
   have h3 := (hh d hd).1
   rw [dyeNums,List.length_cons,flatMap_const_len (c := 2) (fun _ => rfl)] at this
   unfold dyeNums; omega
  ·have := lineB_size (nm := nmStock) (hnum (stNums s) (by simp only [rowsNums,List.mem_cons,List.mem_append,List.mem_flatMap]; exact .inr (.inr ⟨s,hs,.inl rfl⟩)))
   simp only [stNums,List.length_cons,List.length_nil] at this ⊢; omega
  ·have := lineB_size (nm := nmBath) (hnum (baNums b) (by simp only [rowsNums,List.mem_cons,List.mem_append,List.mem_flatMap,List.mem_map]; exact .inr (.inr ⟨s,hs,.inr ⟨b,hb,rfl⟩⟩)))
   simp only [baNums,List.length_cons,List.length_nil] at this ⊢; omega
theorem f156K {h : List Dye} {l : List Stock} (hh : ∀ d ∈ h,SmallDy d) (hl : ∀ s ∈ l,SmallSt s) (hb : 1 + h.length + stLines l <= 900) : ACalls Tryz.prog 156 [eHouse h,eStocks l] (fun r => r = .pv (.str (textB h l))):= by
 have hll : l.length <= stLines l:= by
  have : ∀ l : List Stock,l.length <= stLines l:= by
   intro l
   induction l with
   | nil => exact Nat.le_refl _
   | cons s l ih => simp only [stLines,List.map_cons,List.sum_cons,List.length_cons] at ih ⊢; omega
  exact this l
 refine f156w h l (by omega) (by omega) (fun d hd => by have := (hh d hd).1; omega) (fun s hs => ?_) (lines_OK hh hl hb) (fun ns hns => numsK (rows_small hh hl (by omega) (by omega) ns hns))
 have : s.baths.length + 1 <= stLines l:= by
  unfold stLines
  exact le_sumN (List.mem_map.2 ⟨s,hs,rfl⟩)
 omega
end Go.Abs
namespace Go.Abs
open Go.Proofs Go.RowKit
set_option linter.unusedVariables false
set_option linter.unusedSimpArgs false
set_option maxRecDepth 100000
abbrev eLs (L : Lines) : PV := .sl (L.map eStrL)
abbrev st158a (s : List UInt8) (ns : List Int) (a : Int) (k : Nat) (ds : List Dye) (L : Lines) : ASt := mkSt [(0,.pv (.str (bytesOf s))),(2,.box 0 0),(4,.box 1 0),(5,.nils),(6,.pv (eInts ns)),(7,.pv (eLs L)),(25,.pv (vi a)),(26,.pv (vi k))]
 [(0,.box [.nils]),(1,.box [.arr 2]),(2,.arr 90 2 (ds.map eDye))] 3
abbrev st158b (s : List UInt8) (h : List Dye) (b : Int) (k : Nat) (l : List Stock) (L : Lines) : ASt := mkSt [(0,.pv (.str (bytesOf s))),(2,.box 0 0),(4,.box 1 0),(5,.arr 3),(7,.pv (eLs L)),(69,.pv (vi b)),(70,.pv (vi k))]
 [(0,.box [.nils]),(1,.box [.arr 2]),(2,.arr 90 2 (h.map eDye)),(3,.arr 95 3 (l.map eStock))] 4
theorem map_none {α β : Type} {f : α -> β} {o : Option α} (h : o = none) : o.map f = none := by rw [h]; rfl
set_option maxHeartbeats 16000000 in
theorem f158g (s : List UInt8) (hs : s.length <= 600) : ACallsB Tryz.prog 158 [.str (bytesOf s)] (fun r => ∃ h l,readM s = some (h,l) /\ r = .tup [eHouse h,eStocks l]) (fun c => readM s = none /\ panW c):= by
 have k203 := f203 s 10 (by omega)
 rw [splitL_S] at k203
 have hLl := splitS_len 10 s
 have hS : ShortL 601 (splitS 10 s) := ⟨by omega,fun x hx => by have := splitS_each hx; omega⟩
 have k204 := f204t (bytesOf s)
 have k204f := f204f (bytesOf s)
 generalize hL0 : splitS 10 s = L0 at *
 refine ACallsB.of_body hT Tryz.func158 rfl (by kernel_rfl) rfl ?_
 (repeat (refine stq ?_))
 refine AL_do2 rfl ⟨_,op_call1 rfl rfl rfl rfl k203,?_⟩
 refine AL_pure (t := 19) rfl rfl ?_
 cases hn0 : nextM wTop 2 L0 with
 | none =>
  have kn := f202n0 2 (by omega) (by have := hS.1; omega) hS.2 hn0
  refine AL_doP rfl (op_callBP rfl rfl rfl rfl kn) ?_ ?_
  ·rintro _ ⟨_,hf,_⟩
   exact False.elim hf
  rintro t s' v ⟨hp,rfl⟩
  (repeat (first | refine then_panic ?_ | refine inblk_panic ?_))
  exact ⟨_,⟨readM_none (by rw [hL0]; exact hn0),hp⟩,rfl⟩
 | some p =>
  obtain ⟨ns,L1⟩ := p
  have kt := f202t0 2 (by omega) (by have := hS.1; omega) hS.2 hn0
  obtain ⟨_,hS1,hnl,hnb⟩ := next_short hn0 hS
  obtain ⟨a,b,rfl⟩ : ∃ a b,ns = [a,b] := by match ns,hnl with | [a,b],_ => exact ⟨a,b,rfl⟩
  have ha := hnb a (by simp)
  have hb := hnb b (by simp)
  have p0 : ([a,b].map eInt)[(0 : Int).toNat]? = some (eInt a) := rfl
  have p1 : ([a,b].map eInt)[(1 : Int).toNat]? = some (eInt b) := rfl
  rw [readM_some (a := a) (b := b) (L1 := L1) (by rw [hL0]; exact hn0)]
  (repeat' (first | refine stq ?_ | (refine AL_do2 rfl ?_; first | refine ⟨_,op_call1 rfl rfl rfl rfl (kt),nrmA rfl ?_⟩) | (with_reducible refine AL_id ?_); (fail_if_success (refine AL_glit rfl rfl rfl (by first | exact .inl (by with_reducible rfl) | exact .inr (by with_reducible rfl)) ?_)); first | refine AL_gdec rfl rfl rfl (fun hg => ?_) (fun hg => ?_) | refine AL_gnot rfl rfl rfl (fun hg => ?_) (fun hg => ?_) | refine AL_gcases rfl rfl rfl (fun hg => ?_) (fun hg => ?_)))
  refine AW_nilBox 1 0 90 2 rfl rfl ?_
  refine AW_loopC (fun i : Nat × List Dye × Lines => i.1 <= a.toNat /\ i.2.1.length = i.1 /\ i.1 <= 600 /\ ShortL (600 - i.1) i.2.2 /\ (∀ d ∈ i.2.1,SmallDy d) /\ dyesM a.toNat L1 = (dyesM (a.toNat - i.1) i.2.2).map fun p => (i.2.1 ++ p.1,p.2))
   (fun i => st158a s [a,b] a i.1 i.2.1 i.2.2) (fun i => a.toNat - i.1) (0,[],L1) ⟨Nat.zero_le _,rfl,Nat.zero_le _,hS1,(by simp),(by cases dyesM a.toNat L1 <;> rfl)⟩ ?_ ?_
  ·(refine Le.mkR [(0,0),(1,1),(2,3)] ?_ ?_ rfl; all_goals (repeat' (first | exact trivial | refine sle ?_ | refine ⟨?_,rfl,?_⟩ | refine ⟨?_,by decide,rfl,?_⟩ | fail)))
  ·rintro ⟨k,ds,L⟩ ⟨hk,hdl,hk6,hSL,hsm,heq⟩
   dsimp only at hk hdl hk6 hSL hsm heq ⊢
   have hLl : L.length <= 700 := by have := hSL.1; omega
   (repeat (refine stq ?_))
   refine AW_if rfl (fun hc => ?_) (fun hc => ?_)
   ·have hk' : k < a.toNat := by omega
    obtain ⟨n,hn⟩ : ∃ n,a.toNat - k = n + 1 := ⟨a.toNat - k - 1,by omega⟩
    rw [hn] at heq
    cases hx : nextM wDye 7 L with
    | none =>
     have kn := f202n1 7 (by omega) hLl hSL.2 hx
     rw [dyesM_none hx] at heq
     have heq : dyesM a.toNat L1 = none := heq
     (repeat (refine stq ?_))
     refine AL_doP rfl (op_callBP rfl rfl rfl rfl kn) ?_ ?_
     ·rintro _ ⟨_,hf,_⟩
      exact False.elim hf
     rintro t s' v ⟨hp,rfl⟩
     (repeat (first | refine then_panic ?_ | refine inblk_panic ?_))
     exact ⟨_,⟨by rw [heq]; rfl,hp⟩,rfl⟩
    | some p =>
     obtain ⟨ns,r⟩ := p
     have kt := f202t1 7 (by omega) hLl hSL.2 hx
     obtain ⟨h1,hSr,hl7,hb7⟩ := next_short hx hSL
     rw [dyesM_step hx] at heq
     obtain ⟨hds,_⟩ := dyeOf_small hl7 hb7
     obtain ⟨n0,n1,n2,n3,n4,n5,n6,rfl⟩ : ∃ n0 n1 n2 n3 n4 n5 n6,ns = [n0,n1,n2,n3,n4,n5,n6] := by match ns,hl7 with | [n0,n1,n2,n3,n4,n5,n6],_ => exact ⟨n0,n1,n2,n3,n4,n5,n6,rfl⟩
     have q0 : ([n0,n1,n2,n3,n4,n5,n6].map eInt)[(0 : Int).toNat]? = some (eInt n0) := rfl
     (repeat' (first | refine stq ?_ | (refine AL_do2 rfl ?_; first | refine ⟨_,op_call1 rfl rfl rfl rfl (kt),nrmA rfl ?_⟩) | (with_reducible refine AL_id ?_); (fail_if_success (refine AL_glit rfl rfl rfl (by first | exact .inl (by with_reducible rfl) | exact .inr (by with_reducible rfl)) ?_)); first | refine AL_gdec rfl rfl rfl (fun hg => ?_) (fun hg => ?_) | refine AL_gnot rfl rfl rfl (fun hg => ?_) (fun hg => ?_) | refine AL_gcases rfl rfl rfl (fun hg => ?_) (fun hg => ?_)))
     refine AW_nilBox 3 0 37 2 rfl rfl ?_
     refine AW_loopC (fun j : Nat => j <= 3) (fun j => mkSt [(0,.pv (.str (bytesOf s))),(2,.box 0 0),(4,.box 1 0),(5,.nils),(6,.pv (eInts [a,b])),(8,.pv (eInts [n0,n1,n2,n3,n4,n5,n6])),(9,.pv (eLs r)),(10,.box 3 0),(25,.pv (vi a)),(26,.pv (vi k)),(37,.pv (vi j))]
      [(0,.box [.nils]),(1,.box [.arr 2]),(2,.arr 90 2 (ds.map eDye)),(3,.box [.arr 4,.pv (vi n0)]),(4,.arr 37 2 (([⟨n1,n2⟩,⟨n3,n4⟩,⟨n5,n6⟩] : List Span).take j |>.map eSpan))] 5) (fun j => 3 - j) 0 (by omega) ?_ ?_
     ·(refine Le.mk ?_ ?_; all_goals (repeat' (first | exact trivial | refine sle ?_ | refine ⟨?_,rfl,?_⟩ | refine ⟨?_,by decide,rfl,?_⟩ | fail)))
     ·intro j hj
      (repeat (refine stq ?_))
      refine AW_if rfl (fun hc => ?_) (fun hc => ?_)
      ·have hj' : j < 3 := by omega
       obtain ⟨u,hu,g1,g2⟩ : ∃ u : Span,([⟨n1,n2⟩,⟨n3,n4⟩,⟨n5,n6⟩] : List Span)[j]? = some u /\ ([n0,n1,n2,n3,n4,n5,n6].map eInt)[(2 * (j : Int) + 1).toNat]? = some (eInt u.low) /\ ([n0,n1,n2,n3,n4,n5,n6].map eInt)[(2 * (j : Int) + 2).toNat]? = some (eInt u.high):= by
        rcases (by omega : j = 0 \/ j = 1 \/ j = 2) with rfl | rfl | rfl
        ·exact ⟨⟨n1,n2⟩,rfl,rfl,rfl⟩
        ·exact ⟨⟨n3,n4⟩,rfl,rfl,rfl⟩
        ·exact ⟨⟨n5,n6⟩,rfl,rfl,rfl⟩
       have hs1 : (([⟨n1,n2⟩,⟨n3,n4⟩,⟨n5,n6⟩] : List Span).take (j + 1)) = ([⟨n1,n2⟩,⟨n3,n4⟩,⟨n5,n6⟩] : List Span).take j ++ [u] := by rw [List.take_add_one,hu]; rfl
       have htl : (([⟨n1,n2⟩,⟨n3,n4⟩,⟨n5,n6⟩] : List Span).take j).length <= 1000 := by simp; omega
       have hmul : -9223372036854775808 <= 2 * (j : Int) /\ 2 * (j : Int) <= 9223372036854775807 := by omega
       (repeat (refine stq ?_))
       (repeat (first | refine sdq ?_))
       refine DG_end hM (by kernel_rfl) ?_
       (repeat (refine stq ?_))
       refine ⟨j + 1,hj',by omega,?_⟩
       (refine Le.mkR [(0,0),(1,1),(2,2),(3,3),(4,5)] ?_ ?_ rfl; all_goals (repeat' (first | exact trivial | refine sle ?_ | refine ⟨?_,rfl,?_⟩ | refine ⟨?_,by decide,rfl,?_⟩ | fail)))
       show some (AObj.arr 37 2 ((([⟨n1,n2⟩,⟨n3,n4⟩,⟨n5,n6⟩] : List Span).take j).map eSpan ++ [eSpan u])) = some (AObj.arr 37 2 ((([⟨n1,n2⟩,⟨n3,n4⟩,⟨n5,n6⟩] : List Span).take (j + 1)).map eSpan))
       rw [hs1,List.map_append]; rfl
      ·have hj' : j = 3 := by omega
       subst hj'
       have hdl6 : ds.length <= 1000 := by omega
       refine AW_arrBox (b := 3) 0 rfl rfl rfl rfl ?_
       (repeat (refine stq ?_))
       refine ⟨(k + 1,ds ++ [dyeOf [n0,n1,n2,n3,n4,n5,n6]],r),⟨hk',by simp [hdl],by omega,?_,?_,?_⟩,by dsimp only; omega,?_⟩
       ·dsimp only
        rw [show 600 - (k + 1) = 600 - k - 1 by omega]; exact hSr
       ·dsimp only
        intro d hd
        rcases List.mem_append.1 hd with hd | hd
        ·exact hsm d hd
        ·simp only [List.mem_singleton] at hd; subst hd; exact hds
       ·dsimp only
        rw [heq,show a.toNat - (k + 1) = n by omega]
        cases dyesM n r with
        | none => rfl
        | some p => simp
       ·dsimp only
        (refine Le.mkR [(0,0),(1,1),(2,6)] ?_ ?_ rfl; all_goals (repeat' (first | exact trivial | refine sle ?_ | refine ⟨?_,rfl,?_⟩ | refine ⟨?_,by decide,rfl,?_⟩ | fail)))
        show some (AObj.arr 90 2 (ds.map eDye ++ [eDye (dyeOf [n0,n1,n2,n3,n4,n5,n6])])) = some (AObj.arr 90 2 ((ds ++ [dyeOf [n0,n1,n2,n3,n4,n5,n6]]).map eDye))
        rw [List.map_append]; rfl
   ·have hk' : k = a.toNat := by omega
    subst hk'
    rw [Nat.sub_self] at heq
    have heq : dyesM a.toNat L1 = some (ds,L) := by rw [heq]; simp [dyesM]
    rw [heq]
    have hh6 : ds.length <= 600 := by omega
    have hSL2 : ShortL (600 - ds.length) L := by rw [hdl]; exact hSL
    generalize a.toNat = a' at *
    refine AW_own_nil (e := 95) (sz := 3) (t := 5) rfl rfl ?_
    (repeat (refine stq ?_))
    refine AW_loopC (fun i : Nat × List Stock × Lines => i.1 <= b.toNat /\ i.2.1.length = i.1 /\ stLines i.2.1 <= 600 - ds.length /\ ShortL (600 - ds.length - stLines i.2.1) i.2.2 /\ (∀ x ∈ i.2.1,SmallSt x) /\ stocksM b.toNat L = (stocksM (b.toNat - i.1) i.2.2).map fun p => (i.2.1 ++ p.1,p.2))
     (fun i => st158b s ds b i.1 i.2.1 i.2.2) (fun i => b.toNat - i.1) (0,[],L) ⟨Nat.zero_le _,rfl,Nat.zero_le _,hSL2,(by simp),(by cases stocksM b.toNat L <;> rfl)⟩ ?_ ?_
    ·(refine Le.mk ?_ ?_; all_goals (repeat' (first | exact trivial | refine sle ?_ | refine ⟨?_,rfl,?_⟩ | refine ⟨?_,by decide,rfl,?_⟩ | fail)))
    ·rintro ⟨k2,l,M⟩ ⟨hk2,hll,hst,hSM,hsml,heq2⟩
     dsimp only at hk2 hll hst hSM hsml heq2 ⊢
     have hMl : M.length <= 700 := by have := hSM.1; omega
     have hl6 : l.length <= 1000:= by
      have : ∀ l : List Stock,l.length <= stLines l:= by
       intro l
       induction l with
       | nil => exact Nat.le_refl _
       | cons s l ih => simp only [stLines,List.map_cons,List.sum_cons,List.length_cons] at ih ⊢; omega
      have := this l; omega
     (repeat (refine stq ?_))
     refine AW_if rfl (fun hc2 => ?_) (fun hc2 => ?_)
     ·have hk2' : k2 < b.toNat := by omega
      obtain ⟨n,hn⟩ : ∃ n,b.toNat - k2 = n + 1 := ⟨b.toNat - k2 - 1,by omega⟩
      rw [hn] at heq2
      cases hx : nextM wStock 3 M with
      | none =>
       have kn := f202n2 3 (by omega) hMl hSM.2 hx
       rw [stocksM_none hx] at heq2
       have heq2 : stocksM b.toNat L = none := heq2
       (repeat (refine stq ?_))
       refine AL_doP rfl (op_callBP rfl rfl rfl rfl kn) ?_ ?_
       ·rintro _ ⟨_,hf,_⟩
        exact False.elim hf
       rintro t s' v ⟨hp,rfl⟩
       (repeat (first | refine then_panic ?_ | refine inblk_panic ?_))
       exact ⟨_,⟨by rw [readB,heq2]; rfl,hp⟩,rfl⟩
      | some p =>
       obtain ⟨ns,r⟩ := p
       have kt := f202t2 3 (by omega) hMl hSM.2 hx
       obtain ⟨h1,hSr,hl3,hb3⟩ := next_short hx hSM
       rw [stocksM_step hx] at heq2
       obtain ⟨m0,m1,m2,rfl⟩ : ∃ m0 m1 m2,ns = [m0,m1,m2] := by match ns,hl3 with | [m0,m1,m2],_ => exact ⟨m0,m1,m2,rfl⟩
       rw [show ([m0,m1,m2] : List Int).getD 2 0 = m2 from rfl,show ([m0,m1,m2] : List Int).getD 0 0 = m0 from rfl,show ([m0,m1,m2] : List Int).getD 1 0 = m1 from rfl] at heq2
       have g0 := hb3 m0 (by simp)
       have g1 := hb3 m1 (by simp)
       have g2 := hb3 m2 (by simp)
       have q0 : ([m0,m1,m2].map eInt)[(0 : Int).toNat]? = some (eInt m0) := rfl
       have q1 : ([m0,m1,m2].map eInt)[(1 : Int).toNat]? = some (eInt m1) := rfl
       have q2 : ([m0,m1,m2].map eInt)[(2 : Int).toNat]? = some (eInt m2) := rfl
       have hrl : r.length <= 700 := by have := hSr.1; omega
       (repeat' (first | refine stq ?_ | (refine AL_do2 rfl ?_; first | refine ⟨_,op_call1 rfl rfl rfl rfl (kt),nrmA rfl ?_⟩) | (with_reducible refine AL_id ?_); (fail_if_success (refine AL_glit rfl rfl rfl (by first | exact .inl (by with_reducible rfl) | exact .inr (by with_reducible rfl)) ?_)); first | refine AL_gdec rfl rfl rfl (fun hg => ?_) (fun hg => ?_) | refine AL_gnot rfl rfl rfl (fun hg => ?_) (fun hg => ?_) | refine AL_gcases rfl rfl rfl (fun hg => ?_) (fun hg => ?_)))
       iterate 7 (refine sdq ?_)
       refine DG_next (D_allocE hT rfl rfl rfl rfl) ?_
       refine DG_next (D_storeE hT rfl rfl rfl rfl rfl rfl rfl rfl rfl rfl) ?_
       refine DG_end hM (by kernel_rfl) ?_
       (repeat (refine stq ?_))
       refine AW_nilBox 4 0 154 4 rfl rfl ?_
       refine AW_loopC (fun i : Nat × List Bath × Lines => i.1 <= m2.toNat /\ i.2.1.length = i.1 /\ i.1 <= 600 - ds.length - stLines l - 1 /\ ShortL (600 - ds.length - stLines l - 1 - i.1) i.2.2 /\ (∀ x ∈ i.2.1,∀ y ∈ baNums x,smallI y) /\ bathsM m2.toNat r = (bathsM (m2.toNat - i.1) i.2.2).map fun p => (i.2.1 ++ p.1,p.2))
        (fun i => mkSt [(0,.pv (.str (bytesOf s))),(2,.box 0 0),(4,.box 1 0),(5,.arr 3),(13,.pv (eLs i.2.2)),(14,.box 4 0),(69,.pv (vi b)),(70,.pv (vi k2)),(86,.pv (vi m2)),(87,.pv (vi i.1))]
         [(0,.box [.nils]),(1,.box [.arr 2]),(2,.arr 90 2 (ds.map eDye)),(3,.arr 95 3 (l.map eStock)),(4,.box [.arr 5,.pv (vi m0),.pv (vi m1)]),(5,.arr 154 4 (i.2.1.map eBath))] 6)
        (fun i => m2.toNat - i.1) (0,[],r) ⟨Nat.zero_le _,rfl,Nat.zero_le _,hSr,(by simp),(by cases bathsM m2.toNat r <;> rfl)⟩ ?_ ?_
       ·(refine Le.mk ?_ ?_; all_goals (repeat' (first | exact trivial | refine sle ?_ | refine ⟨?_,rfl,?_⟩ | refine ⟨?_,by decide,rfl,?_⟩ | fail)))
       ·rintro ⟨j,bs,N⟩ ⟨hj,hbl,hj6,hSN,hbsm,heq3⟩
        dsimp only at hj hbl hj6 hSN hbsm heq3 ⊢
        have hNl : N.length <= 700 := by have := hSN.1; omega
        have hbs6 : bs.length <= 1000 := by omega
        (repeat (refine stq ?_))
        refine AW_if rfl (fun hc3 => ?_) (fun hc3 => ?_)
        ·have hj' : j < m2.toNat := by omega
         obtain ⟨n2,hn2⟩ : ∃ n2,m2.toNat - j = n2 + 1 := ⟨m2.toNat - j - 1,by omega⟩
         rw [hn2] at heq3
         cases hy : nextM wBath 4 N with
         | none =>
          have kn := f202n3 4 (by omega) hNl hSN.2 hy
          rw [bathsM_none hy] at heq3
          have heq3 : bathsM m2.toNat r = none := heq3
          rw [heq3] at heq2
          have heq2 : stocksM b.toNat L = none := heq2
          (repeat (refine stq ?_))
          refine AL_doP rfl (op_callBP rfl rfl rfl rfl kn) ?_ ?_
          ·rintro _ ⟨_,hf,_⟩
           exact False.elim hf
          rintro t s' v ⟨hp,rfl⟩
          (repeat (first | refine then_panic ?_ | refine inblk_panic ?_))
          exact ⟨_,⟨by rw [readB,heq2]; rfl,hp⟩,rfl⟩
         | some p =>
          obtain ⟨ns,r2⟩ := p
          have kt := f202t3 4 (by omega) hNl hSN.2 hy
          obtain ⟨h1,hSr2,hl4,hb4⟩ := next_short hy hSN
          rw [bathsM_step hy] at heq3
          obtain ⟨hbsS,_⟩ := bathOf_small hl4 hb4
          obtain ⟨c0,c1,c2,c3,rfl⟩ : ∃ c0 c1 c2 c3,ns = [c0,c1,c2,c3] := by match ns,hl4 with | [c0,c1,c2,c3],_ => exact ⟨c0,c1,c2,c3,rfl⟩
          have e0 : ([c0,c1,c2,c3].map eInt)[(0 : Int).toNat]? = some (eInt c0) := rfl
          have e1 : ([c0,c1,c2,c3].map eInt)[(1 : Int).toNat]? = some (eInt c1) := rfl
          have e2 : ([c0,c1,c2,c3].map eInt)[(2 : Int).toNat]? = some (eInt c2) := rfl
          have e3 : ([c0,c1,c2,c3].map eInt)[(3 : Int).toNat]? = some (eInt c3) := rfl
          (repeat' (first | refine stq ?_ | (refine AL_do2 rfl ?_; first | refine ⟨_,op_call1 rfl rfl rfl rfl (kt),nrmA rfl ?_⟩) | (with_reducible refine AL_id ?_); (fail_if_success (refine AL_glit rfl rfl rfl (by first | exact .inl (by with_reducible rfl) | exact .inr (by with_reducible rfl)) ?_)); first | refine AL_gdec rfl rfl rfl (fun hg => ?_) (fun hg => ?_) | refine AL_gnot rfl rfl rfl (fun hg => ?_) (fun hg => ?_) | refine AL_gcases rfl rfl rfl (fun hg => ?_) (fun hg => ?_)))
          (repeat (first | refine sdq ?_))
          refine DG_end hM (by kernel_rfl) ?_
          (repeat (refine stq ?_))
          refine ⟨(j + 1,bs ++ [bathOf [c0,c1,c2,c3]],r2),⟨hj',by simp [hbl],by have := hSN.1; dsimp only; omega,?_,?_,?_⟩,by dsimp only; omega,?_⟩
          ·dsimp only
           rw [show 600 - ds.length - stLines l - 1 - (j + 1) = 600 - ds.length - stLines l - 1 - j - 1 by omega]; exact hSr2
          ·dsimp only
           intro d hd
           rcases List.mem_append.1 hd with hd | hd
           ·exact hbsm d hd
           ·simp only [List.mem_singleton] at hd; subst hd; exact hbsS
          ·dsimp only
           rw [heq3,show m2.toNat - (j + 1) = n2 by omega]
           cases bathsM n2 r2 with
           | none => rfl
           | some p => simp
          ·dsimp only
           (refine Le.mkR [(0,0),(1,1),(2,2),(3,3),(4,4),(5,6)] ?_ ?_ rfl; all_goals (repeat' (first | exact trivial | refine sle ?_ | refine ⟨?_,rfl,?_⟩ | refine ⟨?_,by decide,rfl,?_⟩ | fail)))
           show some (AObj.arr 154 4 (bs.map eBath ++ [eBath (bathOf [c0,c1,c2,c3])])) = some (AObj.arr 154 4 ((bs ++ [bathOf [c0,c1,c2,c3]]).map eBath))
           rw [List.map_append]; rfl
        ·have hj' : j = m2.toNat := by omega
         subst hj'
         rw [Nat.sub_self] at heq3
         have heq3 : bathsM m2.toNat r = some (bs,N) := by rw [heq3]; simp [bathsM]
         rw [heq3] at heq2
         simp only at heq2
         refine AW_arrBox (b := 4) 0 rfl rfl rfl rfl ?_
         (repeat (refine stq ?_))
         have hsl : stLines (l ++ [(⟨bs,m0,m1⟩ : Stock)]) = stLines l + (bs.length + 1) := by simp [stLines]
         refine ⟨(k2 + 1,l ++ [⟨bs,m0,m1⟩],N),⟨hk2',by simp [hll],?_,?_,?_,?_⟩,by dsimp only; omega,?_⟩
         ·dsimp only
          rw [hsl]; have := hSM.1; omega
         ·dsimp only
          rw [hsl,show 600 - ds.length - (stLines l + (bs.length + 1)) = 600 - ds.length - stLines l - 1 - m2.toNat by omega]; exact hSN
         ·dsimp only
          intro d hd
          rcases List.mem_append.1 hd with hd | hd
          ·exact hsml d hd
          ·simp only [List.mem_singleton] at hd; subst hd; exact ⟨g0,g1,hbsm⟩
         ·dsimp only
          rw [heq2,show b.toNat - (k2 + 1) = n by omega]
          cases stocksM n N with
          | none => rfl
          | some p => simp
         ·dsimp only
          (refine Le.mkR [(0,0),(1,1),(2,2),(3,7)] ?_ ?_ rfl; all_goals (repeat' (first | exact trivial | refine sle ?_ | refine ⟨?_,rfl,?_⟩ | refine ⟨?_,by decide,rfl,?_⟩ | fail)))
          show some (AObj.arr 95 3 (l.map eStock ++ [eStock ⟨bs,m0,m1⟩])) = some (AObj.arr 95 3 ((l ++ [(⟨bs,m0,m1⟩ : Stock)]).map eStock))
          rw [List.map_append]; rfl
     ·have hk2' : k2 = b.toNat := by omega
      subst hk2'
      rw [Nat.sub_self] at heq2
      have heq2 : stocksM b.toNat L = some (l,M) := by rw [heq2]; simp [stocksM]
      have k156 := f156K hsm hsml (by omega)
      refine AW_pure (t := 5) rfl rfl ?_
      refine AW_arrBox (b := 1) 0 rfl rfl rfl rfl ?_
      (repeat' (first | refine stq ?_ | (refine AL_do2 rfl ?_; first | refine ⟨_,op_call1 rfl rfl rfl rfl (k156),nrmA rfl ?_⟩) | (with_reducible refine AL_id ?_); (fail_if_success (refine AL_glit rfl rfl rfl (by first | exact .inl (by with_reducible rfl) | exact .inr (by with_reducible rfl)) ?_)); first | refine AL_gdec rfl rfl rfl (fun hg => ?_) (fun hg => ?_) | refine AL_gnot rfl rfl rfl (fun hg => ?_) (fun hg => ?_) | refine AL_gcases rfl rfl rfl (fun hg => ?_) (fun hg => ?_)))
      by_cases ht : textB ds l = bytesOf s
      ·refine AL_do2 rfl ⟨_,op_streqB (b := true) (by rw [ht]; simp) rfl rfl rfl rfl,?_⟩
       (repeat' (first | refine stq ?_ | (refine AL_do2 rfl ?_; first | refine ⟨_,op_call1 rfl rfl rfl rfl (k204),nrmA rfl ?_⟩) | (with_reducible refine AL_id ?_); (fail_if_success (refine AL_glit rfl rfl rfl (by first | exact .inl (by with_reducible rfl) | exact .inr (by with_reducible rfl)) ?_)); first | refine AL_gdec rfl rfl rfl (fun hg => ?_) (fun hg => ?_) | refine AL_gnot rfl rfl rfl (fun hg => ?_) (fun hg => ?_) | refine AL_gcases rfl rfl rfl (fun hg => ?_) (fun hg => ?_)))
       exact ⟨_,_,rfl,rfl,ds,l,by rw [readB,heq2]; exact if_pos ht,rfl⟩
      ·refine AL_do2 rfl ⟨_,op_streqB (b := false) (beq_eq_false_iff_ne.2 fun h => ht (bytes_ext h)) rfl rfl rfl rfl,?_⟩
       (repeat (refine stq ?_))
       refine AL_callPn rfl rfl rfl rfl k204f ?_
       (repeat (first | refine then_panic ?_ | refine inblk_panic ?_))
       exact ⟨_,⟨by rw [readB,heq2]; exact if_neg ht,_,rfl⟩,rfl⟩
end Go.Abs
