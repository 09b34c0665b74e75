/- Plain: what the reference's reader of a slip makes of it; it reads what the program's does. -/
import Derived.Test.YtmplfjolcdlipaaGreatDoorJDrKNQ7
import Derived.Test.YtmplfjolcdlipaaGreatDoorJKGQ7
import Derived.Test.YtmplfjolcdlipaaGreatDoorJXQ7
set_option linter.unusedVariables false
set_option linter.unusedSimpArgs false
namespace Go.Abs
open Go.Proofs Go.RowKit
set_option linter.unusedVariables false
set_option linter.unusedSimpArgs false
set_option maxRecDepth 100000
def wrdR (l : List UInt8) : List (List UInt8) :=
 if (splitS 32 l).headD [] = wAcid /\ (splitS 32 l).length = 6 then
  (match splitS 32 l with | [_,b,c,_,e,g] => [wAcid,b,c,e,g] | w => w)
 else splitS 32 l
def stepW (d : Drum) (h : List UInt8) (r : List (List UInt8)) : Option Drum :=
 match numsR r with
 | none => none
 | some x =>
  if h = wAcid then (match x with | [a,b,c,e] => some { d with acids := d.acids ++ [⟨⟨a,b⟩,⟨c,e⟩⟩] } | _ => none)
  else if h = wAdd then some { d with adds := x }
  else if h = wStrip then (match x with | [a,b,c] => some { d with strips := d.strips ++ [⟨a,b,c⟩] } | _ => none)
  else if h = wBatch then (match x with | [a,b,c,e,f,g] => some { d with batches := d.batches ++ [⟨a,b,c,e,f,g⟩] } | _ => none)
  else none
def stepR (d : Drum) (l : List UInt8) : Option Drum := stepW d ((wrdR l).headD []) ((wrdR l).drop 1)
def stepsR : Drum -> List (List UInt8) -> Option Drum
 | d,[] => some d
 | d,l :: r => match stepR d l with | some d' => stepsR d' r | none => none
def headH (H : List (List UInt8)) : Option Drum :=
 match H with
 | [_,h,_,k] => (match numsR [h,k] with | some [a,b] => some ⟨[],b,a,[],[],[]⟩ | _ => none)
 | _ => none
def headR (L : List (List UInt8)) : Option Drum := headH (splitS 32 (L.headD []))
theorem headH_ne {H : List (List UInt8)} (h : H.length ≠ 4) : headH H = none:= by
 unfold headH
 split
 ·exact absurd rfl h
 ·rfl
def readR (s : List UInt8) : Option Drum :=
 if (splitS 10 s).length < 3 then none else
 match headR (splitS 10 s) with
 | none => none
 | some d0 => match stepsR d0 (((splitS 10 s).drop 1).take ((splitS 10 s).length - 3)) with
  | none => none
  | some d => if textD d = bytesOf s then some d else none
theorem stepsR_snoc : ∀ (L : List (List UInt8)) (d : Drum) (l : List UInt8),stepsR d (L ++ [l]) = match stepsR d L with | some d' => stepR d' l | none => none
 | [],d,l => by simp only [List.nil_append,stepsR]; cases stepR d l <;> rfl
 | x :: L,d,l => by
  simp only [List.cons_append,stepsR]
  cases stepR d x with
  | none => rfl
  | some d' => exact stepsR_snoc L d' l
theorem stepsR_append : ∀ (L M : List (List UInt8)) (d : Drum),stepsR d (L ++ M) = match stepsR d L with | some e => stepsR e M | none => none
 | [],M,d => rfl
 | x :: L,M,d => by
  simp only [List.cons_append,stepsR]
  cases stepR d x with
  | none => rfl
  | some e => exact stepsR_append L M e
theorem stepsR_at {D0 d : Drum} {M : List (List UInt8)} {k : Nat} {x : List UInt8} (hx : M[k]? = some x) (h : stepsR D0 (M.take k) = some d) : (stepR d x = none -> stepsR D0 M = none) /\ ∀ d',stepR d x = some d' -> stepsR D0 (M.take (k + 1)) = some d':= by
 refine ⟨fun hn => ?_,fun d' hd => ?_⟩
 ·have hk := (List.getElem?_eq_some_iff.1 hx).1
  have : M = M.take k ++ x :: M.drop (k + 1):= by
   have e := List.take_append_drop k M
   rw [List.drop_eq_getElem_cons hk] at e
   rw [(List.getElem?_eq_some_iff.1 hx).2] at e
   exact e.symm
  rw [this,stepsR_append,h]
  simp only [stepsR,hn]
 ·rw [List.take_add_one,hx]
  show stepsR D0 (M.take k ++ [x]) = _
  rw [stepsR_snoc,h]
  exact hd
theorem splitS_len (c : UInt8) (l : List UInt8) : 1 <= (splitS c l).length /\ (splitS c l).length <= l.length + 1:= by
 rw [<- splitL_S]; exact splitL_len c l
theorem splitS_each {c : UInt8} {l x : List UInt8} (h : x ∈ splitS c l) : x.length <= l.length:= by
 rw [<- splitL_S] at h; exact splitL_each h
theorem wrdR_ok (l : List UInt8) : ∃ h r,wrdR l = h :: r /\ r.length <= l.length /\ ∀ x ∈ h :: r,x.length <= l.length + 4:= by
 unfold wrdR
 have h1 := splitS_len 32 l
 have h2 : ∀ x ∈ splitS 32 l,x.length <= l.length := fun x hx => splitS_each hx
 generalize splitS 32 l = w at *
 split
 ·split
  ·rename_i hc _ a b c f e g
   refine ⟨_,_,rfl,by simp only [List.length_cons,List.length_nil] at h1 ⊢; omega,fun x hx => ?_⟩
   simp only [List.mem_cons,List.not_mem_nil,or_false] at hx h2
   rcases hx with rfl | hx
   ·show 4 <= _; omega
   ·have := h2 x (by grind); omega
  ·rename_i hc hne
   match w,h1 with
   | h :: r,h1 => exact ⟨h,r,rfl,by simp only [List.length_cons] at h1; omega,fun x hx => by have := h2 x hx; omega⟩
 ·match w,h1 with
  | h :: r,h1 => exact ⟨h,r,rfl,by simp only [List.length_cons] at h1; omega,fun x hx => by have := h2 x hx; omega⟩
theorem stepR_ok {d d' : Drum} {l : List UInt8} (h : stepR d l = some d') (hs : SmallD d) (ha : d.adds.length <= 700) (hl : l.length <= 700) : SmallD d' /\ d'.acids.length + d'.strips.length + d'.batches.length <= d.acids.length + d.strips.length + d.batches.length + 1 /\ d'.adds.length <= 700:= by
 obtain ⟨hd,r,hw,hr,_⟩ := wrdR_ok l
 have h : stepW d hd r = some d':= by
  unfold stepR at h
  rw [hw] at h
  exact h
 unfold stepW at h
 split at h
 ·cases h
 ·rename_i x hn
  obtain ⟨hxl,hb⟩ := numsR_ok hn
  by_cases e1 : hd = wAcid
  ·rw [if_pos e1] at h
   split at h
   ·rename_i a b c e
    simp only [Option.some.injEq] at h
    subst h
    refine ⟨fun x hx => ?_,by simp; omega,ha⟩
    simp only [numsD,List.flatMap_append,List.flatMap_cons,List.flatMap_nil,List.append_nil,acN,faN,List.mem_cons,List.mem_append,List.not_mem_nil,or_false] at hx
    have hs' := hs x
    simp only [numsD,acN,faN,List.mem_cons,List.mem_append] at hs'
    have hb' := hb x
    simp only [List.mem_cons,List.not_mem_nil,or_false] at hb'
    grind
   ·cases h
  ·rw [if_neg e1] at h
   by_cases e2 : hd = wAdd
   ·rw [if_pos e2] at h
    simp only [Option.some.injEq] at h
    subst h
    refine ⟨fun y hy => ?_,by simp,by show x.length <= 700; omega⟩
    simp only [numsD,List.mem_cons,List.mem_append] at hy
    have hs' := hs y
    simp only [numsD,List.mem_cons,List.mem_append] at hs'
    have hb' := hb y
    grind
   ·rw [if_neg e2] at h
    by_cases e3 : hd = wStrip
    ·rw [if_pos e3] at h
     split at h
     ·rename_i a b c
      simp only [Option.some.injEq] at h
      subst h
      refine ⟨fun x hx => ?_,by simp; omega,ha⟩
      simp only [numsD,List.flatMap_append,List.flatMap_cons,List.flatMap_nil,List.append_nil,stN,List.mem_cons,List.mem_append,List.not_mem_nil,or_false] at hx
      have hs' := hs x
      simp only [numsD,stN,List.mem_cons,List.mem_append] at hs'
      have hb' := hb x
      simp only [List.mem_cons,List.not_mem_nil,or_false] at hb'
      grind
     ·cases h
    ·rw [if_neg e3] at h
     by_cases e4 : hd = wBatch
     ·rw [if_pos e4] at h
      split at h
      ·rename_i a b c e f g
       simp only [Option.some.injEq] at h
       subst h
       refine ⟨fun x hx => ?_,by simp; omega,ha⟩
       simp only [numsD,List.flatMap_append,List.flatMap_cons,List.flatMap_nil,List.append_nil,baN,List.mem_cons,List.mem_append,List.not_mem_nil,or_false] at hx
       have hs' := hs x
       simp only [numsD,baN,List.mem_cons,List.mem_append] at hs'
       have hb' := hb x
       simp only [List.mem_cons,List.not_mem_nil,or_false] at hb'
       grind
      ·cases h
     ·rw [if_neg e4] at h; cases h
theorem stepsR_ok : ∀ (L : List (List UInt8)) {d d' : Drum},stepsR d L = some d' -> SmallD d -> d.adds.length <= 700 -> (∀ l ∈ L,l.length <= 700) -> SmallD d' /\ d'.acids.length + d'.strips.length + d'.batches.length <= d.acids.length + d.strips.length + d.batches.length + L.length /\ d'.adds.length <= 700
 | [],d,d',h,hs,ha,hl => by
  simp only [stepsR,Option.some.injEq] at h
  subst h
  exact ⟨hs,by simp,ha⟩
 | x :: L,d,d',h,hs,ha,hl => by
  simp only [stepsR] at h
  cases hx : stepR d x with
  | none => rw [hx] at h; cases h
  | some e =>
   rw [hx] at h
   obtain ⟨h1,h2,h3⟩ := stepR_ok hx hs ha (hl x (by simp))
   obtain ⟨g1,g2,g3⟩ := stepsR_ok L h h1 h3 fun l hm => hl l (by simp [hm])
   exact ⟨g1,by simp only [List.length_cons]; omega,g3⟩
theorem headR_ok {L : List (List UInt8)} {d : Drum} (h : headR L = some d) : SmallD d /\ d.acids = [] /\ d.strips = [] /\ d.batches = [] /\ d.adds = []:= by
 unfold headR headH at h
 split at h
 ·split at h
  ·rename_i a b ht
   simp only [Option.some.injEq] at h
   subst h
   have hb := (numsR_ok ht).2
   refine ⟨fun x hx => hb x ?_,rfl,rfl,rfl,rfl⟩
   simpa [numsD,or_comm] using hx
  ·cases h
 ·cases h
theorem readR_ok {s : List UInt8} {d : Drum} (hs : s.length <= 700) (h : readR s = some d) : SmallD d /\ textD d = bytesOf s:= by
 unfold readR at h
 split at h
 ·cases h
 ·split at h
  ·cases h
  ·rename_i d0 h0
   split at h
   ·cases h
   ·rename_i d1 h1
    split at h
    ·rename_i ht
     simp only [Option.some.injEq] at h
     subst h
     obtain ⟨g1,g2,g3,g4,g5⟩ := headR_ok h0
     obtain ⟨a1,a2,a3⟩ := stepsR_ok _ h1 g1 (by rw [g5]; simp) (fun x hx => by have := splitS_each (List.mem_of_mem_drop (List.mem_of_mem_take hx)); omega)
     exact ⟨a1,ht⟩
    ·cases h
theorem numG_dD {n : Int} (h : 0 <= n /\ n <= 9999) : numG (dD n) = true /\ numV (dD n) = n:= by
 have e := num_dD h
 unfold numO at e
 split at e
 ·rename_i hg
  exact ⟨hg,by simpa using e⟩
 ·cases e
theorem numsR_dD {l : List Int} (h : ∀ x ∈ l,0 <= x /\ x <= 9999) : numsR (l.map dD) = some l:= by
 unfold numsR
 rw [if_pos (List.all_eq_true.2 fun x hx => by obtain ⟨n,hn,rfl⟩ := List.mem_map.1 hx; exact (numG_dD (h n hn)).1),List.map_map]
 have : ∀ m : List Int,(∀ x ∈ m,0 <= x /\ x <= 9999) -> m.map (numV ∘ dD) = m:= by
  intro m
  induction m with
  | nil => intro _; rfl
  | cons n m ih =>
   intro hm
   rw [List.map_cons,ih fun x hx => hm x (by simp [hx])]
   congr 1
   exact (numG_dD (hm n (by simp))).2
 rw [this l h]
theorem stepR_ac {d e : Drum} (h : SmallD d) {a : Acid} (ha : a ∈ d.acids) : stepR e (acW a) = some { e with acids := e.acids ++ [a] }:= by
 obtain ⟨h1,h2⟩ := sm_ac h ha
 have hn := numsR_dD (l := [a.strength.low,a.strength.high,a.fall.low,a.fall.high]) (by
  intro x hx
  simp only [List.mem_cons,List.not_mem_nil,or_false] at hx
  rcases hx with rfl | rfl | rfl | rfl
  ·exact h1 _ (by simp [acN])
  ·exact h1 _ (by simp [acN])
  ·exact h2 _ (by simp [faN])
  ·exact h2 _ (by simp [faN]))
 have hw : wrdR (acW a) = [wAcid,dD a.strength.low,dD a.strength.high,dD a.fall.low,dD a.fall.high]:= by
  unfold wrdR
  rw [ac_split h ha,if_pos ⟨rfl,rfl⟩]
 unfold stepR stepW
 rw [hw]
 simp only [List.headD_cons,List.drop_succ_cons,List.drop_zero]
 simp only [List.map_cons,List.map_nil] at hn
 rw [hn]
 simp
theorem wrdR_not {l : List UInt8} {w : List (List UInt8)} (h : splitS 32 l = w) (hn : w.headD [] ≠ wAcid) : wrdR l = w:= by
 unfold wrdR
 rw [h,if_neg fun hc => hn hc.1]
theorem stepW_n {d : Drum} {h : List UInt8} {r : List (List UInt8)} (hn : numsR r = none) : stepW d h r = none:= by
 unfold stepW
 rw [hn]
theorem stepW_ac {d : Drum} {r : List (List UInt8)} {a b c e : Int} (hn : numsR r = some [a,b,c,e]) : stepW d wAcid r = some { d with acids := d.acids ++ [⟨⟨a,b⟩,⟨c,e⟩⟩] }:= by
 unfold stepW
 rw [hn]
 rfl
theorem stepW_acn {d : Drum} {r : List (List UInt8)} {x : List Int} (hn : numsR r = some x) (hl : x.length ≠ 4) : stepW d wAcid r = none:= by
 unfold stepW
 rw [hn]
 match x,hl with
 | [],_ => rfl
 | [_],_ => rfl
 | [_,_],_ => rfl
 | [_,_,_],_ => rfl
 | [_,_,_,_],hl => exact absurd rfl hl
 | _ :: _ :: _ :: _ :: _ :: _,_ => rfl
theorem stepW_stn {d : Drum} {r : List (List UInt8)} {x : List Int} (hn : numsR r = some x) (hl : x.length ≠ 3) : stepW d wStrip r = none:= by
 unfold stepW
 rw [hn]
 match x,hl with
 | [],_ => rfl
 | [_],_ => rfl
 | [_,_],_ => rfl
 | [_,_,_],hl => exact absurd rfl hl
 | _ :: _ :: _ :: _ :: _,_ => rfl
theorem stepW_ban {d : Drum} {r : List (List UInt8)} {x : List Int} (hn : numsR r = some x) (hl : x.length ≠ 6) : stepW d wBatch r = none:= by
 unfold stepW
 rw [hn]
 match x,hl with
 | [],_ => rfl
 | [_],_ => rfl
 | [_,_],_ => rfl
 | [_,_,_],_ => rfl
 | [_,_,_,_],_ => rfl
 | [_,_,_,_,_],_ => rfl
 | [_,_,_,_,_,_],hl => exact absurd rfl hl
 | _ :: _ :: _ :: _ :: _ :: _ :: _ :: _,_ => rfl
theorem stepW_o {d : Drum} {h : List UInt8} {r : List (List UInt8)} (h1 : h ≠ wAcid) (h2 : h ≠ wAdd) (h3 : h ≠ wStrip) (h4 : h ≠ wBatch) : stepW d h r = none:= by
 unfold stepW
 cases numsR r with
 | none => rfl
 | some x =>
  show (if h = wAcid then _ else if h = wAdd then (some { d with adds := x } : Option Drum) else if h = wStrip then _ else if h = wBatch then _ else none) = none
  rw [if_neg h1,if_neg h2,if_neg h3,if_neg h4]
theorem stepW_ad {e : Drum} {r : List (List UInt8)} {x : List Int} (h : numsR r = some x) : stepW e wAdd r = some { e with adds := x }:= by
 unfold stepW
 rw [h]
 rfl
theorem stepW_st {e : Drum} {r : List (List UInt8)} {a b c : Int} (h : numsR r = some [a,b,c]) : stepW e wStrip r = some { e with strips := e.strips ++ [⟨a,b,c⟩] }:= by
 unfold stepW
 rw [h]
 rfl
theorem stepW_ba {e : Drum} {r : List (List UInt8)} {a b c k f g : Int} (h : numsR r = some [a,b,c,k,f,g]) : stepW e wBatch r = some { e with batches := e.batches ++ [⟨a,b,c,k,f,g⟩] }:= by
 unfold stepW
 rw [h]
 rfl
theorem stepR_ad {d e : Drum} (h : SmallD d) : stepR e (adW d.adds) = some { e with adds := d.adds }:= by
 unfold stepR
 rw [wrdR_not (ad_split h) (by show wAdd ≠ wAcid; decide)]
 exact stepW_ad (numsR_dD (sm_ad h))
theorem stepR_st {d e : Drum} (h : SmallD d) {s : Strip} (hs : s ∈ d.strips) : stepR e (stW s) = some { e with strips := e.strips ++ [s] }:= by
 unfold stepR
 rw [wrdR_not (st_split h hs) (by show wStrip ≠ wAcid; decide)]
 exact stepW_st (numsR_dD (l := [s.hour,s.seen,s.off]) (sm_st h hs))
theorem stepR_ba {d e : Drum} (h : SmallD d) {b : Batch} (hb : b ∈ d.batches) : stepR e (baW b) = some { e with batches := e.batches ++ [b] }:= by
 unfold stepR
 rw [wrdR_not (ba_split h hb) (by show wBatch ≠ wAcid; decide)]
 exact stepW_ba (numsR_dD (l := [b.rough,b.goal,b.thick,b.least,b.polish,b.eat]) (sm_ba h hb))
theorem stepsR_ac {d : Drum} (h : SmallD d) : ∀ (A : List Acid) (e : Drum),(∀ a ∈ A,a ∈ d.acids) -> stepsR e (A.map acW) = some { e with acids := e.acids ++ A }
 | [],e,_ => by simp [stepsR]
 | a :: A,e,hA => by
  simp only [List.map_cons,stepsR,stepR_ac h (hA a (by simp))]
  rw [stepsR_ac h A _ fun x hx => hA x (by simp [hx])]
  simp
theorem stepsR_st {d : Drum} (h : SmallD d) : ∀ (A : List Strip) (e : Drum),(∀ a ∈ A,a ∈ d.strips) -> stepsR e (A.map stW) = some { e with strips := e.strips ++ A }
 | [],e,_ => by simp [stepsR]
 | a :: A,e,hA => by
  simp only [List.map_cons,stepsR,stepR_st h (hA a (by simp))]
  rw [stepsR_st h A _ fun x hx => hA x (by simp [hx])]
  simp
theorem stepsR_ba {d : Drum} (h : SmallD d) : ∀ (A : List Batch) (e : Drum),(∀ a ∈ A,a ∈ d.batches) -> stepsR e (A.map baW) = some { e with batches := e.batches ++ A }
 | [],e,_ => by simp [stepsR]
 | a :: A,e,hA => by
  simp only [List.map_cons,stepsR,stepR_ba h (hA a (by simp))]
  rw [stepsR_ba h A _ fun x hx => hA x (by simp [hx])]
  simp
theorem stepsR_body {d : Drum} (h : SmallD d) : stepsR ⟨[],d.known,d.hours,[],[],[]⟩ (bodyW d) = some d:= by
 unfold bodyW
 rw [stepsR_append,stepsR_ac h d.acids _ fun _ h => h]
 simp only [stepsR,stepR_ad h]
 rw [stepsR_append,stepsR_st h d.strips _ fun _ h => h]
 simp only
 rw [stepsR_ba h d.batches _ fun _ h => h]
 simp
theorem readR_text {d : Drum} (h : SmallD d) : readR (textD d).data.toList = some d:= by
 have hb : (bodyW d).length >= 1 := by simp [bodyW]; omega
 obtain ⟨h1,h2⟩ := sm_hd h
 have hh : headR (hdW d :: bodyW d ++ [endW d] ++ [[]]) = some ⟨[],d.known,d.hours,[],[],[]⟩:= by
  have hn := numsR_dD (l := [d.hours,d.known]) (by
   intro x hx
   simp only [List.mem_cons,List.not_mem_nil,or_false] at hx
   rcases hx with rfl | rfl
   ·exact h1
   ·exact h2)
  simp only [List.map_cons,List.map_nil] at hn
  unfold headR headH
  simp only [List.cons_append,List.headD_cons]
  rw [hd_split h]
  simp only
  rw [hn]
 have hM : ((hdW d :: bodyW d ++ [endW d] ++ [[]]).drop 1).take ((hdW d :: bodyW d ++ [endW d] ++ [[]]).length - 3) = bodyW d:= by
  have hl : (hdW d :: bodyW d ++ [endW d] ++ [[]]).length - 3 = (bodyW d).length := by simp
  rw [hl]
  show (bodyW d ++ [endW d] ++ [[]]).take (bodyW d).length = _
  rw [List.append_assoc,List.take_left]
 unfold readR
 rw [split_text h,if_neg (by simp),hh]
 simp only
 rw [hM,stepsR_body h]
 simp only
 rw [if_pos (show textD d = bytesOf (textD d).data.toList from bytes_ext rfl)]
theorem data_bytes (s : List UInt8) : (bytesOf s).data.toList = s := by simp [bytesOf]
theorem readR_M {s : List UInt8} (hs : s.length <= 600) : readR s = readM s:= by
 cases hr : readR s with
 | some d =>
  obtain ⟨h1,h2⟩ := readR_ok (by omega) hr
  have := read_text h1
  rw [h2,data_bytes] at this
  exact this.symm
 | none =>
  cases hm : readM s with
  | none => rfl
  | some d =>
   obtain ⟨h1,_,_,h2⟩ := readM_ok hs hm
   have := readR_text h1
   rw [h2,data_bytes,hr] at this
   exact this
end Go.Abs
