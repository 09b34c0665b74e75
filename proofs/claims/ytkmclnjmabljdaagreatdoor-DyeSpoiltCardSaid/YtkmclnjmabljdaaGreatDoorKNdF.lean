/- The depths that a dye can have in a batch. -/
import Derived.Test.YtkmclnjmabljdaaGreatDoorKNdE
set_option linter.unusedVariables false
set_option linter.unusedSimpArgs false
namespace Go.Abs
open Go.Proofs
set_option linter.unusedVariables false
set_option linter.unusedSimpArgs false
set_option maxRecDepth 100000
def insAll (ks : List Int) (l : List Int) : List Int := l.foldl insK ks
theorem insAll_snoc (ks l : List Int) (n : Int) : insAll ks (l ++ [n]) = insK (insAll ks l) n := by simp [insAll]
theorem insAll_mem : ∀ (l ks : List Int) (n : Int),n ∈ insAll ks l ↔ n ∈ ks \/ n ∈ l
 | [],ks,n => by simp [insAll]
 | x :: l,ks,n => by
  show n ∈ insAll (insK ks x) l ↔ _
  rw [insAll_mem l (insK ks x) n,insK_mem]; simp only [List.mem_cons]
  constructor
  ·rintro ((h | h) | h)
   ·exact .inl h
   ·exact .inr (.inl h)
   ·exact .inr (.inr h)
  ·rintro (h | h | h)
   ·exact .inl (.inl h)
   ·exact .inl (.inr h)
   ·exact .inr h
def depthsL (d : Dye) (dye : Int) (takes : List Int) (l : List Bath) : List Int := (numsL ((ofDye dye l).map (fun b : Bath => b.hours))).map fun hours => depthI d dye takes (ofDye dye l) hours
theorem ofDye_mem {dye : Int} {l : List Bath} {b : Bath} (h : b ∈ ofDye dye l) : b ∈ l /\ b.dye = dye := by simpa [ofDye] using h
theorem numsL_bd : ∀ (l : List Span) (x : List Int),x ∈ numsL l -> (∀ s ∈ l,0 <= s.low /\ s.high <= 1000) -> small x
 | [],x,h,_ => by simp [numsL] at h; subst h; simp [small]
 | s :: l,x,h,hs => by
  simp only [numsL,List.mem_flatMap,List.mem_map,rangeI,List.mem_range] at h
  obtain ⟨n,⟨j,hj,rfl⟩,y,hy,rfl⟩ := h
  intro z hz
  cases hz with
  | head => have := hs s (by simp); omega
  | tail _ hz => exact numsL_bd l y hy (fun s hs' => hs s (by simp [hs'])) z hz
set_option maxHeartbeats 4000000 in
theorem f194 (h : List Dye) (lamp : List Int) (l : List Bath) (dye : Int) (takes : List Int) (d : Dye) (hd : h[dye.toNat]? = some d) (h0 : 0 <= dye) (hl : BatchP h l) (ht : takes.length = 3) (hs : small takes) :
  ACalls Tryz.prog 194 [eHL h lamp,eBaths l,vi dye,eInts takes] (fun r => r = .imap (insAll [] (depthsL d dye takes l))):= by
 have hlen : (ofDye dye l).length <= 1000 := by have := List.length_filter_le (fun b : Bath => decide (b.dye = dye)) l; have := hl.1; unfold ofDye; omega
 have hsp : ∀ s ∈ (ofDye dye l).map (fun b : Bath => b.hours),0 <= s.low /\ s.low <= s.high /\ s.high <= 12 := fun s hs => by
  obtain ⟨b,hb,rfl⟩ := List.mem_map.1 hs
  have := hl.2 b (ofDye_mem hb).1
  unfold BathP at this; omega
 refine ACalls.of_body hT Tryz.func194 rfl (by kernel_rfl) rfl ?_
 (repeat (refine stp ?_))
 refine AL_do2 rfl ⟨_,op_call1 rfl rfl rfl rfl (f219 l dye (by have := hl.1; omega)),?_⟩
 refine AL_pure (t := 15) rfl rfl ?_
 (repeat (refine stp ?_))
 refine AL_do2 rfl ⟨_,op_call1 rfl rfl rfl rfl (f210 (ofDye dye l) hlen),?_⟩
 refine AL_pure (t := 18) rfl rfl ?_
 (repeat' (first | refine stp ?_ | (refine AL_do2 rfl ?_; first | refine ⟨_,op_call1 rfl rfl rfl rfl (f193 ((ofDye dye l).map (fun b : Bath => b.hours))),?_⟩) | refine AL_gdec rfl rfl rfl (fun hg => ?_) (fun hg => ?_) | refine AL_gnot rfl rfl rfl (fun hg => ?_) (fun hg => ?_) | refine AL_gcases rfl rfl rfl (fun hg => ?_) (fun hg => ?_)))
 refine AW_range (gf := 216) (caps := [.ptr [eSpans ((ofDye dye l).map (fun b : Bath => b.hours))]]) (L := numbersL ((ofDye dye l).map (fun b : Bath => b.hours))) [4,6,7,9,10] [(4,.box 0 0),(6,.box 1 0),(7,.box 2 0),(9,.box 3 0),(10,.box 4 0)]
  (fun av k (_ : Unit) => [(0,.box [.pv (.sl (h.map eDye)),.pv (eInts lamp)]),(1,.box [.pv (vi dye)]),(2,.box [.pv (eInts takes)]),(3,.box [.pv (eBaths (ofDye dye l))]),(4,.box [.mp 5]),(5,.imap (insAll [] ((depthsL d dye takes l).take k))),
   (6,.anc (av 4) (.box 0 0)),(7,.anc (av 6) (.box 1 0)),(8,.anc (av 7) (.box 2 0)),(9,.anc (av 9) (.box 3 0)),(10,.anc (av 10) (.box 4 0))]) (fun _ _ => True) 11 [6,7,8,9,10] () trivial
  ?_ (it216 _ (by simpa using hlen) (fun s hs => by have := hsp s hs; omega)) ?_ ?_ ?_ ?_ ?_ ?_
 ·rfl
 ·intro p hp
  simp only [List.mem_cons,List.not_mem_nil,or_false] at hp; subst hp; rfl
 ·intro x hx
  simp only [numbersL,List.mem_map] at hx
  obtain ⟨y,_,rfl⟩ := hx; rfl
 ·intro av k i
  ((repeat' (first | exact trivial | refine And.intro ?_ ?_)); all_goals (first | rfl | decide))
 ·intro av
  (refine Le.mkR [(3,4),(4,6),(5,5),(6,8),(7,9),(8,10),(9,11),(10,12)] ?_ ?_ rfl; all_goals (repeat' (first | exact trivial | refine sle ?_ | refine ⟨?_,rfl,?_⟩ | refine ⟨?_,by decide,rfl,?_⟩ | fail)))
 ·intro av k _ x _ hx
  obtain ⟨y,hy,rfl⟩ : ∃ y,(numsL ((ofDye dye l).map (fun b : Bath => b.hours)))[k]? = some y /\ [eInts y] = x:= by
   rw [numbersL,List.getElem?_map,Option.map_eq_some_iff] at hx; exact hx
  have hym := List.mem_of_getElem? hy
  have hyl := numsL_len _ y hym
  simp only [List.length_map] at hyl
  have hysm := numsL_bd _ y hym (fun s hs => by have := hsp s hs; omega)
  have hdk : (depthsL d dye takes l)[k]? = some (depthI d dye takes (ofDye dye l) y) := by rw [depthsL,List.getElem?_map,hy]; rfl
  have hnext : (depthsL d dye takes l).take (k + 1) = (depthsL d dye takes l).take k ++ [depthI d dye takes (ofDye dye l) y] := by rw [List.take_add_one,hdk]; rfl
  (repeat' (first | refine stp ?_ | (refine AL_do2 rfl ?_; first | refine ⟨_,op_call1 rfl rfl rfl rfl (f155 h dye takes (ofDye dye l) y d hd h0 (by omega) hlen (fun b hb _ => by have := hl.2 b (ofDye_mem hb).1; unfold BathP at this; omega) hysm hs),?_⟩) | refine AL_gdec rfl rfl rfl (fun hg => ?_) (fun hg => ?_) | refine AL_gnot rfl rfl rfl (fun hg => ?_) (fun hg => ?_) | refine AL_gcases rfl rfl rfl (fun hg => ?_) (fun hg => ?_)))
  refine roundQ_intro () trivial ?_
  (refine Le.mk ?_ ?_; all_goals (repeat' (first | exact trivial | refine sle ?_ | refine ⟨?_,rfl,?_⟩ | refine ⟨?_,by decide,rfl,?_⟩ | fail)))
  rw [hnext,insAll_snoc]; rfl
 ·intro av _ _
  have hall : (depthsL d dye takes l).take (numbersL ((ofDye dye l).map (fun b : Bath => b.hours))).length = depthsL d dye takes l:= by
   rw [List.take_of_length_le]; simp [depthsL,numbersL]
  rw [hall]
  (repeat (refine stp ?_))
  exact ⟨_,_,rfl,rfl,rfl⟩
end Go.Abs
namespace Go.Abs
open Go.Proofs
set_option linter.unusedVariables false
set_option linter.unusedSimpArgs false
set_option maxRecDepth 100000
def wordI (some not : Bool) : Int := if !not then 3 else if !some then 1 else 2
theorem f149 (a b : Bool) : ACalls Tryz.prog 149 [.bool a,.bool b] (fun r => r = .pv (vi (wordI a b))):= by
 cases a <;> cases b
 all_goals
  refine ACalls.of_body hT Tryz.func149 rfl (by kernel_rfl) rfl ?_
  (repeat' (first | refine stp ?_ | refine AL_gdec rfl rfl rfl (fun hg => ?_) (fun hg => ?_) | refine AL_gnot rfl rfl rfl (fun hg => ?_) (fun hg => ?_) | refine AL_gcases rfl rfl rfl (fun hg => ?_) (fun hg => ?_)))
  exact ⟨_,_,rfl,rfl,rfl⟩
def bdK (c : Int) (l : List Int) : Prop := ∀ x ∈ l,-c <= x /\ x <= c
def isHull (l : List Int) (s : Span) : Prop := (l = [] /\ s = ⟨0,0⟩) \/ (s.low ∈ l /\ s.high ∈ l /\ ∀ x ∈ l,s.low <= x /\ x <= s.high)
theorem f150 (ks : List Int) (hb : bdK 1000000 ks) (hnd : ks.Nodup) : ACalls Tryz.prog 150 [.imap ks] (fun r => ∃ s,isHull ks s /\ r = .pv (eS s)):= by
 refine ACalls.of_body hT Tryz.func150 rfl (by kernel_rfl) rfl ?_
 (repeat (refine stp ?_))
 refine AW_loopC (fun i : List Int × Span × Bool × Option Int => i.1.Nodup /\ (∀ x ∈ i.1,x ∈ ks) /\ (i.2.2.1 = true -> i.1 = ks /\ i.2.1 = ⟨0,0⟩) /\ (i.2.2.1 = false -> i.2.1.low ∈ ks /\ i.2.1.high ∈ ks /\ ∀ x ∈ ks,x ∉ i.1 -> i.2.1.low <= x /\ x <= i.2.1.high))
  (fun i => mkSt [(2,.box 0 0),(3,.box 1 0),(4,.pv (.bool i.2.2.1)),(7,.box 2 0)] [(0,.box [.pv (vi 0),.pv (vi 0)]),(1,.box [.pv (vi i.2.1.low),.pv (vi i.2.1.high)]),(2,.iter ks i.1 i.2.2.2)] 3) (fun i => i.1.length) (ks,⟨0,0⟩,true,none) ⟨hnd,fun x hx => hx,fun _ => ⟨rfl,rfl⟩,by simp⟩ ?_ ?_
 ·(refine Le.mk ?_ ?_; all_goals (repeat' (first | exact trivial | refine sle ?_ | refine ⟨?_,rfl,?_⟩ | refine ⟨?_,by decide,rfl,?_⟩ | fail)))
 ·rintro ⟨rem,s,first,cur⟩ ⟨h1,h2,h3,h4⟩
  simp only at h1 h2 h3 h4
  dsimp only
  (repeat (refine stp ?_))
  refine AL_doS rfl (op_next rfl rfl rfl rfl) ?_
  rintro s' (⟨hr,rfl⟩ | ⟨x,hx,rfl⟩)
  ·(repeat (refine stp ?_))
   refine ⟨_,_,rfl,rfl,s,?_,rfl⟩
   subst hr
   cases first with
   | true => obtain ⟨q1,q2⟩ := h3 rfl; exact .inl ⟨q1.symm,q2⟩
   | false => obtain ⟨q1,q2,q3⟩ := h4 rfl; exact .inr ⟨q1,q2,fun x hx => q3 x hx (by simp)⟩
  ·have hxk := h2 x hx
   have hxb := hb x hxk
   have her : ∀ y,y ∈ rem.erase x ↔ y ≠ x /\ y ∈ rem := fun y => h1.mem_erase_iff
   have hlen : (rem.erase x).length < rem.length := by rw [List.length_erase_of_mem hx]; have := List.length_pos_of_mem hx; omega
   cases first with
   | true =>
    obtain ⟨q1,q2⟩ := h3 rfl
    subst q2
    (repeat (refine stp ?_))
    refine ⟨(rem.erase x,⟨min x x,max x x⟩,false,some x),⟨h1.erase x,fun y hy => h2 y ((her y).1 hy).2,by simp,fun _ => ?_⟩,hlen,?_⟩
    ·simp only [Int.min_self,Int.max_self]
     refine ⟨hxk,hxk,fun y hy hn => ?_⟩
     rw [her,q1] at hn
     by_cases hyx : y = x
     ·omega
     ·exact absurd ⟨hyx,hy⟩ hn
    ·(refine Le.mk ?_ ?_; all_goals (repeat' (first | exact trivial | refine sle ?_ | refine ⟨?_,rfl,?_⟩ | refine ⟨?_,by decide,rfl,?_⟩ | fail)))
   | false =>
    obtain ⟨q1,q2,q3⟩ := h4 rfl
    (repeat (refine stp ?_))
    refine ⟨(rem.erase x,⟨min s.low x,max s.high x⟩,false,some x),⟨h1.erase x,fun y hy => h2 y ((her y).1 hy).2,by simp,fun _ => ?_⟩,hlen,?_⟩
    ·simp only
     refine ⟨?_,?_,fun y hy hn => ?_⟩
     ·rcases Int.le_total s.low x with h | h
      ·rw [Int.min_eq_left h]; exact q1
      ·rw [Int.min_eq_right h]; exact hxk
     ·rcases Int.le_total s.high x with h | h
      ·rw [Int.max_eq_right h]; exact hxk
      ·rw [Int.max_eq_left h]; exact q2
     ·rw [her] at hn
      by_cases hyx : y = x
      ·omega
      ·have := q3 y hy (fun h => hn ⟨hyx,h⟩); omega
    ·(refine Le.mk ?_ ?_; all_goals (repeat' (first | exact trivial | refine sle ?_ | refine ⟨?_,rfl,?_⟩ | refine ⟨?_,by decide,rfl,?_⟩ | fail)))
end Go.Abs
namespace Go.Abs
open Go.Proofs
set_option linter.unusedVariables false
set_option linter.unusedSimpArgs false
set_option maxRecDepth 100000
def diffL (xs ys : List Int) : List Int := xs.flatMap fun x => ys.map fun y => x - y
def eachL (d : Dye) (dye : Int) (a b : List Bath) : List Int := (numsL d.takes).flatMap fun t => diffL (depthsL d dye t a) (depthsL d dye t b)
def apartGo (a b : List Bath) : List Dye -> List Int -> Int -> List Int -> List Int
 | d :: h,w :: ws,i,out => apartGo a b h ws (i + 1) (out.flatMap fun n => (eachL d i a b).map fun m => n + w * m)
 | _,_,_,out => out
def apartL (h : List Dye) (lamp : List Int) (a b : List Bath) : List Int := apartGo a b h lamp 0 [0]
theorem apartGo_succ (a b : List Bath) : ∀ (h : List Dye) (ws : List Int) (i : Int) (out : List Int) (k : Nat) (d : Dye) (w : Int),h[k]? = some d -> ws[k]? = some w →
  apartGo a b h (ws.take (k + 1)) i out = (apartGo a b h (ws.take k) i out).flatMap fun n => (eachL d (i + k) a b).map fun m => n + w * m
 | [],_,_,_,_,_,_,h,_ => by simp at h
 | _ :: _,[],_,_,_,_,_,_,h => by simp at h
 | d0 :: h,w0 :: ws,i,out,0,d,w,hk,hw => by simp at hk hw; subst hk; subst hw; cases h <;> simp [apartGo]
 | d0 :: h,w0 :: ws,i,out,k + 1,d,w,hk,hw => by
  have := apartGo_succ a b h ws (i + 1) (out.flatMap fun n => (eachL d0 i a b).map fun m => n + w0 * m) k d w (by simpa using hk) (by simpa using hw)
  simp only [List.take_succ_cons,apartGo,this]
  rw [show i + 1 + (k : Int) = i + ((k + 1 : Nat) : Int) by omega]
theorem sumI_nonneg : ∀ {l : List Int},(∀ x ∈ l,0 <= x) -> 0 <= sumI l
 | [],_ => by simp [sumI]
 | x :: l,h => by have := h x (by simp); have := sumI_nonneg (l := l) fun y hy => h y (by simp [hy]); simp only [sumI]; omega
theorem prods_nonneg (dye : Int) (takes : List Int) (ht : small takes) : ∀ (l : List Bath) (hours : List Int),small hours -> ∀ x ∈ prods dye takes l hours,0 <= x
 | [],_,_,_,h => by simp [prods] at h
 | _ :: _,[],_,_,h => by simp [prods] at h
 | b :: l,t :: hs,hsm,x,h => by
  simp only [prods,List.mem_append] at h
  rcases h with h | h
  ·split at h
   ·simp at h; subst h
    exact (small_mul (hsm t (by simp)) (small_getD ht _)).1
   ·simp at h
  ·exact prods_nonneg dye takes ht l hs (fun y hy => hsm y (by simp [hy])) x h
theorem depthsL_bd {d : Dye} {dye : Int} {takes : List Int} {l : List Bath} (hf : 0 <= d.full /\ d.full <= 100) (ht : small takes) (hl : ∀ b ∈ l,0 <= b.hours.low /\ b.hours.high <= 12) : ∀ x ∈ depthsL d dye takes l,0 <= x /\ x <= 100:= by
 intro x hx
 obtain ⟨hours,hh,rfl⟩ := List.mem_map.1 hx
 have hsm := numsL_bd _ hours hh (fun s hs => by
  obtain ⟨b,hb,rfl⟩ := List.mem_map.1 hs
  have := hl b (ofDye_mem hb).1; omega)
 have := sumI_nonneg (prods_nonneg dye takes ht (ofDye dye l) hours hsm)
 unfold depthI; omega
theorem diffL_mem {xs ys : List Int} {n : Int} : n ∈ diffL xs ys ↔ ∃ x ∈ xs,∃ y ∈ ys,n = x - y:= by
 simp only [diffL,List.mem_flatMap,List.mem_map]
 constructor
 ·rintro ⟨x,hx,y,hy,rfl⟩; exact ⟨x,hx,y,hy,rfl⟩
 ·rintro ⟨x,hx,y,hy,rfl⟩; exact ⟨x,hx,y,hy,rfl⟩
abbrev apEnv (lamp : List Int) (ks : List Int) (k : Nat) : List (Nat × FV) := [(3,.box 0 0),(4,.box 1 0),(5,.box 2 0),(7,.pv (.imap ks)),(8,.box 3 0),(9,.box 4 0),(10,.box 6 0),(23,.pv (eInts lamp)),(24,.pv (vi lamp.length)),(25,.pv (vi k))]
abbrev apObjs (h : List Dye) (lamp : List Int) (a b : List Bath) (ks : List Int) (k : Nat) (w : Int) (av : Nat -> Value) (here : List Int) : List (Nat × AObj) :=
 [(0,.box [.pv (.sl (h.map eDye)),.pv (eInts lamp)]),(1,.box [.pv (eBaths a)]),(2,.box [.pv (eBaths b)]),(3,.box [.pv (vi k)]),(4,.box [.pv (vi w)]),(5,.imap here),(6,.box [.mp 5]),
  (7,.anc (av 3) (.box 0 0)),(8,.anc (av 4) (.box 1 0)),(9,.anc (av 5) (.box 2 0)),(10,.anc (av 7) (.pv (.imap ks))),(11,.anc (av 8) (.box 3 0)),(12,.anc (av 9) (.box 4 0)),(13,.anc (av 10) (.box 6 0)),
  (14,.anc (av 23) (.pv (eInts lamp))),(15,.anc (av 24) (.pv (vi lamp.length))),(16,.anc (av 25) (.pv (vi k)))]
def hereP (d : Dye) (k w : Int) (a b : List Bath) (j : Nat) (here : List Int) : Prop := here.Nodup /\ ∀ n,n ∈ here ↔ ∃ t ∈ (numsL d.takes).take j,∃ x ∈ depthsL d k t a,∃ y ∈ depthsL d k t b,n = w * (x - y)
theorem insK_nodup {ks : List Int} (h : ks.Nodup) (n : Int) : (insK ks n).Nodup:= by
 unfold insK
 by_cases hn : n ∈ ks
 ·rw [if_pos hn]; exact h
 ·rw [if_neg hn,List.nodup_append]; exact ⟨h,by simp,fun a ha b hb => by simp at hb; subst hb; rintro rfl; exact hn ha⟩
theorem insAll_nodup : ∀ (l : List Int) {ks : List Int},ks.Nodup -> (insAll ks l).Nodup
 | [],_,h => h
 | x :: l,_,h => insAll_nodup l (insK_nodup h x)
theorem numsL_small {l : List Span} {x : List Int} (hx : x ∈ numsL l) (hs : ∀ s ∈ l,0 <= s.low /\ s.low <= s.high /\ s.high <= 20) : small x := numsL_bd l x hx fun s h => by have := hs s h; omega
set_option maxHeartbeats 8000000 in
theorem f151 (h : List Dye) (lamp : List Int) (a b : List Bath) (hh : HouseP h) (hL : LampP h lamp) (ha : BatchP h a) (hb : BatchP h b) : ACalls Tryz.prog 151 [eHL h lamp,eBaths a,eBaths b] (fun r => ∃ ks,(ks.Nodup /\ ∀ n,n ∈ ks ↔ n ∈ apartL h lamp a b) /\ r = .pv (.imap ks)):= by
 have hlen : lamp.length <= 3 := by rw [hL.1]; exact hh.1
 have hbt : ∀ {l : List Bath},BatchP h l -> ∀ b ∈ l,0 <= b.hours.low /\ b.hours.high <= 12 := fun hl b hb => by have := hl.2 b hb; unfold BathP at this; omega
 refine ACalls.of_body hT Tryz.func151 rfl (by kernel_rfl) rfl ?_
 (repeat (refine stp ?_))
 refine AW_mapSlot (t := 7) rfl rfl ?_
 refine AW_loopC (fun i : Nat × List Int => i.1 <= lamp.length /\ i.2.Nodup /\ bdK (1000 * i.1) i.2 /\ ∀ n,n ∈ i.2 ↔ n ∈ apartGo a b h (lamp.take i.1) 0 [0])
  (fun i => mkSt [(3,.box 0 0),(4,.box 1 0),(5,.box 2 0),(7,.pv (.imap i.2)),(23,.pv (eInts lamp)),(24,.pv (vi lamp.length)),(25,.pv (vi i.1))]
   [(0,.box [.pv (.sl (h.map eDye)),.pv (eInts lamp)]),(1,.box [.pv (eBaths a)]),(2,.box [.pv (eBaths b)])] 3) (fun i => lamp.length - i.1) (0,insK [] 0) ⟨Nat.zero_le _,by simp [insK],by simp [bdK,insK],?_⟩ ?_ ?_
 ·intro n; rw [insK_mem]; cases h <;> simp [apartGo]
 ·(refine Le.mk ?_ ?_; all_goals (repeat' (first | exact trivial | refine sle ?_ | refine ⟨?_,rfl,?_⟩ | refine ⟨?_,by decide,rfl,?_⟩ | fail)))
 ·rintro ⟨k,ks⟩ ⟨hk,hnd,hkb,hks⟩
  simp only at hk hnd hkb hks
  dsimp only
  (repeat (refine stp ?_))
  refine AW_if rfl (fun hc => ?_) (fun hc => ?_)
  ·have hk' : k < lamp.length := by omega
   obtain ⟨w,hw⟩ : ∃ w,lamp[k]? = some w := ⟨lamp[k],by simp [hk']⟩
   obtain ⟨d,hd⟩ : ∃ d,h[k]? = some d := ⟨h[k]'(by have := hL.1; omega),by simp⟩
   have e1 := get_map eInt hw
   have e2 := get_map eDye hd
   have hdP := hh.2.2 d (List.mem_of_getElem? hd)
   have hwb := hL.2 w (List.mem_of_getElem? hw)
   (repeat' (first | refine stp ?_ | (refine AL_do2 rfl ?_; first | refine ⟨_,op_call1 rfl rfl rfl rfl (f193 d.takes),?_⟩) | refine AL_gdec rfl rfl rfl (fun hg => ?_) (fun hg => ?_) | refine AL_gnot rfl rfl rfl (fun hg => ?_) (fun hg => ?_) | refine AL_gcases rfl rfl rfl (fun hg => ?_) (fun hg => ?_)))
   refine AW_range (gf := 216) (caps := [.ptr [eSpans d.takes]]) (L := numbersL d.takes) [3,4,5,7,8,9,10,23,24,25] (apEnv lamp ks k) (fun av _ here => apObjs h lamp a b ks k w av here) (hereP d k w a b) 17 [7,8,9,10,11,12,13,14,15,16] [] ⟨.nil,by simp⟩
    ?_ (it216 _ (by omega) (fun s hs => by have := hdP.2.2.2 s hs; omega)) ?_ ?_ ?_ ?_ ?_ ?_
   ·rfl
   ·intro p hp
    simp only [List.mem_cons,List.not_mem_nil,or_false] at hp; subst hp; rfl
   ·intro x hx
    simp only [numbersL,List.mem_map] at hx
    obtain ⟨y,_,rfl⟩ := hx; rfl
   ·intro av j i
    ((repeat' (first | exact trivial | refine And.intro ?_ ?_)); all_goals (first | rfl | decide))
   ·intro av
    (refine Le.mk ?_ ?_; all_goals (repeat' (first | exact trivial | refine sle ?_ | refine ⟨?_,rfl,?_⟩ | refine ⟨?_,by decide,rfl,?_⟩ | fail)))
   ·intro av j here x hJ hx
    obtain ⟨t,ht,rfl⟩ : ∃ t,(numsL d.takes)[j]? = some t /\ [eInts t] = x:= by
     rw [numbersL,List.getElem?_map,Option.map_eq_some_iff] at hx; exact hx
    have htm := List.mem_of_getElem? ht
    have htl := numsL_len _ t htm
    have hts := numsL_small htm hdP.2.2.2
    have hba := depthsL_bd (d := d) (dye := (k : Int)) (takes := t) (l := a) ⟨hdP.2.1,hdP.2.2.1⟩ hts (hbt ha)
    have hbb := depthsL_bd (d := d) (dye := (k : Int)) (takes := t) (l := b) ⟨hdP.2.1,hdP.2.2.1⟩ hts (hbt hb)
    generalize hxs : depthsL d k t a = xs at hba
    generalize hys : depthsL d k t b = ys at hbb
    have fa := f194 h lamp a k t d (by simpa using hd) (by omega) ha (by omega) hts
    have fb := f194 h lamp b k t d (by simpa using hd) (by omega) hb (by omega) hts
    rw [hxs] at fa
    rw [hys] at fb
    have hJ' : ∀ n,(∃ t' ∈ (numsL d.takes).take (j + 1),∃ x ∈ depthsL d k t' a,∃ y ∈ depthsL d k t' b,n = w * (x - y)) ↔ n ∈ here \/ ∃ x ∈ xs,∃ y ∈ ys,n = w * (x - y):= by
     intro n
     rw [hJ.2 n,List.take_add_one,ht]
     simp only [List.mem_append,Option.toList_some,List.mem_singleton,or_and_right,exists_or,exists_eq_left,hxs,hys]
    have hkx : ∀ x,x ∈ insAll [] xs ↔ x ∈ xs := fun x => by rw [insAll_mem]; simp
    have hky : ∀ x,x ∈ insAll [] ys ↔ x ∈ ys := fun x => by rw [insAll_mem]; simp
    have ndx : (insAll [] xs).Nodup := insAll_nodup xs .nil
    have ndy : (insAll [] ys).Nodup := insAll_nodup ys .nil
    generalize insAll [] xs = kx at *
    generalize insAll [] ys = ky at *
    (repeat (refine stp ?_))
    (repeat (first | refine sdr ?_ | refine DG_next (D_call_imap rfl rfl rfl rfl rfl (fa)) ?_ | refine DG_next (D_call_imap rfl rfl rfl rfl rfl (fb)) ?_))
    refine DG_end hM (by kernel_rfl) ?_
    (repeat (refine stp ?_))
    refine AL_mapSlot (t := 50) rfl rfl ?_
    refine AL_mapSlot (t := 13) rfl rfl ?_
    (repeat (refine stp ?_))
    refine AW_loopC (fun i : List Int × List Int × Option Int => i.1.Nodup /\ (∀ x ∈ i.1,x ∈ kx) /\ i.2.1.Nodup /\ ∀ n,n ∈ i.2.1 ↔ n ∈ here \/ ∃ x ∈ kx,x ∉ i.1 /\ ∃ y ∈ ky,n = w * (x - y))
     (fun i => mkSt [(9,.box 4 0),(10,.box 6 0),(13,.pv (.imap ky)),(51,.box 17 0)] ((17,.iter kx i.1 i.2.2) :: apObjs h lamp a b ks k w av i.2.1) 18) (fun i => i.1.length) (kx,here,none) ⟨ndx,fun _ h => h,hJ.1,fun n => ?_⟩ ?_ ?_
    ·constructor
     ·exact .inl
     ·rintro (h | ⟨x,h1,h2,_⟩)
      ·exact h
      ·exact absurd h1 h2
    ·(refine Le.mkR [(17,19)] ?_ ?_ rfl; all_goals (repeat' (first | exact trivial | refine sle ?_ | refine ⟨?_,rfl,?_⟩ | refine ⟨?_,by decide,rfl,?_⟩ | fail)))
    ·rintro ⟨rem,here1,cur⟩ ⟨c1,c2,c3,c4⟩
     simp only at c1 c2 c3 c4
     dsimp only
     (repeat (refine stp ?_))
     refine AL_doS rfl (op_next rfl rfl rfl rfl) ?_
     rintro s' (⟨hr,rfl⟩ | ⟨x,hx,rfl⟩)
     ·subst hr
      (repeat (refine stp ?_))
      refine roundQ_intro here1 ⟨c3,fun n => ?_⟩ ?_
      ·rw [hJ' n,c4 n]
       simp only [hkx,hky,List.not_mem_nil,not_false_eq_true,true_and]
      ·(refine Le.mk ?_ ?_; all_goals (repeat' (first | exact trivial | refine sle ?_ | refine ⟨?_,rfl,?_⟩ | refine ⟨?_,by decide,rfl,?_⟩ | fail)))
     ·have hxk := c2 x hx
      have hxb := hba x ((hkx x).1 hxk)
      have her : ∀ y,y ∈ rem.erase x ↔ y ≠ x /\ y ∈ rem := fun y => c1.mem_erase_iff
      have hlen1 : (rem.erase x).length < rem.length := by rw [List.length_erase_of_mem hx]; have := List.length_pos_of_mem hx; omega
      (repeat (refine stp ?_))
      refine AW_loopC (fun i : List Int × List Int × Option Int => i.1.Nodup /\ (∀ y ∈ i.1,y ∈ ky) /\ i.2.1.Nodup /\ ∀ n,n ∈ i.2.1 ↔ n ∈ here1 \/ ∃ y ∈ ky,y ∉ i.1 /\ n = w * (x - y))
       (fun i => mkSt [(9,.box 4 0),(10,.box 6 0),(13,.pv (.imap ky)),(14,.pv (vi x)),(51,.box 17 0),(57,.box 18 0)] ((17,.iter kx (rem.erase x) (some x)) :: (18,.iter ky i.1 i.2.2) :: apObjs h lamp a b ks k w av i.2.1) 19)
       (fun i => i.1.length) (ky,here1,none) ⟨ndy,fun _ h => h,c3,fun n => ?_⟩ ?_ ?_
      ·constructor
       ·exact .inl
       ·rintro (h | ⟨y,h1,h2,_⟩)
        ·exact h
        ·exact absurd h1 h2
      ·(refine Le.mk ?_ ?_; all_goals (repeat' (first | exact trivial | refine sle ?_ | refine ⟨?_,rfl,?_⟩ | refine ⟨?_,by decide,rfl,?_⟩ | fail)))
      ·rintro ⟨rem2,here2,cur2⟩ ⟨e1,e2,e3,e4⟩
       simp only at e1 e2 e3 e4
       dsimp only
       (repeat (refine stp ?_))
       refine AL_doS rfl (op_next rfl rfl rfl rfl) ?_
       rintro s' (⟨hr,rfl⟩ | ⟨y,hy,rfl⟩)
       ·subst hr
        (repeat (refine stp ?_))
        refine ⟨(rem.erase x,here2,some x),⟨c1.erase x,fun z hz => c2 z ((her z).1 hz).2,e3,fun n => ?_⟩,hlen1,?_⟩
        ·rw [e4 n,c4 n]
         constructor
         ·rintro ((h | ⟨z,h1,h2,h3⟩) | ⟨y,h1,_,h3⟩)
          ·exact .inl h
          ·exact .inr ⟨z,h1,fun hz => h2 ((her z).1 hz).2,h3⟩
          ·exact .inr ⟨x,hxk,fun hz => ((her x).1 hz).1 rfl,y,h1,h3⟩
         ·rintro (h | ⟨z,h1,h2,y,h3,h4⟩)
          ·exact .inl (.inl h)
          ·by_cases hzx : z = x
           ·subst hzx; exact .inr ⟨y,h3,by simp,h4⟩
           ·exact .inl (.inr ⟨z,h1,fun hz => h2 ((her z).2 ⟨hzx,hz⟩),y,h3,h4⟩)
        ·(refine Le.mk ?_ ?_; all_goals (repeat' (first | exact trivial | refine sle ?_ | refine ⟨?_,rfl,?_⟩ | refine ⟨?_,by decide,rfl,?_⟩ | fail)))
       ·have hyk := e2 y hy
        have hyb := hbb y ((hky y).1 hyk)
        have her2 : ∀ z,z ∈ rem2.erase y ↔ z ≠ y /\ z ∈ rem2 := fun z => e1.mem_erase_iff
        have hlen2 : (rem2.erase y).length < rem2.length := by rw [List.length_erase_of_mem hy]; have := List.length_pos_of_mem hy; omega
        have p := mul_bd (a := 9) (b := 100) (x := w) (n := x - y) hwb (by omega)
        have m1 : -9223372036854775808 <= w * (x - y) /\ w * (x - y) <= 9223372036854775807 := by omega
        (repeat (refine stp ?_))
        refine ⟨(rem2.erase y,insK here2 (w * (x - y)),some y),⟨e1.erase y,fun z hz => e2 z ((her2 z).1 hz).2,insK_nodup e3 _,fun n => ?_⟩,hlen2,?_⟩
        ·rw [insK_mem,e4 n]
         constructor
         ·rintro ((h | ⟨z,h1,h2,h3⟩) | h)
          ·exact .inl h
          ·exact .inr ⟨z,h1,fun hz => h2 ((her2 z).1 hz).2,h3⟩
          ·exact .inr ⟨y,hyk,fun hz => ((her2 y).1 hz).1 rfl,h⟩
         ·rintro (h | ⟨z,h1,h2,h3⟩)
          ·exact .inl (.inl h)
          ·by_cases hzy : z = y
           ·subst hzy; exact .inr h3
           ·exact .inl (.inr ⟨z,h1,fun hz => h2 ((her2 z).2 ⟨hzy,hz⟩),h3⟩)
        ·(refine Le.mk ?_ ?_; all_goals (repeat' (first | exact trivial | refine sle ?_ | refine ⟨?_,rfl,?_⟩ | refine ⟨?_,by decide,rfl,?_⟩ | fail)))
   ·intro av here hJ
    have htk : (numsL d.takes).take (numbersL d.takes).length = numsL d.takes := by rw [List.take_of_length_le]; simp [numbersL]
    have hJ2 : ∀ n,n ∈ here ↔ ∃ m ∈ eachL d k a b,n = w * m:= by
     intro n
     rw [hJ.2 n,htk]
     simp only [eachL,List.mem_flatMap,diffL_mem]
     constructor
     ·rintro ⟨t,h1,x,h2,y,h3,h4⟩; exact ⟨x - y,⟨t,h1,x,h2,y,h3,rfl⟩,h4⟩
     ·rintro ⟨m,⟨t,h1,x,h2,y,h3,rfl⟩,h4⟩; exact ⟨t,h1,x,h2,y,h3,h4⟩
    have hJb : bdK 900 here:= by
     intro n hn
     obtain ⟨t,h1,x,h2,y,h3,rfl⟩ := (hJ.2 n).1 hn
     rw [htk] at h1
     have hts := numsL_small h1 hdP.2.2.2
     have q1 := depthsL_bd (d := d) (dye := (k : Int)) (takes := t) (l := a) ⟨hdP.2.1,hdP.2.2.1⟩ hts (hbt ha) x h2
     have q2 := depthsL_bd (d := d) (dye := (k : Int)) (takes := t) (l := b) ⟨hdP.2.1,hdP.2.2.1⟩ hts (hbt hb) y h3
     have p := mul_bd (a := 9) (b := 100) (x := w) (n := x - y) hwb (by omega)
     omega
    have hnH := hJ.1
    (repeat (refine stp ?_))
    refine AW_mapBox (b := 6) (id := 5) rfl rfl rfl ?_
    refine AW_loopC (fun i : List Int × List Int × Option Int => i.1.Nodup /\ (∀ x ∈ i.1,x ∈ ks) /\ i.2.1.Nodup /\ ∀ n,n ∈ i.2.1 ↔ ∃ x ∈ ks,x ∉ i.1 /\ ∃ y ∈ here,n = x + y)
     (fun i => mkSt [(3,.box 0 0),(4,.box 1 0),(5,.box 2 0),(10,.box 6 0),(16,.mp 17),(23,.pv (eInts lamp)),(24,.pv (vi lamp.length)),(25,.pv (vi k)),(70,.box 18 0)]
      [(0,.box [.pv (.sl (h.map eDye)),.pv (eInts lamp)]),(1,.box [.pv (eBaths a)]),(2,.box [.pv (eBaths b)]),(6,.box [.pv (.imap here)]),(17,.imap i.2.1),(18,.iter ks i.1 i.2.2)] 19) (fun i => i.1.length) (ks,[],none) ⟨hnd,fun _ h => h,.nil,fun n => ?_⟩ ?_ ?_
    ·constructor
     ·intro h; simp at h
     ·rintro ⟨x,h1,h2,_⟩; exact absurd h1 h2
    ·(refine Le.mk ?_ ?_; all_goals (repeat' (first | exact trivial | refine sle ?_ | refine ⟨?_,rfl,?_⟩ | refine ⟨?_,by decide,rfl,?_⟩ | fail)))
    ·rintro ⟨rem,out,cur⟩ ⟨c1,c2,c3,c4⟩
     simp only at c1 c2 c3 c4
     dsimp only
     (repeat (refine stp ?_))
     refine AL_doS rfl (op_next rfl rfl rfl rfl) ?_
     rintro s' (⟨hr,rfl⟩ | ⟨x,hx,rfl⟩)
     ·subst hr
      refine AL_mapSlot (t := 16) rfl rfl ?_
      (repeat (refine stp ?_))
      have hout : ∀ n,n ∈ out ↔ n ∈ apartGo a b h (lamp.take (k + 1)) 0 [0]:= by
       intro n
       rw [c4 n,apartGo_succ a b h lamp 0 [0] k d w hd hw,Int.zero_add]
       simp only [List.mem_flatMap,List.mem_map]
       constructor
       ·rintro ⟨x,h1,_,y,h2,rfl⟩
        obtain ⟨m,h3,rfl⟩ := (hJ2 y).1 h2
        exact ⟨x,(hks x).1 h1,m,h3,rfl⟩
       ·rintro ⟨x,h1,m,h2,rfl⟩
        exact ⟨x,(hks x).2 h1,by simp,w * m,(hJ2 _).2 ⟨m,h2,rfl⟩,rfl⟩
      refine ⟨(k + 1,out),⟨hk',c3,fun n hn => ?_,hout⟩,by simp only; omega,?_⟩
      ·obtain ⟨x,h1,_,y,h2,rfl⟩ := (c4 n).1 hn
       have := hkb x h1
       have := hJb y h2
       simp only; omega
      ·(refine Le.mk ?_ ?_; all_goals (repeat' (first | exact trivial | refine sle ?_ | refine ⟨?_,rfl,?_⟩ | refine ⟨?_,by decide,rfl,?_⟩ | fail)))
     ·have hxk := c2 x hx
      have hxb := hkb x hxk
      have her : ∀ y,y ∈ rem.erase x ↔ y ≠ x /\ y ∈ rem := fun y => c1.mem_erase_iff
      have hlen1 : (rem.erase x).length < rem.length := by rw [List.length_erase_of_mem hx]; have := List.length_pos_of_mem hx; omega
      (repeat (refine stp ?_))
      refine AW_loopC (fun i : List Int × List Int × Option Int => i.1.Nodup /\ (∀ y ∈ i.1,y ∈ here) /\ i.2.1.Nodup /\ ∀ n,n ∈ i.2.1 ↔ n ∈ out \/ ∃ y ∈ here,y ∉ i.1 /\ n = x + y)
       (fun i => mkSt [(3,.box 0 0),(4,.box 1 0),(5,.box 2 0),(10,.box 6 0),(16,.mp 17),(17,.pv (vi x)),(23,.pv (eInts lamp)),(24,.pv (vi lamp.length)),(25,.pv (vi k)),(70,.box 18 0),(76,.box 19 0)]
        [(0,.box [.pv (.sl (h.map eDye)),.pv (eInts lamp)]),(1,.box [.pv (eBaths a)]),(2,.box [.pv (eBaths b)]),(6,.box [.pv (.imap here)]),(17,.imap i.2.1),(18,.iter ks (rem.erase x) (some x)),(19,.iter here i.1 i.2.2)] 20) (fun i => i.1.length) (here,out,none) ⟨hnH,fun _ h => h,c3,fun n => ?_⟩ ?_ ?_
      ·constructor
       ·exact .inl
       ·rintro (h | ⟨y,h1,h2,_⟩)
        ·exact h
        ·exact absurd h1 h2
      ·(refine Le.mk ?_ ?_; all_goals (repeat' (first | exact trivial | refine sle ?_ | refine ⟨?_,rfl,?_⟩ | refine ⟨?_,by decide,rfl,?_⟩ | fail)))
      ·rintro ⟨rem2,out2,cur2⟩ ⟨e1,e2,e3,e4⟩
       simp only at e1 e2 e3 e4
       dsimp only
       (repeat (refine stp ?_))
       refine AL_doS rfl (op_next rfl rfl rfl rfl) ?_
       rintro s' (⟨hr,rfl⟩ | ⟨y,hy,rfl⟩)
       ·subst hr
        (repeat (refine stp ?_))
        refine ⟨(rem.erase x,out2,some x),⟨c1.erase x,fun z hz => c2 z ((her z).1 hz).2,e3,fun n => ?_⟩,hlen1,?_⟩
        ·rw [e4 n,c4 n]
         constructor
         ·rintro (⟨z,h1,h2,h3⟩ | ⟨y,h1,_,h3⟩)
          ·exact ⟨z,h1,fun hz => h2 ((her z).1 hz).2,h3⟩
          ·exact ⟨x,hxk,fun hz => ((her x).1 hz).1 rfl,y,h1,h3⟩
         ·rintro ⟨z,h1,h2,y,h3,h4⟩
          by_cases hzx : z = x
          ·subst hzx; exact .inr ⟨y,h3,by simp,h4⟩
          ·exact .inl ⟨z,h1,fun hz => h2 ((her z).2 ⟨hzx,hz⟩),y,h3,h4⟩
        ·(refine Le.mk ?_ ?_; all_goals (repeat' (first | exact trivial | refine sle ?_ | refine ⟨?_,rfl,?_⟩ | refine ⟨?_,by decide,rfl,?_⟩ | fail)))
       ·have hyk := e2 y hy
        have hyb := hJb y hyk
        have her2 : ∀ z,z ∈ rem2.erase y ↔ z ≠ y /\ z ∈ rem2 := fun z => e1.mem_erase_iff
        have hlen2 : (rem2.erase y).length < rem2.length := by rw [List.length_erase_of_mem hy]; have := List.length_pos_of_mem hy; omega
        (repeat (refine stp ?_))
        refine ⟨(rem2.erase y,insK out2 (x + y),some y),⟨e1.erase y,fun z hz => e2 z ((her2 z).1 hz).2,insK_nodup e3 _,fun n => ?_⟩,hlen2,?_⟩
        ·rw [insK_mem,e4 n]
         constructor
         ·rintro ((h | ⟨z,h1,h2,h3⟩) | h)
          ·exact .inl h
          ·exact .inr ⟨z,h1,fun hz => h2 ((her2 z).1 hz).2,h3⟩
          ·exact .inr ⟨y,hyk,fun hz => ((her2 y).1 hz).1 rfl,h⟩
         ·rintro (h | ⟨z,h1,h2,h3⟩)
          ·exact .inl (.inl h)
          ·by_cases hzy : z = y
           ·subst hzy; exact .inr h3
           ·exact .inl (.inr ⟨z,h1,fun hz => h2 ((her2 z).2 ⟨hzy,hz⟩),h3⟩)
        ·(refine Le.mk ?_ ?_; all_goals (repeat' (first | exact trivial | refine sle ?_ | refine ⟨?_,rfl,?_⟩ | refine ⟨?_,by decide,rfl,?_⟩ | fail)))
  ·have hk' : k = lamp.length := by omega
   subst hk'
   (repeat (refine stp ?_))
   exact ⟨_,_,rfl,rfl,ks,⟨hnd,fun n => by rw [hks n,List.take_length]; rfl⟩,rfl⟩
theorem eachL_bd {h : List Dye} {d : Dye} {k : Int} {a b : List Bath} (hh : HouseP h) (hd : d ∈ h) (ha : BatchP h a) (hb : BatchP h b) : bdK 100 (eachL d k a b):= by
 intro n hn
 have hdP := hh.2.2 d hd
 have hbt : ∀ {l : List Bath},BatchP h l -> ∀ b ∈ l,0 <= b.hours.low /\ b.hours.high <= 12 := fun hl b hb => by have := hl.2 b hb; unfold BathP at this; omega
 simp only [eachL,List.mem_flatMap,diffL_mem] at hn
 obtain ⟨t,h1,x,h2,y,h3,rfl⟩ := hn
 have hts := numsL_small h1 hdP.2.2.2
 have q1 := depthsL_bd (d := d) (dye := k) (takes := t) (l := a) ⟨hdP.2.1,hdP.2.2.1⟩ hts (hbt ha) x h2
 have q2 := depthsL_bd (d := d) (dye := k) (takes := t) (l := b) ⟨hdP.2.1,hdP.2.2.1⟩ hts (hbt hb) y h3
 omega
theorem apartGo_bd {H : List Dye} {a b : List Bath} (hh : HouseP H) (ha : BatchP H a) (hb : BatchP H b) : ∀ (h : List Dye) (ws : List Int) (i : Int) (out : List Int) (c : Int),(∀ d ∈ h,d ∈ H) -> (∀ x ∈ ws,-9 <= x /\ x <= 9) -> bdK c out -> 0 <= c -> bdK (c + 900 * ws.length) (apartGo a b h ws i out)
 | [],ws,_,out,c,_,_,h,_ => by intro x hx; have := h x (by cases ws <;> simpa [apartGo] using hx); omega
 | _ :: _,[],_,out,c,_,_,h,_ => by intro x hx; have := h x (by simpa [apartGo] using hx); simp; omega
 | d :: h,w :: ws,i,out,c,hd,hw,ho,hc => by
  intro x hx
  have := apartGo_bd hh ha hb h ws (i + 1) (out.flatMap fun n => (eachL d i a b).map fun m => n + w * m) (c + 900) (fun d h => hd d (by simp [h])) (fun x hx => hw x (by simp [hx])) (fun y hy => by
   simp only [List.mem_flatMap,List.mem_map] at hy
   obtain ⟨n,h1,m,h2,rfl⟩ := hy
   have q1 := ho n h1
   have q2 := eachL_bd hh (hd d (by simp)) ha hb m h2
   have := mul_bd (a := 9) (b := 100) (x := w) (n := m) (hw w (by simp)) q2
   omega) (by omega) x hx
  simp only [List.length_cons,Int.natCast_add]; omega
theorem apartL_bd {h : List Dye} {lamp : List Int} {a b : List Bath} (hh : HouseP h) (hL : LampP h lamp) (ha : BatchP h a) (hb : BatchP h b) : bdK 3000 (apartL h lamp a b):= by
 intro x hx
 have := apartGo_bd hh ha hb h lamp 0 [0] 0 (fun _ h => h) hL.2 (by simp [bdK]) (Int.le_refl _) x hx
 have := hL.1; have := hh.1; omega
def alikeI (h : List Dye) (lamp : List Int) (a b : List Bath) (eye : Span) : Int := wordI ((apartL h lamp a b).any fun n => decide (max n (-n) <= eye.high)) ((apartL h lamp a b).any fun n => decide (max n (-n) > eye.low))
theorem any_congr {p : Int -> Bool} {l m : List Int} (h : ∀ n,n ∈ l ↔ n ∈ m) : l.any p = m.any p:= by
 rw [Bool.eq_iff_iff,List.any_eq_true,List.any_eq_true]
 constructor
 ·rintro ⟨x,hx,hp⟩; exact ⟨x,(h x).1 hx,hp⟩
 ·rintro ⟨x,hx,hp⟩; exact ⟨x,(h x).2 hx,hp⟩
end Go.Abs
