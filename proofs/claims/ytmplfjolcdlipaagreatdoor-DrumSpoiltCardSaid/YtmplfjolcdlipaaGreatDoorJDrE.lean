/- The acids that are possible, as they come; all of them. -/
import Derived.Test.YtmplfjolcdlipaaGreatDoorJDrD
import Derived.Test.YtmplfjolcdlipaaGreatDoorJNcG
set_option linter.unusedVariables false
set_option linter.unusedSimpArgs false
namespace Go.Abs
open Go.Proofs
set_option linter.unusedVariables false
set_option linter.unusedSimpArgs false
set_option maxRecDepth 100000
def bitsOK : Bool := (List.range 32).all fun s => (List.range 5).all fun i => bitI (s : Int) i == hasI (s : Int) i
theorem bits_ok : bitsOK = true := by decide +kernel
theorem bit_has {set : Int} {i : Nat} (h0 : 0 <= set) (h1 : set < 32) (hi : i < 5) : bitI set i = hasI set i:= by
 obtain ⟨n,rfl⟩ : ∃ n : Nat,set = n := ⟨set.toNat,by omega⟩
 have := List.all_eq_true.1 (List.all_eq_true.1 bits_ok n (List.mem_range.2 (by omega))) i (List.mem_range.2 hi)
 simpa using this
theorem known_bd {d : Drum} (hd : DrumP d) : 0 <= d.known /\ d.known < 32:= by
 have h1 := hd.k0; have h2 := hd.k1; have h3 := hd.a1; have h4 := hd.a0
 have : (2 : Int) ^ d.acids.length <= 16:= by
  generalize d.acids.length = n at *
  match n,h3,h4 with
  | 1,_,_ => decide
  | 2,_,_ => decide
  | 3,_,_ => decide
  | 4,_,_ => decide
 omega
def mayP (d : Drum) (p : Acid × Nat) : Bool := hasI d.known p.2 && mayB d p.1
def flK (d : Drum) (k : Nat) : List (Acid × Nat) := (d.acids.zipIdx.take k).filter (mayP d)
theorem flK_all (d : Drum) : flK d d.acids.length = filledL d:= by
 unfold flK filledL
 rw [List.take_of_length_le (by simp)]; rfl
theorem flK_succ {d : Drum} {k : Nat} {a : Acid} (h : d.acids[k]? = some a) : flK d (k + 1) = flK d k ++ if mayP d (a,k) then [(a,k)] else []:= by
 have hz : d.acids.zipIdx[k]? = some (a,k) := by rw [List.getElem?_zipIdx,h]; simp
 unfold flK
 rw [List.take_add_one,hz,List.filter_append]
 congr 1
 cases h : mayP d (a,k) <;> simp [h]
theorem flK_get {d : Drum} {k : Nat} {a : Acid} (h : d.acids[k]? = some a) (hp : mayP d (a,k) = true) : (filledL d)[(flK d k).length]? = some (a,k):= by
 have hk : k < d.acids.length := (List.getElem?_eq_some_iff.1 h).1
 obtain ⟨r,hr⟩ : ∃ r,filledL d = flK d (k + 1) ++ r := ⟨(d.acids.zipIdx.drop (k + 1)).filter (mayP d),by
  unfold filledL flK
  rw [<- List.filter_append,List.take_append_drop]; rfl⟩
 rw [hr,flK_succ h,hp,if_pos rfl]
 simp
def filledY (d : Drum) : List (List PV) := (filledL d).map fun p => [.agg (eFilled d p)]
theorem f141 (d : Drum) : ACalls Tryz.prog 141 [eDrum d] (fun r => r = .pv (.fn 171 [.ptr (eDrumC d)])):= by
 refine ACalls.of_body hT Tryz.func141 rfl (by kernel_rfl) rfl ?_
 (repeat (refine stq ?_))
 exact ⟨_,_,rfl,rfl,rfl⟩
set_option maxHeartbeats 4000000 in
theorem it171 (d : Drum) (hd : DrumP d) : IterOK Tryz.prog 171 [.ptr (eDrumC d)] (filledY d):= by
 intro E B hEL hE
 have h4 := hd.a1
 have hkb := known_bd hd
 refine ACallsX.of_body hT Tryz.func171 rfl (by kernel_rfl) rfl ?_
 (repeat (refine stq ?_))
 refine AW_loopC (fun i : Nat × (Nat -> Prop) => i.1 <= d.acids.length) (fun i => mkSt [(0,.yld 0),(1,.pv (.ptr (eDrumC d))),(6,.pv (.sl (d.acids.map eAcid))),(7,.pv (vi d.acids.length)),(8,.pv (vi i.1))] [(0,.ext E (flK d i.1).length i.2)] 1)
  (fun i => d.acids.length - i.1) (0,B) (Nat.zero_le _) ?_ ?_
 ·(refine Le.mk ?_ ?_; all_goals (repeat' (first | exact trivial | refine sle ?_ | refine ⟨?_,rfl,?_⟩ | refine ⟨?_,by decide,rfl,?_⟩ | fail)))
 ·rintro ⟨k,Bk⟩ hk
  simp only at hk
  dsimp only
  (repeat (refine stq ?_))
  refine AW_if rfl (fun hc => ?_) (fun hc => ?_)
  ·have hk' : k < d.acids.length := by omega
   obtain ⟨a,hac⟩ : ∃ a,d.acids[k]? = some a := ⟨d.acids[k],by simp [hk']⟩
   have hs := flK_succ hac
   have k145 := f145 d.known k
   have hbh := bit_has hkb.1 hkb.2 (i := k) (by omega)
   cases q : bitI d.known k with
   | false =>
    rw [q] at k145 hbh
    rw [show mayP d (a,k) = false by simp [mayP,<- hbh],if_neg (by simp),List.append_nil] at hs
    (repeat' (first | refine stq ?_ | (refine AL_do2 rfl ?_; first | refine ⟨_,op_call1 rfl rfl rfl rfl (k145),nrmA rfl ?_⟩) | (with_reducible refine AL_id ?_); (fail_if_success (refine AL_glit rfl rfl rfl (by first | exact .inl (by with_reducible rfl) | exact .inr (by with_reducible rfl)) ?_)); first | refine AL_gdec rfl rfl rfl (fun hg => ?_) (fun hg => ?_) | refine AL_gnot rfl rfl rfl (fun hg => ?_) (fun hg => ?_) | refine AL_gcases rfl rfl rfl (fun hg => ?_) (fun hg => ?_)))
    all_goals (try (exfalso; simp at hg; done))
    refine ⟨(k + 1,Bk),hk',by simp only; omega,?_⟩
    rw [hs]
    (refine Le.mk ?_ ?_; all_goals (repeat' (first | exact trivial | refine sle ?_ | refine ⟨?_,rfl,?_⟩ | refine ⟨?_,by decide,rfl,?_⟩ | fail)))
   | true =>
    rw [q] at k145 hbh
    have k108 := fun av' => f108a d a k hd hac av'
    cases hm : mayB d a with
    | false =>
     simp only [tryF,hm,Bool.false_eq_true,if_false] at k108
     rw [show mayP d (a,k) = false by simp [mayP,hm],if_neg (by simp),List.append_nil] at hs
     (repeat' (first | refine stq ?_ | (refine AL_do2 rfl ?_; first | refine ⟨_,op_call1 rfl rfl rfl rfl (k145),nrmA rfl ?_⟩) | (with_reducible refine AL_id ?_); (fail_if_success (refine AL_glit rfl rfl rfl (by first | exact .inl (by with_reducible rfl) | exact .inr (by with_reducible rfl)) ?_)); first | refine AL_gdec rfl rfl rfl (fun hg => ?_) (fun hg => ?_) | refine AL_gnot rfl rfl rfl (fun hg => ?_) (fun hg => ?_) | refine AL_gcases rfl rfl rfl (fun hg => ?_) (fun hg => ?_)))
     all_goals (try (exfalso; simp at hg; done))
     refine AL_doS rfl (op_callXs (objs := fbO k zeroF) (n := 4) [(0,1),(1,2)] [0,1] [(2,0),(3,1)] k108 rfl rfl rfl rfl (by (repeat' (first | exact trivial | refine And.intro ?_ ?_)); all_goals (first | rfl | decide)) rfl (by (repeat' (first | exact trivial | refine And.intro ?_ ?_)); all_goals (first | rfl | decide)) rfl ⟨⟨rfl,rfl,⟨_,.head _⟩,rfl⟩,⟨rfl,rfl,⟨_,.tail _ (.head _)⟩,rfl⟩,trivial⟩ (by simp) (fun av' sf hsf => by subst hsf; exact ⟨.inl ⟨2,by simp,rfl⟩,.inl ⟨3,by simp,rfl⟩,trivial⟩)) ?_
     ·rintro s' ⟨av',sf,rfl,rfl⟩
      (repeat (refine stq ?_))
      refine ⟨(k + 1,Bk),hk',by simp only; omega,?_⟩
      rw [hs]
      (refine Le.mk ?_ ?_; all_goals (repeat' (first | exact trivial | refine sle ?_ | refine ⟨?_,rfl,?_⟩ | refine ⟨?_,by decide,rfl,?_⟩ | fail)))
    | true =>
     simp only [tryF,hm,if_true] at k108
     have hp : mayP d (a,k) = true := by simp [mayP,hm,<- hbh]
     have hx1 : E.L[(flK d k).length]? = some [.agg (eFilled d (a,k))]:= by
      rw [hEL,filledY,List.getElem?_map,flK_get hac hp]; rfl
     rw [hp,if_pos rfl] at hs
     (repeat' (first | refine stq ?_ | (refine AL_do2 rfl ?_; first | refine ⟨_,op_call1 rfl rfl rfl rfl (k145),nrmA rfl ?_⟩) | (with_reducible refine AL_id ?_); (fail_if_success (refine AL_glit rfl rfl rfl (by first | exact .inl (by with_reducible rfl) | exact .inr (by with_reducible rfl)) ?_)); first | refine AL_gdec rfl rfl rfl (fun hg => ?_) (fun hg => ?_) | refine AL_gnot rfl rfl rfl (fun hg => ?_) (fun hg => ?_) | refine AL_gcases rfl rfl rfl (fun hg => ?_) (fun hg => ?_)))
     all_goals (try (exfalso; simp at hg; done))
     refine AL_doS rfl (op_callXs (objs := fbO k zeroF) (n := 4) [(0,1),(1,2)] [0,1] [(2,0),(3,1)] k108 rfl rfl rfl rfl (by (repeat' (first | exact trivial | refine And.intro ?_ ?_)); all_goals (first | rfl | decide)) rfl (by (repeat' (first | exact trivial | refine And.intro ?_ ?_)); all_goals (first | rfl | decide)) rfl ⟨⟨rfl,rfl,⟨_,.head _⟩,rfl⟩,⟨rfl,rfl,⟨_,.tail _ (.head _)⟩,rfl⟩,trivial⟩ (by simp) (fun av' sf hsf => by subst hsf; exact ⟨.inl ⟨2,by simp,rfl⟩,.inl ⟨3,by simp,rfl⟩,trivial⟩)) ?_
     ·rintro s' ⟨av',sf,rfl,rfl⟩
      (repeat (refine stq ?_))
      refine AL_doS rfl (op_yield hE rfl rfl rfl rfl rfl hx1) ?_
      rintro s' ⟨B',rfl⟩
      (repeat (refine stq ?_))
      refine ⟨(k + 1,B'),hk',by simp only; omega,?_⟩
      rw [hs,List.length_append]
      (refine Le.mk ?_ ?_; all_goals (repeat' (first | exact trivial | refine sle ?_ | refine ⟨?_,rfl,?_⟩ | refine ⟨?_,by decide,rfl,?_⟩ | fail)))
  ·have hk' : k = d.acids.length := by omega
   subst hk'
   (repeat (refine stq ?_))
   refine ⟨_,mkSt [] [(0,.ext E (filledY d).length Bk)] 1,rfl,?_,Bk,rfl⟩
   rw [show (filledY d).length = (flK d d.acids.length).length by rw [flK_all]; simp [filledY]]
   (refine Le.mk ?_ ?_; all_goals (repeat' (first | exact trivial | refine sle ?_ | refine ⟨?_,rfl,?_⟩ | refine ⟨?_,by decide,rfl,?_⟩ | fail)))
end Go.Abs
namespace Go.Abs
open Go.Proofs
set_option linter.unusedVariables false
set_option linter.unusedSimpArgs false
set_option maxRecDepth 100000
def askedE (d : Drum) (fine : Bool) : List (Acid × Nat) × Int := if drumB d && fine then (if (filledL d).length = 0 then ([],7) else (filledL d,0)) else ([],2)
theorem filled_len {d : Drum} (hd : DrumP d) : (filledL d).length <= 4:= by
 unfold filledL
 have h1 := List.length_filter_le (fun p : Acid × Nat => hasI d.known p.2 && mayB d p.1) d.acids.zipIdx
 have := hd.a1
 simp at h1
 omega
set_option maxHeartbeats 4000000 in
theorem f84 (d : Drum) (fine : Bool) (hd : drumOK d) : ACalls Tryz.prog 84 [eDrum d,.bool fine] (fun r => r = .tup [eFilledL d (askedE d fine).1,vi (askedE d fine).2]):= by
 have k104 := f104 d hd
 refine ACalls.of_body hT Tryz.func84 rfl (by kernel_rfl) rfl ?_
 cases q1 : drumB d with
 | false =>
  rw [q1] at k104
  (repeat' (first | refine stq ?_ | (refine AL_do2 rfl ?_; first | refine ⟨_,op_call1 rfl rfl rfl rfl (k104),nrmA rfl ?_⟩) | (with_reducible refine AL_id ?_); (fail_if_success (refine AL_glit rfl rfl rfl (by first | exact .inl (by with_reducible rfl) | exact .inr (by with_reducible rfl)) ?_)); first | refine AL_gdec rfl rfl rfl (fun hg => ?_) (fun hg => ?_) | refine AL_gnot rfl rfl rfl (fun hg => ?_) (fun hg => ?_) | refine AL_gcases rfl rfl rfl (fun hg => ?_) (fun hg => ?_)))
  all_goals (try (exfalso; simp at hg; done))
  exact ⟨_,_,rfl,rfl,by simp [askedE,q1,eFilledL]⟩
 | true =>
  rw [q1] at k104
  cases fine with
  | false =>
   (repeat' (first | refine stq ?_ | (refine AL_do2 rfl ?_; first | refine ⟨_,op_call1 rfl rfl rfl rfl (k104),nrmA rfl ?_⟩) | (with_reducible refine AL_id ?_); (fail_if_success (refine AL_glit rfl rfl rfl (by first | exact .inl (by with_reducible rfl) | exact .inr (by with_reducible rfl)) ?_)); first | refine AL_gdec rfl rfl rfl (fun hg => ?_) (fun hg => ?_) | refine AL_gnot rfl rfl rfl (fun hg => ?_) (fun hg => ?_) | refine AL_gcases rfl rfl rfl (fun hg => ?_) (fun hg => ?_)))
   all_goals (try (exfalso; simp at hg; done))
   exact ⟨_,_,rfl,rfl,by simp [askedE,q1,eFilledL]⟩
  | true =>
   have hP := drumP_of.1 q1
   have hfl := filled_len hP
   (repeat' (first | refine stq ?_ | (refine AL_do2 rfl ?_; first | refine ⟨_,op_call1 rfl rfl rfl rfl (k104),nrmA rfl ?_⟩ | refine ⟨_,op_call1 rfl rfl rfl rfl (f141 d),nrmA rfl ?_⟩) | (with_reducible refine AL_id ?_); (fail_if_success (refine AL_glit rfl rfl rfl (by first | exact .inl (by with_reducible rfl) | exact .inr (by with_reducible rfl)) ?_)); first | refine AL_gdec rfl rfl rfl (fun hg => ?_) (fun hg => ?_) | refine AL_gnot rfl rfl rfl (fun hg => ?_) (fun hg => ?_) | refine AL_gcases rfl rfl rfl (fun hg => ?_) (fun hg => ?_)))
   all_goals (try (exfalso; simp at hg; done))
   refine AW_nilBox 1 0 115 8 rfl rfl ?_
   refine AW_range (gf := 171) (caps := [.ptr (eDrumC d)]) (L := filledY d) [6] [(6,.box 1 0)] (fun av k (_ : Unit) => [(1,.box [.arr 2]),(2,.arr 115 8 (((filledL d).take k).map (eFilled d))),(3,.anc (av 6) (.box 1 0))]) (fun _ _ => True) 4 [3] () trivial
    ?_ (it171 d hP) ?_ ?_ ?_ ?_ ?_ ?_
   ·rfl
   ·intro p hp
    simp only [List.mem_cons,List.not_mem_nil,or_false] at hp; subst hp; rfl
   ·intro x hx
    simp only [filledY,List.mem_map] at hx
    obtain ⟨y,_,rfl⟩ := hx; rfl
   ·intro av j i
    ((repeat' (first | exact trivial | refine And.intro ?_ ?_)); all_goals (first | rfl | decide))
   ·intro av
    (refine Le.mk ?_ ?_; all_goals (repeat' (first | exact trivial | refine sle ?_ | refine ⟨?_,rfl,?_⟩ | refine ⟨?_,by decide,rfl,?_⟩ | fail)))
   ·intro av k _ x _ hx
    obtain ⟨p,hp,rfl⟩ : ∃ p,(filledL d)[k]? = some p /\ [.agg (eFilled d p)] = x:= by
     rw [filledY,List.getElem?_map,Option.map_eq_some_iff] at hx; exact hx
    have htk : (filledL d).take (k + 1) = (filledL d).take k ++ [p] := by rw [List.take_add_one,hp]; rfl
    have htl : ((filledL d).take k).length <= 1000 := by simp; omega
    generalize (filledL d).take k = ts at *
    (repeat (refine stq ?_))
    refine AL_do2 rfl ⟨_,op_appendW hT rfl rfl rfl rfl rfl rfl rfl rfl rfl rfl rfl (by intro y hy; (first | (simp only [List.mem_cons,List.not_mem_nil,or_false] at hy; subst hy; rfl) | (simp only [List.mem_cons,List.not_mem_nil,or_false] at hy; rcases hy with hy | hy <;> subst hy <;> rfl) | (obtain ⟨_,_,rfl⟩ := List.mem_map.1 hy; rfl) | (cases hy))) (by simp only [List.length_map,List.length_take,List.length_cons,List.length_nil,List.length_append]; omega) rfl,?_⟩
    (repeat (refine stq ?_))
    refine roundQ_intro () trivial ?_
    rw [htk]
    (refine Le.mkR [(1,1),(2,6),(3,3)] ?_ ?_ rfl; all_goals (repeat' (first | exact trivial | refine sle ?_ | refine ⟨?_,rfl,?_⟩ | refine ⟨?_,by decide,rfl,?_⟩ | fail)))
    rw [List.map_append]; rfl
   ·intro av _ _
    rw [show (filledY d).length = (filledL d).length by simp [filledY],List.take_length]
    refine AW_arrBox (b := 1) 0 rfl rfl rfl rfl ?_
    (repeat (refine stq ?_))
    refine AW_if rfl (fun hc => ?_) (fun hc => ?_)
    ·(repeat (refine stq ?_))
     exact ⟨_,_,rfl,rfl,by
      have : (filledL d).length = 0 := by have := hc; simp at this; simp [this]
      simp [askedE,q1,this,eFilledL]⟩
    ·(repeat (refine stq ?_))
     exact ⟨_,_,rfl,rfl,by
      have : ¬ (filledL d).length = 0 := fun h => hc (by simp [h])
      simp [askedE,q1,this,eFilledL]⟩
end Go.Abs
namespace Go.Abs
open Go.Proofs
set_option linter.unusedVariables false
set_option linter.unusedSimpArgs false
set_option maxRecDepth 100000
theorem map_take_succ {α β : Type} (f : α -> β) {l : List α} {k : Nat} {x : α} (h : l[k]? = some x) : (l.take (k + 1)).map f = (l.take k).map f ++ [f x]:= by
 rw [List.take_add_one,h]; simp
theorem strong_at {d : Drum} {a : Acid} {h : Nat} (hh : h < d.hours.toNat) : ((strongL d a).map eSpan)[h]? = some (eSpan (strongS d a h)) := map_get (strongL_get hh)
theorem f85 (d : Drum) (p : Acid × Nat) (h : Nat) (hh : h < d.hours.toNat) : ACalls Tryz.prog 85 [.agg (eFilled d p),vi h] (fun r => r = .pv (vi (strongS d p.1 h).low)):= by
 have e1 := strong_at (a := p.1) hh
 have hl := strongL_len d p.1
 refine ACalls.of_body hT Tryz.func85 rfl (by kernel_rfl) rfl ?_
 (repeat' (first | refine stq ?_ | (with_reducible refine AL_id ?_); (fail_if_success (refine AL_glit rfl rfl rfl (by first | exact .inl (by with_reducible rfl) | exact .inr (by with_reducible rfl)) ?_)); first | refine AL_gdec rfl rfl rfl (fun hg => ?_) (fun hg => ?_) | refine AL_gnot rfl rfl rfl (fun hg => ?_) (fun hg => ?_) | refine AL_gcases rfl rfl rfl (fun hg => ?_) (fun hg => ?_)))
 exact ⟨_,_,rfl,rfl,rfl⟩
theorem f86 (d : Drum) (p : Acid × Nat) (h : Nat) (hh : h < d.hours.toNat) : ACalls Tryz.prog 86 [.agg (eFilled d p),vi h] (fun r => r = .pv (vi (strongS d p.1 h).high)):= by
 have e1 := strong_at (a := p.1) hh
 have hl := strongL_len d p.1
 refine ACalls.of_body hT Tryz.func86 rfl (by kernel_rfl) rfl ?_
 (repeat' (first | refine stq ?_ | (with_reducible refine AL_id ?_); (fail_if_success (refine AL_glit rfl rfl rfl (by first | exact .inl (by with_reducible rfl) | exact .inr (by with_reducible rfl)) ?_)); first | refine AL_gdec rfl rfl rfl (fun hg => ?_) (fun hg => ?_) | refine AL_gnot rfl rfl rfl (fun hg => ?_) (fun hg => ?_) | refine AL_gcases rfl rfl rfl (fun hg => ?_) (fun hg => ?_)))
 exact ⟨_,_,rfl,rfl,rfl⟩
theorem asked_len {d : Drum} {fine : Bool} : (askedE d fine).1.length <= 4:= by
 unfold askedE
 split
 ·rename_i h
  simp only [Bool.and_eq_true] at h
  split
  ·simp
  ·exact filled_len (drumP_of.1 h.1)
 ·simp
def numsA (l : List (Acid × Nat)) : List Int := l.map fun p => (p.2 : Int)
theorem f65 (d : Drum) (hd : drumOK d) : ACalls Tryz.prog 65 [eDrum d] (fun r => r = .tup [eInts (numsA (askedE d true).1),vi (askedE d true).2]):= by
 have k84 := f84 d true hd
 have hl := asked_len (d := d) (fine := true)
 generalize askedE d true = x at *
 obtain ⟨l,e⟩ := x
 have k84 : ACalls Tryz.prog 84 [eDrum d,.bool true] (fun r => r = .tup [.sl (l.map (eFilled d)),vi e]) := k84
 dsimp only at hl ⊢
 refine ACalls.of_body hT Tryz.func65 rfl (by kernel_rfl) rfl ?_
 (repeat' (first | refine stq ?_ | (refine AL_do2 rfl ?_; first | refine ⟨_,op_call1 rfl rfl rfl rfl (k84),nrmA rfl ?_⟩) | (with_reducible refine AL_id ?_); (fail_if_success (refine AL_glit rfl rfl rfl (by first | exact .inl (by with_reducible rfl) | exact .inr (by with_reducible rfl)) ?_)); first | refine AL_gdec rfl rfl rfl (fun hg => ?_) (fun hg => ?_) | refine AL_gnot rfl rfl rfl (fun hg => ?_) (fun hg => ?_) | refine AL_gcases rfl rfl rfl (fun hg => ?_) (fun hg => ?_)))
 refine AW_own_nil (e := 3) (sz := 1) (t := 6) rfl rfl ?_
 (repeat (refine stq ?_))
 refine AW_loopC (fun k : Nat => k <= l.length) (fun k => mkSt [(5,.pv (vi e)),(6,.arr 1),(14,.pv (.sl (l.map (eFilled d)))),(15,.pv (vi l.length)),(16,.pv (vi k))] [(1,.arr 3 1 ((numsA (l.take k)).map eInt))] 2) (fun k => l.length - k) 0 (Nat.zero_le _) ?_ ?_
 ·(refine Le.mk ?_ ?_; all_goals (repeat' (first | exact trivial | refine sle ?_ | refine ⟨?_,rfl,?_⟩ | refine ⟨?_,by decide,rfl,?_⟩ | fail)))
 ·intro k hk
  (repeat (refine stq ?_))
  refine AW_if rfl (fun hc => ?_) (fun hc => ?_)
  ·have hk' : k < l.length := by omega
   obtain ⟨p,hp⟩ : ∃ p,l[k]? = some p := ⟨l[k],by simp [hk']⟩
   have e1 := get_map (eFilled d) hp
   have hsn : numsA (l.take (k + 1)) = numsA (l.take k) ++ [(p.2 : Int)] := map_take_succ _ hp
   have htl : (numsA (l.take k)).length <= 1000 := by simp [numsA]; omega
   generalize numsA (l.take k) = ts at *
   (repeat (refine stq ?_))
   refine ⟨k + 1,hk',by omega,?_⟩
   rw [hsn]
   (refine Le.mkR [(1,4)] ?_ ?_ rfl; all_goals (repeat' (first | exact trivial | refine sle ?_ | refine ⟨?_,rfl,?_⟩ | refine ⟨?_,by decide,rfl,?_⟩ | fail)))
   rw [List.map_append]; rfl
  ·have hk' : k = l.length := by omega
   subst hk'
   rw [List.take_length]
   refine AW_pure (t := 6) rfl rfl ?_
   (repeat (refine stq ?_))
   exact ⟨_,_,rfl,rfl,rfl⟩
def errE (d : Drum) (fine : Bool) : Int := (askedE d fine).2
theorem asked_ok {d : Drum} {fine : Bool} (h : errE d fine = 0) : DrumP d /\ fine = true /\ filledL d ≠ [] /\ askedE d fine = (filledL d,0):= by
 unfold errE at h
 unfold askedE at h ⊢
 split at h
 ·rename_i h1
  rw [if_pos h1]
  simp only [Bool.and_eq_true] at h1
  split at h
  ·cases h
  ·rename_i h2
   rw [if_neg h2]
   exact ⟨drumP_of.1 h1.1,h1.2,fun e => h2 (by rw [e]; rfl),rfl⟩
 ·cases h
theorem asked_err {d : Drum} {fine : Bool} (h : errE d fine ≠ 0) : askedE d fine = ([],errE d fine):= by
 unfold errE at h ⊢
 unfold askedE at h ⊢
 split
 ·split
  ·rfl
  ·rename_i h1 h2; rw [if_pos h1,if_neg h2] at h; exact absurd rfl h
 ·rfl
def strengthE (d : Drum) : List Span × Int := if errE d true = 0 then (strengthL d,0) else ([],errE d true)
theorem hull2_self (s : Span) : hull2 s s = s := by cases s; simp [hull2]
theorem hull_first {l : List Span} {x : Span} (h : l[0]? = some x) : l.foldl hull2 x = hullL l:= by
 cases l with
 | nil => simp at h
 | cons y l =>
  simp at h; subst h
  simp [hullL,hull2_self]
theorem foldl_take {α β : Type} (f : β -> α -> β) (x : β) {l : List α} {k : Nat} {a : α} (h : l[k]? = some a) : (l.take (k + 1)).foldl f x = f ((l.take k).foldl f x) a:= by
 rw [List.take_add_one,h]; simp [List.foldl_append]
def hourL (d : Drum) (i : Nat) : List Span := (filledL d).map fun p => strongS d p.1 i
theorem hour_bd {d : Drum} (hd : DrumP d) {i : Nat} (hi : i < d.hours.toNat) : ∀ s ∈ hourL d i,0 <= s.low /\ s.high <= 1300 /\ s.low <= s.high := fun s hs => by
 obtain ⟨p,hp,rfl⟩ := List.mem_map.1 hs
 have := strong_bd hd (filled_acid hd hp) (filled_mem.1 hp).2.2 hi
 omega
set_option maxHeartbeats 4000000 in
theorem f25 (d : Drum) (hd : drumOK d) : ACalls Tryz.prog 25 [eDrum d] (fun r => r = .tup [eSpans (strengthE d).1,vi (strengthE d).2]):= by
 have k84 := f84 d true hd
 refine ACalls.of_body hT Tryz.func25 rfl (by kernel_rfl) rfl ?_
 by_cases he : errE d true = 0
 ·obtain ⟨hP,_,hne,ha⟩ := asked_ok he
  rw [ha] at k84
  have k84 : ACalls Tryz.prog 84 [eDrum d,.bool true] (fun r => r = .tup [.sl ((filledL d).map (eFilled d)),vi 0]) := k84
  have hfl := filled_len hP
  obtain ⟨m,hm⟩ : ∃ m : Nat,d.hours = m := ⟨d.hours.toNat,by have := hP.h0; omega⟩
  have h12 := hP.h1
  obtain ⟨p0,hp0⟩ : ∃ p,(filledL d)[0]? = some p:= by
   match hf : filledL d with
   | [] => exact absurd hf hne
   | p :: _ => exact ⟨p,by simp⟩
  have e0 := get_map (eFilled d) hp0
  have hpos : 0 < (filledL d).length := (List.getElem?_eq_some_iff.1 hp0).1
  (repeat' (first | refine stq ?_ | (refine AL_do2 rfl ?_; first | refine ⟨_,op_call1 rfl rfl rfl rfl (k84),nrmA rfl ?_⟩) | (with_reducible refine AL_id ?_); (fail_if_success (refine AL_glit rfl rfl rfl (by first | exact .inl (by with_reducible rfl) | exact .inr (by with_reducible rfl)) ?_)); first | refine AL_gdec rfl rfl rfl (fun hg => ?_) (fun hg => ?_) | refine AL_gnot rfl rfl rfl (fun hg => ?_) (fun hg => ?_) | refine AL_gcases rfl rfl rfl (fun hg => ?_) (fun hg => ?_)))
  refine AW_own_nil (e := 67) (sz := 2) (t := 6) rfl rfl ?_
  (repeat (refine stq ?_))
  refine AW_loopC (fun i : Nat => i <= m) (fun i => mkSt [(4,.pv (.sl ((filledL d).map (eFilled d)))),(6,.arr 1),(20,.pv (vi d.hours)),(21,.pv (vi i))] [(1,.arr 67 2 (((List.range i).map fun i => hullL (hourL d i)).map eSpan))] 2) (fun i => m - i) 0 (Nat.zero_le _) ?_ ?_
  ·(refine Le.mk ?_ ?_; all_goals (repeat' (first | exact trivial | refine sle ?_ | refine ⟨?_,rfl,?_⟩ | refine ⟨?_,by decide,rfl,?_⟩ | fail)))
  ·intro i hi
   (repeat (refine stq ?_))
   refine AW_if rfl (fun hc => ?_) (fun hc => ?_)
   ·have hi' : i < m := by omega
    have hir : i < d.hours.toNat := by omega
    have e1 := strong_at (d := d) (a := p0.1) hir
    have hl1 : ((strongL d p0.1).map eSpan).length = m := by rw [List.length_map,strongL_len]; omega
    have hb := hour_bd hP hir
    have hh0 : (hourL d i)[0]? = some (strongS d p0.1 i) := by unfold hourL; rw [List.getElem?_map,hp0]; rfl
    (repeat (refine stq ?_))
    refine AW_loopC (fun k : Nat => k <= (filledL d).length) (fun k => mkSt [(4,.pv (.sl ((filledL d).map (eFilled d)))),(6,.arr 1),(7,.pv (vi i)),(8,.box 2 0),(20,.pv (vi d.hours)),(21,.pv (vi i)),(31,.pv (.sl ((filledL d).map (eFilled d)))),(32,.pv (vi (filledL d).length)),(33,.pv (vi k))]
     [(1,.arr 67 2 (((List.range i).map fun i => hullL (hourL d i)).map eSpan)),(2,.box [.pv (vi (((hourL d i).take k).foldl hull2 (strongS d p0.1 i)).low),.pv (vi (((hourL d i).take k).foldl hull2 (strongS d p0.1 i)).high)])] 3) (fun k => (filledL d).length - k) 0 (Nat.zero_le _) ?_ ?_
    ·(refine Le.mk ?_ ?_; all_goals (repeat' (first | exact trivial | refine sle ?_ | refine ⟨?_,rfl,?_⟩ | refine ⟨?_,by decide,rfl,?_⟩ | fail)))
    ·intro k hk
     (repeat (refine stq ?_))
     refine AW_if rfl (fun hc2 => ?_) (fun hc2 => ?_)
     ·have hk' : k < (filledL d).length := by omega
      obtain ⟨p,hp⟩ : ∃ p,(filledL d)[k]? = some p := ⟨(filledL d)[k],by simp [hk']⟩
      have e2 := get_map (eFilled d) hp
      have hhk : (hourL d i)[k]? = some (strongS d p.1 i) := by unfold hourL; rw [List.getElem?_map,hp]; rfl
      have hft := foldl_take hull2 (strongS d p0.1 i) hhk
      generalize ((hourL d i).take k).foldl hull2 (strongS d p0.1 i) = s at *
      (repeat (refine stq ?_))
      (repeat (first | refine sdq ?_ | refine DG_next (D_call rfl rfl rfl rfl rfl (f85 d p i hir)) ?_ | refine DG_next (D_call rfl rfl rfl rfl rfl (f86 d p i hir)) ?_))
      refine DG_end hM (by kernel_rfl) ?_
      (repeat (refine stq ?_))
      refine ⟨k + 1,hk',by omega,?_⟩
      rw [hft]
      (refine Le.mk ?_ ?_; all_goals (repeat' (first | exact trivial | refine sle ?_ | refine ⟨?_,rfl,?_⟩ | refine ⟨?_,by decide,rfl,?_⟩ | fail)))
     ·have hk' : k = (filledL d).length := by omega
      have hfull : ((hourL d i).take k).foldl hull2 (strongS d p0.1 i) = hullL (hourL d i):= by
       rw [List.take_of_length_le (by rw [hk']; simp [hourL]),hull_first hh0]
      rw [hfull]
      have hsn : ((List.range (i + 1)).map fun i => hullL (hourL d i)) = ((List.range i).map fun i => hullL (hourL d i)) ++ [hullL (hourL d i)] := by rw [List.range_succ,List.map_append]; rfl
      have htl : ((List.range i).map fun i => hullL (hourL d i)).length <= 1000 := by simp; omega
      generalize ((List.range i).map fun i => hullL (hourL d i)) = ts at *
      (repeat (refine stq ?_))
      refine ⟨i + 1,hi',by omega,?_⟩
      rw [hsn]
      (refine Le.mkR [(1,4)] ?_ ?_ rfl; all_goals (repeat' (first | exact trivial | refine sle ?_ | refine ⟨?_,rfl,?_⟩ | refine ⟨?_,by decide,rfl,?_⟩ | fail)))
      rw [List.map_append]; rfl
   ·have hi' : i = m := by omega
    subst hi'
    refine AW_pure (t := 6) rfl rfl ?_
    (repeat (refine stq ?_))
    exact ⟨_,_,rfl,rfl,by
     rw [strengthE,if_pos he]
     have : strengthL d = (List.range i).map fun i => hullL (hourL d i):= by
      unfold strengthL; rw [show d.hours.toNat = i by omega]; rfl
     rw [this]; rfl⟩
 ·rw [asked_err he] at k84
  have k84 : ACalls Tryz.prog 84 [eDrum d,.bool true] (fun r => r = .tup [.sl [],vi (errE d true)]) := k84
  (repeat' (first | refine stq ?_ | (refine AL_do2 rfl ?_; first | refine ⟨_,op_call1 rfl rfl rfl rfl (k84),nrmA rfl ?_⟩) | (with_reducible refine AL_id ?_); (fail_if_success (refine AL_glit rfl rfl rfl (by first | exact .inl (by with_reducible rfl) | exact .inr (by with_reducible rfl)) ?_)); first | refine AL_gdec rfl rfl rfl (fun hg => ?_) (fun hg => ?_) | refine AL_gnot rfl rfl rfl (fun hg => ?_) (fun hg => ?_) | refine AL_gcases rfl rfl rfl (fun hg => ?_) (fun hg => ?_)))
  refine AW_if rfl (fun hc => ?_) (fun hc => absurd (by omega) hc)
  (repeat (refine stq ?_))
  exact ⟨_,_,rfl,rfl,by rw [strengthE,if_neg he]; rfl⟩
end Go.Abs
