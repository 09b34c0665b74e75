/- Between which bounds a batch is. -/
import Derived.Test.YtmplfjolcdlipaaGreatDoorJDrF
set_option linter.unusedVariables false
set_option linter.unusedSimpArgs false
namespace Go.Abs
open Go.Proofs
set_option linter.unusedVariables false
set_option linter.unusedSimpArgs false
set_option maxRecDepth 100000
theorem hull_snoc (l : List Span) (x : Span) : hullL (l ++ [x]) = if l = [] then x else hull2 (hullL l) x:= by
 cases l with
 | nil => rfl
 | cons y l => simp [hullL,List.foldl_append]
def roughS (d : Drum) (b : Batch) (h : Nat) (p : Acid × Nat) : Span := ⟨(hardS d b h p).rough,(weakS d b h p).rough⟩
def thickS (d : Drum) (b : Batch) (h : Nat) (p : Acid × Nat) : Span := ⟨(hardS d b h p).thick,(weakS d b h p).thick⟩
def rL (d : Drum) (b : Batch) (h k : Nat) : List Span := ((filledL d).take k).map (roughS d b h)
def tL (d : Drum) (b : Batch) (h k : Nat) : List Span := ((filledL d).take k).map (thickS d b h)
theorem ends_bdU {d : Drum} (hP : DrumP d) {p : Acid × Nat} (hp : p ∈ filledL d) (high : Bool) : bdU 1400 (endsL (strongL d p.1) high) := fun x hx => by
 obtain ⟨s,hs,rfl⟩ := List.mem_map.1 hx
 obtain ⟨i,hi,rfl⟩ := List.mem_map.1 hs
 have := strong_bd hP (filled_acid hP hp) (filled_mem.1 hp).2.2 (List.mem_range.1 hi)
 cases high <;> simp only [if_true,Bool.false_eq_true,if_false] <;> omega
theorem ends_at {d : Drum} {a : Acid} {high : Bool} {i : Nat} {x : Int} (h : (endsL (strongL d a) high)[i]? = some x) : i < d.hours.toNat /\ x = if high then (strongS d a i).high else (strongS d a i).low:= by
 have hi : i < d.hours.toNat := by have := (List.getElem?_eq_some_iff.1 h).1; rwa [ends_len] at this
 refine ⟨hi,?_⟩
 unfold endsL at h
 rw [List.getElem?_map,strongL_get hi] at h
 simpa using h.symm
theorem w85 (d : Drum) (p : Acid × Nat) (i : Nat) (x : Int) (h : (endsL (strongL d p.1) false)[i]? = some x) : ACalls Tryz.prog 85 ([.agg (eFilled d p)] ++ [vi i]) (fun r => r = .pv (vi x)):= by
 obtain ⟨h1,rfl⟩ := ends_at h
 exact f85 d p i h1
theorem w86 (d : Drum) (p : Acid × Nat) (i : Nat) (x : Int) (h : (endsL (strongL d p.1) true)[i]? = some x) : ACalls Tryz.prog 86 ([.agg (eFilled d p)] ++ [vi i]) (fun r => r = .pv (vi x)):= by
 obtain ⟨h1,rfl⟩ := ends_at h
 exact f86 d p i h1
abbrev boC (R T : Span) : List FV := [.pv (vi R.low),.pv (vi R.high),.pv (vi T.low),.pv (vi T.high)]
abbrev enJ (w g : State) : Nat -> List FV
 | 0 => [.pv (vi 0),.pv (vi 0),.pv (vi 0),.pv (vi 0)]
 | 1 => [.pv (vi w.rough),.pv (vi w.thick),.pv (vi 0),.pv (vi 0)]
 | _ => [.pv (vi w.rough),.pv (vi w.thick),.pv (vi g.rough),.pv (vi g.thick)]
set_option maxHeartbeats 8000000 in
theorem f138 (d : Drum) (hP : DrumP d) (b : Batch) (hb : BatchP3 b) (h : Nat) (hh : h <= d.hours.toNat) : ACalls Tryz.prog 138 [eFilledL d (filledL d),.agg (eBatch b),vi h] (fun r => r = .pv (.agg (eBounds (boundsI d b h)))):= by
 have hfl := filled_len hP
 have h12 := hP.h1
 refine ACalls.of_body hT Tryz.func138 rfl (by kernel_rfl) rfl ?_
 (repeat (refine stq ?_))
 refine AW_loopC (fun k : Nat => k <= (filledL d).length) (fun k => mkSt [(2,.pv (vi h)),(4,.box 0 0),(6,.box 1 0),(7,.box 2 0),(14,.pv (.sl ((filledL d).map (eFilled d)))),(15,.pv (vi (filledL d).length)),(16,.pv (vi k))]
  [(0,.box ((eBatch b).map FV.pv)),(1,.box (boC ⟨0,0⟩ ⟨0,0⟩)),(2,.box (boC (hullL (rL d b h k)) (hullL (tL d b h k))))] 3) (fun k => (filledL d).length - k) 0 (Nat.zero_le _) ?_ ?_
 ·(refine Le.mk ?_ ?_; all_goals (repeat' (first | exact trivial | refine sle ?_ | refine ⟨?_,rfl,?_⟩ | refine ⟨?_,by decide,rfl,?_⟩ | fail)))
 ·intro k hk
  (repeat (refine stq ?_))
  refine AW_if rfl (fun hc => ?_) (fun hc => ?_)
  ·have hk' : k < (filledL d).length := by omega
   obtain ⟨p,hp⟩ : ∃ p,(filledL d)[k]? = some p := ⟨(filledL d)[k],by simp [hk']⟩
   have e1 := get_map (eFilled d) hp
   have hpm := List.mem_of_getElem? hp
   have kw := f136m b hb h (by omega) 85 [.agg (eFilled d p)] (endsL (strongL d p.1) false) (by rw [ends_len]; exact hh) (ends_bdU hP hpm false) (w85 d p)
   have kh := f136m b hb h (by omega) 86 [.agg (eFilled d p)] (endsL (strongL d p.1) true) (by rw [ends_len]; exact hh) (ends_bdU hP hpm true) (w86 d p)
   have sr : rL d b h (k + 1) = rL d b h k ++ [roughS d b h p] := map_take_succ _ hp
   have st : tL d b h (k + 1) = tL d b h k ++ [thickS d b h p] := map_take_succ _ hp
   have lr : (rL d b h k).length = k := by simp [rL]; omega
   have lt : (tL d b h k).length = k := by simp [tL]; omega
   have hR : hullL (rL d b h (k + 1)) = if k = 0 then roughS d b h p else hull2 (hullL (rL d b h k)) (roughS d b h p):= by
    rw [sr,hull_snoc]
    by_cases h0 : k = 0
    ·rw [if_pos h0,if_pos (List.length_eq_zero_iff.1 (by omega))]
    ·rw [if_neg h0,if_neg (fun e => h0 (by rw [<- lr,e]; rfl))]
   have hT2 : hullL (tL d b h (k + 1)) = if k = 0 then thickS d b h p else hull2 (hullL (tL d b h k)) (thickS d b h p):= by
    rw [st,hull_snoc]
    by_cases h0 : k = 0
    ·rw [if_pos h0,if_pos (List.length_eq_zero_iff.1 (by omega))]
    ·rw [if_neg h0,if_neg (fun e => h0 (by rw [<- lt,e]; rfl))]
   have eR : roughS d b h p = ⟨(hardS d b h p).rough,(weakS d b h p).rough⟩ := rfl
   have eT : thickS d b h p = ⟨(hardS d b h p).thick,(weakS d b h p).thick⟩ := rfl
   have kw : ACalls Tryz.prog 136 [.agg (eBatch b),vi h,.meth 85 [.agg (eFilled d p)]] (fun r => r = .pv (.agg (eState (weakS d b h p)))) := kw
   have kh : ACalls Tryz.prog 136 [.agg (eBatch b),vi h,.meth 86 [.agg (eFilled d p)]] (fun r => r = .pv (.agg (eState (hardS d b h p)))) := kh
   rw [eR] at hR
   rw [eT] at hT2
   generalize hullL (rL d b h k) = R at *
   generalize hullL (tL d b h k) = T at *
   generalize weakS d b h p = w at *
   generalize hardS d b h p = g at *
   (repeat (refine stq ?_))
   refine AW_loopC (fun j : Nat => j <= 2) (fun j => mkSt [(2,.pv (vi h)),(4,.box 0 0),(6,.box 1 0),(7,.box 2 0),(8,.pv (vi k)),(10,.box 4 0),(14,.pv (.sl ((filledL d).map (eFilled d)))),(15,.pv (vi (filledL d).length)),(16,.pv (vi k)),(25,.agg [.pv (.meth 85 [.agg (eFilled d p)]),.pv (.meth 86 [.agg (eFilled d p)])]),(26,.pv (vi j))]
    [(0,.box ((eBatch b).map FV.pv)),(1,.box (boC ⟨0,0⟩ ⟨0,0⟩)),(2,.box (boC R T)),(4,.box (enJ w g j))] 5) (fun j => 2 - j) 0 (Nat.zero_le _) ?_ ?_
   ·(refine Le.mk ?_ ?_; all_goals (repeat' (first | exact trivial | refine sle ?_ | refine ⟨?_,rfl,?_⟩ | refine ⟨?_,by decide,rfl,?_⟩ | fail)))
   ·intro j hj
    (repeat (refine stq ?_))
    refine AW_if rfl (fun hc2 => ?_) (fun hc2 => ?_)
    ·rcases j with _ | _ | j
     ·(repeat' (first | refine stq ?_ | (refine AL_do2 rfl ?_; first | refine ⟨_,op_call1 rfl rfl rfl rfl (kw),nrmA rfl ?_⟩) | (with_reducible refine AL_id ?_); (fail_if_success (refine AL_glit rfl rfl rfl (by first | exact .inl (by with_reducible rfl) | exact .inr (by with_reducible rfl)) ?_)); first | refine AL_gdec rfl rfl rfl (fun hg => ?_) (fun hg => ?_) | refine AL_gnot rfl rfl rfl (fun hg => ?_) (fun hg => ?_) | refine AL_gcases rfl rfl rfl (fun hg => ?_) (fun hg => ?_)))
      refine ⟨1,by omega,by omega,?_⟩
      (refine Le.mk ?_ ?_; all_goals (repeat' (first | exact trivial | refine sle ?_ | refine ⟨?_,rfl,?_⟩ | refine ⟨?_,by decide,rfl,?_⟩ | fail)))
     ·(repeat' (first | refine stq ?_ | (refine AL_do2 rfl ?_; first | refine ⟨_,op_call1 rfl rfl rfl rfl (kh),nrmA rfl ?_⟩) | (with_reducible refine AL_id ?_); (fail_if_success (refine AL_glit rfl rfl rfl (by first | exact .inl (by with_reducible rfl) | exact .inr (by with_reducible rfl)) ?_)); first | refine AL_gdec rfl rfl rfl (fun hg => ?_) (fun hg => ?_) | refine AL_gnot rfl rfl rfl (fun hg => ?_) (fun hg => ?_) | refine AL_gcases rfl rfl rfl (fun hg => ?_) (fun hg => ?_)))
      refine ⟨2,by omega,by omega,?_⟩
      (refine Le.mk ?_ ?_; all_goals (repeat' (first | exact trivial | refine sle ?_ | refine ⟨?_,rfl,?_⟩ | refine ⟨?_,by decide,rfl,?_⟩ | fail)))
     ·omega
    ·have hj2 : j = 2 := by omega
     subst hj2
     (repeat (refine stq ?_))
     refine AW_if rfl (fun h0 => ?_) (fun h0 => ?_)
     ·have h0' : k = 0 := by omega
      rw [if_pos h0'] at hR hT2
      (repeat (refine stq ?_))
      refine ⟨k + 1,hk',by omega,?_⟩
      rw [hR,hT2]
      (refine Le.mk ?_ ?_; all_goals (repeat' (first | exact trivial | refine sle ?_ | refine ⟨?_,rfl,?_⟩ | refine ⟨?_,by decide,rfl,?_⟩ | fail)))
     ·have h0' : ¬ k = 0 := by omega
      rw [if_neg h0'] at hR hT2
      (repeat (refine stq ?_))
      refine ⟨k + 1,hk',by omega,?_⟩
      rw [hR,hT2]
      (refine Le.mk ?_ ?_; all_goals (repeat' (first | exact trivial | refine sle ?_ | refine ⟨?_,rfl,?_⟩ | refine ⟨?_,by decide,rfl,?_⟩ | fail)))
  ·have hk' : k = (filledL d).length := by omega
   subst hk'
   have er : rL d b h (filledL d).length = (filledL d).map (roughS d b h) := by rw [rL,List.take_length]
   have et : tL d b h (filledL d).length = (filledL d).map (thickS d b h) := by rw [tL,List.take_length]
   rw [er,et]
   (repeat (refine stq ?_))
   exact ⟨_,_,rfl,rfl,rfl⟩
end Go.Abs
namespace Go.Abs
open Go.Proofs
set_option linter.unusedVariables false
set_option linter.unusedSimpArgs false
set_option maxRecDepth 100000
theorem last_at {p : Nat -> Bool} {n h : Nat} (h1 : ∀ j,h < j -> j < n -> p j = false) (h2 : p h = true) (h3 : h < n) : lastI p n = h:= by
 rcases lastI_spec p n with ⟨_,g⟩ | ⟨m,g1,g3,g4,g5⟩
 ·have := g h (by omega); rw [h2] at this; cases this
 ·have : m = h:= by
   rcases Nat.lt_trichotomy m h with q | q | q
   ·have := g5 h q (by omega); rw [h2] at this; cases this
   ·exact q
   ·have := h1 m q g3; rw [g4] at this; cases this
  rw [g1,this]
theorem last_none {p : Nat -> Bool} {n : Nat} (h1 : ∀ j,j < n -> p j = false) : lastI p n = -1:= by
 rcases lastI_spec p n with ⟨g,_⟩ | ⟨m,g1,g3,g4,g5⟩
 ·exact g
 ·have := h1 m (by omega); rw [g4] at this; cases this
theorem first_elem {d : Drum} (hne : filledL d ≠ []) : ∃ p,(filledL d)[0]? = some p:= by
 match hf : filledL d with
 | [] => exact absurd hf hne
 | p :: _ => exact ⟨p,by simp⟩
set_option maxHeartbeats 4000000 in
theorem f92 (d : Drum) (hP : DrumP d) (hne : filledL d ≠ []) (b : Batch) (hb : BatchP3 b) : ACalls Tryz.prog 92 [eFilledL d (filledL d),.agg (eBatch b)] (fun r => r = .pv (vi (smoothI d b))):= by
 have hfl := filled_len hP
 obtain ⟨m,hm⟩ : ∃ m : Nat,d.hours = m := ⟨d.hours.toNat,by have := hP.h0; omega⟩
 have hmm : d.hours.toNat = m := by omega
 have h12 := hP.h1
 obtain ⟨p0,hp0⟩ := first_elem hne
 have e0 := get_map (eFilled d) hp0
 have hpos : 0 < (filledL d).length := (List.getElem?_eq_some_iff.1 hp0).1
 refine ACalls.of_body hT Tryz.func92 rfl (by kernel_rfl) rfl ?_
 (repeat (refine stq ?_))
 refine AW_loopC (fun h : Nat => h <= m + 1 /\ ∀ j,j < h -> decide ((boundsI d b j).rough.high <= b.goal) = false) (fun h => mkSt [(0,.pv (.sl ((filledL d).map (eFilled d)))),(3,.box 0 0),(11,.pv (vi (d.hours + 1))),(12,.pv (vi h))] [(0,.box ((eBatch b).map FV.pv))] 1) (fun h => m + 1 - h) 0 ⟨Nat.zero_le _,fun j h => by omega⟩ ?_ ?_
 ·(refine Le.mk ?_ ?_; all_goals (repeat' (first | exact trivial | refine sle ?_ | refine ⟨?_,rfl,?_⟩ | refine ⟨?_,by decide,rfl,?_⟩ | fail)))
 ·rintro h ⟨hh,hall⟩
  (repeat (refine stq ?_))
  refine AW_if rfl (fun hc => ?_) (fun hc => ?_)
  ·have hlt : h < m + 1 := by omega
   have k138 := f138 d hP b hb h (by omega)
   have hall' : (boundsI d b h).rough.high <= b.goal -> smoothI d b = h := fun hq => by
    unfold smoothI
    rw [hmm]
    exact first_at hall (by simpa using hq) hlt
   have next : ¬ (boundsI d b h).rough.high <= b.goal -> ∀ j,j < h + 1 -> decide ((boundsI d b j).rough.high <= b.goal) = false := fun hq j hj => by
    by_cases hjh : j = h
    ·rw [hjh]; simpa using hq
    ·exact hall j (by omega)
   generalize boundsI d b h = B at *
   (repeat (refine stq ?_))
   (repeat (first | refine sdq ?_ | refine DG_next (D_call rfl rfl rfl rfl rfl (k138)) ?_))
   refine DG_end hM (by kernel_rfl) ?_
   (repeat (refine stq ?_))
   refine AW_if rfl (fun hc2 => ?_) (fun hc2 => ?_)
   ·(repeat (refine stq ?_))
    exact ⟨_,_,rfl,rfl,by rw [hall' hc2]⟩
   ·(repeat (refine stq ?_))
    refine ⟨h + 1,⟨hlt,next hc2⟩,by omega,?_⟩
    (refine Le.mk ?_ ?_; all_goals (repeat' (first | exact trivial | refine sle ?_ | refine ⟨?_,rfl,?_⟩ | refine ⟨?_,by decide,rfl,?_⟩ | fail)))
  ·have hhm : h = m + 1 := by omega
   (repeat (refine stq ?_))
   exact ⟨_,_,rfl,rfl,by
    have : smoothI d b = -1 := by unfold smoothI; rw [hmm]; exact first_none (by rw [<- hhm]; exact hall)
    rw [this]⟩
set_option maxHeartbeats 4000000 in
theorem f93 (d : Drum) (hP : DrumP d) (hne : filledL d ≠ []) (b : Batch) (hb : BatchP3 b) : ACalls Tryz.prog 93 [eFilledL d (filledL d),.agg (eBatch b)] (fun r => r = .pv (vi (thinI d b))):= by
 have hfl := filled_len hP
 obtain ⟨m,hm⟩ : ∃ m : Nat,d.hours = m := ⟨d.hours.toNat,by have := hP.h0; omega⟩
 have hmm : d.hours.toNat = m := by omega
 have h12 := hP.h1
 obtain ⟨p0,hp0⟩ := first_elem hne
 have e0 := get_map (eFilled d) hp0
 have hpos : 0 < (filledL d).length := (List.getElem?_eq_some_iff.1 hp0).1
 refine ACalls.of_body hT Tryz.func93 rfl (by kernel_rfl) rfl ?_
 (repeat (refine stq ?_))
 refine AW_loopC (fun h : Nat => h <= m + 1 /\ ∀ j,h <= j -> j < m + 1 -> decide ((boundsI d b j).thick.low >= b.least) = false) (fun h => mkSt [(0,.pv (.sl ((filledL d).map (eFilled d)))),(3,.box 0 0),(5,.pv (vi ((h : Int) - 1)))] [(0,.box ((eBatch b).map FV.pv))] 1) (fun h => h) (m + 1) ⟨Nat.le_refl _,fun j h1 h2 => by omega⟩ ?_ ?_
 ·(refine Le.mk ?_ ?_; all_goals (repeat' (first | exact trivial | refine sle ?_ | refine ⟨?_,rfl,?_⟩ | refine ⟨?_,by decide,rfl,?_⟩ | fail)))
  exact congrArg some (congrArg FV.pv (congrArg vi (by omega)))
 ·rintro h ⟨hh,hall⟩
  (repeat (refine stq ?_))
  refine AW_if rfl (fun hc => ?_) (fun hc => ?_)
  ·obtain ⟨j,rfl⟩ : ∃ j,h = j + 1 := ⟨h - 1,by omega⟩
   have k138 : ACalls Tryz.prog 138 [eFilledL d (filledL d),.agg (eBatch b),vi (((j + 1 : Nat) : Int) - 1)] (fun r => r = .pv (.agg (eBounds (boundsI d b j)))):= by
    rw [show ((j + 1 : Nat) : Int) - 1 = (j : Int) by omega]
    exact f138 d hP b hb j (by omega)
   have hall' : (boundsI d b j).thick.low >= b.least -> thinI d b = j := fun hq => by
    unfold thinI
    rw [hmm]
    exact last_at (fun i h1 h2 => hall i (by omega) h2) (by simpa using hq) (by omega)
   have next : ¬ (boundsI d b j).thick.low >= b.least -> ∀ i,j <= i -> i < m + 1 -> decide ((boundsI d b i).thick.low >= b.least) = false := fun hq i h1 h2 => by
    by_cases hij : i = j
    ·rw [hij]; simpa using hq
    ·exact hall i (by omega) h2
   generalize boundsI d b j = B at *
   (repeat (refine stq ?_))
   (repeat (first | refine sdq ?_ | refine DG_next (D_call rfl rfl rfl rfl rfl (k138)) ?_))
   refine DG_end hM (by kernel_rfl) ?_
   (repeat (refine stq ?_))
   refine AW_if rfl (fun hc2 => ?_) (fun hc2 => ?_)
   ·(repeat (refine stq ?_))
    exact ⟨_,_,rfl,rfl,by rw [hall' hc2]; exact congrArg RV.pv (congrArg vi (by omega))⟩
   ·(repeat (refine stq ?_))
    refine ⟨j,⟨by omega,next hc2⟩,by omega,?_⟩
    (refine Le.mk ?_ ?_; all_goals (repeat' (first | exact trivial | refine sle ?_ | refine ⟨?_,rfl,?_⟩ | refine ⟨?_,by decide,rfl,?_⟩ | fail)))
    exact congrArg some (congrArg FV.pv (congrArg vi (by omega)))
  ·have h0 : h = 0 := by omega
   subst h0
   (repeat (refine stq ?_))
   exact ⟨_,_,rfl,rfl,by
    have : thinI d b = -1 := by unfold thinI; rw [hmm]; exact last_none (fun j hj => hall j (Nat.zero_le _) hj)
    rw [this]⟩
def hourE (d : Drum) (batch : Int) (f : Batch -> Int) : Int × Int :=
 if errE d (inB batch 0 (d.batches.length - 1)) = 0 then (if f (d.batches.getD batch.toNat ⟨0,0,0,0,0,0⟩) < 0 then (0,5) else (f (d.batches.getD batch.toNat ⟨0,0,0,0,0,0⟩),0)) else (0,errE d (inB batch 0 (d.batches.length - 1)))
set_option maxHeartbeats 4000000 in
theorem f91 (d : Drum) (batch : Int) (g : Nat) (f : Batch -> Int) (hd : drumOK d) (hg : DrumP d -> filledL d ≠ [] -> ∀ b,BatchP3 b -> ACalls Tryz.prog g [eFilledL d (filledL d),.agg (eBatch b)] (fun r => r = .pv (vi (f b)))) :
  ACalls Tryz.prog 91 [eDrum d,vi batch,.fn g []] (fun r => r = .tup [vi (hourE d batch f).1,vi (hourE d batch f).2]):= by
 have hbl := hd.2.2.2
 have k84 := f84 d (inB batch 0 (d.batches.length - 1)) hd
 have k87 := f87 batch 0 (d.batches.length - 1)
 refine ACalls.of_body hT Tryz.func91 rfl (by kernel_rfl) rfl ?_
 by_cases he : errE d (inB batch 0 (d.batches.length - 1)) = 0
 ·obtain ⟨hP,hf,hne,ha⟩ := asked_ok he
  rw [ha] at k84
  have hf2 := hf
  simp only [inB,Bool.and_eq_true,decide_eq_true_eq] at hf2
  rw [hf] at k84 k87
  have k84 : ACalls Tryz.prog 84 [eDrum d,.bool true] (fun r => r = .tup [.sl ((filledL d).map (eFilled d)),vi 0]) := k84
  obtain ⟨b,hbx⟩ : ∃ b,d.batches[batch.toNat]? = some b := ⟨d.batches[batch.toNat]'(by omega),by simp⟩
  have e1 := get_map eBatch hbx
  have eb : d.batches.getD batch.toNat ⟨0,0,0,0,0,0⟩ = b := by rw [List.getD_eq_getElem?_getD,hbx]; rfl
  have kg : ACalls Tryz.prog g ([eFilledL d (filledL d),.agg (eBatch b)] ++ []) (fun r => r = .pv (vi (f b))) := hg hP hne b (hP.batch b (List.mem_of_getElem? hbx))
  rw [hourE,if_pos he,eb]
  generalize f b = x at *
  (repeat (refine stq ?_))
  (repeat (first | refine sdq ?_ | refine DG_next (D_call rfl rfl rfl rfl rfl (k87)) ?_ | refine DG_next (D_call_tup rfl rfl rfl rfl rfl (k84)) ?_))
  refine DG_end hM (by kernel_rfl) ?_
  (repeat' (first | refine stq ?_ | (refine AL_do2 rfl ?_; first | refine ⟨_,op_call1 rfl rfl rfl rfl (kg),nrmA rfl ?_⟩) | (with_reducible refine AL_id ?_); (fail_if_success (refine AL_glit rfl rfl rfl (by first | exact .inl (by with_reducible rfl) | exact .inr (by with_reducible rfl)) ?_)); first | refine AL_gdec rfl rfl rfl (fun hg => ?_) (fun hg => ?_) | refine AL_gnot rfl rfl rfl (fun hg => ?_) (fun hg => ?_) | refine AL_gcases rfl rfl rfl (fun hg => ?_) (fun hg => ?_)))
  refine AW_if rfl (fun hc => ?_) (fun hc => ?_)
  ·(repeat (refine stq ?_))
   exact ⟨_,_,rfl,rfl,by rw [if_pos hc]⟩
  ·(repeat (refine stq ?_))
   exact ⟨_,_,rfl,rfl,by rw [if_neg hc]⟩
 ·rw [asked_err he] at k84
  have k84 : ACalls Tryz.prog 84 [eDrum d,.bool (inB batch 0 (d.batches.length - 1))] (fun r => r = .tup [.sl [],vi (errE d (inB batch 0 (d.batches.length - 1)))]) := k84
  (repeat (refine stq ?_))
  (repeat (first | refine sdq ?_ | refine DG_next (D_call rfl rfl rfl rfl rfl (k87)) ?_ | refine DG_next (D_call_tup rfl rfl rfl rfl rfl (k84)) ?_))
  refine DG_end hM (by kernel_rfl) ?_
  (repeat (refine stq ?_))
  refine AW_if rfl (fun hc => ?_) (fun hc => absurd (by omega) hc)
  (repeat (refine stq ?_))
  exact ⟨_,_,rfl,rfl,by rw [hourE,if_neg he]⟩
theorem f31 (d : Drum) (batch : Int) (hd : drumOK d) : ACalls Tryz.prog 31 [eDrum d,vi batch] (fun r => r = .tup [vi (hourE d batch (smoothI d)).1,vi (hourE d batch (smoothI d)).2]):= by
 refine ACalls.of_body hT Tryz.func31 rfl (by kernel_rfl) rfl ?_
 (repeat' (first | refine stq ?_ | (refine AL_do2 rfl ?_; first | refine ⟨_,op_call1 rfl rfl rfl rfl (f91 d batch 92 (smoothI d) hd (fun hP hne b hb => f92 d hP hne b hb)),nrmA rfl ?_⟩) | (with_reducible refine AL_id ?_); (fail_if_success (refine AL_glit rfl rfl rfl (by first | exact .inl (by with_reducible rfl) | exact .inr (by with_reducible rfl)) ?_)); first | refine AL_gdec rfl rfl rfl (fun hg => ?_) (fun hg => ?_) | refine AL_gnot rfl rfl rfl (fun hg => ?_) (fun hg => ?_) | refine AL_gcases rfl rfl rfl (fun hg => ?_) (fun hg => ?_)))
 exact ⟨_,_,rfl,rfl,rfl⟩
theorem f32 (d : Drum) (batch : Int) (hd : drumOK d) : ACalls Tryz.prog 32 [eDrum d,vi batch] (fun r => r = .tup [vi (hourE d batch (thinI d)).1,vi (hourE d batch (thinI d)).2]):= by
 refine ACalls.of_body hT Tryz.func32 rfl (by kernel_rfl) rfl ?_
 (repeat' (first | refine stq ?_ | (refine AL_do2 rfl ?_; first | refine ⟨_,op_call1 rfl rfl rfl rfl (f91 d batch 93 (thinI d) hd (fun hP hne b hb => f93 d hP hne b hb)),nrmA rfl ?_⟩) | (with_reducible refine AL_id ?_); (fail_if_success (refine AL_glit rfl rfl rfl (by first | exact .inl (by with_reducible rfl) | exact .inr (by with_reducible rfl)) ?_)); first | refine AL_gdec rfl rfl rfl (fun hg => ?_) (fun hg => ?_) | refine AL_gnot rfl rfl rfl (fun hg => ?_) (fun hg => ?_) | refine AL_gcases rfl rfl rfl (fun hg => ?_) (fun hg => ?_)))
 exact ⟨_,_,rfl,rfl,rfl⟩
end Go.Abs
namespace Go.Abs
open Go.Proofs
set_option linter.unusedVariables false
set_option linter.unusedSimpArgs false
set_option maxRecDepth 100000
def knownE (d : Drum) (hours : Int) : List Bounds × Int := if errE d (inB hours 0 d.hours) = 0 then (d.batches.map fun b => boundsI d b hours.toNat,0) else ([],errE d (inB hours 0 d.hours))
def eBoundsL (l : List Bounds) : PV := .sl (l.map eBounds)
set_option maxHeartbeats 4000000 in
theorem f71 (d : Drum) (hours : Int) (hd : drumOK d) : ACalls Tryz.prog 71 [eDrum d,vi hours] (fun r => r = .tup [eBoundsL (knownE d hours).1,vi (knownE d hours).2]):= by
 have k84 := f84 d (inB hours 0 d.hours) hd
 have k87 := f87 hours 0 d.hours
 refine ACalls.of_body hT Tryz.func71 rfl (by kernel_rfl) rfl ?_
 by_cases he : errE d (inB hours 0 d.hours) = 0
 ·obtain ⟨hP,hf,hne,ha⟩ := asked_ok he
  rw [ha] at k84
  have hf2 := hf
  simp only [inB,Bool.and_eq_true,decide_eq_true_eq] at hf2
  rw [hf] at k84 k87
  have k84 : ACalls Tryz.prog 84 [eDrum d,.bool true] (fun r => r = .tup [.sl ((filledL d).map (eFilled d)),vi 0]) := k84
  have hbl := hP.b1
  rw [knownE,if_pos he]
  obtain ⟨h,rfl⟩ : ∃ h : Nat,hours = h := ⟨hours.toNat,by omega⟩
  simp only [Int.toNat_natCast]
  have hh : h <= d.hours.toNat := by omega
  (repeat (refine stq ?_))
  (repeat (first | refine sdq ?_ | refine DG_next (D_call rfl rfl rfl rfl rfl (k87)) ?_ | refine DG_next (D_call_tup rfl rfl rfl rfl rfl (k84)) ?_))
  refine DG_end hM (by kernel_rfl) ?_
  (repeat (refine stq ?_))
  refine AW_own_nil (e := 103) (sz := 4) (t := 8) rfl rfl ?_
  (repeat (refine stq ?_))
  refine AW_loopC (fun k : Nat => k <= d.batches.length) (fun k => mkSt [(1,.pv (vi h)),(6,.pv (.sl ((filledL d).map (eFilled d)))),(8,.arr 1),(25,.pv (.sl (d.batches.map eBatch))),(26,.pv (vi d.batches.length)),(27,.pv (vi k))] [(1,.arr 103 4 (((d.batches.take k).map fun b => boundsI d b h).map eBounds))] 2) (fun k => d.batches.length - k) 0 (Nat.zero_le _) ?_ ?_
  ·(refine Le.mk ?_ ?_; all_goals (repeat' (first | exact trivial | refine sle ?_ | refine ⟨?_,rfl,?_⟩ | refine ⟨?_,by decide,rfl,?_⟩ | fail)))
  ·intro k hk
   (repeat (refine stq ?_))
   refine AW_if rfl (fun hc => ?_) (fun hc => ?_)
   ·have hk' : k < d.batches.length := by omega
    obtain ⟨b,hb⟩ : ∃ b,d.batches[k]? = some b := ⟨d.batches[k],by simp [hk']⟩
    have e1 := get_map eBatch hb
    have k138 := f138 d hP b (hP.batch b (List.mem_of_getElem? hb)) h hh
    have hsn : (d.batches.take (k + 1)).map (fun b => boundsI d b h) = (d.batches.take k).map (fun b => boundsI d b h) ++ [boundsI d b h] := map_take_succ _ hb
    have htl : ((d.batches.take k).map fun b => boundsI d b h).length <= 1000 := by simp; omega
    generalize ((d.batches.take k).map fun b => boundsI d b h) = ts at *
    generalize boundsI d b h = B at *
    (repeat' (first | refine stq ?_ | (refine AL_do2 rfl ?_; first | refine ⟨_,op_call1 rfl rfl rfl rfl (k138),nrmA rfl ?_⟩) | (with_reducible refine AL_id ?_); (fail_if_success (refine AL_glit rfl rfl rfl (by first | exact .inl (by with_reducible rfl) | exact .inr (by with_reducible rfl)) ?_)); first | refine AL_gdec rfl rfl rfl (fun hg => ?_) (fun hg => ?_) | refine AL_gnot rfl rfl rfl (fun hg => ?_) (fun hg => ?_) | refine AL_gcases rfl rfl rfl (fun hg => ?_) (fun hg => ?_)))
    refine ⟨k + 1,hk',by omega,?_⟩
    rw [hsn]
    (refine Le.mkR [(1,5)] ?_ ?_ rfl; all_goals (repeat' (first | exact trivial | refine sle ?_ | refine ⟨?_,rfl,?_⟩ | refine ⟨?_,by decide,rfl,?_⟩ | fail)))
    rw [List.map_append]; rfl
   ·have hk' : k = d.batches.length := by omega
    subst hk'
    rw [List.take_length]
    refine AW_pure (t := 8) rfl rfl ?_
    (repeat (refine stq ?_))
    exact ⟨_,_,rfl,rfl,rfl⟩
 ·rw [asked_err he] at k84
  have k84 : ACalls Tryz.prog 84 [eDrum d,.bool (inB hours 0 d.hours)] (fun r => r = .tup [.sl [],vi (errE d (inB hours 0 d.hours))]) := k84
  (repeat (refine stq ?_))
  (repeat (first | refine sdq ?_ | refine DG_next (D_call rfl rfl rfl rfl rfl (k87)) ?_ | refine DG_next (D_call_tup rfl rfl rfl rfl rfl (k84)) ?_))
  refine DG_end hM (by kernel_rfl) ?_
  (repeat (refine stq ?_))
  refine AW_if rfl (fun hc => ?_) (fun hc => absurd (by omega) hc)
  (repeat (refine stq ?_))
  exact ⟨_,_,rfl,rfl,by rw [knownE,if_neg he]; rfl⟩
end Go.Abs
