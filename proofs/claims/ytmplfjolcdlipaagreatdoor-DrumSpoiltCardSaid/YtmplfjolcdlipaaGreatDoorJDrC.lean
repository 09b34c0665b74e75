/- The data of layer 3, and how they are read. -/
import Derived.Test.YtmplfjolcdlipaaGreatDoorJDrA
import Derived.Test.YtmplfjolcdlipaaGreatDoorJDrB
import Derived.Test.YtmplfjolcdlipaaGreatDoorJNcG
import Derived.Test.YtmplfjolcdlipaaGreatDoorJNcI
set_option linter.unusedVariables false
set_option linter.unusedSimpArgs false
namespace Go.Abs
abbrev vi (n : Int) : PV := .int .i64 n
def eInt (n : Int) : List PV := [vi n]
def eSpan (s : Span) : List PV := [vi s.low,vi s.high]
def eS (s : Span) : PV := .agg (eSpan s)
def eSpans (l : List Span) : PV := .sl (l.map eSpan)
def eInts (l : List Int) : PV := .sl (l.map eInt)
def eAcid (a : Acid) : List PV := [vi a.strength.low,vi a.strength.high,vi a.fall.low,vi a.fall.high]
def eStrip (s : Strip) : List PV := [vi s.hour,vi s.seen,vi s.off]
def eBatch (b : Batch) : List PV := [vi b.rough,vi b.goal,vi b.thick,vi b.least,vi b.polish,vi b.eat]
def eDrumC (d : Drum) : List PV := [.sl (d.acids.map eAcid),vi d.known,vi d.hours,eInts d.adds,.sl (d.strips.map eStrip),.sl (d.batches.map eBatch)]
def eDrum (d : Drum) : PV := .agg (eDrumC d)
def eFilled (d : Drum) (p : Acid × Nat) : List PV := eDrumC d ++ [vi p.2,eSpans (strongL d p.1)]
def eFilledL (d : Drum) (l : List (Acid × Nat)) : PV := .sl (l.map (eFilled d))
def eState (s : State) : List PV := [vi s.rough,vi s.thick]
def eBounds (b : Bounds) : List PV := [vi b.rough.low,vi b.rough.high,vi b.thick.low,vi b.thick.high]
def eRow (l : List Int) : List PV := [eInts l]
def eRows (l : List (List Int)) : PV := .sl (l.map eRow)
end Go.Abs
namespace Go.Abs
open Go.Proofs
set_option linter.unusedVariables false
set_option maxRecDepth 100000
def idxFrom {α : Type} (p : α -> Bool) : List α -> Int -> Int
 | [],_ => -1
 | x :: l,i => if p x then i else idxFrom p l (i + 1)
theorem idxFrom_ge {α : Type} (p : α -> Bool) : ∀ (l : List α) (i : Int),0 <= i -> (decide (idxFrom p l i >= 0)) = l.any p
 | [],i,_ => by simp [idxFrom]
 | x :: l,i,h => by
  unfold idxFrom
  cases hp : p x with
  | true => simp [hp,h]
  | false => simp [hp,idxFrom_ge p l (i + 1) (by omega)]
theorem idxFrom_drop {α : Type} (p : α -> Bool) {l : List α} {k : Nat} {x : α} (h : l[k]? = some x) (i : Int) : idxFrom p (l.drop k) i = if p x then i else idxFrom p (l.drop (k + 1)) (i + 1):= by
 have hk : k < l.length := (List.getElem?_eq_some_iff.1 h).1
 have hx : l[k] = x := (List.getElem?_eq_some_iff.1 h).2
 rw [List.drop_eq_getElem_cons hk,hx]; rfl
theorem c143 (L : List Strip) (g : Nat) (caps : List PV) (p : Strip -> Bool) (hL : L.length <= 1000) (hp : ∀ x ∈ L,ACalls Tryz.prog g ([.agg (eStrip x)] ++ caps) (fun r => r = .pv (.bool (p x)))) :
  ACalls Tryz.prog 143 [.sl (L.map eStrip),.fn g caps] (fun r => r = .pv (vi (idxFrom p L 0))):= by
 refine ACalls.of_body hT Tryz.func143 rfl (by kernel_rfl) rfl ?_
 (repeat (refine stp ?_))
 refine AW_loopC (fun k : Nat => k <= L.length /\ idxFrom p L 0 = idxFrom p (L.drop k) k) (fun k => mkSt [(0,.pv (.sl (L.map eStrip))),(1,.pv (.fn g caps)),(7,.pv (vi L.length)),(8,.pv (vi k))] [] 0) (fun k => L.length - k) 0 ⟨Nat.zero_le _,rfl⟩ ?_ ?_
 ·exact Le.mk ⟨rfl,rfl,rfl,rfl,rfl,rfl,rfl,rfl,trivial⟩ trivial
 ·rintro k ⟨hk,hi⟩
  (repeat (refine stp ?_))
  refine AW_cond rfl (fun hc => ?_) (fun hc => ?_)
  ·have hk' : k < L.length := by simpa using hc
   obtain ⟨x,hx⟩ : ∃ x,L[k]? = some x := ⟨L[k],by simp [hk']⟩
   have e1 := get_map eStrip hx
   have hxm := List.mem_of_getElem? hx
   rw [idxFrom_drop p hx] at hi
   (repeat (refine stp ?_))
   refine AL_do rfl (op_call1 rfl rfl rfl rfl (hp x hxm)) ?_
   (repeat (refine stp ?_))
   refine AW_cond rfl (fun hc2 => ?_) (fun hc2 => ?_)
   ·rw [hc2] at hi
    (repeat (refine stp ?_))
    exact ⟨_,_,rfl,rfl,by rw [hi]; rfl⟩
   ·rw [hc2] at hi
    (repeat (refine stp ?_))
    exact ⟨k + 1,⟨hk',by rw [hi]; simp⟩,by omega,Le.mk ⟨rfl,rfl,rfl,rfl,rfl,rfl,rfl,rfl,trivial⟩ trivial⟩
  ·have hk' : k = L.length := by simp at hc; omega
   subst hk'
   (repeat (refine stp ?_))
   refine ⟨_,_,rfl,rfl,?_⟩
   rw [hi]; simp [idxFrom]
theorem c95 (L : List Strip) (g : Nat) (caps : List PV) (p : Strip -> Bool) (hL : L.length <= 1000) (hp : ∀ x ∈ L,ACalls Tryz.prog g ([.agg (eStrip x)] ++ caps) (fun r => r = .pv (.bool (p x)))) :
  ACalls Tryz.prog 95 [.sl (L.map eStrip),.fn g caps] (fun r => r = .pv (.bool (L.any p))):= by
 refine ACalls.of_body hT Tryz.func95 rfl (by kernel_rfl) rfl ?_
 (repeat' (first | refine stp ?_ | (refine AL_do2 rfl ?_; first | refine ⟨_,op_call1 rfl rfl rfl rfl (c143 L g caps p hL hp),?_⟩) | refine AL_gdec rfl rfl rfl (fun hg => ?_) (fun hg => ?_) | refine AL_gnot rfl rfl rfl (fun hg => ?_) (fun hg => ?_) | refine AL_gcases rfl rfl rfl (fun hg => ?_) (fun hg => ?_)))
 exact ⟨_,_,rfl,rfl,by rw [idxFrom_ge _ _ _ (Int.le_refl _)]⟩
theorem c165 (L : List Int) (g : Nat) (caps : List PV) (p : Int -> Bool) (hL : L.length <= 1000) (hp : ∀ x ∈ L,ACalls Tryz.prog g ([vi x] ++ caps) (fun r => r = .pv (.bool (p x)))) :
  ACalls Tryz.prog 165 [.sl (L.map eInt),.fn g caps] (fun r => r = .pv (vi (idxFrom p L 0))):= by
 refine ACalls.of_body hT Tryz.func165 rfl (by kernel_rfl) rfl ?_
 (repeat (refine stp ?_))
 refine AW_loopC (fun k : Nat => k <= L.length /\ idxFrom p L 0 = idxFrom p (L.drop k) k) (fun k => mkSt [(0,.pv (.sl (L.map eInt))),(1,.pv (.fn g caps)),(7,.pv (vi L.length)),(8,.pv (vi k))] [] 0) (fun k => L.length - k) 0 ⟨Nat.zero_le _,rfl⟩ ?_ ?_
 ·exact Le.mk ⟨rfl,rfl,rfl,rfl,rfl,rfl,rfl,rfl,trivial⟩ trivial
 ·rintro k ⟨hk,hi⟩
  (repeat (refine stp ?_))
  refine AW_cond rfl (fun hc => ?_) (fun hc => ?_)
  ·have hk' : k < L.length := by simpa using hc
   obtain ⟨x,hx⟩ : ∃ x,L[k]? = some x := ⟨L[k],by simp [hk']⟩
   have e1 := get_map eInt hx
   have hxm := List.mem_of_getElem? hx
   rw [idxFrom_drop p hx] at hi
   (repeat (refine stp ?_))
   refine AL_do rfl (op_call1 rfl rfl rfl rfl (hp x hxm)) ?_
   (repeat (refine stp ?_))
   refine AW_cond rfl (fun hc2 => ?_) (fun hc2 => ?_)
   ·rw [hc2] at hi
    (repeat (refine stp ?_))
    exact ⟨_,_,rfl,rfl,by rw [hi]; rfl⟩
   ·rw [hc2] at hi
    (repeat (refine stp ?_))
    exact ⟨k + 1,⟨hk',by rw [hi]; simp⟩,by omega,Le.mk ⟨rfl,rfl,rfl,rfl,rfl,rfl,rfl,rfl,trivial⟩ trivial⟩
  ·have hk' : k = L.length := by simp at hc; omega
   subst hk'
   (repeat (refine stp ?_))
   refine ⟨_,_,rfl,rfl,?_⟩
   rw [hi]; simp [idxFrom]
theorem c115 (L : List Int) (g : Nat) (caps : List PV) (p : Int -> Bool) (hL : L.length <= 1000) (hp : ∀ x ∈ L,ACalls Tryz.prog g ([vi x] ++ caps) (fun r => r = .pv (.bool (p x)))) :
  ACalls Tryz.prog 115 [.sl (L.map eInt),.fn g caps] (fun r => r = .pv (.bool (L.any p))):= by
 refine ACalls.of_body hT Tryz.func115 rfl (by kernel_rfl) rfl ?_
 (repeat' (first | refine stp ?_ | (refine AL_do2 rfl ?_; first | refine ⟨_,op_call1 rfl rfl rfl rfl (c165 L g caps p hL hp),?_⟩) | refine AL_gdec rfl rfl rfl (fun hg => ?_) (fun hg => ?_) | refine AL_gnot rfl rfl rfl (fun hg => ?_) (fun hg => ?_) | refine AL_gcases rfl rfl rfl (fun hg => ?_) (fun hg => ?_)))
 exact ⟨_,_,rfl,rfl,by rw [idxFrom_ge _ _ _ (Int.le_refl _)]⟩
theorem c174 (L : List Acid) (g : Nat) (caps : List PV) (p : Acid -> Bool) (hL : L.length <= 1000) (hp : ∀ x ∈ L,ACalls Tryz.prog g ([.agg (eAcid x)] ++ caps) (fun r => r = .pv (.bool (p x)))) :
  ACalls Tryz.prog 174 [.sl (L.map eAcid),.fn g caps] (fun r => r = .pv (vi (idxFrom p L 0))):= by
 refine ACalls.of_body hT Tryz.func174 rfl (by kernel_rfl) rfl ?_
 (repeat (refine stp ?_))
 refine AW_loopC (fun k : Nat => k <= L.length /\ idxFrom p L 0 = idxFrom p (L.drop k) k) (fun k => mkSt [(0,.pv (.sl (L.map eAcid))),(1,.pv (.fn g caps)),(7,.pv (vi L.length)),(8,.pv (vi k))] [] 0) (fun k => L.length - k) 0 ⟨Nat.zero_le _,rfl⟩ ?_ ?_
 ·exact Le.mk ⟨rfl,rfl,rfl,rfl,rfl,rfl,rfl,rfl,trivial⟩ trivial
 ·rintro k ⟨hk,hi⟩
  (repeat (refine stp ?_))
  refine AW_cond rfl (fun hc => ?_) (fun hc => ?_)
  ·have hk' : k < L.length := by simpa using hc
   obtain ⟨x,hx⟩ : ∃ x,L[k]? = some x := ⟨L[k],by simp [hk']⟩
   have e1 := get_map eAcid hx
   have hxm := List.mem_of_getElem? hx
   rw [idxFrom_drop p hx] at hi
   (repeat (refine stp ?_))
   refine AL_do rfl (op_call1 rfl rfl rfl rfl (hp x hxm)) ?_
   (repeat (refine stp ?_))
   refine AW_cond rfl (fun hc2 => ?_) (fun hc2 => ?_)
   ·rw [hc2] at hi
    (repeat (refine stp ?_))
    exact ⟨_,_,rfl,rfl,by rw [hi]; rfl⟩
   ·rw [hc2] at hi
    (repeat (refine stp ?_))
    exact ⟨k + 1,⟨hk',by rw [hi]; simp⟩,by omega,Le.mk ⟨rfl,rfl,rfl,rfl,rfl,rfl,rfl,rfl,trivial⟩ trivial⟩
  ·have hk' : k = L.length := by simp at hc; omega
   subst hk'
   (repeat (refine stp ?_))
   refine ⟨_,_,rfl,rfl,?_⟩
   rw [hi]; simp [idxFrom]
theorem c146 (L : List Acid) (g : Nat) (caps : List PV) (p : Acid -> Bool) (hL : L.length <= 1000) (hp : ∀ x ∈ L,ACalls Tryz.prog g ([.agg (eAcid x)] ++ caps) (fun r => r = .pv (.bool (p x)))) :
  ACalls Tryz.prog 146 [.sl (L.map eAcid),.fn g caps] (fun r => r = .pv (.bool (L.any p))):= by
 refine ACalls.of_body hT Tryz.func146 rfl (by kernel_rfl) rfl ?_
 (repeat' (first | refine stp ?_ | (refine AL_do2 rfl ?_; first | refine ⟨_,op_call1 rfl rfl rfl rfl (c174 L g caps p hL hp),?_⟩) | refine AL_gdec rfl rfl rfl (fun hg => ?_) (fun hg => ?_) | refine AL_gnot rfl rfl rfl (fun hg => ?_) (fun hg => ?_) | refine AL_gcases rfl rfl rfl (fun hg => ?_) (fun hg => ?_)))
 exact ⟨_,_,rfl,rfl,by rw [idxFrom_ge _ _ _ (Int.le_refl _)]⟩
theorem c175 (L : List Batch) (g : Nat) (caps : List PV) (p : Batch -> Bool) (hL : L.length <= 1000) (hp : ∀ x ∈ L,ACalls Tryz.prog g ([.agg (eBatch x)] ++ caps) (fun r => r = .pv (.bool (p x)))) :
  ACalls Tryz.prog 175 [.sl (L.map eBatch),.fn g caps] (fun r => r = .pv (vi (idxFrom p L 0))):= by
 refine ACalls.of_body hT Tryz.func175 rfl (by kernel_rfl) rfl ?_
 (repeat (refine stp ?_))
 refine AW_loopC (fun k : Nat => k <= L.length /\ idxFrom p L 0 = idxFrom p (L.drop k) k) (fun k => mkSt [(0,.pv (.sl (L.map eBatch))),(1,.pv (.fn g caps)),(7,.pv (vi L.length)),(8,.pv (vi k))] [] 0) (fun k => L.length - k) 0 ⟨Nat.zero_le _,rfl⟩ ?_ ?_
 ·exact Le.mk ⟨rfl,rfl,rfl,rfl,rfl,rfl,rfl,rfl,trivial⟩ trivial
 ·rintro k ⟨hk,hi⟩
  (repeat (refine stp ?_))
  refine AW_cond rfl (fun hc => ?_) (fun hc => ?_)
  ·have hk' : k < L.length := by simpa using hc
   obtain ⟨x,hx⟩ : ∃ x,L[k]? = some x := ⟨L[k],by simp [hk']⟩
   have e1 := get_map eBatch hx
   have hxm := List.mem_of_getElem? hx
   rw [idxFrom_drop p hx] at hi
   (repeat (refine stp ?_))
   refine AL_do rfl (op_call1 rfl rfl rfl rfl (hp x hxm)) ?_
   (repeat (refine stp ?_))
   refine AW_cond rfl (fun hc2 => ?_) (fun hc2 => ?_)
   ·rw [hc2] at hi
    (repeat (refine stp ?_))
    exact ⟨_,_,rfl,rfl,by rw [hi]; rfl⟩
   ·rw [hc2] at hi
    (repeat (refine stp ?_))
    exact ⟨k + 1,⟨hk',by rw [hi]; simp⟩,by omega,Le.mk ⟨rfl,rfl,rfl,rfl,rfl,rfl,rfl,rfl,trivial⟩ trivial⟩
  ·have hk' : k = L.length := by simp at hc; omega
   subst hk'
   (repeat (refine stp ?_))
   refine ⟨_,_,rfl,rfl,?_⟩
   rw [hi]; simp [idxFrom]
theorem c151 (L : List Batch) (g : Nat) (caps : List PV) (p : Batch -> Bool) (hL : L.length <= 1000) (hp : ∀ x ∈ L,ACalls Tryz.prog g ([.agg (eBatch x)] ++ caps) (fun r => r = .pv (.bool (p x)))) :
  ACalls Tryz.prog 151 [.sl (L.map eBatch),.fn g caps] (fun r => r = .pv (.bool (L.any p))):= by
 refine ACalls.of_body hT Tryz.func151 rfl (by kernel_rfl) rfl ?_
 (repeat' (first | refine stp ?_ | (refine AL_do2 rfl ?_; first | refine ⟨_,op_call1 rfl rfl rfl rfl (c175 L g caps p hL hp),?_⟩) | refine AL_gdec rfl rfl rfl (fun hg => ?_) (fun hg => ?_) | refine AL_gnot rfl rfl rfl (fun hg => ?_) (fun hg => ?_) | refine AL_gcases rfl rfl rfl (fun hg => ?_) (fun hg => ?_)))
 exact ⟨_,_,rfl,rfl,by rw [idxFrom_ge _ _ _ (Int.le_refl _)]⟩
end Go.Abs
namespace Go.Abs
open Go.Proofs
set_option linter.unusedVariables false
set_option linter.unusedSimpArgs false
set_option maxRecDepth 100000
theorem f87 (x lo hi : Int) : ACalls Tryz.prog 87 [vi x,vi lo,vi hi] (fun r => r = .pv (.bool (inB x lo hi))):= by
 refine ACalls.of_body hT Tryz.func87 rfl (by kernel_rfl) rfl ?_
 (repeat' (first | refine stp ?_ | refine AL_gdec rfl rfl rfl (fun hg => ?_) (fun hg => ?_) | refine AL_gnot rfl rfl rfl (fun hg => ?_) (fun hg => ?_) | refine AL_gcases rfl rfl rfl (fun hg => ?_) (fun hg => ?_)))
 all_goals exact ⟨_,_,rfl,rfl,by simp_all [inB]; try omega⟩
theorem f148 (s : Span) (most : Int) : ACalls Tryz.prog 148 [eS s,vi most] (fun r => r = .pv (.bool (spanB s most))):= by
 refine ACalls.of_body hT Tryz.func148 rfl (by kernel_rfl) rfl ?_
 (repeat' (first | refine stp ?_ | refine AL_gdec rfl rfl rfl (fun hg => ?_) (fun hg => ?_) | refine AL_gnot rfl rfl rfl (fun hg => ?_) (fun hg => ?_) | refine AL_gcases rfl rfl rfl (fun hg => ?_) (fun hg => ?_)))
 all_goals exact ⟨_,_,rfl,rfl,by simp_all [spanB]; try omega⟩
theorem f147 (a : Acid) : ACalls Tryz.prog 147 [.agg (eAcid a)] (fun r => r = .pv (.bool (!acidB a))):= by
 refine ACalls.of_body hT Tryz.func147 rfl (by kernel_rfl) rfl ?_
 (repeat' (first | refine stp ?_ | (refine AL_do2 rfl ?_; first | refine ⟨_,op_call1 rfl rfl rfl rfl (f148 a.strength 100),?_⟩ | refine ⟨_,op_call1 rfl rfl rfl rfl (f148 a.fall 20),?_⟩) | refine AL_gdec rfl rfl rfl (fun hg => ?_) (fun hg => ?_) | refine AL_gnot rfl rfl rfl (fun hg => ?_) (fun hg => ?_) | refine AL_gcases rfl rfl rfl (fun hg => ?_) (fun hg => ?_)))
 all_goals exact ⟨_,_,rfl,rfl,by simp_all [acidB]; try omega⟩
theorem f149 (x : Int) : ACalls Tryz.prog 149 [vi x] (fun r => r = .pv (.bool (!inB x 0 100))):= by
 refine ACalls.of_body hT Tryz.func149 rfl (by kernel_rfl) rfl ?_
 (repeat' (first | refine stp ?_ | (refine AL_do2 rfl ?_; first | refine ⟨_,op_call1 rfl rfl rfl rfl (f87 x 0 100),?_⟩) | refine AL_gdec rfl rfl rfl (fun hg => ?_) (fun hg => ?_) | refine AL_gnot rfl rfl rfl (fun hg => ?_) (fun hg => ?_) | refine AL_gcases rfl rfl rfl (fun hg => ?_) (fun hg => ?_)))
 all_goals exact ⟨_,_,rfl,rfl,rfl⟩
theorem f150 (d : Drum) (s : Strip) (hh : 1 <= d.hours /\ d.hours <= 12) : ACalls Tryz.prog 150 [.agg (eStrip s),.ptr (eDrumC d)] (fun r => r = .pv (.bool (!stripB d.hours s))):= by
 refine ACalls.of_body hT Tryz.func150 rfl (by kernel_rfl) rfl ?_
 (repeat' (first | refine stp ?_ | (refine AL_do2 rfl ?_; first | refine ⟨_,op_call1 rfl rfl rfl rfl (f87 s.hour 0 (d.hours - 1)),?_⟩ | refine ⟨_,op_call1 rfl rfl rfl rfl (f87 s.seen 0 2000),?_⟩ | refine ⟨_,op_call1 rfl rfl rfl rfl (f87 s.off 0 50),?_⟩) | refine AL_gdec rfl rfl rfl (fun hg => ?_) (fun hg => ?_) | refine AL_gnot rfl rfl rfl (fun hg => ?_) (fun hg => ?_) | refine AL_gcases rfl rfl rfl (fun hg => ?_) (fun hg => ?_)))
 all_goals exact ⟨_,_,rfl,rfl,by simp_all [stripB]; try omega⟩
theorem f153 (b : Batch) : ACalls Tryz.prog 153 [.agg (eBatch b)] (fun r => r = .pv (.bool (batchB b))):= by
 refine ACalls.of_body hT Tryz.func153 rfl (by kernel_rfl) rfl ?_
 (repeat' (first | refine stp ?_ | (refine AL_do2 rfl ?_; first | refine ⟨_,op_call1 rfl rfl rfl rfl (f87 b.rough 0 1000),?_⟩ | refine ⟨_,op_call1 rfl rfl rfl rfl (f87 b.goal 0 1000),?_⟩ | refine ⟨_,op_call1 rfl rfl rfl rfl (f87 b.thick 0 1000),?_⟩ | refine ⟨_,op_call1 rfl rfl rfl rfl (f87 b.least 0 1000),?_⟩ | refine ⟨_,op_call1 rfl rfl rfl rfl (f87 b.polish 0 100),?_⟩ | refine ⟨_,op_call1 rfl rfl rfl rfl (f87 b.eat 0 100),?_⟩) | refine AL_gdec rfl rfl rfl (fun hg => ?_) (fun hg => ?_) | refine AL_gnot rfl rfl rfl (fun hg => ?_) (fun hg => ?_) | refine AL_gcases rfl rfl rfl (fun hg => ?_) (fun hg => ?_)))
 all_goals exact ⟨_,_,rfl,rfl,by simp_all [batchB]; try omega⟩
theorem f152 (b : Batch) : ACalls Tryz.prog 152 [.agg (eBatch b)] (fun r => r = .pv (.bool (!batchB b))):= by
 refine ACalls.of_body hT Tryz.func152 rfl (by kernel_rfl) rfl ?_
 (repeat' (first | refine stp ?_ | (refine AL_do2 rfl ?_; first | refine ⟨_,op_call1 rfl rfl rfl rfl (f153 b),?_⟩) | refine AL_gdec rfl rfl rfl (fun hg => ?_) (fun hg => ?_) | refine AL_gnot rfl rfl rfl (fun hg => ?_) (fun hg => ?_) | refine AL_gcases rfl rfl rfl (fun hg => ?_) (fun hg => ?_)))
 all_goals exact ⟨_,_,rfl,rfl,rfl⟩
theorem shl_len {n : Nat} (h : inB n 1 4 = true) : shlR .i64 1 n = 2 ^ n /\ shlR .i64 1 n <= 16 /\ 1 <= shlR .i64 1 n:= by
 simp only [inB,Bool.and_eq_true,decide_eq_true_eq] at h
 have h1 : 1 <= n := by omega
 have h2 : n <= 4 := by omega
 match n,h1,h2 with
 | 1,_,_ => decide
 | 2,_,_ => decide
 | 3,_,_ => decide
 | 4,_,_ => decide
def drumOK (d : Drum) : Prop := d.acids.length <= 1000 /\ d.adds.length <= 1000 /\ d.strips.length <= 1000 /\ d.batches.length <= 1000
theorem any_not' {α : Type} (p : α -> Bool) (l : List α) : (l.any fun x => !p x) = !l.all p:= by
 rw [Bool.eq_iff_iff]; simp
set_option maxHeartbeats 4000000 in
theorem f104 (d : Drum) (hd : drumOK d) : ACalls Tryz.prog 104 [eDrum d] (fun r => r = .pv (.bool (drumB d))):= by
 obtain ⟨l1,l2,l3,l4⟩ := hd
 refine ACalls.of_body hT Tryz.func104 rfl (by kernel_rfl) rfl ?_
 cases q1 : inB d.acids.length 1 4 with
 | false =>
  have k1 := f87 d.acids.length 1 4
  rw [q1] at k1
  (repeat (refine stp ?_))
  (repeat' (first | refine DG_next (StepOK.skipU rfl rfl) ?_ | ((refine DG_cmp hT rfl (fun hg => ?_) (fun hg => ?_)) <;> (try (exfalso; omega))) | refine DG_next (D_shl rfl rfl rfl rfl rfl (by omega)) ?_ | refine DG_next (D_shr rfl rfl rfl rfl rfl (by omega)) ?_ | refine sdr ?_ | ((refine DG_callC (D_call rfl rfl rfl rfl rfl (k1)) (fun hg => ?_) (fun hg => ?_)) <;> (try (exfalso; first | contradiction | omega))) | refine DG_next (D_call rfl rfl rfl rfl rfl (k1)) ?_))
  refine DG_end hM (by kernel_rfl) ?_
  (repeat (refine stp ?_))
  exact ⟨_,_,rfl,rfl,by simp [drumB,q1]⟩
 | true =>
  obtain ⟨s1,s2,s3⟩ := shl_len q1
  have k1 := f87 d.acids.length 1 4
  rw [q1] at k1
  have k2 := f87 d.known 1 (shlR .i64 1 d.acids.length - 1)
  have k7 := c146 d.acids 147 [] (fun a => !acidB a) l1 (fun x _ => f147 x)
  have k8 := c115 d.adds 149 [] (fun a => !inB a 0 100) l2 (fun x _ => f149 x)
  have k10 := c151 d.batches 152 [] (fun a => !batchB a) l4 (fun x _ => f152 x)
  have e2 : inB d.known 1 (shlR .i64 1 d.acids.length - 1) = inB d.known 1 (2 ^ d.acids.length - 1) := by rw [s1]
  cases q2 : inB d.known 1 (shlR .i64 1 d.acids.length - 1) with
  | false =>
   rw [q2] at k2
   (repeat (refine stp ?_))
   (repeat' (first | refine DG_next (StepOK.skipU rfl rfl) ?_ | ((refine DG_cmp hT rfl (fun hg => ?_) (fun hg => ?_)) <;> (try (exfalso; omega))) | refine DG_next (D_shl rfl rfl rfl rfl rfl (by omega)) ?_ | refine DG_next (D_shr rfl rfl rfl rfl rfl (by omega)) ?_ | refine sdr ?_ | ((refine DG_callC (D_call rfl rfl rfl rfl rfl (k1)) (fun hg => ?_) (fun hg => ?_)) <;> (try (exfalso; first | contradiction | omega))) | refine DG_next (D_call rfl rfl rfl rfl rfl (k1)) ?_ | ((refine DG_callC (D_call rfl rfl rfl rfl rfl (k2)) (fun hg => ?_) (fun hg => ?_)) <;> (try (exfalso; first | contradiction | omega))) | refine DG_next (D_call rfl rfl rfl rfl rfl (k2)) ?_))
   all_goals refine DG_end hM (by kernel_rfl) ?_
   all_goals (repeat (refine stp ?_))
   all_goals exact ⟨_,_,rfl,rfl,by simp [drumB,q1,<- e2,q2]⟩
  | true =>
   rw [q2] at k2
   cases q3 : inB d.hours 1 12 with
   | false =>
    have k3 := f87 d.hours 1 12
    rw [q3] at k3
    (repeat (refine stp ?_))
    (repeat' (first | refine DG_next (StepOK.skipU rfl rfl) ?_ | ((refine DG_cmp hT rfl (fun hg => ?_) (fun hg => ?_)) <;> (try (exfalso; omega))) | refine DG_next (D_shl rfl rfl rfl rfl rfl (by omega)) ?_ | refine DG_next (D_shr rfl rfl rfl rfl rfl (by omega)) ?_ | refine sdr ?_ | ((refine DG_callC (D_call rfl rfl rfl rfl rfl (k1)) (fun hg => ?_) (fun hg => ?_)) <;> (try (exfalso; first | contradiction | omega))) | refine DG_next (D_call rfl rfl rfl rfl rfl (k1)) ?_ | ((refine DG_callC (D_call rfl rfl rfl rfl rfl (k2)) (fun hg => ?_) (fun hg => ?_)) <;> (try (exfalso; first | contradiction | omega))) | refine DG_next (D_call rfl rfl rfl rfl rfl (k2)) ?_ | ((refine DG_callC (D_call rfl rfl rfl rfl rfl (k3)) (fun hg => ?_) (fun hg => ?_)) <;> (try (exfalso; first | contradiction | omega))) | refine DG_next (D_call rfl rfl rfl rfl rfl (k3)) ?_))
    all_goals refine DG_end hM (by kernel_rfl) ?_
    all_goals (repeat (refine stp ?_))
    all_goals exact ⟨_,_,rfl,rfl,by simp [drumB,q1,q3]⟩
   | true =>
    have k3 := f87 d.hours 1 12
    rw [q3] at k3
    have hh : 1 <= d.hours /\ d.hours <= 12 := by simpa [inB] using q3
    have k6 := f87 d.batches.length 1 5
    have k9 := c95 d.strips 150 [.ptr (eDrumC d)] (fun s => !stripB d.hours s) l3 (fun x _ => f150 d x hh)
    rw [any_not'] at k7 k8 k9 k10
    have e : drumB d = (decide ((d.adds.length : Int) = d.hours) && decide (d.strips.length <= 6) && inB d.batches.length 1 5 && d.acids.all acidB && d.adds.all (fun n => inB n 0 100) && d.strips.all (stripB d.hours) && d.batches.all batchB):= by
     simp only [drumB,q1,<- e2,q2,q3,Bool.true_and]
    rw [e]
    generalize d.acids.all acidB = b7 at *
    generalize (d.adds.all fun n => inB n 0 100) = b8 at *
    generalize d.strips.all (stripB d.hours) = b9 at *
    generalize d.batches.all batchB = b10 at *
    generalize inB d.batches.length 1 5 = b6 at *
    (repeat (refine stp ?_))
    (repeat' (first | refine DG_next (StepOK.skipU rfl rfl) ?_ | ((refine DG_cmp hT rfl (fun hg => ?_) (fun hg => ?_)) <;> (try (exfalso; omega))) | refine DG_next (D_shl rfl rfl rfl rfl rfl (by omega)) ?_ | refine DG_next (D_shr rfl rfl rfl rfl rfl (by omega)) ?_ | refine sdr ?_ | ((refine DG_callC (D_call rfl rfl rfl rfl rfl (k1)) (fun hg => ?_) (fun hg => ?_)) <;> (try (exfalso; first | contradiction | omega))) | refine DG_next (D_call rfl rfl rfl rfl rfl (k1)) ?_ | ((refine DG_callC (D_call rfl rfl rfl rfl rfl (k2)) (fun hg => ?_) (fun hg => ?_)) <;> (try (exfalso; first | contradiction | omega))) | refine DG_next (D_call rfl rfl rfl rfl rfl (k2)) ?_ | ((refine DG_callC (D_call rfl rfl rfl rfl rfl (k3)) (fun hg => ?_) (fun hg => ?_)) <;> (try (exfalso; first | contradiction | omega))) | refine DG_next (D_call rfl rfl rfl rfl rfl (k3)) ?_ | ((refine DG_callC (D_call rfl rfl rfl rfl rfl (k6)) (fun hg => ?_) (fun hg => ?_)) <;> (try (exfalso; first | contradiction | omega))) | refine DG_next (D_call rfl rfl rfl rfl rfl (k6)) ?_ | ((refine DG_callC (D_call rfl rfl rfl rfl rfl (k7)) (fun hg => ?_) (fun hg => ?_)) <;> (try (exfalso; first | contradiction | omega))) | refine DG_next (D_call rfl rfl rfl rfl rfl (k7)) ?_ | ((refine DG_callC (D_call rfl rfl rfl rfl rfl (k8)) (fun hg => ?_) (fun hg => ?_)) <;> (try (exfalso; first | contradiction | omega))) | refine DG_next (D_call rfl rfl rfl rfl rfl (k8)) ?_ | ((refine DG_callC (D_call rfl rfl rfl rfl rfl (k9)) (fun hg => ?_) (fun hg => ?_)) <;> (try (exfalso; first | contradiction | omega))) | refine DG_next (D_call rfl rfl rfl rfl rfl (k9)) ?_ | ((refine DG_callC (D_call rfl rfl rfl rfl rfl (k10)) (fun hg => ?_) (fun hg => ?_)) <;> (try (exfalso; first | contradiction | omega))) | refine DG_next (D_call rfl rfl rfl rfl rfl (k10)) ?_))
    all_goals refine DG_end hM (by kernel_rfl) ?_
    all_goals (repeat' (first | refine stp ?_ | (refine AL_do2 rfl ?_; first | refine ⟨_,op_callB rfl rfl rfl rfl (k9) rfl,?_⟩ | refine ⟨_,op_call1 rfl rfl rfl rfl (k9),?_⟩ | refine ⟨_,op_call1 rfl rfl rfl rfl (k10),?_⟩) | refine AL_gdec rfl rfl rfl (fun hg => ?_) (fun hg => ?_) | refine AL_gnot rfl rfl rfl (fun hg => ?_) (fun hg => ?_) | refine AL_gcases rfl rfl rfl (fun hg => ?_) (fun hg => ?_)))
    all_goals exact ⟨_,_,rfl,rfl,by first | (simp_all; done) | (simp_all; intros; exfalso; omega) | (simp_all; intros; omega) | skip⟩
end Go.Abs
namespace Go.Abs
open Go.Proofs
set_option linter.unusedVariables false
set_option linter.unusedSimpArgs false
set_option maxRecDepth 100000
def w64 (x : Int) : Int := IntKind.u64.wrap x
def mulHi (x y : Int) : Int :=
 let m (a : Int) : Int := andR .u64 a 4294967295
 let h (a : Int) : Int := shrR .u64 a 32
 let t := w64 (w64 (h x * m y) + h (w64 (m x * m y)))
 let w1 := w64 (m t + w64 (m x * h y))
 w64 (w64 (w64 (h x * h y) + h t) + h w1)
theorem f207 (x y : Int) : ACalls Tryz.prog 207 [.int .u64 x,.int .u64 y] (fun r => r = .tup [.int .u64 (mulHi x y),.int .u64 (w64 (x * y))]):= by
 refine ACalls.of_body hT Tryz.func207 rfl (by kernel_rfl) rfl ?_
 (repeat (refine stp ?_))
 exact ⟨_,_,rfl,rfl,rfl⟩
theorem f194 (x y : Int) : ACalls Tryz.prog 194 [.int .u64 x,.int .u64 y] (fun r => r = .tup [.int .u64 (mulHi x y),.int .u64 (w64 (x * y))]):= by
 refine ACalls.of_body hT Tryz.func194 rfl (by kernel_rfl) rfl ?_
 (repeat (refine stp ?_))
 refine AW_cond_cf ?_
 (repeat' (first | refine stp ?_ | (refine AL_do2 rfl ?_; first | refine ⟨_,op_call1 rfl rfl rfl rfl (f207 x y),?_⟩) | refine AL_gdec rfl rfl rfl (fun hg => ?_) (fun hg => ?_) | refine AL_gnot rfl rfl rfl (fun hg => ?_) (fun hg => ?_) | refine AL_gcases rfl rfl rfl (fun hg => ?_) (fun hg => ?_)))
 exact ⟨_,_,rfl,rfl,rfl⟩
theorem mul_small {n : Nat} (h : 1 <= n /\ n <= 12) : mulHi (w64 1) (w64 n) = 0 /\ w64 (w64 1 * w64 n) = n:= by
 rcases n with _ | _ | _ | _ | _ | _ | _ | _ | _ | _ | _ | _ | _ | n <;> first | omega | (exact ⟨by decide,by decide⟩)
theorem f194s {n : Nat} (h : 1 <= n /\ n <= 12) : ACalls Tryz.prog 194 [.int .u64 (w64 1),.int .u64 (w64 n)] (fun r => r = .tup [.int .u64 0,.int .u64 n]):= by
 have := f194 (w64 1) (w64 n)
 rw [(mul_small h).1,(mul_small h).2] at this
 exact this
theorem splice_rep (el zp : List PV) {n k : Nat} (hk : k <= n) (m : Nat) (hm : m = min k (n - k)) :
  splice (List.replicate k el ++ List.replicate (n - k) zp) k ((((List.replicate k el ++ List.replicate (n - k) zp).drop 0).take k).take m) = List.replicate (k + m) el ++ List.replicate (n - (k + m)) zp:= by
 have h1 : ((List.replicate k el ++ List.replicate (n - k) zp).drop 0).take k = List.replicate k el:= by
  rw [List.drop_zero,List.take_append_of_le_length (by simp)]; simp
 rw [h1]
 have h2 : (List.replicate k el).take m = List.replicate m el := by rw [List.take_replicate,Nat.min_eq_left (by omega)]
 rw [h2,splice,List.take_append_of_le_length (by simp),List.length_replicate,List.take_replicate,Nat.min_self,List.drop_append,List.drop_replicate,List.length_replicate,List.drop_replicate,show k - (k + m) = 0 by omega,show n - k - (k + m - k) = n - (k + m) by omega,
  List.replicate_append_replicate,List.replicate_zero,List.nil_append]
theorem splice_first (el zp : List PV) {n : Nat} (h : 1 <= n) : splice (List.replicate n zp) 0 [el] = List.replicate 1 el ++ List.replicate (n - 1) zp:= by
 obtain ⟨m,rfl⟩ : ∃ m,n = m + 1 := ⟨n - 1,by omega⟩
 simp [splice]
set_option maxHeartbeats 4000000 in
theorem f187 (s : Span) (n : Nat) (hn : 1 <= n /\ n <= 12) : ACalls Tryz.prog 187 [eSpans [s],vi n] (fun r => r = .own 67 2 ((List.replicate n s).map eSpan)):= by
 refine ACalls.of_body hT Tryz.func187 rfl (by kernel_rfl) rfl ?_
 (repeat' (first | refine stp ?_ | (refine AL_do2 rfl ?_; first | refine ⟨_,op_call1 rfl rfl rfl rfl (f194s hn),?_⟩) | refine AL_gdec rfl rfl rfl (fun hg => ?_) (fun hg => ?_) | refine AL_gnot rfl rfl rfl (fun hg => ?_) (fun hg => ?_) | refine AL_gcases rfl rfl rfl (fun hg => ?_) (fun hg => ?_)))
 refine AW_if rfl (fun hc2 => by omega) (fun hc2 => ?_)
 have hwr : IntKind.i64.wrap (n : Int) = n := by unfold IntKind.wrap; simp [IntKind.signed,IntKind.bits]; omega
 (repeat (refine stp ?_))
 rw [hwr]
 refine AL_do2 rfl ⟨_,op_makeSlice (n := n) (zp := [vi 0,vi 0]) hT rfl rfl rfl rfl rfl rfl rfl rfl rfl rfl (by omega) rfl,?_⟩
 (repeat (refine stp ?_))
 refine AL_do2 rfl ⟨_,op_copy_pure (t := 30) (id := 0) (m := 1) hT rfl rfl rfl rfl rfl rfl rfl (by decide) rfl rfl rfl (by intro z hz; simp at hz; subst hz; rfl) (by simp; omega) (by omega),?_⟩
 (repeat (refine stp ?_))
 refine AW_arr_sub (t := 7) (n := n) rfl rfl (by rw [splice_length _ _ _ (by simp; omega)]; simp) (by omega) ?_
 refine AW_loopC (fun k : Nat => 1 <= k /\ k <= n) (fun k => mkSt [(7,.sub 0 2 0 n),(8,.pv (vi k))] [(0,.arr 67 2 (List.replicate k (eSpan s) ++ List.replicate (n - k) [vi 0,vi 0]))] 1) (fun k => n - k) 1 ⟨by omega,by omega⟩ ?_ ?_
 ·(refine Le.mkR [(0,0)] ?_ ?_ rfl; all_goals (repeat' (first | exact trivial | refine sle ?_ | refine ⟨?_,rfl,?_⟩ | refine ⟨?_,by decide,rfl,?_⟩ | fail)))
  show some (AObj.arr 67 2 (splice (List.replicate n [vi 0,vi 0]) 0 [eSpan s])) = _
  rw [splice_first _ _ hn.1]; rfl
 ·rintro k ⟨hk1,hk2⟩
  have hlen : (List.replicate k (eSpan s) ++ List.replicate (n - k) [vi 0,vi 0]).length = n := by simp; omega
  (repeat (refine stp ?_))
  refine AL_do2 rfl ⟨_,op_len_sub hT rfl rfl rfl rfl rfl,?_⟩
  (repeat (refine stp ?_))
  refine AW_if rfl (fun hc3 => ?_) (fun hc3 => ?_)
  ·(repeat (refine stp ?_))
   (repeat (refine sdr ?_))
   obtain ⟨m,hm⟩ : ∃ m,m = min k (n - k) := ⟨_,rfl⟩
   refine DG_next (D_slice_sub (lo := k) (hi := n) hT rfl rfl rfl rfl rfl rfl rfl rfl (.inr ⟨_,_,rfl,rfl⟩) (.inl ⟨rfl,rfl⟩) (by omega) (by omega) (by omega)) ?_
   (repeat (refine sdr ?_))
   refine DG_next (D_slice_sub (lo := 0) (hi := k) hT rfl rfl rfl rfl rfl rfl rfl rfl (.inl ⟨rfl,rfl⟩) (.inr ⟨_,_,rfl,rfl⟩) (by omega) (by omega) (by omega)) ?_
   (repeat (refine sdr ?_))
   refine DG_next (D_copy_sub (t := 30) (id := 0) (sz := 2) (lo := k) (n := n - k) (lo2 := 0) (n2 := k) (m := m) hT rfl rfl rfl rfl rfl rfl rfl rfl (by decide) rfl rfl rfl hm (by omega) (by omega) (by omega)) ?_
   rw [splice_rep _ _ hk2 m hm]
   (repeat (refine sdr ?_))
   refine DG_end hM (by kernel_rfl) ?_
   (repeat (refine stp ?_))
   refine ⟨k + m,⟨by omega,by omega⟩,by omega,?_⟩
   (refine Le.mkR [(0,0)] ?_ ?_ rfl; all_goals (repeat' (first | exact trivial | refine sle ?_ | refine ⟨?_,rfl,?_⟩ | refine ⟨?_,by decide,rfl,?_⟩ | fail)))
  ·have hkn : k = n := by omega
   subst hkn
   refine AW_sub_arr (t := 7) rfl rfl hlen ?_
   (repeat (refine stp ?_))
   exact ⟨_,_,rfl,rfl,by simp⟩
end Go.Abs
namespace Go.Abs
open Go.Proofs
set_option linter.unusedVariables false
set_option linter.unusedSimpArgs false
set_option maxRecDepth 100000
def bitI (set : Int) (i : Nat) : Bool := decide (andR .i64 (shrR .i64 set i) 1 = 1)
theorem f145 (set : Int) (n : Nat) : ACalls Tryz.prog 145 [vi set,vi n] (fun r => r = .pv (.bool (bitI set n))):= by
 refine ACalls.of_body hT Tryz.func145 rfl (by kernel_rfl) rfl ?_
 (repeat' (first | refine stq ?_ | (with_reducible refine AL_id ?_); (fail_if_success (refine AL_glit rfl rfl rfl (by first | exact .inl (by with_reducible rfl) | exact .inr (by with_reducible rfl)) ?_)); first | refine AL_gdec rfl rfl rfl (fun hg => ?_) (fun hg => ?_) | refine AL_gnot rfl rfl rfl (fun hg => ?_) (fun hg => ?_) | refine AL_gcases rfl rfl rfl (fun hg => ?_) (fun hg => ?_)))
 exact ⟨_,_,rfl,rfl,rfl⟩
def sizedB (d : Drum) (acid : Int) (t : List Int) : Bool := inB acid 0 (d.acids.length - 1) && decide ((t.length : Int) = d.hours)
theorem f188 (hour : Int) (a b : Span) : ACallsB Tryz.prog 188 [vi hour,eS a,eS b] (fun r => (common a b).low <= (common a b).high /\ r = .pv (eS (common a b))) (fun c => (common a b).low > (common a b).high /\ c = (175,.agg #[.int .i64 hour])):= by
 refine ACallsB.of_body hT Tryz.func188 rfl (by kernel_rfl) rfl ?_
 (repeat (refine stq ?_))
 refine AW_if rfl (fun hc => ?_) (fun hc => ?_)
 ·(repeat (refine stq ?_))
  refine AL_do2 rfl ⟨_,op_mkiface hT rfl rfl rfl rfl rfl,?_⟩
  refine AL_panicV rfl rfl rfl rfl ?_
  (repeat (first | refine then_panic ?_ | refine inblk_panic ?_))
  exact ⟨_,⟨hc,rfl⟩,rfl⟩
 ·(repeat (refine stq ?_))
  exact ⟨_,_,rfl,rfl,by simpa [common] using hc,rfl⟩
end Go.Abs
namespace Go.Abs
open Go.Proofs
set_option linter.unusedVariables false
set_option linter.unusedSimpArgs false
set_option maxRecDepth 100000
theorem common_ok {hour : Int} {a b : Span} (h : (common a b).low <= (common a b).high) : ACalls Tryz.prog 188 [vi hour,eS a,eS b] (fun r => r = .pv (eS (common a b))) :=
 (ACallsB.mono (f188 hour a b) (fun r hr => hr.2) (fun c hc => by have := hc.1; omega)).calm
theorem common_dies {hour : Int} {a b : Span} (h : (common a b).low > (common a b).high) : ACallsP Tryz.prog 188 [vi hour,eS a,eS b] (175,.agg #[.int .i64 hour]) :=
 ACallsB.dies (ACallsB.mono (f188 hour a b) (fun r hr => by have := hr.1; omega) (fun c hc => hc.2)) (fun c hc => hc)
theorem f169 (acid : Int) (t : List Int) (n : Int) (s : Strip) (hs : StripP n s) (hn : n <= 12) (ht : (t.length : Int) = n) : ACalls Tryz.prog 169 [.agg (eStrip s),.ptr [vi acid,eInts t]] (fun r => r = .pv (.bool (!seenB t s))):= by
 have := hs.h0; have := hs.h1; have := hs.s0; have := hs.s1; have := hs.o0; have := hs.o1
 obtain ⟨x,hx⟩ : ∃ x,t[s.hour.toNat]? = some x := ⟨t[s.hour.toNat]'(by omega),by simp⟩
 have e1 := get_map eInt hx
 have e2 : seenB t s = inB x (s.seen - s.off) (s.seen + s.off) := by unfold seenB; rw [List.getD_eq_getElem?_getD,hx]; rfl
 rw [e2]
 refine ACalls.of_body hT Tryz.func169 rfl (by kernel_rfl) rfl ?_
 (repeat (refine stq ?_))
 (repeat (first | refine sdq ?_ | refine DG_next (D_call rfl rfl rfl rfl rfl (f87 x (s.seen - s.off) (s.seen + s.off))) ?_))
 refine DG_end hM (by kernel_rfl) ?_
 (repeat (refine stq ?_))
 exact ⟨_,_,rfl,rfl,rfl⟩
end Go.Abs
