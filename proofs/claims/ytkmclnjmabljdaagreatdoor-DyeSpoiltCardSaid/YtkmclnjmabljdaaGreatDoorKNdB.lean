/- slices.IndexFunc and slices.ContainsFunc, at each type at which the program has them. -/
import Derived.Test.YtkmclnjmabljdaaGreatDoorKNdA
set_option linter.unusedVariables false
set_option linter.unusedSimpArgs false
namespace Go.Abs
open Go.Proofs
set_option linter.unusedVariables false
set_option maxRecDepth 100000
def idxFrom {α : Type} (p : α -> Bool) : List α -> Int -> Int
 | [],_ => -1
 | x :: l,i => if p x then i else idxFrom p l (i + 1)
theorem idxFrom_ge {α : Type} (p : α -> Bool) : ∀ (l : List α) (i : Int),0 <= i -> (decide (idxFrom p l i >= 0)) = l.any p
 | [],i,_ => by simp [idxFrom]
 | x :: l,i,h => by
  unfold idxFrom
  cases hp : p x with
  | true => simp [hp,h]
  | false => simp [hp,idxFrom_ge p l (i + 1) (by omega)]
theorem idxFrom_drop {α : Type} (p : α -> Bool) {l : List α} {k : Nat} {x : α} (h : l[k]? = some x) (i : Int) : idxFrom p (l.drop k) i = if p x then i else idxFrom p (l.drop (k + 1)) (i + 1):= by
 have hk : k < l.length := (List.getElem?_eq_some_iff.1 h).1
 have hx : l[k] = x := (List.getElem?_eq_some_iff.1 h).2
 rw [List.drop_eq_getElem_cons hk,hx]; rfl
theorem c172 (L : List (List Int)) (g : Nat) (caps : List PV) (p : (List Int) -> Bool) (hL : L.length <= 1000) (hp : ∀ x ∈ L,ACalls Tryz.prog g ([eLamp x] ++ caps) (fun r => r = .pv (.bool (p x)))) :
  ACalls Tryz.prog 172 [.sl (L.map eLampC),.fn g caps] (fun r => r = .pv (vi (idxFrom p L 0))):= by
 refine ACalls.of_body hT Tryz.func172 rfl (by kernel_rfl) rfl ?_
 (repeat (refine stp ?_))
 refine AW_loopC (fun k : Nat => k <= L.length /\ idxFrom p L 0 = idxFrom p (L.drop k) k) (fun k => mkSt [(0,.pv (.sl (L.map eLampC))),(1,.pv (.fn g caps)),(7,.pv (vi L.length)),(8,.pv (vi k))] [] 0) (fun k => L.length - k) 0 ⟨Nat.zero_le _,rfl⟩ ?_ ?_
 ·exact Le.mk ⟨rfl,rfl,rfl,rfl,rfl,rfl,rfl,rfl,trivial⟩ trivial
 ·rintro k ⟨hk,hi⟩
  (repeat (refine stp ?_))
  refine AW_cond rfl (fun hc => ?_) (fun hc => ?_)
  ·have hk' : k < L.length := by simpa using hc
   obtain ⟨x,hx⟩ : ∃ x,L[k]? = some x := ⟨L[k],by simp [hk']⟩
   have e1 := get_map eLampC hx
   have hxm := List.mem_of_getElem? hx
   rw [idxFrom_drop p hx] at hi
   (repeat (refine stp ?_))
   refine AL_do rfl (op_call1 rfl rfl rfl rfl (hp x hxm)) ?_
   (repeat (refine stp ?_))
   refine AW_cond rfl (fun hc2 => ?_) (fun hc2 => ?_)
   ·rw [hc2] at hi
    (repeat (refine stp ?_))
    exact ⟨_,_,rfl,rfl,by rw [hi]; rfl⟩
   ·rw [hc2] at hi
    (repeat (refine stp ?_))
    exact ⟨k + 1,⟨hk',by rw [hi]; simp⟩,by omega,Le.mk ⟨rfl,rfl,rfl,rfl,rfl,rfl,rfl,rfl,trivial⟩ trivial⟩
  ·have hk' : k = L.length := by simp at hc; omega
   subst hk'
   (repeat (refine stp ?_))
   refine ⟨_,_,rfl,rfl,?_⟩
   rw [hi]; simp [idxFrom]
theorem c114 (L : List (List Int)) (g : Nat) (caps : List PV) (p : (List Int) -> Bool) (hL : L.length <= 1000) (hp : ∀ x ∈ L,ACalls Tryz.prog g ([eLamp x] ++ caps) (fun r => r = .pv (.bool (p x)))) :
  ACalls Tryz.prog 114 [.sl (L.map eLampC),.fn g caps] (fun r => r = .pv (.bool (L.any p))):= by
 refine ACalls.of_body hT Tryz.func114 rfl (by kernel_rfl) rfl ?_
 (repeat' (first | refine stp ?_ | (refine AL_do2 rfl ?_; first | refine ⟨_,op_call1 rfl rfl rfl rfl (c172 L g caps p hL hp),?_⟩) | refine AL_gdec rfl rfl rfl (fun hg => ?_) (fun hg => ?_) | refine AL_gnot rfl rfl rfl (fun hg => ?_) (fun hg => ?_) | refine AL_gcases rfl rfl rfl (fun hg => ?_) (fun hg => ?_)))
 exact ⟨_,_,rfl,rfl,by rw [idxFrom_ge _ _ _ (Int.le_refl _)]⟩
theorem c187 (L : List Int) (g : Nat) (caps : List PV) (p : Int -> Bool) (hL : L.length <= 1000) (hp : ∀ x ∈ L,ACalls Tryz.prog g ([vi x] ++ caps) (fun r => r = .pv (.bool (p x)))) :
  ACalls Tryz.prog 187 [.sl (L.map eInt),.fn g caps] (fun r => r = .pv (vi (idxFrom p L 0))):= by
 refine ACalls.of_body hT Tryz.func187 rfl (by kernel_rfl) rfl ?_
 (repeat (refine stp ?_))
 refine AW_loopC (fun k : Nat => k <= L.length /\ idxFrom p L 0 = idxFrom p (L.drop k) k) (fun k => mkSt [(0,.pv (.sl (L.map eInt))),(1,.pv (.fn g caps)),(7,.pv (vi L.length)),(8,.pv (vi k))] [] 0) (fun k => L.length - k) 0 ⟨Nat.zero_le _,rfl⟩ ?_ ?_
 ·exact Le.mk ⟨rfl,rfl,rfl,rfl,rfl,rfl,rfl,rfl,trivial⟩ trivial
 ·rintro k ⟨hk,hi⟩
  (repeat (refine stp ?_))
  refine AW_cond rfl (fun hc => ?_) (fun hc => ?_)
  ·have hk' : k < L.length := by simpa using hc
   obtain ⟨x,hx⟩ : ∃ x,L[k]? = some x := ⟨L[k],by simp [hk']⟩
   have e1 := get_map eInt hx
   have hxm := List.mem_of_getElem? hx
   rw [idxFrom_drop p hx] at hi
   (repeat (refine stp ?_))
   refine AL_do rfl (op_call1 rfl rfl rfl rfl (hp x hxm)) ?_
   (repeat (refine stp ?_))
   refine AW_cond rfl (fun hc2 => ?_) (fun hc2 => ?_)
   ·rw [hc2] at hi
    (repeat (refine stp ?_))
    exact ⟨_,_,rfl,rfl,by rw [hi]; rfl⟩
   ·rw [hc2] at hi
    (repeat (refine stp ?_))
    exact ⟨k + 1,⟨hk',by rw [hi]; simp⟩,by omega,Le.mk ⟨rfl,rfl,rfl,rfl,rfl,rfl,rfl,rfl,trivial⟩ trivial⟩
  ·have hk' : k = L.length := by simp at hc; omega
   subst hk'
   (repeat (refine stp ?_))
   refine ⟨_,_,rfl,rfl,?_⟩
   rw [hi]; simp [idxFrom]
theorem c142 (L : List Int) (g : Nat) (caps : List PV) (p : Int -> Bool) (hL : L.length <= 1000) (hp : ∀ x ∈ L,ACalls Tryz.prog g ([vi x] ++ caps) (fun r => r = .pv (.bool (p x)))) :
  ACalls Tryz.prog 142 [.sl (L.map eInt),.fn g caps] (fun r => r = .pv (.bool (L.any p))):= by
 refine ACalls.of_body hT Tryz.func142 rfl (by kernel_rfl) rfl ?_
 (repeat' (first | refine stp ?_ | (refine AL_do2 rfl ?_; first | refine ⟨_,op_call1 rfl rfl rfl rfl (c187 L g caps p hL hp),?_⟩) | refine AL_gdec rfl rfl rfl (fun hg => ?_) (fun hg => ?_) | refine AL_gnot rfl rfl rfl (fun hg => ?_) (fun hg => ?_) | refine AL_gcases rfl rfl rfl (fun hg => ?_) (fun hg => ?_)))
 exact ⟨_,_,rfl,rfl,by rw [idxFrom_ge _ _ _ (Int.le_refl _)]⟩
theorem c206 (L : List Dye) (g : Nat) (caps : List PV) (p : Dye -> Bool) (hL : L.length <= 1000) (hp : ∀ x ∈ L,ACalls Tryz.prog g ([.agg (eDye x)] ++ caps) (fun r => r = .pv (.bool (p x)))) :
  ACalls Tryz.prog 206 [.sl (L.map eDye),.fn g caps] (fun r => r = .pv (vi (idxFrom p L 0))):= by
 refine ACalls.of_body hT Tryz.func206 rfl (by kernel_rfl) rfl ?_
 (repeat (refine stp ?_))
 refine AW_loopC (fun k : Nat => k <= L.length /\ idxFrom p L 0 = idxFrom p (L.drop k) k) (fun k => mkSt [(0,.pv (.sl (L.map eDye))),(1,.pv (.fn g caps)),(7,.pv (vi L.length)),(8,.pv (vi k))] [] 0) (fun k => L.length - k) 0 ⟨Nat.zero_le _,rfl⟩ ?_ ?_
 ·exact Le.mk ⟨rfl,rfl,rfl,rfl,rfl,rfl,rfl,rfl,trivial⟩ trivial
 ·rintro k ⟨hk,hi⟩
  (repeat (refine stp ?_))
  refine AW_cond rfl (fun hc => ?_) (fun hc => ?_)
  ·have hk' : k < L.length := by simpa using hc
   obtain ⟨x,hx⟩ : ∃ x,L[k]? = some x := ⟨L[k],by simp [hk']⟩
   have e1 := get_map eDye hx
   have hxm := List.mem_of_getElem? hx
   rw [idxFrom_drop p hx] at hi
   (repeat (refine stp ?_))
   refine AL_do rfl (op_call1 rfl rfl rfl rfl (hp x hxm)) ?_
   (repeat (refine stp ?_))
   refine AW_cond rfl (fun hc2 => ?_) (fun hc2 => ?_)
   ·rw [hc2] at hi
    (repeat (refine stp ?_))
    exact ⟨_,_,rfl,rfl,by rw [hi]; rfl⟩
   ·rw [hc2] at hi
    (repeat (refine stp ?_))
    exact ⟨k + 1,⟨hk',by rw [hi]; simp⟩,by omega,Le.mk ⟨rfl,rfl,rfl,rfl,rfl,rfl,rfl,rfl,trivial⟩ trivial⟩
  ·have hk' : k = L.length := by simp at hc; omega
   subst hk'
   (repeat (refine stp ?_))
   refine ⟨_,_,rfl,rfl,?_⟩
   rw [hi]; simp [idxFrom]
theorem c163 (L : List Dye) (g : Nat) (caps : List PV) (p : Dye -> Bool) (hL : L.length <= 1000) (hp : ∀ x ∈ L,ACalls Tryz.prog g ([.agg (eDye x)] ++ caps) (fun r => r = .pv (.bool (p x)))) :
  ACalls Tryz.prog 163 [.sl (L.map eDye),.fn g caps] (fun r => r = .pv (.bool (L.any p))):= by
 refine ACalls.of_body hT Tryz.func163 rfl (by kernel_rfl) rfl ?_
 (repeat' (first | refine stp ?_ | (refine AL_do2 rfl ?_; first | refine ⟨_,op_call1 rfl rfl rfl rfl (c206 L g caps p hL hp),?_⟩) | refine AL_gdec rfl rfl rfl (fun hg => ?_) (fun hg => ?_) | refine AL_gnot rfl rfl rfl (fun hg => ?_) (fun hg => ?_) | refine AL_gcases rfl rfl rfl (fun hg => ?_) (fun hg => ?_)))
 exact ⟨_,_,rfl,rfl,by rw [idxFrom_ge _ _ _ (Int.le_refl _)]⟩
theorem c207 (L : List Span) (g : Nat) (caps : List PV) (p : Span -> Bool) (hL : L.length <= 1000) (hp : ∀ x ∈ L,ACalls Tryz.prog g ([.agg (eSpan x)] ++ caps) (fun r => r = .pv (.bool (p x)))) :
  ACalls Tryz.prog 207 [.sl (L.map eSpan),.fn g caps] (fun r => r = .pv (vi (idxFrom p L 0))):= by
 refine ACalls.of_body hT Tryz.func207 rfl (by kernel_rfl) rfl ?_
 (repeat (refine stp ?_))
 refine AW_loopC (fun k : Nat => k <= L.length /\ idxFrom p L 0 = idxFrom p (L.drop k) k) (fun k => mkSt [(0,.pv (.sl (L.map eSpan))),(1,.pv (.fn g caps)),(7,.pv (vi L.length)),(8,.pv (vi k))] [] 0) (fun k => L.length - k) 0 ⟨Nat.zero_le _,rfl⟩ ?_ ?_
 ·exact Le.mk ⟨rfl,rfl,rfl,rfl,rfl,rfl,rfl,rfl,trivial⟩ trivial
 ·rintro k ⟨hk,hi⟩
  (repeat (refine stp ?_))
  refine AW_cond rfl (fun hc => ?_) (fun hc => ?_)
  ·have hk' : k < L.length := by simpa using hc
   obtain ⟨x,hx⟩ : ∃ x,L[k]? = some x := ⟨L[k],by simp [hk']⟩
   have e1 := get_map eSpan hx
   have hxm := List.mem_of_getElem? hx
   rw [idxFrom_drop p hx] at hi
   (repeat (refine stp ?_))
   refine AL_do rfl (op_call1 rfl rfl rfl rfl (hp x hxm)) ?_
   (repeat (refine stp ?_))
   refine AW_cond rfl (fun hc2 => ?_) (fun hc2 => ?_)
   ·rw [hc2] at hi
    (repeat (refine stp ?_))
    exact ⟨_,_,rfl,rfl,by rw [hi]; rfl⟩
   ·rw [hc2] at hi
    (repeat (refine stp ?_))
    exact ⟨k + 1,⟨hk',by rw [hi]; simp⟩,by omega,Le.mk ⟨rfl,rfl,rfl,rfl,rfl,rfl,rfl,rfl,trivial⟩ trivial⟩
  ·have hk' : k = L.length := by simp at hc; omega
   subst hk'
   (repeat (refine stp ?_))
   refine ⟨_,_,rfl,rfl,?_⟩
   rw [hi]; simp [idxFrom]
theorem c165 (L : List Span) (g : Nat) (caps : List PV) (p : Span -> Bool) (hL : L.length <= 1000) (hp : ∀ x ∈ L,ACalls Tryz.prog g ([.agg (eSpan x)] ++ caps) (fun r => r = .pv (.bool (p x)))) :
  ACalls Tryz.prog 165 [.sl (L.map eSpan),.fn g caps] (fun r => r = .pv (.bool (L.any p))):= by
 refine ACalls.of_body hT Tryz.func165 rfl (by kernel_rfl) rfl ?_
 (repeat' (first | refine stp ?_ | (refine AL_do2 rfl ?_; first | refine ⟨_,op_call1 rfl rfl rfl rfl (c207 L g caps p hL hp),?_⟩) | refine AL_gdec rfl rfl rfl (fun hg => ?_) (fun hg => ?_) | refine AL_gnot rfl rfl rfl (fun hg => ?_) (fun hg => ?_) | refine AL_gcases rfl rfl rfl (fun hg => ?_) (fun hg => ?_)))
 exact ⟨_,_,rfl,rfl,by rw [idxFrom_ge _ _ _ (Int.le_refl _)]⟩
theorem c208 (L : List Bath) (g : Nat) (caps : List PV) (p : Bath -> Bool) (hL : L.length <= 1000) (hp : ∀ x ∈ L,ACalls Tryz.prog g ([.agg (eBath x)] ++ caps) (fun r => r = .pv (.bool (p x)))) :
  ACalls Tryz.prog 208 [.sl (L.map eBath),.fn g caps] (fun r => r = .pv (vi (idxFrom p L 0))):= by
 refine ACalls.of_body hT Tryz.func208 rfl (by kernel_rfl) rfl ?_
 (repeat (refine stp ?_))
 refine AW_loopC (fun k : Nat => k <= L.length /\ idxFrom p L 0 = idxFrom p (L.drop k) k) (fun k => mkSt [(0,.pv (.sl (L.map eBath))),(1,.pv (.fn g caps)),(7,.pv (vi L.length)),(8,.pv (vi k))] [] 0) (fun k => L.length - k) 0 ⟨Nat.zero_le _,rfl⟩ ?_ ?_
 ·exact Le.mk ⟨rfl,rfl,rfl,rfl,rfl,rfl,rfl,rfl,trivial⟩ trivial
 ·rintro k ⟨hk,hi⟩
  (repeat (refine stp ?_))
  refine AW_cond rfl (fun hc => ?_) (fun hc => ?_)
  ·have hk' : k < L.length := by simpa using hc
   obtain ⟨x,hx⟩ : ∃ x,L[k]? = some x := ⟨L[k],by simp [hk']⟩
   have e1 := get_map eBath hx
   have hxm := List.mem_of_getElem? hx
   rw [idxFrom_drop p hx] at hi
   (repeat (refine stp ?_))
   refine AL_do rfl (op_call1 rfl rfl rfl rfl (hp x hxm)) ?_
   (repeat (refine stp ?_))
   refine AW_cond rfl (fun hc2 => ?_) (fun hc2 => ?_)
   ·rw [hc2] at hi
    (repeat (refine stp ?_))
    exact ⟨_,_,rfl,rfl,by rw [hi]; rfl⟩
   ·rw [hc2] at hi
    (repeat (refine stp ?_))
    exact ⟨k + 1,⟨hk',by rw [hi]; simp⟩,by omega,Le.mk ⟨rfl,rfl,rfl,rfl,rfl,rfl,rfl,rfl,trivial⟩ trivial⟩
  ·have hk' : k = L.length := by simp at hc; omega
   subst hk'
   (repeat (refine stp ?_))
   refine ⟨_,_,rfl,rfl,?_⟩
   rw [hi]; simp [idxFrom]
theorem c168 (L : List Bath) (g : Nat) (caps : List PV) (p : Bath -> Bool) (hL : L.length <= 1000) (hp : ∀ x ∈ L,ACalls Tryz.prog g ([.agg (eBath x)] ++ caps) (fun r => r = .pv (.bool (p x)))) :
  ACalls Tryz.prog 168 [.sl (L.map eBath),.fn g caps] (fun r => r = .pv (.bool (L.any p))):= by
 refine ACalls.of_body hT Tryz.func168 rfl (by kernel_rfl) rfl ?_
 (repeat' (first | refine stp ?_ | (refine AL_do2 rfl ?_; first | refine ⟨_,op_call1 rfl rfl rfl rfl (c208 L g caps p hL hp),?_⟩) | refine AL_gdec rfl rfl rfl (fun hg => ?_) (fun hg => ?_) | refine AL_gnot rfl rfl rfl (fun hg => ?_) (fun hg => ?_) | refine AL_gcases rfl rfl rfl (fun hg => ?_) (fun hg => ?_)))
 exact ⟨_,_,rfl,rfl,by rw [idxFrom_ge _ _ _ (Int.le_refl _)]⟩
theorem c214 (L : List Stock) (g : Nat) (caps : List PV) (p : Stock -> Bool) (hL : L.length <= 1000) (hp : ∀ x ∈ L,ACalls Tryz.prog g ([.agg (eStock x)] ++ caps) (fun r => r = .pv (.bool (p x)))) :
  ACalls Tryz.prog 214 [.sl (L.map eStock),.fn g caps] (fun r => r = .pv (vi (idxFrom p L 0))):= by
 refine ACalls.of_body hT Tryz.func214 rfl (by kernel_rfl) rfl ?_
 (repeat (refine stp ?_))
 refine AW_loopC (fun k : Nat => k <= L.length /\ idxFrom p L 0 = idxFrom p (L.drop k) k) (fun k => mkSt [(0,.pv (.sl (L.map eStock))),(1,.pv (.fn g caps)),(7,.pv (vi L.length)),(8,.pv (vi k))] [] 0) (fun k => L.length - k) 0 ⟨Nat.zero_le _,rfl⟩ ?_ ?_
 ·exact Le.mk ⟨rfl,rfl,rfl,rfl,rfl,rfl,rfl,rfl,trivial⟩ trivial
 ·rintro k ⟨hk,hi⟩
  (repeat (refine stp ?_))
  refine AW_cond rfl (fun hc => ?_) (fun hc => ?_)
  ·have hk' : k < L.length := by simpa using hc
   obtain ⟨x,hx⟩ : ∃ x,L[k]? = some x := ⟨L[k],by simp [hk']⟩
   have e1 := get_map eStock hx
   have hxm := List.mem_of_getElem? hx
   rw [idxFrom_drop p hx] at hi
   (repeat (refine stp ?_))
   refine AL_do rfl (op_call1 rfl rfl rfl rfl (hp x hxm)) ?_
   (repeat (refine stp ?_))
   refine AW_cond rfl (fun hc2 => ?_) (fun hc2 => ?_)
   ·rw [hc2] at hi
    (repeat (refine stp ?_))
    exact ⟨_,_,rfl,rfl,by rw [hi]; rfl⟩
   ·rw [hc2] at hi
    (repeat (refine stp ?_))
    exact ⟨k + 1,⟨hk',by rw [hi]; simp⟩,by omega,Le.mk ⟨rfl,rfl,rfl,rfl,rfl,rfl,rfl,rfl,trivial⟩ trivial⟩
  ·have hk' : k = L.length := by simp at hc; omega
   subst hk'
   (repeat (refine stp ?_))
   refine ⟨_,_,rfl,rfl,?_⟩
   rw [hi]; simp [idxFrom]
theorem c180 (L : List Stock) (g : Nat) (caps : List PV) (p : Stock -> Bool) (hL : L.length <= 1000) (hp : ∀ x ∈ L,ACalls Tryz.prog g ([.agg (eStock x)] ++ caps) (fun r => r = .pv (.bool (p x)))) :
  ACalls Tryz.prog 180 [.sl (L.map eStock),.fn g caps] (fun r => r = .pv (.bool (L.any p))):= by
 refine ACalls.of_body hT Tryz.func180 rfl (by kernel_rfl) rfl ?_
 (repeat' (first | refine stp ?_ | (refine AL_do2 rfl ?_; first | refine ⟨_,op_call1 rfl rfl rfl rfl (c214 L g caps p hL hp),?_⟩) | refine AL_gdec rfl rfl rfl (fun hg => ?_) (fun hg => ?_) | refine AL_gnot rfl rfl rfl (fun hg => ?_) (fun hg => ?_) | refine AL_gcases rfl rfl rfl (fun hg => ?_) (fun hg => ?_)))
 exact ⟨_,_,rfl,rfl,by rw [idxFrom_ge _ _ _ (Int.le_refl _)]⟩
end Go.Abs
namespace Go.Abs
open Go.Proofs
set_option linter.unusedVariables false
set_option maxRecDepth 100000
def inB (x lo hi : Int) : Bool := decide (lo <= x) && decide (x <= hi)
def isSpanB (s : Span) (lo hi d : Int) : Bool := decide (lo <= s.low) && decide (s.low <= s.high) && decide (s.high <= hi) && decide (s.high - s.low <= d)
def isDyeB (d : Dye) : Bool := decide (d.takes.length = 3) && inB d.full 0 100 && !d.takes.any (fun s => !isSpanB s 0 20 2)
def isHouseB (h : List Dye) : Bool := inB h.length 1 3 && !h.any (fun d => !isDyeB d)
def isBathB (n : Int) (b : Bath) : Bool := inB b.dye 0 (n - 1) && inB b.temper 0 2 && isSpanB b.hours 0 12 2
def isBatchB (h : List Dye) (l : List Bath) : Bool := decide (l.length <= 3) && !l.any (fun b => !isBathB h.length b)
def isLampB (h : List Dye) (l : List Int) : Bool := decide (l.length = h.length) && !l.any (fun x => !inB x (-9) 9)
def isEyeB (s : Span) : Bool := isSpanB s 0 200 4
def isWishB (s : Span) : Bool := isSpanB s (-3000) 3000 6000
def isCoatB (h : List Dye) (c : Coat) : Bool := inB c.lamps.length 1 3 && !c.lamps.any (fun l => !isLampB h l) && isEyeB c.eye && decide (c.old.length = c.lamps.length) && !c.old.any (fun s => !isWishB s) && inB c.need 1 300
def isStockB (h : List Dye) (s : Stock) : Bool := isBatchB h s.baths && inB s.many 0 99 && inB s.price 0 999
def areStocksB (h : List Dye) (l : List Stock) (lo : Int) : Bool := inB l.length lo 5 && !l.any (fun s => !isStockB h s)
def isSorterB (s : Sorter) : Bool := isEyeB s.eye && inB s.tire 0 9 && inB s.looks.length 1 4 && !s.looks.any (fun s => !isSpanB s (-3000) 3000 6)
theorem f113 (x lo hi : Int) : ACalls Tryz.prog 113 [vi x,vi lo,vi hi] (fun r => r = .pv (.bool (inB x lo hi))):= by
 refine ACalls.of_body hT Tryz.func113 rfl (by kernel_rfl) rfl ?_
 (repeat' (first | refine stp ?_ | refine AL_gdec rfl rfl rfl (fun hg => ?_) (fun hg => ?_) | refine AL_gnot rfl rfl rfl (fun hg => ?_) (fun hg => ?_) | refine AL_gcases rfl rfl rfl (fun hg => ?_) (fun hg => ?_)))
 all_goals exact ⟨_,_,rfl,rfl,by simp_all [inB]; try omega⟩
theorem f167 (s : Span) (lo hi d : Int) (h1 : -100000 <= lo) (h2 : hi <= 100000) : ACalls Tryz.prog 167 [eS s,vi lo,vi hi,vi d] (fun r => r = .pv (.bool (isSpanB s lo hi d))):= by
 refine ACalls.of_body hT Tryz.func167 rfl (by kernel_rfl) rfl ?_
 (repeat' (first | refine stp ?_ | refine AL_gdec rfl rfl rfl (fun hg => ?_) (fun hg => ?_) | refine AL_gnot rfl rfl rfl (fun hg => ?_) (fun hg => ?_) | refine AL_gcases rfl rfl rfl (fun hg => ?_) (fun hg => ?_)))
 all_goals exact ⟨_,_,rfl,rfl,by simp_all [isSpanB]; try omega⟩
theorem f166 (s : Span) : ACalls Tryz.prog 166 [eS s] (fun r => r = .pv (.bool (!isSpanB s 0 20 2))):= by
 refine ACalls.of_body hT Tryz.func166 rfl (by kernel_rfl) rfl ?_
 (repeat' (first | refine stp ?_ | (refine AL_do2 rfl ?_; first | refine ⟨_,op_call1 rfl rfl rfl rfl (f167 s 0 20 2 (by decide) (by decide)),?_⟩) | refine AL_gdec rfl rfl rfl (fun hg => ?_) (fun hg => ?_) | refine AL_gnot rfl rfl rfl (fun hg => ?_) (fun hg => ?_) | refine AL_gcases rfl rfl rfl (fun hg => ?_) (fun hg => ?_)))
 exact ⟨_,_,rfl,rfl,rfl⟩
theorem f164 (d : Dye) (hl : d.takes.length <= 1000) : ACalls Tryz.prog 164 [.agg (eDye d)] (fun r => r = .pv (.bool (!isDyeB d))):= by
 refine ACalls.of_body hT Tryz.func164 rfl (by kernel_rfl) rfl ?_
 (repeat' (first | refine stp ?_ | (refine AL_do2 rfl ?_; first | refine ⟨_,op_call1 rfl rfl rfl rfl (f113 d.full 0 100),?_⟩ | refine ⟨_,op_call1 rfl rfl rfl rfl (c165 d.takes 166 [] (fun s => !isSpanB s 0 20 2) hl (fun x _ => f166 x)),?_⟩) | refine AL_gdec rfl rfl rfl (fun hg => ?_) (fun hg => ?_) | refine AL_gnot rfl rfl rfl (fun hg => ?_) (fun hg => ?_) | refine AL_gcases rfl rfl rfl (fun hg => ?_) (fun hg => ?_)))
 all_goals exact ⟨_,_,rfl,rfl,by simp_all [isDyeB]; try omega⟩
theorem f105 (h : List Dye) (hh : h.length <= 1000) (hl : ∀ d ∈ h,d.takes.length <= 1000) : ACalls Tryz.prog 105 [eHouse h] (fun r => r = .pv (.bool (isHouseB h))):= by
 refine ACalls.of_body hT Tryz.func105 rfl (by kernel_rfl) rfl ?_
 (repeat' (first | refine stp ?_ | (refine AL_do2 rfl ?_; first | refine ⟨_,op_call1 rfl rfl rfl rfl (f113 h.length 1 3),?_⟩ | refine ⟨_,op_call1 rfl rfl rfl rfl (c163 h 164 [] (fun d => !isDyeB d) hh (fun x hx => f164 x (hl x hx))),?_⟩) | refine AL_gdec rfl rfl rfl (fun hg => ?_) (fun hg => ?_) | refine AL_gnot rfl rfl rfl (fun hg => ?_) (fun hg => ?_) | refine AL_gcases rfl rfl rfl (fun hg => ?_) (fun hg => ?_)))
 all_goals exact ⟨_,_,rfl,rfl,by simp_all [isHouseB]; try omega⟩
def houseOK (h : List Dye) : Prop := h.length <= 1000 /\ ∀ d ∈ h,d.takes.length <= 1000
theorem f169 (h : List Dye) (b : Bath) (hh : h.length <= 1000) : ACalls Tryz.prog 169 [.agg (eBath b),.ptr [.sl (h.map eDye)]] (fun r => r = .pv (.bool (!isBathB h.length b))):= by
 refine ACalls.of_body hT Tryz.func169 rfl (by kernel_rfl) rfl ?_
 (repeat' (first | refine stp ?_ | (refine AL_do2 rfl ?_; first | refine ⟨_,op_call1 rfl rfl rfl rfl (f113 b.dye 0 (h.length - 1)),?_⟩ | refine ⟨_,op_call1 rfl rfl rfl rfl (f113 b.temper 0 2),?_⟩ | refine ⟨_,op_call1 rfl rfl rfl rfl (f167 b.hours 0 12 2 (by decide) (by decide)),?_⟩) | refine AL_gdec rfl rfl rfl (fun hg => ?_) (fun hg => ?_) | refine AL_gnot rfl rfl rfl (fun hg => ?_) (fun hg => ?_) | refine AL_gcases rfl rfl rfl (fun hg => ?_) (fun hg => ?_)))
 all_goals exact ⟨_,_,rfl,rfl,by simp_all [isBathB]; try omega⟩
theorem f106 (h : List Dye) (l : List Bath) (hh : h.length <= 1000) (hl : l.length <= 1000) : ACalls Tryz.prog 106 [eHouse h,eBaths l] (fun r => r = .pv (.bool (isBatchB h l))):= by
 refine ACalls.of_body hT Tryz.func106 rfl (by kernel_rfl) rfl ?_
 (repeat' (first | refine stp ?_ | (refine AL_do2 rfl ?_; first | refine ⟨_,op_call1 rfl rfl rfl rfl (c168 l 169 [.ptr [.sl (h.map eDye)]] (fun b => !isBathB h.length b) hl (fun x _ => f169 h x hh)),?_⟩ | refine ⟨_,op_callB rfl rfl rfl rfl (c168 l 169 [.ptr [.sl (h.map eDye)]] (fun b => !isBathB h.length b) hl (fun x _ => f169 h x hh)) rfl,?_⟩) | refine AL_gdec rfl rfl rfl (fun hg => ?_) (fun hg => ?_) | refine AL_gnot rfl rfl rfl (fun hg => ?_) (fun hg => ?_) | refine AL_gcases rfl rfl rfl (fun hg => ?_) (fun hg => ?_)))
 all_goals exact ⟨_,_,rfl,rfl,by simp_all [isBatchB]; try omega⟩
theorem f173 (x : Int) : ACalls Tryz.prog 173 [vi x] (fun r => r = .pv (.bool (!inB x (-9) 9))):= by
 refine ACalls.of_body hT Tryz.func173 rfl (by kernel_rfl) rfl ?_
 (repeat' (first | refine stp ?_ | (refine AL_do2 rfl ?_; first | refine ⟨_,op_call1 rfl rfl rfl rfl (f113 x (-9) 9),?_⟩) | refine AL_gdec rfl rfl rfl (fun hg => ?_) (fun hg => ?_) | refine AL_gnot rfl rfl rfl (fun hg => ?_) (fun hg => ?_) | refine AL_gcases rfl rfl rfl (fun hg => ?_) (fun hg => ?_)))
 exact ⟨_,_,rfl,rfl,rfl⟩
theorem f116 (h : List Dye) (l : List Int) (hh : h.length <= 1000) (hl : l.length <= 1000) : ACalls Tryz.prog 116 [eHouse h,eLamp l] (fun r => r = .pv (.bool (isLampB h l))):= by
 refine ACalls.of_body hT Tryz.func116 rfl (by kernel_rfl) rfl ?_
 (repeat' (first | refine stp ?_ | (refine AL_do2 rfl ?_; first | refine ⟨_,op_call1 rfl rfl rfl rfl (c142 l 173 [] (fun x => !inB x (-9) 9) hl (fun x _ => f173 x)),?_⟩) | refine AL_gdec rfl rfl rfl (fun hg => ?_) (fun hg => ?_) | refine AL_gnot rfl rfl rfl (fun hg => ?_) (fun hg => ?_) | refine AL_gcases rfl rfl rfl (fun hg => ?_) (fun hg => ?_)))
 all_goals exact ⟨_,_,rfl,rfl,by simp_all [isLampB]; try omega⟩
theorem f117 (s : Span) : ACalls Tryz.prog 117 [eS s] (fun r => r = .pv (.bool (isEyeB s))):= by
 refine ACalls.of_body hT Tryz.func117 rfl (by kernel_rfl) rfl ?_
 (repeat' (first | refine stp ?_ | (refine AL_do2 rfl ?_; first | refine ⟨_,op_call1 rfl rfl rfl rfl (f167 s 0 200 4 (by decide) (by decide)),?_⟩) | refine AL_gdec rfl rfl rfl (fun hg => ?_) (fun hg => ?_) | refine AL_gnot rfl rfl rfl (fun hg => ?_) (fun hg => ?_) | refine AL_gcases rfl rfl rfl (fun hg => ?_) (fun hg => ?_)))
 exact ⟨_,_,rfl,rfl,rfl⟩
theorem f122 (s : Span) : ACalls Tryz.prog 122 [eS s] (fun r => r = .pv (.bool (isWishB s))):= by
 refine ACalls.of_body hT Tryz.func122 rfl (by kernel_rfl) rfl ?_
 (repeat' (first | refine stp ?_ | (refine AL_do2 rfl ?_; first | refine ⟨_,op_call1 rfl rfl rfl rfl (f167 s (-3000) 3000 6000 (by decide) (by decide)),?_⟩) | refine AL_gdec rfl rfl rfl (fun hg => ?_) (fun hg => ?_) | refine AL_gnot rfl rfl rfl (fun hg => ?_) (fun hg => ?_) | refine AL_gcases rfl rfl rfl (fun hg => ?_) (fun hg => ?_)))
 exact ⟨_,_,rfl,rfl,rfl⟩
theorem f115 (h : List Dye) (l : List Int) (hh : h.length <= 1000) (hl : l.length <= 1000) : ACalls Tryz.prog 115 [eLamp l,.ptr [.sl (h.map eDye)]] (fun r => r = .pv (.bool (!isLampB h l))):= by
 refine ACalls.of_body hT Tryz.func115 rfl (by kernel_rfl) rfl ?_
 (repeat' (first | refine stp ?_ | (refine AL_do2 rfl ?_; first | refine ⟨_,op_call1 rfl rfl rfl rfl (f116 h l hh hl),?_⟩ | refine ⟨_,op_callB rfl rfl rfl rfl (f116 h l hh hl) rfl,?_⟩) | refine AL_gdec rfl rfl rfl (fun hg => ?_) (fun hg => ?_) | refine AL_gnot rfl rfl rfl (fun hg => ?_) (fun hg => ?_) | refine AL_gcases rfl rfl rfl (fun hg => ?_) (fun hg => ?_)))
 exact ⟨_,_,rfl,rfl,rfl⟩
theorem f178 (h : List Dye) (l : List Int) (hh : h.length <= 1000) (hl : l.length <= 1000) : ACalls Tryz.prog 178 [eLamp l,.ptr [.sl (h.map eDye)]] (fun r => r = .pv (.bool (!isLampB h l))):= by
 refine ACalls.of_body hT Tryz.func178 rfl (by kernel_rfl) rfl ?_
 (repeat' (first | refine stp ?_ | (refine AL_do2 rfl ?_; first | refine ⟨_,op_call1 rfl rfl rfl rfl (f116 h l hh hl),?_⟩ | refine ⟨_,op_callB rfl rfl rfl rfl (f116 h l hh hl) rfl,?_⟩) | refine AL_gdec rfl rfl rfl (fun hg => ?_) (fun hg => ?_) | refine AL_gnot rfl rfl rfl (fun hg => ?_) (fun hg => ?_) | refine AL_gcases rfl rfl rfl (fun hg => ?_) (fun hg => ?_)))
 exact ⟨_,_,rfl,rfl,rfl⟩
theorem f179 (s : Span) : ACalls Tryz.prog 179 [eS s] (fun r => r = .pv (.bool (!isWishB s))):= by
 refine ACalls.of_body hT Tryz.func179 rfl (by kernel_rfl) rfl ?_
 (repeat' (first | refine stp ?_ | (refine AL_do2 rfl ?_; first | refine ⟨_,op_call1 rfl rfl rfl rfl (f122 s),?_⟩) | refine AL_gdec rfl rfl rfl (fun hg => ?_) (fun hg => ?_) | refine AL_gnot rfl rfl rfl (fun hg => ?_) (fun hg => ?_) | refine AL_gcases rfl rfl rfl (fun hg => ?_) (fun hg => ?_)))
 exact ⟨_,_,rfl,rfl,rfl⟩
def coatOK (c : Coat) : Prop := c.lamps.length <= 1000 /\ c.old.length <= 1000 /\ ∀ l ∈ c.lamps,l.length <= 1000
theorem f126 (h : List Dye) (c : Coat) (hh : h.length <= 1000) (hc : coatOK c) : ACalls Tryz.prog 126 [eHouse h,eCoat c] (fun r => r = .pv (.bool (isCoatB h c))):= by
 refine ACalls.of_body hT Tryz.func126 rfl (by kernel_rfl) rfl ?_
 (repeat' (first | refine stp ?_ | (refine AL_do2 rfl ?_; first | refine ⟨_,op_call1 rfl rfl rfl rfl (f113 c.lamps.length 1 3),?_⟩ | refine ⟨_,op_callB rfl rfl rfl rfl (c114 c.lamps 178 [.ptr [.sl (h.map eDye)]] (fun l => !isLampB h l) hc.1 (fun x hx => f178 h x hh (hc.2.2 x hx))) rfl,?_⟩ | refine ⟨_,op_call1 rfl rfl rfl rfl (f117 c.eye),?_⟩ | refine ⟨_,op_call1 rfl rfl rfl rfl (c165 c.old 179 [] (fun s => !isWishB s) hc.2.1 (fun x _ => f179 x)),?_⟩ | refine ⟨_,op_call1 rfl rfl rfl rfl (f113 c.need 1 300),?_⟩) | refine AL_gdec rfl rfl rfl (fun hg => ?_) (fun hg => ?_) | refine AL_gnot rfl rfl rfl (fun hg => ?_) (fun hg => ?_) | refine AL_gcases rfl rfl rfl (fun hg => ?_) (fun hg => ?_)))
 all_goals exact ⟨_,_,rfl,rfl,by simp_all [isCoatB]; try first | omega | grind⟩
theorem f181 (h : List Dye) (s : Stock) (hh : h.length <= 1000) (hs : s.baths.length <= 1000) : ACalls Tryz.prog 181 [.agg (eStock s),.ptr [.sl (h.map eDye)]] (fun r => r = .pv (.bool (!isStockB h s))):= by
 refine ACalls.of_body hT Tryz.func181 rfl (by kernel_rfl) rfl ?_
 (repeat' (first | refine stp ?_ | (refine AL_do2 rfl ?_; first | refine ⟨_,op_call1 rfl rfl rfl rfl (f106 h s.baths hh hs),?_⟩ | refine ⟨_,op_callB rfl rfl rfl rfl (f106 h s.baths hh hs) rfl,?_⟩ | refine ⟨_,op_call1 rfl rfl rfl rfl (f113 s.many 0 99),?_⟩ | refine ⟨_,op_call1 rfl rfl rfl rfl (f113 s.price 0 999),?_⟩) | refine AL_gdec rfl rfl rfl (fun hg => ?_) (fun hg => ?_) | refine AL_gnot rfl rfl rfl (fun hg => ?_) (fun hg => ?_) | refine AL_gcases rfl rfl rfl (fun hg => ?_) (fun hg => ?_)))
 all_goals exact ⟨_,_,rfl,rfl,by simp_all [isStockB]; try omega⟩
def stocksOK (l : List Stock) : Prop := l.length <= 1000 /\ ∀ s ∈ l,s.baths.length <= 1000
theorem f127 (h : List Dye) (l : List Stock) (lo : Int) (hh : h.length <= 1000) (hl : stocksOK l) : ACalls Tryz.prog 127 [eHouse h,eStocks l,vi lo] (fun r => r = .pv (.bool (areStocksB h l lo))):= by
 refine ACalls.of_body hT Tryz.func127 rfl (by kernel_rfl) rfl ?_
 (repeat' (first | refine stp ?_ | (refine AL_do2 rfl ?_; first | refine ⟨_,op_call1 rfl rfl rfl rfl (f113 l.length lo 5),?_⟩ | refine ⟨_,op_callB rfl rfl rfl rfl (c180 l 181 [.ptr [.sl (h.map eDye)]] (fun s => !isStockB h s) hl.1 (fun x hx => f181 h x hh (hl.2 x hx))) rfl,?_⟩) | refine AL_gdec rfl rfl rfl (fun hg => ?_) (fun hg => ?_) | refine AL_gnot rfl rfl rfl (fun hg => ?_) (fun hg => ?_) | refine AL_gcases rfl rfl rfl (fun hg => ?_) (fun hg => ?_)))
 all_goals exact ⟨_,_,rfl,rfl,by simp_all [areStocksB]; try omega⟩
theorem f186 (s : Span) : ACalls Tryz.prog 186 [eS s] (fun r => r = .pv (.bool (!isSpanB s (-3000) 3000 6))):= by
 refine ACalls.of_body hT Tryz.func186 rfl (by kernel_rfl) rfl ?_
 (repeat' (first | refine stp ?_ | (refine AL_do2 rfl ?_; first | refine ⟨_,op_call1 rfl rfl rfl rfl (f167 s (-3000) 3000 6 (by decide) (by decide)),?_⟩) | refine AL_gdec rfl rfl rfl (fun hg => ?_) (fun hg => ?_) | refine AL_gnot rfl rfl rfl (fun hg => ?_) (fun hg => ?_) | refine AL_gcases rfl rfl rfl (fun hg => ?_) (fun hg => ?_)))
 exact ⟨_,_,rfl,rfl,rfl⟩
theorem f138 (s : Sorter) (hs : s.looks.length <= 1000) : ACalls Tryz.prog 138 [eSorter s] (fun r => r = .pv (.bool (isSorterB s))):= by
 refine ACalls.of_body hT Tryz.func138 rfl (by kernel_rfl) rfl ?_
 (repeat' (first | refine stp ?_ | (refine AL_do2 rfl ?_; first | refine ⟨_,op_call1 rfl rfl rfl rfl (f117 s.eye),?_⟩ | refine ⟨_,op_call1 rfl rfl rfl rfl (f113 s.tire 0 9),?_⟩ | refine ⟨_,op_call1 rfl rfl rfl rfl (f113 s.looks.length 1 4),?_⟩ | refine ⟨_,op_call1 rfl rfl rfl rfl (c165 s.looks 186 [] (fun s => !isSpanB s (-3000) 3000 6) hs (fun x _ => f186 x)),?_⟩) | refine AL_gdec rfl rfl rfl (fun hg => ?_) (fun hg => ?_) | refine AL_gnot rfl rfl rfl (fun hg => ?_) (fun hg => ?_) | refine AL_gcases rfl rfl rfl (fun hg => ?_) (fun hg => ?_)))
 all_goals exact ⟨_,_,rfl,rfl,by simp_all [isSorterB]; try omega⟩
theorem f140 (x : Int) (s : Span) : ACalls Tryz.prog 140 [vi x,eS s] (fun r => r = .pv (.bool (inB x s.low s.high))):= by
 refine ACalls.of_body hT Tryz.func140 rfl (by kernel_rfl) rfl ?_
 (repeat' (first | refine stp ?_ | (refine AL_do2 rfl ?_; first | refine ⟨_,op_call1 rfl rfl rfl rfl (f113 x s.low s.high),?_⟩) | refine AL_gdec rfl rfl rfl (fun hg => ?_) (fun hg => ?_) | refine AL_gnot rfl rfl rfl (fun hg => ?_) (fun hg => ?_) | refine AL_gcases rfl rfl rfl (fun hg => ?_) (fun hg => ?_)))
 exact ⟨_,_,rfl,rfl,rfl⟩
end Go.Abs
