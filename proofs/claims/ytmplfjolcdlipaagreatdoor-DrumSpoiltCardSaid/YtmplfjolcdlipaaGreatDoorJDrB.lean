/- Layer 3 in plain Lean: its data, the strengths of an acid, and the laws about them. -/
set_option linter.unusedVariables false
set_option linter.unusedSimpArgs false
namespace Go.Abs
set_option linter.unusedVariables false
structure Span where
 low : Int
 high : Int
 deriving DecidableEq
structure Acid where
 strength : Span
 fall : Span
 deriving DecidableEq
structure Strip where
 hour : Int
 seen : Int
 off : Int
 deriving DecidableEq
structure Batch where
 rough : Int
 goal : Int
 thick : Int
 least : Int
 polish : Int
 eat : Int
 deriving DecidableEq
structure Drum where
 acids : List Acid
 known : Int
 hours : Int
 adds : List Int
 strips : List Strip
 batches : List Batch
def inB (x lo hi : Int) : Bool := decide (lo <= x) && decide (x <= hi)
def spanB (s : Span) (most : Int) : Bool := decide (0 <= s.low) && decide (s.low <= s.high) && decide (s.high <= most)
def acidB (a : Acid) : Bool := spanB a.strength 100 && spanB a.fall 20
def stripB (hours : Int) (s : Strip) : Bool := inB s.hour 0 (hours - 1) && inB s.seen 0 2000 && inB s.off 0 50
def batchB (b : Batch) : Bool := inB b.rough 0 1000 && inB b.goal 0 1000 && inB b.thick 0 1000 && inB b.least 0 1000 && inB b.polish 0 100 && inB b.eat 0 100
def drumB (d : Drum) : Bool :=
 inB d.acids.length 1 4 && inB d.known 1 (2 ^ d.acids.length - 1) && inB d.hours 1 12 && decide ((d.adds.length : Int) = d.hours) && decide (d.strips.length <= 6) && inB d.batches.length 1 5 &&
  d.acids.all acidB && d.adds.all (fun n => inB n 0 100) && d.strips.all (stripB d.hours) && d.batches.all batchB
structure AcidP (a : Acid) : Prop where
 s0 : 0 <= a.strength.low
 s1 : a.strength.low <= a.strength.high
 s2 : a.strength.high <= 100
 f0 : 0 <= a.fall.low
 f1 : a.fall.low <= a.fall.high
 f2 : a.fall.high <= 20
structure StripP (hours : Int) (s : Strip) : Prop where
 h0 : 0 <= s.hour
 h1 : s.hour < hours
 s0 : 0 <= s.seen
 s1 : s.seen <= 2000
 o0 : 0 <= s.off
 o1 : s.off <= 50
structure BatchP3 (b : Batch) : Prop where
 r0 : 0 <= b.rough
 r1 : b.rough <= 1000
 g0 : 0 <= b.goal
 g1 : b.goal <= 1000
 t0 : 0 <= b.thick
 t1 : b.thick <= 1000
 l0 : 0 <= b.least
 l1 : b.least <= 1000
 p0 : 0 <= b.polish
 p1 : b.polish <= 100
 e0 : 0 <= b.eat
 e1 : b.eat <= 100
structure DrumP (d : Drum) : Prop where
 a0 : 1 <= d.acids.length
 a1 : d.acids.length <= 4
 k0 : 1 <= d.known
 k1 : d.known <= 2 ^ d.acids.length - 1
 h0 : 1 <= d.hours
 h1 : d.hours <= 12
 al : (d.adds.length : Int) = d.hours
 sl : d.strips.length <= 6
 b0 : 1 <= d.batches.length
 b1 : d.batches.length <= 5
 acid : ∀ a ∈ d.acids,AcidP a
 add : ∀ n ∈ d.adds,0 <= n /\ n <= 100
 strip : ∀ s ∈ d.strips,StripP d.hours s
 batch : ∀ b ∈ d.batches,BatchP3 b
theorem acidP_of {a : Acid} : acidB a = true ↔ AcidP a:= by
 simp only [acidB,spanB,Bool.and_eq_true,decide_eq_true_eq]
 exact ⟨fun ⟨⟨⟨h1,h2⟩,h3⟩,⟨h4,h5⟩,h6⟩ => ⟨h1,h2,h3,h4,h5,h6⟩,fun h => ⟨⟨⟨h.s0,h.s1⟩,h.s2⟩,⟨h.f0,h.f1⟩,h.f2⟩⟩
theorem stripP_of {n : Int} {s : Strip} : stripB n s = true ↔ StripP n s:= by
 simp only [stripB,inB,Bool.and_eq_true,decide_eq_true_eq]
 exact ⟨fun ⟨⟨⟨h1,h2⟩,h3,h4⟩,h5,h6⟩ => ⟨h1,by omega,h3,h4,h5,h6⟩,fun h => ⟨⟨⟨h.h0,by have := h.h1; omega⟩,h.s0,h.s1⟩,h.o0,h.o1⟩⟩
theorem batchP_of3 {b : Batch} : batchB b = true ↔ BatchP3 b:= by
 simp only [batchB,inB,Bool.and_eq_true,decide_eq_true_eq]
 exact ⟨fun ⟨⟨⟨⟨⟨⟨a1,a2⟩,b1,b2⟩,c1,c2⟩,d1,d2⟩,e1,e2⟩,f1,f2⟩ => ⟨a1,a2,b1,b2,c1,c2,d1,d2,e1,e2,f1,f2⟩,
  fun h => ⟨⟨⟨⟨⟨⟨h.r0,h.r1⟩,h.g0,h.g1⟩,h.t0,h.t1⟩,h.l0,h.l1⟩,h.p0,h.p1⟩,h.e0,h.e1⟩⟩
theorem drumP_of {d : Drum} : drumB d = true ↔ DrumP d:= by
 simp only [drumB,inB,Bool.and_eq_true,decide_eq_true_eq,List.all_eq_true]
 constructor
 ·rintro ⟨⟨⟨⟨⟨⟨⟨⟨⟨⟨a0,a1⟩,k0,k1⟩,h0,h1⟩,al⟩,sl⟩,b0,b1⟩,c1⟩,c2⟩,c3⟩,c4⟩
  exact ⟨by omega,by omega,k0,k1,h0,h1,al,sl,by omega,by omega,fun a h => acidP_of.1 (c1 a h),c2,fun s h => stripP_of.1 (c3 s h),fun b h => batchP_of3.1 (c4 b h)⟩
 ·intro h
  refine ⟨⟨⟨⟨⟨⟨⟨⟨⟨⟨by have := h.a0; omega,by have := h.a1; omega⟩,h.k0,h.k1⟩,h.h0,h.h1⟩,h.al⟩,h.sl⟩,by have := h.b0; omega,by have := h.b1; omega⟩,fun a ha => acidP_of.2 (h.acid a ha)⟩,h.add⟩,fun s hs => stripP_of.2 (h.strip s hs)⟩,fun b hb => batchP_of3.2 (h.batch b hb)⟩
def common (a b : Span) : Span := ⟨max a.low b.low,min a.high b.high⟩
def stripSpan (s : Strip) : Span := ⟨s.seen - s.off,s.seen + s.off⟩
def stripped (l : List Strip) (i : Nat) (x : Span) : Span := l.foldl (fun x s => if s.hour = (i : Int) then common x (stripSpan s) else x) x
def afterS (a : Acid) (add : Int) (s : Span) : Span := ⟨max 0 (s.low - a.fall.high) + add,max 0 (s.high - a.fall.low) + add⟩
def beforeS (a : Acid) (add : Int) (s : Span) : Span := ⟨if s.low > add then s.low - add + a.fall.low else 0,s.high - add + a.fall.high⟩
def initS (a : Acid) (add : Int) : Span := ⟨a.strength.low + add,a.strength.high + add⟩
def fwdS (d : Drum) (a : Acid) : Nat -> Span
 | 0 => stripped d.strips 0 (initS a (d.adds.getD 0 0))
 | i + 1 => stripped d.strips (i + 1) (afterS a (d.adds.getD (i + 1) 0) (fwdS d a i))
def bwdS (d : Drum) (a : Acid) : Nat -> Span
 | 0 => fwdS d a (d.hours.toNat - 1)
 | k + 1 => common (fwdS d a (d.hours.toNat - 1 - (k + 1))) (beforeS a (d.adds.getD (d.hours.toNat - 1 - k) 0) (bwdS d a k))
def strongS (d : Drum) (a : Acid) (i : Nat) : Span := bwdS d a (d.hours.toNat - 1 - i)
def mayB (d : Drum) (a : Acid) : Bool := (List.range d.hours.toNat).all fun i => decide ((fwdS d a i).low <= (fwdS d a i).high)
def strongL (d : Drum) (a : Acid) : List Span := (List.range d.hours.toNat).map (strongS d a)
theorem mayB_iff {d : Drum} {a : Acid} : mayB d a = true ↔ ∀ i,i < d.hours.toNat -> (fwdS d a i).low <= (fwdS d a i).high:= by
 simp [mayB,List.all_eq_true]
theorem strongL_len (d : Drum) (a : Acid) : (strongL d a).length = d.hours.toNat := by simp [strongL]
theorem strongL_get {d : Drum} {a : Acid} {i : Nat} (h : i < d.hours.toNat) : (strongL d a)[i]? = some (strongS d a i):= by
 simp [strongL,h]
theorem strong_last (d : Drum) (a : Acid) : strongS d a (d.hours.toNat - 1) = fwdS d a (d.hours.toNat - 1):= by
 simp [strongS,bwdS]
theorem strong_before {d : Drum} {a : Acid} {i : Nat} (h : i + 1 < d.hours.toNat) : strongS d a i = common (fwdS d a i) (beforeS a (d.adds.getD (i + 1) 0) (strongS d a (i + 1))):= by
 unfold strongS
 obtain ⟨k,hk⟩ : ∃ k,d.hours.toNat - 1 - i = k + 1 := ⟨d.hours.toNat - 1 - i - 1,by omega⟩
 have h1 : d.hours.toNat - 1 - (i + 1) = k := by omega
 rw [hk,h1]
 simp only [bwdS]
 rw [show d.hours.toNat - 1 - (k + 1) = i by omega,show d.hours.toNat - 1 - k = i + 1 by omega]
theorem stripped_low (l : List Strip) (i : Nat) : ∀ (x : Span),x.low <= (stripped l i x).low /\ (stripped l i x).high <= x.high:= by
 induction l with
 | nil => intro x; simp [stripped]
 | cons s l ih =>
  intro x
  have := ih (if s.hour = (i : Int) then common x (stripSpan s) else x)
  simp only [stripped,List.foldl_cons] at this ⊢
  refine ⟨Int.le_trans ?_ this.1,Int.le_trans this.2 ?_⟩ <;> split <;> (try simp only [common]) <;> omega
theorem stripped_mono {l : List Strip} {i : Nat} : ∀ {x y : Span},x.low <= y.low -> y.high <= x.high -> (stripped l i x).low <= (stripped l i y).low /\ (stripped l i y).high <= (stripped l i x).high:= by
 induction l with
 | nil => intro x y h1 h2; exact ⟨h1,h2⟩
 | cons s l ih =>
  intro x y h1 h2
  simp only [stripped,List.foldl_cons]
  refine ih ?_ ?_ <;> split <;> (try simp only [common]) <;> omega
theorem stripped_append (l r : List Strip) (i : Nat) (x : Span) : stripped (l ++ r) i x = stripped r i (stripped l i x):= by
 simp [stripped,List.foldl_append]
theorem stripped_common {l : List Strip} {i : Nat} : ∀ {x y : Span},stripped l i (common x y) = common (stripped l i x) y:= by
 induction l with
 | nil => intro x y; rfl
 | cons s l ih =>
  intro x y
  simp only [stripped,List.foldl_cons]
  have : (if s.hour = (i : Int) then common (common x y) (stripSpan s) else common x y) = common (if s.hour = (i : Int) then common x (stripSpan s) else x) y:= by
   split
   ·simp only [common,Span.mk.injEq]; omega
   ·rfl
  rw [this]; exact ih
theorem stripped_wide {l : List Strip} {i : Nat} {x y : Span} (h1 : x.low <= y.low) (h2 : y.high <= x.high) : common (stripped l i x) y = stripped l i y:= by
 rw [<- stripped_common]
 congr 1
 cases y
 simp only [common,Span.mk.injEq]
 simp only at h1 h2
 omega
section
variable {d : Drum} {a : Acid}
theorem add_bd (hd : DrumP d) (i : Nat) : 0 <= d.adds.getD i 0 /\ d.adds.getD i 0 <= 100:= by
 rw [List.getD_eq_getElem?_getD]
 cases h : d.adds[i]? with
 | none => simp
 | some n => exact hd.add n (List.mem_of_getElem? h)
theorem fwd_bd (hd : DrumP d) (ha : AcidP a) : ∀ i,0 <= (fwdS d a i).low /\ (fwdS d a i).high <= 100 * (i + 2) /\ d.adds.getD i 0 <= (fwdS d a i).low
 | 0 => by
  have h1 := stripped_low d.strips 0 (initS a (d.adds.getD 0 0))
  have h2 := add_bd hd 0
  have := ha.s0; have := ha.s2
  simp only [initS] at h1
  simp only [fwdS,initS]
  omega
 | i + 1 => by
  have ih := fwd_bd hd ha i
  have h1 := stripped_low d.strips (i + 1) (afterS a (d.adds.getD (i + 1) 0) (fwdS d a i))
  have h2 := add_bd hd (i + 1)
  have := ha.f0; have := ha.f1
  simp only [fwdS]
  simp only [afterS] at h1 ⊢
  omega
theorem fwd_step (i : Nat) : (afterS a (d.adds.getD (i + 1) 0) (fwdS d a i)).low <= (fwdS d a (i + 1)).low /\ (fwdS d a (i + 1)).high <= (afterS a (d.adds.getD (i + 1) 0) (fwdS d a i)).high:= by
 simp only [fwdS]
 exact stripped_low _ _ _
theorem strong_ok (hd : DrumP d) (ha : AcidP a) (hm : mayB d a = true) : ∀ k i,i + k + 1 = d.hours.toNat -> (fwdS d a i).low <= (strongS d a i).low /\ (strongS d a i).low <= (strongS d a i).high /\ (strongS d a i).high <= (fwdS d a i).high
 | 0,i,hi => by
  have e : i = d.hours.toNat - 1 := by omega
  have := mayB_iff.1 hm i (by omega)
  rw [e,strong_last]
  rw [e] at this
  omega
 | k + 1,i,hi => by
  have ih := strong_ok hd ha hm k (i + 1) (by omega)
  have h1 := mayB_iff.1 hm i (by omega)
  have h2 := fwd_step (d := d) (a := a) i
  have h3 := fwd_bd hd ha i
  have h4 := fwd_bd hd ha (i + 1)
  have h5 := add_bd hd (i + 1)
  have := ha.f0; have := ha.f1
  rw [strong_before (by omega)]
  simp only [afterS] at h2
  simp only [common,beforeS]
  generalize d.adds.getD (i + 1) 0 = n at *
  generalize strongS d a (i + 1) = x at *
  generalize fwdS d a (i + 1) = y at *
  generalize fwdS d a i = z at *
  split <;> omega
theorem strong_ok' (hd : DrumP d) (ha : AcidP a) (hm : mayB d a = true) {i : Nat} (hi : i < d.hours.toNat) : (fwdS d a i).low <= (strongS d a i).low /\ (strongS d a i).low <= (strongS d a i).high /\ (strongS d a i).high <= (fwdS d a i).high :=
 strong_ok hd ha hm (d.hours.toNat - 1 - i) i (by omega)
theorem strong_bd (hd : DrumP d) (ha : AcidP a) (hm : mayB d a = true) {i : Nat} (hi : i < d.hours.toNat) : 0 <= (strongS d a i).low /\ (strongS d a i).low <= (strongS d a i).high /\ (strongS d a i).high <= 1300:= by
 have h1 := strong_ok' hd ha hm hi
 have h2 := fwd_bd hd ha i
 have := hd.h1
 omega
def seenB (t : List Int) (s : Strip) : Bool := inB (t.getD s.hour.toNat 0) (s.seen - s.off) (s.seen + s.off)
def endsL (l : List Span) (high : Bool) : List Int := l.map fun s => if high then s.high else s.low
end
end Go.Abs
namespace Go.Abs
set_option linter.unusedVariables false
def hasI (set : Int) (i : Nat) : Bool := set.toNat.testBit i
def filledL (d : Drum) : List (Acid × Nat) := d.acids.zipIdx.filter fun p => hasI d.known p.2 && mayB d p.1
def couldL (d : Drum) : List Int := (filledL d).map fun p => (p.2 : Int)
def hull2 (s t : Span) : Span := ⟨min s.low t.low,max s.high t.high⟩
def hullL : List Span -> Span
 | [] => ⟨0,0⟩
 | x :: l => l.foldl hull2 x
def strengthL (d : Drum) : List Span := (List.range d.hours.toNat).map fun i => hullL ((filledL d).map fun p => strongS d p.1 i)
def pairsB {α : Type} (r : α -> α -> Bool) : List α -> Bool
 | [] => true
 | x :: l => pairsB r l && l.all fun y => r y x
def farB (d : Drum) (off : Int) (i : Nat) (p q : Acid × Nat) : Bool := !(decide ((strongS d p.1 i).low - (strongS d q.1 i).high <= 2 * off) && decide ((strongS d q.1 i).low - (strongS d p.1 i).high <= 2 * off))
def tellsB (d : Drum) (off : Int) (i : Nat) : Bool := pairsB (farB d off i) (filledL d)
def firstI (p : Nat -> Bool) : Nat -> Nat -> Int
 | 0,_ => -1
 | f + 1,i => if p i then i else firstI p f (i + 1)
def lastI (p : Nat -> Bool) : Nat -> Int
 | 0 => -1
 | n + 1 => if p n then n else lastI p n
def tellsI (d : Drum) (off : Int) : Int := firstI (tellsB d off) d.hours.toNat 0
structure State where
 rough : Int
 thick : Int
 deriving DecidableEq
structure Bounds where
 rough : Span
 thick : Span
 deriving DecidableEq
def eatI (n p : Int) : Int := (n * p).tdiv 100
def sumI : List Int -> Int
 | [] => 0
 | x :: l => x + sumI l
def stateI (b : Batch) (t : List Int) (h : Nat) : State := ⟨max 0 (b.rough - sumI ((t.take h).map fun n => eatI n b.polish)),max 0 (b.thick - sumI ((t.take h).map fun n => eatI n b.eat))⟩
def weakS (d : Drum) (b : Batch) (h : Nat) (p : Acid × Nat) : State := stateI b (endsL (strongL d p.1) false) h
def hardS (d : Drum) (b : Batch) (h : Nat) (p : Acid × Nat) : State := stateI b (endsL (strongL d p.1) true) h
def boundsI (d : Drum) (b : Batch) (h : Nat) : Bounds := ⟨hullL ((filledL d).map fun p => ⟨(hardS d b h p).rough,(weakS d b h p).rough⟩),hullL ((filledL d).map fun p => ⟨(hardS d b h p).thick,(weakS d b h p).thick⟩)⟩
def smoothI (d : Drum) (b : Batch) : Int := firstI (fun h => decide ((boundsI d b h).rough.high <= b.goal)) (d.hours.toNat + 1) 0
def thinI (d : Drum) (b : Batch) : Int := lastI (fun h => decide ((boundsI d b h).thick.low >= b.least)) (d.hours.toNat + 1)
theorem firstI_spec (p : Nat -> Bool) : ∀ (f i : Nat),(firstI p f i = -1 /\ ∀ k,i <= k -> k < i + f -> p k = false) \/ ∃ n : Nat,firstI p f i = n /\ i <= n /\ n < i + f /\ p n = true /\ ∀ k,i <= k -> k < n -> p k = false
 | 0,i => .inl ⟨rfl,fun k h1 h2 => by omega⟩
 | f + 1,i => by
  unfold firstI
  cases h : p i with
  | true => exact .inr ⟨i,by simp,Nat.le_refl _,by omega,h,fun k h1 h2 => by omega⟩
  | false =>
   simp only [Bool.false_eq_true,if_false]
   have ho : ∀ k,i <= k -> k < i + 1 -> p k = false := fun k h1 h2 => by rw [show k = i by omega]; exact h
   rcases firstI_spec p f (i + 1) with ⟨h1,h2⟩ | ⟨n,h1,h2,h3,h4,h5⟩
   ·refine .inl ⟨h1,fun k g1 g2 => ?_⟩
    by_cases hk : k < i + 1
    ·exact ho k g1 hk
    ·exact h2 k (by omega) (by omega)
   ·refine .inr ⟨n,h1,by omega,by omega,h4,fun k g1 g2 => ?_⟩
    by_cases hk : k < i + 1
    ·exact ho k g1 hk
    ·exact h5 k (by omega) g2
theorem lastI_spec (p : Nat -> Bool) : ∀ (n : Nat),(lastI p n = -1 /\ ∀ k,k < n -> p k = false) \/ ∃ m : Nat,lastI p n = m /\ m < n /\ p m = true /\ ∀ k,m < k -> k < n -> p k = false
 | 0 => .inl ⟨rfl,fun k h => by omega⟩
 | n + 1 => by
  unfold lastI
  cases h : p n with
  | true => exact .inr ⟨n,by simp,by omega,h,fun k h1 h2 => by omega⟩
  | false =>
   simp only [Bool.false_eq_true,if_false]
   rcases lastI_spec p n with ⟨h1,h2⟩ | ⟨m,h1,h2,h3,h4⟩
   ·refine .inl ⟨h1,fun k g => ?_⟩
    by_cases hk : k < n
    ·exact h2 k hk
    ·rw [show k = n by omega]; exact h
   ·refine .inr ⟨m,h1,by omega,h3,fun k g1 g2 => ?_⟩
    by_cases hk : k < n
    ·exact h4 k g1 hk
    ·rw [show k = n by omega]; exact h
theorem sumI_append : ∀ (l r : List Int),sumI (l ++ r) = sumI l + sumI r
 | [],r => by simp [sumI]
 | x :: l,r => by simp only [List.cons_append,sumI,sumI_append l r]; omega
section
variable {d : Drum}
theorem filled_mem {p : Acid × Nat} : p ∈ filledL d ↔ d.acids[p.2]? = some p.1 /\ hasI d.known p.2 = true /\ mayB d p.1 = true:= by
 obtain ⟨a,k⟩ := p
 simp only [filledL,List.mem_filter,Bool.and_eq_true,List.mem_zipIdx_iff_getElem?]
theorem filled_acid (hd : DrumP d) {p : Acid × Nat} (hp : p ∈ filledL d) : AcidP p.1 := hd.acid _ (List.mem_of_getElem? (filled_mem.1 hp).1)
theorem ends_len (a : Acid) (high : Bool) : (endsL (strongL d a) high).length = d.hours.toNat := by simp [endsL,strongL_len]
end
end Go.Abs
namespace Go.Abs
set_option linter.unusedVariables false
def inS (s : Span) (n : Int) : Prop := s.low <= n /\ n <= s.high
def openS (s : Span) : Bool := decide (s.low <= s.high)
def meetL (l : List Span) : Span := l.foldl common ⟨0,12⟩
def winP1 (d : Drum) (b : Batch) : Span := if smoothI d b < 0 then ⟨1,0⟩ else ⟨smoothI d b,thinI d b⟩
def winP (d : Drum) : List Span := d.batches.map (winP1 d)
def pick (W : List Span) (p : Nat -> Bool) : List Span := (W.zipIdx.filter fun x => p x.2).map (·.1)
theorem open_iff {s : Span} : openS s = true ↔ ∃ n,inS s n:= by
 simp only [openS,decide_eq_true_eq,inS]
 exact ⟨fun h => ⟨s.low,Int.le_refl _,h⟩,fun ⟨n,h1,h2⟩ => by omega⟩
theorem foldl_common (l : List Span) : ∀ (x : Span) (n : Int),inS (l.foldl common x) n ↔ inS x n /\ ∀ s ∈ l,inS s n:= by
 induction l with
 | nil => intro x n; simp
 | cons s l ih =>
  intro x n
  rw [List.foldl_cons,ih]
  simp only [List.mem_cons,forall_eq_or_imp,inS,common]
  constructor
  ·rintro ⟨h1,h2⟩; exact ⟨by omega,by omega,h2⟩
  ·rintro ⟨h1,h2,h3⟩; exact ⟨by omega,h3⟩
theorem meet_iff {l : List Span} {n : Int} : inS (meetL l) n ↔ (0 <= n /\ n <= 12) /\ ∀ s ∈ l,inS s n:= by
 rw [meetL,foldl_common]; rfl
theorem pick_mem {W : List Span} {p : Nat -> Bool} {s : Span} : s ∈ pick W p ↔ ∃ i,W[i]? = some s /\ p i = true:= by
 simp only [pick,List.mem_map,List.mem_filter]
 constructor
 ·rintro ⟨⟨x,i⟩,⟨h1,h2⟩,rfl⟩
  exact ⟨i,List.mem_zipIdx_iff_getElem?.1 h1,h2⟩
 ·rintro ⟨i,h1,h2⟩
  exact ⟨(s,i),⟨List.mem_zipIdx_iff_getElem?.2 h1,h2⟩,rfl⟩
theorem pick_iff {W : List Span} {p : Nat -> Bool} {n : Int} : inS (meetL (pick W p)) n ↔ (0 <= n /\ n <= 12) /\ ∀ i s,W[i]? = some s -> p i = true -> inS s n:= by
 rw [meet_iff]
 simp only [pick_mem]
 exact ⟨fun ⟨h1,h2⟩ => ⟨h1,fun i s hi hp => h2 s ⟨i,hi,hp⟩⟩,fun ⟨h1,h2⟩ => ⟨h1,fun s ⟨i,hi,hp⟩ => h2 i s hi hp⟩⟩
theorem pick_mono {W : List Span} {p q : Nat -> Bool} (h : ∀ i,i < W.length -> q i = true -> p i = true) (ho : openS (meetL (pick W p)) = true) : openS (meetL (pick W q)) = true:= by
 obtain ⟨n,hn⟩ := open_iff.1 ho
 rw [pick_iff] at hn
 exact open_iff.2 ⟨n,pick_iff.2 ⟨hn.1,fun i s hi hq => hn.2 i s hi (h i (List.getElem?_eq_some_iff.1 hi).1 hq)⟩⟩
def allW (d : Drum) : Span := meetL (pick (winP d) fun _ => true)
end Go.Abs
namespace Go.Abs
set_option linter.unusedVariables false
def membersL (set : Int) : List Int := ((List.range 5).filter (hasI set)).map fun i : Nat => (i : Int)
def lexB : List Int -> List Int -> Bool
 | [],[] => false
 | [],_ :: _ => true
 | _ :: _,[] => false
 | x :: a,y :: b => if x < y then true else if y < x then false else lexB a b
def lessN (a b : List Int) : Bool := decide (a.length < b.length) || decide (a.length = b.length) && lexB a b
def moreN (a b : List Int) : Bool := decide (b.length < a.length) || decide (a.length = b.length) && lexB a b
def bestL {α : Type} (better : α -> α -> Bool) : List α -> Option α
 | [] => none
 | x :: l => some (l.foldl (fun o y => if better y o then y else o) x)
def listsI (below : Nat) : Nat -> Nat -> List (List Int)
 | 0,_ => [[]]
 | m + 1,fr => (List.range' fr (below - fr)).flatMap fun n => (listsI below m (n + 1)).map fun l => (n : Int) :: l
def orderN (n : Nat) : List (List Int) := (List.range (n + 1)).flatMap fun k => listsI n k 0
def orderA (n : Nat) : List (List Int) := (List.range (n + 1)).reverse.flatMap fun k => listsI n k 0
def rankB (lt : List Int -> List Int -> Bool) (O : List (List Int)) : Bool := O.all fun a => O.all fun b => lt a b == decide (O.idxOf a < O.idxOf b)
def permB (n : Nat) (O : List (List Int)) : Bool := ((List.range (2 ^ n)).all fun (s : Nat) => O.contains (membersL (s : Int))) && O.all fun l => (List.range (2 ^ n)).any fun (s : Nat) => membersL (s : Int) == l
theorem rankN1 : rankB lessN (orderN 1) = true := by decide +kernel
theorem rankN2 : rankB lessN (orderN 2) = true := by decide +kernel
theorem rankN3 : rankB lessN (orderN 3) = true := by decide +kernel
theorem rankN4 : rankB lessN (orderN 4) = true := by decide +kernel
theorem rankN5 : rankB lessN (orderN 5) = true := by decide +kernel
theorem rankA1 : rankB moreN (orderA 1) = true := by decide +kernel
theorem rankA2 : rankB moreN (orderA 2) = true := by decide +kernel
theorem rankA3 : rankB moreN (orderA 3) = true := by decide +kernel
theorem rankA4 : rankB moreN (orderA 4) = true := by decide +kernel
theorem rankA5 : rankB moreN (orderA 5) = true := by decide +kernel
theorem perms1 : (permB 1 (orderN 1) && permB 1 (orderA 1)) = true := by decide +kernel
theorem perms2 : (permB 2 (orderN 2) && permB 2 (orderA 2)) = true := by decide +kernel
theorem perms3 : (permB 3 (orderN 3) && permB 3 (orderA 3)) = true := by decide +kernel
theorem perms4 : (permB 4 (orderN 4) && permB 4 (orderA 4)) = true := by decide +kernel
theorem perms5 : (permB 5 (orderN 5) && permB 5 (orderA 5)) = true := by decide +kernel
theorem orders_ok {n : Nat} (h1 : 1 <= n) (h5 : n <= 5) : rankB lessN (orderN n) = true /\ rankB moreN (orderA n) = true /\ permB n (orderN n) = true /\ permB n (orderA n) = true:= by
 have g1 := perms1; have g2 := perms2; have g3 := perms3; have g4 := perms4; have g5 := perms5
 rw [Bool.and_eq_true] at g1 g2 g3 g4 g5
 match n,h1,h5 with
 | 1,_,_ => exact ⟨rankN1,rankA1,g1⟩
 | 2,_,_ => exact ⟨rankN2,rankA2,g2⟩
 | 3,_,_ => exact ⟨rankN3,rankA3,g3⟩
 | 4,_,_ => exact ⟨rankN4,rankA4,g4⟩
 | 5,_,_ => exact ⟨rankN5,rankA5,g5⟩
theorem fold_best {α : Type} {lt : α -> α -> Bool} {O : List α} (r : α -> Nat) (hr : ∀ a ∈ O,∀ b ∈ O,lt a b = decide (r a < r b)) : ∀ (l : List α) (x : α),x ∈ O -> (∀ y ∈ l,y ∈ O) →
  (l.foldl (fun o y => if lt y o then y else o) x = x \/ l.foldl (fun o y => if lt y o then y else o) x ∈ l) /\ r (l.foldl (fun o y => if lt y o then y else o) x) <= r x /\ ∀ y ∈ l,r (l.foldl (fun o y => if lt y o then y else o) x) <= r y
 | [],x,hx,_ => ⟨.inl rfl,Nat.le_refl _,fun y h => by cases h⟩
 | z :: l,x,hx,hl => by
  have hz := hl z (by simp)
  simp only [List.foldl_cons]
  have key := hr z hz x hx
  cases hb : lt z x with
  | true =>
   rw [hb] at key
   have hlt : r z < r x := by simpa using key.symm
   obtain ⟨h1,h2,h3⟩ := fold_best r hr l z hz (fun y hy => hl y (by simp [hy]))
   simp only [if_true]
   refine ⟨.inr ?_,by omega,fun y hy => ?_⟩
   ·rcases h1 with h1 | h1
    ·rw [h1]; simp
    ·simp [h1]
   ·rcases List.mem_cons.1 hy with rfl | hy
    ·exact h2
    ·exact h3 y hy
  | false =>
   rw [hb] at key
   have hlt : ¬ r z < r x := by simpa using key.symm
   obtain ⟨h1,h2,h3⟩ := fold_best r hr l x hx (fun y hy => hl y (by simp [hy]))
   simp only [Bool.false_eq_true,if_false]
   refine ⟨?_,h2,fun y hy => ?_⟩
   ·rcases h1 with h1 | h1
    ·exact .inl h1
    ·exact .inr (by simp [h1])
   ·rcases List.mem_cons.1 hy with rfl | hy
    ·omega
    ·exact h3 y hy
theorem best_find {lt : List Int -> List Int -> Bool} {O l : List (List Int)} {P : List Int -> Bool} (hr : rankB lt O = true) (hl : ∀ x,x ∈ l ↔ x ∈ O /\ P x = true) : bestL lt l = O.find? P:= by
 have hr' : ∀ a ∈ O,∀ b ∈ O,lt a b = decide (O.idxOf a < O.idxOf b) := fun a ha b hb => by
  have := List.all_eq_true.1 (List.all_eq_true.1 hr a ha) b hb
  simpa using this
 cases l with
 | nil =>
  simp only [bestL]
  symm
  rw [List.find?_eq_none]
  intro x hx hp
  exact absurd ((hl x).2 ⟨hx,hp⟩) (by simp)
 | cons x l =>
  obtain ⟨h1,h2,h3⟩ := fold_best (fun a => O.idxOf a) hr' l x ((hl x).1 (by simp)).1 (fun y hy => ((hl y).1 (by simp [hy])).1)
  simp only [bestL]
  generalize l.foldl (fun o y => if lt y o then y else o) x = b at *
  have hb : b ∈ x :: l:= by
   rcases h1 with h1 | h1
   ·rw [h1]; simp
   ·simp [h1]
  obtain ⟨hbO,hbP⟩ := (hl b).1 hb
  have hmin : ∀ y ∈ x :: l,O.idxOf b <= O.idxOf y := fun y hy => by
   rcases List.mem_cons.1 hy with rfl | hy
   ·exact h2
   ·exact h3 y hy
  symm
  cases hf : O.find? P with
  | none =>
   rw [List.find?_eq_none] at hf
   exact absurd hbP (hf b hbO)
  | some c =>
   obtain ⟨hcP,as,bs,rfl,has⟩ := List.find?_eq_some_iff_append.1 hf
   have hc : c ∈ x :: l := (hl c).2 ⟨by simp,hcP⟩
   have hle := hmin c hc
   have hbn : b ∉ as := fun h => by
    have := has b h
    rw [hbP] at this; simp at this
   have hcn : c ∉ as := fun h => by
    have := has c h
    rw [hcP] at this; simp at this
   rw [List.idxOf_append,List.idxOf_append,if_neg hbn,if_neg hcn] at hle
   have : (c :: bs).idxOf b = 0:= by
    have e : (c :: bs).idxOf c = 0 := by simp
    omega
   have hbc : c = b:= by
    rw [List.idxOf_cons] at this
    by_cases h : c == b
    ·simpa using h
    ·rw [cond_eq_ite,if_neg h] at this; omega
   rw [hbc]
def restB (W : List Span) (gone : List Int) : Bool := openS (meetL (pick W fun i => !gone.contains (i : Int)))
def namedI (W : List Span) : List Int := ((orderN W.length).find? (restB W)).getD []
def apartB (W : List Span) (l : List Int) : Bool := pairsB (fun a b => !openS (meetL (pick W fun i => decide ((i : Int) = a) || decide ((i : Int) = b)))) l
def longestI (W : List Span) : List Int := ((orderA W.length).find? (apartB W)).getD []
def runsI (l : List Int) : Int := l.foldl (fun m x => max m (x + 1)) 0
def rgsGo (n : Int) : List Int -> Bool
 | [] => true
 | x :: l => decide (x <= n) && rgsGo (max n (x + 1)) l
def runB (W : List Span) (l : List Int) (r : Int) : Bool := openS (meetL (pick W fun i => decide (l[i]? = some r)))
def sortsB (W : List Span) (l : List Int) : Bool := rgsGo 0 l && (List.range (runsI l).toNat).all fun r => runB W l (r : Int)
def levelI : Nat -> List Int -> List (List Int)
 | 0,now => [now]
 | k + 1,now => (List.range ((runsI now).toNat + 1)).flatMap fun m : Nat => levelI k (now ++ [(m : Int)])
def dfsI (W : List Span) : Nat -> List Int -> List (List Int)
 | 0,now => if sortsB W now then [now] else []
 | k + 1,now => if sortsB W now then (List.range ((runsI now).toNat + 1)).flatMap fun m : Nat => dfsI W k (now ++ [(m : Int)]) else []
def fewB (a b : List Int) : Bool := decide (runsI a < runsI b)
def sortI (W : List Span) : List Int := (bestL fewB ((levelI W.length []).filter (sortsB W))).getD []
theorem runs_foldl (l : List Int) : ∀ m,m <= l.foldl (fun m x => max m (x + 1)) m /\ (∀ x ∈ l,x + 1 <= l.foldl (fun m x => max m (x + 1)) m) /\ (l.foldl (fun m x => max m (x + 1)) m = m \/ ∃ x ∈ l,l.foldl (fun m x => max m (x + 1)) m = x + 1):= by
 induction l with
 | nil => intro m; simp
 | cons y l ih =>
  intro m
  obtain ⟨h1,h2,h3⟩ := ih (max m (y + 1))
  simp only [List.foldl_cons,List.mem_cons,forall_eq_or_imp]
  refine ⟨by omega,⟨by omega,h2⟩,?_⟩
  rcases h3 with h3 | ⟨x,hx,h3⟩
  ·by_cases h : m <= y + 1
   ·exact .inr ⟨y,.inl rfl,by omega⟩
   ·exact .inl (by omega)
  ·exact .inr ⟨x,.inr hx,h3⟩
theorem runs_nonneg (l : List Int) : 0 <= runsI l := (runs_foldl l 0).1
theorem runs_lt {l : List Int} {x : Int} (h : x ∈ l) : x < runsI l := by have := (runs_foldl l 0).2.1 x h; unfold runsI; omega
theorem runs_append (l : List Int) (x : Int) : runsI (l ++ [x]) = max (runsI l) (x + 1) := by simp [runsI,List.foldl_append]
theorem rgs_append : ∀ (l : List Int) (n x : Int),rgsGo n (l ++ [x]) = (rgsGo n l && decide (x <= l.foldl (fun m x => max m (x + 1)) n))
 | [],n,x => by simp only [List.nil_append,rgsGo,Bool.and_true,Bool.true_and,List.foldl_nil]; congr
 | y :: l,n,x => by simp only [List.cons_append,rgsGo,rgs_append l,List.foldl_cons,Bool.and_assoc]; congr
theorem sorts_prefix {W : List Span} {l : List Int} {x : Int} (h : sortsB W (l ++ [x]) = true) : sortsB W l = true:= by
 unfold sortsB at h ⊢
 rw [rgs_append] at h
 simp only [Bool.and_eq_true,List.all_eq_true,List.mem_range] at h ⊢
 obtain ⟨⟨h1,h2⟩,h3⟩ := h
 refine ⟨h1,fun r hr => ?_⟩
 have := h3 r (by rw [runs_append]; omega)
 refine pick_mono (fun i _ hq => ?_) this
 simp only [decide_eq_true_eq] at hq ⊢
 rw [List.getElem?_append_left (List.getElem?_eq_some_iff.1 hq).1]; exact hq
theorem level_prefix {W : List Span} : ∀ (k : Nat) (now l : List Int),l ∈ levelI k now -> sortsB W l = true -> sortsB W now = true
 | 0,now,l,h,hs => by simp only [levelI,List.mem_singleton] at h; rw [<- h]; exact hs
 | k + 1,now,l,h,hs => by
  simp only [levelI,List.mem_flatMap] at h
  obtain ⟨m,_,hm⟩ := h
  exact sorts_prefix (level_prefix k _ l hm hs)
theorem dfs_level (W : List Span) : ∀ (k : Nat) (now : List Int),dfsI W k now = (levelI k now).filter (sortsB W)
 | 0,now => by simp only [dfsI,levelI,List.filter_cons,List.filter_nil]
 | k + 1,now => by
  simp only [dfsI]
  split
  ·simp only [levelI,List.filter_flatMap]
   congr 1
   funext m
   exact dfs_level W k _
  ·rename_i hn
   symm
   rw [List.filter_eq_nil_iff]
   intro l hl hs
   exact hn (level_prefix (k + 1) now l hl hs)
end Go.Abs
namespace Go.Abs
set_option linter.unusedVariables false
theorem len_le_of_nodup {n : Nat} : ∀ (l : List Nat),l.Nodup -> (∀ x ∈ l,x < n) -> l.length <= n:= by
 induction n with
 | zero => intro l _ h; cases l with
  | nil => simp
  | cons x l => exact absurd (h x (by simp)) (by omega)
 | succ n ih =>
  intro l hn h
  have h1 : (l.erase n).length <= n := ih _ (hn.erase n) fun x hx => by
   have := (hn.mem_erase_iff).1 hx
   have := h x this.2
   omega
  have : l.length <= (l.erase n).length + 1 := by rw [List.length_erase]; split <;> omega
  omega
def stabs (W : List Span) (P : List Int) : Prop := (∀ p ∈ P,0 <= p /\ p <= 12) /\ ∀ s ∈ W,∃ p ∈ P,inS s p
def label (seen : List Nat) : List Nat -> List Nat
 | [] => []
 | c :: l => if c ∈ seen then seen.idxOf c :: label seen l else seen.length :: label (seen ++ [c]) l
def seenL (seen : List Nat) : List Nat -> List Nat
 | [] => seen
 | c :: l => if c ∈ seen then seenL seen l else seenL (seen ++ [c]) l
theorem seen_pre : ∀ (l seen : List Nat),∃ r,seenL seen l = seen ++ r
 | [],seen => ⟨[],by simp [seenL]⟩
 | c :: l,seen => by
  unfold seenL
  split
  ·exact seen_pre l seen
  ·obtain ⟨r,hr⟩ := seen_pre l (seen ++ [c])
   exact ⟨c :: r,by rw [hr]; simp⟩
theorem seen_nodup : ∀ (l seen : List Nat),seen.Nodup -> (seenL seen l).Nodup
 | [],seen,h => h
 | c :: l,seen,h => by
  unfold seenL
  split
  ·exact seen_nodup l seen h
  ·rename_i hc
   refine seen_nodup l _ ?_
   rw [List.nodup_append]
   refine ⟨h,by simp,fun a ha b hb => ?_⟩
   simp only [List.mem_singleton] at hb
   subst hb
   exact fun e => hc (e ▸ ha)
theorem seen_mem : ∀ (l seen : List Nat) (x : Nat),x ∈ seenL seen l ↔ x ∈ seen \/ x ∈ l
 | [],seen,x => by simp [seenL]
 | c :: l,seen,x => by
  unfold seenL
  split
  ·rename_i hc
   rw [seen_mem l seen x,List.mem_cons]
   constructor
   ·rintro (h | h) <;> simp [h]
   ·rintro (h | h | h)
    ·simp [h]
    ·subst h; simp [hc]
    ·simp [h]
  ·rw [seen_mem l (seen ++ [c]) x,List.mem_cons,List.mem_append,List.mem_singleton]
   constructor
   ·rintro ((h | h) | h) <;> simp [h]
   ·rintro (h | h | h) <;> simp [h]
theorem label_get : ∀ (l seen : List Nat),label seen l = l.map fun c => (seenL seen l).idxOf c
 | [],seen => by simp [label]
 | c :: l,seen => by
  unfold label seenL
  split
  ·rename_i hc
   rw [label_get l seen,List.map_cons]
   congr 1
   obtain ⟨r,hr⟩ := seen_pre l seen
   rw [hr,List.idxOf_append,if_pos hc]
  ·rename_i hc
   rw [label_get l (seen ++ [c]),List.map_cons]
   congr 1
   obtain ⟨r,hr⟩ := seen_pre l (seen ++ [c])
   rw [hr,List.append_assoc,List.idxOf_append,if_neg hc]
   simp
def labelI (seen l : List Nat) : List Int := (label seen l).map fun n : Nat => (n : Int)
theorem rgs_label : ∀ (l seen : List Nat),rgsGo (seen.length : Int) (labelI seen l) = true
 | [],seen => rfl
 | c :: l,seen => by
  unfold labelI label
  split
  ·rename_i hc
   have h1 : seen.idxOf c < seen.length := List.idxOf_lt_length_of_mem hc
   simp only [List.map_cons,rgsGo,Bool.and_eq_true,decide_eq_true_eq]
   refine ⟨by omega,?_⟩
   rw [show max (seen.length : Int) ((seen.idxOf c : Int) + 1) = (seen.length : Int) by omega]
   exact rgs_label l seen
  ·simp only [List.map_cons,rgsGo,Bool.and_eq_true,decide_eq_true_eq]
   refine ⟨by omega,?_⟩
   have := rgs_label l (seen ++ [c])
   rw [List.length_append,List.length_singleton] at this
   rw [show max (seen.length : Int) ((seen.length : Int) + 1) = ((seen.length + 1 : Nat) : Int) by omega]
   exact this
theorem level_mem : ∀ (k : Nat) (now l : List Int),l.length = k -> (∀ x ∈ l,0 <= x) -> rgsGo (runsI now) l = true -> now ++ l ∈ levelI k now
 | 0,now,l,h,_,_ => by
  have := List.length_eq_zero_iff.1 h
  subst this; simp [levelI]
 | k + 1,now,l,h,h0,hr => by
  match l,h,h0,hr with
  | x :: l,h,h0,hr =>
   simp only [rgsGo,Bool.and_eq_true,decide_eq_true_eq] at hr
   have hx := h0 x (by simp)
   have hn := runs_nonneg now
   simp only [levelI,List.mem_flatMap,List.mem_range]
   refine ⟨x.toNat,by omega,?_⟩
   rw [show ((x.toNat : Nat) : Int) = x by omega]
   have := level_mem k (now ++ [x]) l (by simpa using h) (fun y hy => h0 y (by simp [hy])) (by rw [runs_append]; exact hr.2)
   rw [List.append_assoc] at this
   exact this
theorem level_spec : ∀ (k : Nat) (now l : List Int),l ∈ levelI k now -> ∃ r,l = now ++ r /\ r.length = k /\ (∀ x ∈ r,0 <= x) /\ rgsGo (runsI now) r = true
 | 0,now,l,h => by simp only [levelI,List.mem_singleton] at h; exact ⟨[],by simp [h],rfl,by simp,rfl⟩
 | k + 1,now,l,h => by
  simp only [levelI,List.mem_flatMap,List.mem_range] at h
  obtain ⟨m,hm,h⟩ := h
  obtain ⟨r,h1,h2,h3,h4⟩ := level_spec k _ l h
  have hn := runs_nonneg now
  refine ⟨(m : Int) :: r,by rw [h1]; simp,by simp [h2],fun x hx => ?_,?_⟩
  ·rcases List.mem_cons.1 hx with rfl | hx
   ·omega
   ·exact h3 x hx
  ·simp only [rgsGo,Bool.and_eq_true,decide_eq_true_eq]
   rw [runs_append] at h4
   exact ⟨by omega,h4⟩
theorem level_iff {k : Nat} {l : List Int} : l ∈ levelI k [] ↔ l.length = k /\ (∀ x ∈ l,0 <= x) /\ rgsGo 0 l = true:= by
 constructor
 ·intro h
  obtain ⟨r,h1,h2,h3,h4⟩ := level_spec k [] l h
  rw [List.nil_append] at h1
  subst h1
  exact ⟨h2,h3,h4⟩
 ·rintro ⟨h1,h2,h3⟩
  exact level_mem k [] l h1 h2 h3
theorem runs_le {l : List Int} {m : Int} (h0 : 0 <= m) (h : ∀ x ∈ l,x + 1 <= m) : runsI l <= m:= by
 rcases (runs_foldl l 0).2.2 with e | ⟨x,hx,e⟩
 ·unfold runsI; omega
 ·have := h x hx; unfold runsI; omega
theorem stab_color {W : List Span} {P : List Int} (h : stabs W P) : ∃ c : List Nat,c.length = W.length /\ (∀ x ∈ c,x < P.length) /\ ∀ (i : Nat) (s : Span) (x : Nat),W[i]? = some s -> c[i]? = some x -> ∃ p,P[x]? = some p /\ inS s p:= by
 obtain ⟨h1,h2⟩ := h
 induction W with
 | nil => exact ⟨[],rfl,by simp,by simp⟩
 | cons s W ih =>
  obtain ⟨c,g1,g2,g3⟩ := ih (fun t ht => h2 t (by simp [ht]))
  obtain ⟨p,hp,hs⟩ := h2 s (by simp)
  obtain ⟨x,hx⟩ := List.mem_iff_getElem?.1 hp
  refine ⟨x :: c,by simp [g1],fun y hy => ?_,fun i t y hi hy => ?_⟩
  ·rcases List.mem_cons.1 hy with rfl | hy
   ·exact (List.getElem?_eq_some_iff.1 hx).1
   ·exact g2 y hy
  ·cases i with
   | zero =>
    simp only [List.getElem?_cons_zero,Option.some.injEq] at hi hy
    subst hi; subst hy
    exact ⟨p,hx,hs⟩
   | succ i => exact g3 i t y (by simpa using hi) (by simpa using hy)
theorem stab_sorts {W : List Span} {P : List Int} (h : stabs W P) : ∃ l ∈ levelI W.length [],sortsB W l = true /\ runsI l <= P.length:= by
 obtain ⟨c,h1,h2,h3⟩ := stab_color h
 have hS := label_get c []
 have hnd := seen_nodup c [] (by simp)
 have hmem := seen_mem c []
 have hlen : (seenL [] c).length <= P.length := len_le_of_nodup _ hnd fun x hx => by
  rcases (hmem x).1 hx with hx | hx
  ·cases hx
  ·exact h2 x hx
 have hrg := rgs_label c []
 have hle : ∀ x ∈ labelI [] c,0 <= x /\ x + 1 <= ((seenL [] c).length : Int) := fun x hx => by
  simp only [labelI,hS,List.map_map,List.mem_map,Function.comp] at hx
  obtain ⟨y,hy,rfl⟩ := hx
  have := List.idxOf_lt_length_of_mem ((hmem y).2 (.inr hy))
  omega
 refine ⟨labelI [] c,level_iff.2 ⟨by simp [labelI,hS,h1],fun x hx => (hle x hx).1,hrg⟩,?_,?_⟩
 ·simp only [sortsB,Bool.and_eq_true,List.all_eq_true,List.mem_range]
  refine ⟨hrg,fun r hr => ?_⟩
  have hr' : r < (seenL [] c).length:= by
   have := runs_le (l := labelI [] c) (m := (seenL [] c).length) (by omega) (fun x hx => (hle x hx).2)
   omega
  have hcm : (seenL [] c)[r] ∈ c:= by
   rcases (hmem _).1 (List.getElem_mem hr') with h | h
   ·cases h
   ·exact h
  obtain ⟨p,hp⟩ : ∃ p,P[(seenL [] c)[r]]? = some p := ⟨P[(seenL [] c)[r]]'(h2 _ hcm),by simp [h2 _ hcm]⟩
  refine open_iff.2 ⟨p,pick_iff.2 ⟨h.1 p (List.mem_of_getElem? hp),fun i s hi hd => ?_⟩⟩
  simp only [decide_eq_true_eq,labelI,hS,List.map_map,List.getElem?_map,Option.map_eq_some_iff,Function.comp] at hd
  obtain ⟨x,hx,hxr⟩ := hd
  have hxr : (seenL [] c).idxOf x = r := by omega
  have hxm : x ∈ seenL [] c := (hmem x).2 (.inr (List.mem_of_getElem? hx))
  have hex : (seenL [] c)[r] = x:= by
   subst hxr
   exact List.getElem_idxOf (List.idxOf_lt_length_of_mem hxm)
  obtain ⟨q,hq,hsq⟩ := h3 i s x hi hx
  rw [hex,hq] at hp
  cases hp
  exact hsq
 ·have := runs_le (l := labelI [] c) (m := P.length) (by omega) (fun x hx => by have := (hle x hx).2; omega)
  omega
end Go.Abs
namespace Go.Abs
set_option linter.unusedVariables false
section
variable {d : Drum} {r : List Strip} {known : Int} {a : Acid}
end
theorem pairs_mem {α : Type} {r : α -> α -> Bool} : ∀ {l : List α},pairsB r l = true -> ∀ {i j : Nat} {x y : α},i < j -> l[i]? = some x -> l[j]? = some y -> r y x = true
 | [],_,i,j,x,y,_,h,_ => by simp at h
 | z :: l,h,i,j,x,y,hij,hx,hy => by
  simp only [pairsB,Bool.and_eq_true,List.all_eq_true] at h
  cases j with
  | zero => omega
  | succ j =>
   rw [List.getElem?_cons_succ] at hy
   cases i with
   | zero =>
    simp only [List.getElem?_cons_zero,Option.some.injEq] at hx
    subst hx
    exact h.2 y (List.mem_of_getElem? hy)
   | succ i => exact pairs_mem (i := i) (j := j) h.1 (by omega) (by simpa using hx) hy
theorem pairs_iff {α : Type} {r : α -> α -> Bool} : ∀ {l : List α},pairsB r l = true ↔ ∀ (i j : Nat) (x y : α),i < j -> l[i]? = some x -> l[j]? = some y -> r y x = true
 | [] => by simp [pairsB]
 | z :: l => by
  refine ⟨fun h i j x y => pairs_mem h,fun h => ?_⟩
  simp only [pairsB,Bool.and_eq_true,List.all_eq_true]
  refine ⟨pairs_iff.2 fun i j x y hij hx hy => h (i + 1) (j + 1) x y (by omega) (by simpa using hx) (by simpa using hy),fun y hy => ?_⟩
  obtain ⟨j,hj⟩ := List.mem_iff_getElem?.1 hy
  exact h 0 (j + 1) z y (by omega) rfl (by simpa using hj)
end Go.Abs
