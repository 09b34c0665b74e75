/- Numerals of every size, where the table of powers of ten is laid; the slip of a drum. -/
import Derived.Test.YtmplfjolcdlipaaGreatDoorJDrU
import Derived.Test.YtmplfjolcdlipaaGreatDoorJLa
import Derived.Laws.RangeAny
set_option linter.unusedVariables false
set_option linter.unusedSimpArgs false
namespace Go.Abs
open Go.Proofs Go.RowKit
set_option linter.unusedVariables false
set_option linter.unusedSimpArgs false
set_option maxRecDepth 100000
theorem ACalls.of_strK {P : Program} {f : FuncId} {ps : List PV} {s : ByteArray} (hE : Enters P f) (h : ∀ W D vs,KOK P W D (fun _ => False) -> RepL W D vs ps -> (∀ b,D b -> b < W.heap.size) -> Calls P f vs W fun e w' => e = .returned (.string s) /\ Below W.heap.size W w') : ACalls P f ps (fun r => r = .pv (.str s)) :=
 ⟨hE,fun W D vs hko hD hr => (h W D vs hko hr hD).mono fun e w' ⟨he,hb⟩ => ⟨_,.pv (.str s),D,he,hb,fun _ h => h,fun _ h => .inl h,fun b hb' => Nat.lt_of_lt_of_le (hD b hb') hb.size,.str s,rfl⟩⟩
theorem f156K (n : Nat) (hn : n < 1000000) : ACalls Tryz.prog 156 [vi n] (fun r => r = .pv (.str (itoaB n))):= by
 refine ACalls.of_strK (enters_of (fn := Tryz.f156) rfl rfl (by kernel_rfl)) fun W D vs hko hr hD => ?_
 obtain ⟨h1,h2⟩ := hr
 have h0 : vs = #[.int .i64 n]:= by
  apply Array.ext
  ·simpa using h1
  ·intro j q1 q2
   have hj : j = 0 := by simp at q2; omega
   subst hj
   have := h2 0 vs[0] (vi n) (by simp [q1]) rfl
   simpa using this.inv_int
 subst h0
 obtain ⟨g,_,_,_,_,htab⟩ := hko
 refine (Tryz.strconv_Itoa n (by omega) (by omega) W htab).mono fun e w' ⟨he,k,os,hw⟩ => ⟨?_,?_⟩
 ·rw [he]
  have : Lib.itoa (n : Int) = Lib.decDigits (n : Int).toNat := by unfold Lib.itoa; rw [if_neg (by omega)]
  rw [this]; rfl
 ·rw [hw]
  exact ⟨rfl,rfl,rfl,by simp [Sort.grow,World.drewN],fun j hj => by simp [Sort.grow,World.drewN,Array.getElem?_append_left hj]⟩
theorem numsK {l : List Int} (h : SmallL l) : NumsOK l := fun x hx => by
 have hb := h x hx
 obtain ⟨n,rfl⟩ : ∃ n : Nat,x = n := ⟨x.toNat,by omega⟩
 exact ⟨f156K n (by omega),itoa_sz hb⟩
theorem drum_small {d : Drum} (hP : DrumP d) : SmallL (numsD d):= by
 have hk := known_bd hP
 have h1 := hP.h1; have h0 := hP.h0
 intro x hx
 simp only [numsD,List.mem_cons,List.mem_append,List.mem_flatMap] at hx
 rcases hx with rfl | rfl | ⟨a,ha,hx⟩ | hx | ⟨s,hs,hx⟩ | ⟨b,hb,hx⟩
 ·omega
 ·omega
 ·have q := hP.acid a ha
  have := q.s0; have := q.s1; have := q.s2; have := q.f0; have := q.f1; have := q.f2
  simp only [acN,faN,List.mem_append,List.mem_cons,List.not_mem_nil,or_false] at hx
  omega
 ·have := hP.add x hx; omega
 ·have q := hP.strip s hs
  have := q.h0; have := q.h1; have := q.s0; have := q.s1; have := q.o0; have := q.o1
  simp only [stN,List.mem_cons,List.not_mem_nil,or_false] at hx
  omega
 ·have q := hP.batch b hb
  have := q.r0; have := q.r1; have := q.g0; have := q.g1; have := q.t0; have := q.t1; have := q.l0; have := q.l1; have := q.p0; have := q.p1; have := q.e0; have := q.e1
  simp only [baN,List.mem_cons,List.not_mem_nil,or_false] at hx
  omega
theorem f105K {d : Drum} (hP : DrumP d) : ACalls Tryz.prog 105 [eDrum d] (fun r => r = .pv (.str (textD d))) :=
 f105 d (by have := hP.a1; omega) (by have := hP.al; have := hP.h1; omega) (by have := hP.sl; omega) (by have := hP.b1; omega) (numsK (drum_small hP))
theorem f41K {d : Drum} (hP : DrumP d) : ACalls Tryz.prog 41 [eDrum d] (fun r => r = .pv (.str (textD d))) :=
 f41 d (by have := hP.a1; omega) (by have := hP.al; have := hP.h1; omega) (by have := hP.sl; omega) (by have := hP.b1; omega) (drum_small hP)
theorem f38y {d : Drum} (hd : drumOK d) (hP : DrumP d) : ACalls Tryz.prog 38 [eDrum d] (fun r => r = .tup [.str (textD d),vi 0]):= by
 have k104 := f104 d hd
 rw [drumP_of.2 hP] at k104
 have k105 := f105K hP
 refine ACalls.of_body hT Tryz.func38 rfl (by kernel_rfl) rfl ?_
 (repeat' (first | refine stq ?_ | (refine AL_do2 rfl ?_; first | refine ⟨_,op_call1 rfl rfl rfl rfl (k104),nrmA rfl ?_⟩ | refine ⟨_,op_call1 rfl rfl rfl rfl (k105),nrmA rfl ?_⟩) | (with_reducible refine AL_id ?_); (fail_if_success (refine AL_glit rfl rfl rfl (by first | exact .inl (by with_reducible rfl) | exact .inr (by with_reducible rfl)) ?_)); first | refine AL_gdec rfl rfl rfl (fun hg => ?_) (fun hg => ?_) | refine AL_gnot rfl rfl rfl (fun hg => ?_) (fun hg => ?_) | refine AL_gcases rfl rfl rfl (fun hg => ?_) (fun hg => ?_)))
 all_goals (try (exfalso; simp at hg; done))
 exact ⟨_,_,rfl,rfl,rfl⟩
theorem f38n {d : Drum} (hd : drumOK d) (h : drumB d = false) : ACalls Tryz.prog 38 [eDrum d] (fun r => r = .tup [.str ByteArray.empty,vi 2]):= by
 have k104 := f104 d hd
 rw [h] at k104
 refine ACalls.of_body hT Tryz.func38 rfl (by kernel_rfl) rfl ?_
 (repeat' (first | refine stq ?_ | (refine AL_do2 rfl ?_; first | refine ⟨_,op_call1 rfl rfl rfl rfl (k104),nrmA rfl ?_⟩) | (with_reducible refine AL_id ?_); (fail_if_success (refine AL_glit rfl rfl rfl (by first | exact .inl (by with_reducible rfl) | exact .inr (by with_reducible rfl)) ?_)); first | refine AL_gdec rfl rfl rfl (fun hg => ?_) (fun hg => ?_) | refine AL_gnot rfl rfl rfl (fun hg => ?_) (fun hg => ?_) | refine AL_gcases rfl rfl rfl (fun hg => ?_) (fun hg => ?_)))
 all_goals (try (exfalso; simp at hg; done))
 exact ⟨_,_,rfl,rfl,rfl⟩
end Go.Abs
namespace Go.Abs
open Go.Proofs Go.RowKit
set_option linter.unusedVariables false
set_option linter.unusedSimpArgs false
set_option maxRecDepth 100000
def panW (c : TypeId × Value) : Prop := ∃ x : ByteArray,c = (177,.agg #[.string x])
theorem f160f (x : ByteArray) : ACallsP Tryz.prog 160 [.bool false,.str x] (177,.agg #[.string x]):= by
 refine ACallsP.of_body hT Tryz.func160 rfl (by kernel_rfl) rfl ?_
 (repeat (refine stq ?_))
 refine AL_do2 rfl ⟨_,op_mkiface hT rfl rfl rfl rfl rfl,?_⟩
 refine AL_panicV rfl rfl rfl rfl ?_
 (repeat (first | refine then_panic ?_ | refine inblk_panic ?_))
 rfl
def numG (l : List UInt8) : Bool := l.all digB && decide (1 <= l.length) && decide (l.length <= 4) && decide (Lib.decDigits (numV l).toNat = l)
def numO (l : List UInt8) : Option Int := if numG l = true then some (numV l) else none
theorem numG_w {l : List UInt8} (h : numG l = true) : NumW l:= by
 simp only [numG,Bool.and_eq_true,decide_eq_true_eq,List.all_eq_true] at h
 obtain ⟨⟨⟨h1,h2⟩,h3⟩,h4⟩ := h
 have hb := numV_bd h1 h3
 refine ⟨h1,h2,h3,?_,?_⟩
 ·have := f156K (numV l).toNat (by omega)
  rw [show (((numV l).toNat : Nat) : Int) = numV l by omega] at this
  exact this
 ·unfold itoaB; rw [h4]
theorem dec_any {l : List UInt8} {j : Nat} {b : UInt8} (hb : l[j]? = some b) : ∃ c w,Utf8.decode (bytesOf l) j = (c,w) /\ (b.toNat < 128 -> c = b.toNat /\ w = 1) /\ (128 <= b.toNat -> 128 <= c):= by
 by_cases h : b.toNat < 128
 ·exact ⟨_,_,dec_at hb h,fun _ => ⟨rfl,rfl⟩,fun h' => by omega⟩
 ·have hj : j < (bytesOf l).size := (List.getElem?_eq_some_iff.1 hb).1
  have hg : (bytesOf l)[j]'hj = b:= by
   have := (List.getElem?_eq_some_iff.1 hb).2
   exact (rfl : (bytesOf l)[j]'hj = l[j]'(List.getElem?_eq_some_iff.1 hb).1).trans this
  have := decode_high (bytesOf l) j hj (by rw [hg]; omega)
  exact ⟨_,_,rfl,fun h' => by omega,fun _ => this.1⟩
set_option maxHeartbeats 4000000 in
theorem f181f (l : List UInt8) (h : numG l = false) : ACallsB Tryz.prog 181 [.str (bytesOf l)] (fun _ => False) panW:= by
 have k160 := f160t (bytesOf l)
 have k160f := f160f (bytesOf l)
 have hsz := bytesOf_size l
 refine ACallsB.of_body hT Tryz.func181 rfl (by kernel_rfl) rfl ?_
 (repeat (refine stq ?_))
 refine AL_do2 rfl ⟨_,op_rangeStr (by kernel_rfl) rfl rfl rfl,?_⟩
 (repeat (refine stq ?_))
 refine AW_loopC (fun j : Nat => j <= l.length /\ (∀ b ∈ l.take j,digB b = true) /\ (0 < j -> l.length <= 4)) (fun j => mkSt [(0,.pv (.str (bytesOf l))),(3,.pv (vi (numV (l.take j)))),(7,.box 0 0)] [(0,.siter (bytesOf l) j)] 1) (fun j => l.length - j) 0 ⟨Nat.zero_le _,by simp,by omega⟩ ?_ ?_
 ·(refine Le.mk ?_ ?_; all_goals (repeat' (first | exact trivial | refine sle ?_ | refine ⟨?_,rfl,?_⟩ | refine ⟨?_,by decide,rfl,?_⟩ | fail)))
 ·rintro j ⟨hj,hdg,h4⟩
  (repeat (refine stq ?_))
  by_cases hj' : j < l.length
  ·obtain ⟨b,hb⟩ : ∃ b,l[j]? = some b := ⟨l[j],by simp [hj']⟩
   obtain ⟨c,wd,hdec,hc1,hc2⟩ := dec_any hb
   by_cases hok : digB b = true /\ l.length <= 4
   ·obtain ⟨hbd,hl4⟩ := hok
    have hbd' := hbd
    simp only [digB,Bool.and_eq_true,decide_eq_true_eq] at hbd
    obtain ⟨rfl,rfl⟩ := hc1 (by omega)
    have hs : l.take (j + 1) = l.take j ++ [b] := by rw [List.take_add_one,hb]; rfl
    have hv := numV_bd (l := l.take j) hdg (by simp; omega)
    have hsn := numV_snoc (l.take j) b
    have hw := wrap32 (n := (b.toNat : Int) - 48) (by omega)
    have hm : -9223372036854775808 <= 10 * numV (l.take j) /\ 10 * numV (l.take j) <= 9223372036854775807 := by omega
    generalize numV (l.take j) = n at *
    refine AL_do2 rfl ⟨_,op_nextStr rfl rfl rfl rfl (by rw [hsz]; exact hj') hdec,?_⟩
    (repeat' (first | refine stq ?_ | (refine AL_do2 rfl ?_; first | refine ⟨_,op_call1 rfl rfl rfl rfl (k160),nrmA rfl ?_⟩ | refine ⟨_,op_len_str hT rfl rfl rfl rfl rfl,?_⟩) | ((first | (with_reducible refine AL_id ?_); (fail_if_success (refine AL_glit rfl rfl rfl (by first | exact .inl (by with_reducible rfl) | exact .inr (by with_reducible rfl)) ?_)); first | refine AL_gdec rfl rfl rfl (fun hg => ?_) (fun hg => ?_) | refine AL_gnot rfl rfl rfl (fun hg => ?_) (fun hg => ?_) | refine AL_gcases rfl rfl rfl (fun hg => ?_) (fun hg => ?_)) <;> (try (exfalso; omega))) | refine AW_if rfl (fun hc => absurd hc (by omega)) (fun _ => ?_) | refine AW_if rfl (fun _ => ?_) (fun hc => absurd (by omega) hc)))
    rw [show decide (((bytesOf l).size : Int) <= 4) = true from decide_eq_true (by rw [hsz]; omega)]
    (repeat' (first | refine stq ?_ | (refine AL_do2 rfl ?_; first | refine ⟨_,op_call1 rfl rfl rfl rfl (k160),nrmA rfl ?_⟩) | ((first | (with_reducible refine AL_id ?_); (fail_if_success (refine AL_glit rfl rfl rfl (by first | exact .inl (by with_reducible rfl) | exact .inr (by with_reducible rfl)) ?_)); first | refine AL_gdec rfl rfl rfl (fun hg => ?_) (fun hg => ?_) | refine AL_gnot rfl rfl rfl (fun hg => ?_) (fun hg => ?_) | refine AL_gcases rfl rfl rfl (fun hg => ?_) (fun hg => ?_)) <;> (try (exfalso; omega))) | refine AW_if rfl (fun hc => absurd hc (by omega)) (fun _ => ?_) | refine AW_if rfl (fun _ => ?_) (fun hc => absurd (by omega) hc)))
    refine AL_do2 rfl ⟨_,op_bin (k := .i32) (op := .sub) rfl rfl rfl rfl rfl,?_⟩
    refine AL_do2 rfl ⟨_,op_conv hT rfl rfl rfl rfl rfl rfl rfl,?_⟩
    rw [hw]
    (repeat (refine stq ?_))
    refine ⟨j + 1,⟨hj',fun x hx => ?_,fun _ => hl4⟩,by omega,?_⟩
    ·rw [hs] at hx
     rcases List.mem_append.1 hx with hx | hx
     ·exact hdg x hx
     ·simp only [List.mem_singleton] at hx; subst hx; exact hbd'
    (refine Le.mk ?_ ?_; all_goals (repeat' (first | exact trivial | refine sle ?_ | refine ⟨?_,rfl,?_⟩ | refine ⟨?_,by decide,rfl,?_⟩ | fail)))
    show some (FV.pv (vi (10 * n + ((b.toNat : Int) - 48)))) = some (FV.pv (vi (numV (l.take (j + 1)))))
    rw [hs,hsn]
   ·have hbad : ¬ ((48 : Int) <= c /\ (c : Int) <= 57 /\ ((bytesOf l).size : Int) <= 4):= by
     rintro ⟨h1,h2,h3⟩
     refine hok ⟨?_,by omega⟩
     by_cases hlt : b.toNat < 128
     ·have := (hc1 hlt).1
      simp only [digB,Bool.and_eq_true,decide_eq_true_eq]; omega
     ·have := hc2 (by omega); omega
    refine AL_do2 rfl ⟨_,op_nextStr rfl rfl rfl rfl (by rw [hsz]; exact hj') hdec,?_⟩
    (repeat' (first | refine stq ?_ | (refine AL_do2 rfl ?_; first | refine ⟨_,op_len_str hT rfl rfl rfl rfl rfl,?_⟩) | ((first | (with_reducible refine AL_id ?_); (fail_if_success (refine AL_glit rfl rfl rfl (by first | exact .inl (by with_reducible rfl) | exact .inr (by with_reducible rfl)) ?_)); first | refine AL_gdec rfl rfl rfl (fun hg => ?_) (fun hg => ?_) | refine AL_gnot rfl rfl rfl (fun hg => ?_) (fun hg => ?_) | refine AL_gcases rfl rfl rfl (fun hg => ?_) (fun hg => ?_)) <;> (try (exfalso; omega))) | refine AW_if rfl (fun hc => absurd hc (by omega)) (fun _ => ?_) | refine AW_if rfl (fun _ => ?_) (fun hc => absurd (by omega) hc)))
    all_goals (try rw [show decide (((bytesOf l).size : Int) <= 4) = false from decide_eq_false (by omega)])
    all_goals (refine AL_callPn rfl rfl rfl rfl k160f ?_)
    all_goals (repeat (first | refine then_panic ?_ | refine inblk_panic ?_))
    all_goals exact ⟨_,⟨_,rfl⟩,rfl⟩
  ·have hj2 : j = l.length := by omega
   subst hj2
   rw [List.take_length] at hdg ⊢
   refine AL_do2 rfl ⟨_,op_nextStr_end rfl rfl rfl rfl (by rw [hsz]; exact Nat.le_refl _),?_⟩
   (repeat (refine stq ?_))
   cases l with
   | nil =>
    refine AL_do2 rfl ⟨_,op_strneB (b := false) rfl rfl rfl rfl rfl,?_⟩
    (repeat (refine stq ?_))
    refine AL_callPn rfl rfl rfl rfl k160f ?_
    (repeat (first | refine then_panic ?_ | refine inblk_panic ?_))
    exact ⟨_,⟨_,rfl⟩,rfl⟩
   | cons x l =>
    have h4' := h4 (by simp)
    have hb := numV_bd hdg h4'
    have hI := f156K (numV (x :: l)).toNat (by omega)
    rw [show (((numV (x :: l)).toNat : Nat) : Int) = numV (x :: l) by omega] at hI
    have hne : ((itoaB (numV (x :: l))).data.toList == (bytesOf (x :: l)).data.toList) = false:= by
     have hall : (x :: l).all digB = true := List.all_eq_true.2 hdg
     simp only [numG,hall,h4',decide_true,Bool.true_and,Bool.and_true,Bool.and_eq_false_iff,decide_eq_false_iff_not] at h
     rcases h with h | h
     ·simp at h
     ·rw [beq_eq_false_iff_ne]; exact h
    refine AL_do2 rfl ⟨_,op_strneB (b := true) rfl rfl rfl rfl rfl,?_⟩
    (repeat' (first | refine stq ?_ | (refine AL_do2 rfl ?_; first | refine ⟨_,op_call1 rfl rfl rfl rfl (hI),nrmA rfl ?_⟩) | (with_reducible refine AL_id ?_); (fail_if_success (refine AL_glit rfl rfl rfl (by first | exact .inl (by with_reducible rfl) | exact .inr (by with_reducible rfl)) ?_)); first | refine AL_gdec rfl rfl rfl (fun hg => ?_) (fun hg => ?_) | refine AL_gnot rfl rfl rfl (fun hg => ?_) (fun hg => ?_) | refine AL_gcases rfl rfl rfl (fun hg => ?_) (fun hg => ?_)))
    refine AL_do2 rfl ⟨_,op_streqB (b := false) hne rfl rfl rfl rfl,?_⟩
    (repeat (refine stq ?_))
    refine AL_callPn rfl rfl rfl rfl k160f ?_
    (repeat (first | refine then_panic ?_ | refine inblk_panic ?_))
    exact ⟨_,⟨_,rfl⟩,rfl⟩
def toldO : List (List UInt8) -> List (List UInt8) -> Option (List Int)
 | [],[] => some []
 | x :: xs,w :: ws => if w = [] then (match numO x,toldO xs ws with | some n,some r => some (n :: r) | _,_ => none) else if x = w then toldO xs ws else none
 | _,_ => none
theorem toldO_some : ∀ {xs ws : List (List UInt8)} {r : List Int},toldO xs ws = some r -> FormP xs ws /\ toldL xs ws = r
 | [],[],r,h => by
  simp only [toldO,Option.some.injEq] at h
  subst h
  exact ⟨⟨rfl,fun i x w hx => by simp at hx⟩,rfl⟩
 | x :: xs,w :: ws,r,h => by
  rw [toldO] at h
  by_cases hw : w = []
  ·rw [if_pos hw] at h
   split at h
   ·rename_i n r' hn hr
    simp only [Option.some.injEq] at h
    subst h
    obtain ⟨⟨h1,h2⟩,h3⟩ := toldO_some hr
    unfold numO at hn
    split at hn
    ·rename_i hg
     simp only [Option.some.injEq] at hn
     refine ⟨⟨by simp [h1],fun i y v hy hv => ?_⟩,?_⟩
     ·match i with
      | 0 =>
       simp only [List.getElem?_cons_zero,Option.some.injEq] at hy hv
       subst hy; subst hv
       exact ⟨fun _ => numG_w hg,fun he => absurd hw he⟩
      | i + 1 => exact h2 i y v (by simpa using hy) (by simpa using hv)
     ·simp only [toldL,if_pos hw,h3,hn]
    ·cases hn
   ·cases h
  ·rw [if_neg hw] at h
   split at h
   ·rename_i hx
    obtain ⟨⟨h1,h2⟩,h3⟩ := toldO_some h
    refine ⟨⟨by simp [h1],fun i y v hy hv => ?_⟩,?_⟩
    ·match i with
     | 0 =>
      simp only [List.getElem?_cons_zero,Option.some.injEq] at hy hv
      subst hy; subst hv
      exact ⟨fun he => absurd he hw,fun _ => hx⟩
     | i + 1 => exact h2 i y v (by simpa using hy) (by simpa using hv)
    ·simp only [toldL,if_neg hw,h3]
   ·cases h
 | [],_ :: _,r,h => by simp [toldO] at h
 | _ :: _,[],r,h => by simp [toldO] at h
theorem toldO_none : ∀ {xs ws : List (List UInt8)},xs.length = ws.length -> toldO xs ws = none -> ∃ i x w,xs[i]? = some x /\ ws[i]? = some w /\ FormP (xs.take i) (ws.take i) /\ (w = [] -> numG x = false) /\ (w ≠ [] -> x ≠ w)
 | [],[],_,h => by simp [toldO] at h
 | x :: xs,w :: ws,hl,h => by
  have hl' : xs.length = ws.length := by simpa using hl
  have step : ∀ (h1 : (w = [] -> NumW x) /\ (w ≠ [] -> x = w)),toldO xs ws = none -> ∃ i y v,(x :: xs)[i]? = some y /\ (w :: ws)[i]? = some v /\ FormP ((x :: xs).take i) ((w :: ws).take i) /\ (v = [] -> numG y = false) /\ (v ≠ [] -> y ≠ v):= by
   intro h1 h2
   obtain ⟨i,y,v,hy,hv,⟨hf1,hf2⟩,hg⟩ := toldO_none hl' h2
   refine ⟨i + 1,y,v,by simpa using hy,by simpa using hv,⟨by simpa using hf1,fun j z u hz hu => ?_⟩,hg⟩
   match j with
   | 0 =>
    simp only [List.take_succ_cons,List.getElem?_cons_zero,Option.some.injEq] at hz hu
    subst hz; subst hu
    exact h1
   | j + 1 => exact hf2 j z u (by simpa using hz) (by simpa using hu)
  have first : (w = [] -> numG x = false) /\ (w ≠ [] -> x ≠ w) -> ∃ i y v,(x :: xs)[i]? = some y /\ (w :: ws)[i]? = some v /\ FormP ((x :: xs).take i) ((w :: ws).take i) /\ (v = [] -> numG y = false) /\ (v ≠ [] -> y ≠ v) := fun hg =>
   ⟨0,x,w,rfl,rfl,⟨rfl,fun j z u hz => by simp at hz⟩,hg⟩
  rw [toldO] at h
  by_cases hw : w = []
  ·rw [if_pos hw] at h
   by_cases hg : numG x = true
   ·have hn : numO x = some (numV x) := if_pos hg
    rw [hn] at h
    refine step ⟨fun _ => numG_w hg,fun he => absurd hw he⟩ ?_
    cases ht : toldO xs ws with
    | none => rfl
    | some r => rw [ht] at h; cases h
   ·exact first ⟨fun _ => by simpa using hg,fun he => absurd hw he⟩
  ·rw [if_neg hw] at h
   by_cases hx : x = w
   ·rw [if_pos hx] at h
    exact step ⟨fun he => absurd he hw,fun _ => hx⟩ h
   ·exact first ⟨fun he => absurd he hw,fun _ => hx⟩
 | [],_ :: _,hl,_ => by simp at hl
 | _ :: _,[],hl,_ => by simp at hl
end Go.Abs
namespace Go.Abs
open Go.Proofs Go.RowKit
set_option linter.unusedVariables false
set_option linter.unusedSimpArgs false
set_option maxRecDepth 100000
theorem f161t {l : List UInt8} {ws : List (List UInt8)} {r : List Int} (hl : l.length <= 100000) (hw : ws.length <= 1000) (h : toldO (splitL 32 l) ws = some r) : ACalls Tryz.prog 161 [.str (bytesOf l),.sl (ws.map eStrL)] (fun q => q = .own 3 1 (r.map eInt)):= by
 obtain ⟨h1,h2⟩ := toldO_some h
 have := f161 l ws hl hw h1
 rwa [h2] at this
set_option maxHeartbeats 4000000 in
theorem f161f (l : List UInt8) (ws : List (List UInt8)) (hl : l.length <= 100000) (hw : ws.length <= 1000) (h : toldO (splitL 32 l) ws = none) : ACallsB Tryz.prog 161 [.str (bytesOf l),.sl (ws.map eStrL)] (fun _ => False) panW:= by
 have k159 := f159 l 32 hl
 have k160 := f160t (bytesOf l)
 have k160f := f160f (bytesOf l)
 generalize splitL 32 l = xs at *
 by_cases hlen : xs.length = ws.length
 ·obtain ⟨i0,x0,w0,hx0,hw0,hF,hb1,hb2⟩ := toldO_none hlen h
  have hi0 : i0 < xs.length := (List.getElem?_eq_some_iff.1 hx0).1
  refine ACallsB.of_body hT Tryz.func161 rfl (by kernel_rfl) rfl ?_
  (repeat (refine stq ?_))
  refine AL_do2 rfl ⟨_,op_call1 rfl rfl rfl rfl k159,?_⟩
  refine AL_pure (t := 11) rfl rfl ?_
  (repeat (refine stq ?_))
  rw [show decide (((xs.length : Nat) : Int) = ((ws.length : Nat) : Int)) = true from decide_eq_true (by omega)]
  (repeat' (first | refine stq ?_ | (refine AL_do2 rfl ?_; first | refine ⟨_,op_call1 rfl rfl rfl rfl (k160),nrmA rfl ?_⟩) | (with_reducible refine AL_id ?_); (fail_if_success (refine AL_glit rfl rfl rfl (by first | exact .inl (by with_reducible rfl) | exact .inr (by with_reducible rfl)) ?_)); first | refine AL_gdec rfl rfl rfl (fun hg => ?_) (fun hg => ?_) | refine AL_gnot rfl rfl rfl (fun hg => ?_) (fun hg => ?_) | refine AL_gcases rfl rfl rfl (fun hg => ?_) (fun hg => ?_)))
  refine AW_own_nil (e := 3) (sz := 1) (t := 6) rfl rfl ?_
  (repeat (refine stq ?_))
  refine AW_loopC (fun k : Nat => k <= i0) (fun k => mkSt [(0,.pv (.str (bytesOf l))),(1,.pv (.sl (ws.map eStrL))),(6,.arr 0),(19,.pv (.sl (xs.map eStrL))),(20,.pv (vi xs.length)),(21,.pv (vi k))] [(0,.arr 3 1 ((toldL (xs.take k) (ws.take k)).map eInt))] 1) (fun k => xs.length - k) 0 (Nat.zero_le _) ?_ ?_
  ·(refine Le.mkR [(0,1)] ?_ ?_ rfl; all_goals (repeat' (first | exact trivial | refine sle ?_ | refine ⟨?_,rfl,?_⟩ | refine ⟨?_,by decide,rfl,?_⟩ | fail)))
  ·intro k hk
   (repeat (refine stq ?_))
   refine AW_if rfl (fun hc => ?_) (fun hc => absurd (show ((k : Nat) : Int) < xs.length by omega) hc)
   have hk' : k < xs.length := by omega
   obtain ⟨x,hx⟩ : ∃ x,xs[k]? = some x := ⟨xs[k],by simp [hk']⟩
   obtain ⟨w,hwk⟩ : ∃ w,ws[k]? = some w := ⟨ws[k]'(by omega),by simp⟩
   have e1 := get_map eStrL hx
   have e2 := get_map eStrL hwk
   by_cases hki : k = i0
   ·subst hki
    rw [hx] at hx0
    rw [hwk] at hw0
    cases hx0
    cases hw0
    by_cases hwe : w0 = []
    ·have k181 := f181f x0 (hb1 hwe)
     (repeat (refine stq ?_))
     refine AL_do2 rfl ⟨_,op_strneB (b := false) (by rw [hwe]; rfl) rfl rfl rfl rfl,?_⟩
     (repeat (refine stq ?_))
     refine AL_doP rfl (op_callBP rfl rfl rfl rfl k181) (fun _ h => by obtain ⟨_,hf,_⟩ := h; exact hf.elim) ?_
     rintro t s' v ⟨hp,rfl⟩
     (repeat (first | refine then_panic ?_ | refine inblk_panic ?_))
     exact ⟨_,hp,rfl⟩
    ·have hxw := hb2 hwe
     (repeat (refine stq ?_))
     refine AL_do2 rfl ⟨_,op_strneB (b := true) (by
      show (!(w0 == [])) = true
      cases w0 with
      | nil => exact absurd rfl hwe
      | cons => rfl) rfl rfl rfl rfl,?_⟩
     (repeat (refine stq ?_))
     refine AL_do2 rfl ⟨_,op_streqB (b := false) (beq_eq_false_iff_ne.2 hxw) rfl rfl rfl rfl,?_⟩
     (repeat (refine stq ?_))
     refine AL_callPn rfl rfl rfl rfl k160f ?_
     (repeat (first | refine then_panic ?_ | refine inblk_panic ?_))
     exact ⟨_,⟨_,rfl⟩,rfl⟩
   ·obtain ⟨c1,c2⟩ := hF.2 k x w (by rw [List.getElem?_take_of_lt (by omega)]; exact hx) (by rw [List.getElem?_take_of_lt (by omega)]; exact hwk)
    have hsn : toldL (xs.take (k + 1)) (ws.take (k + 1)) = toldL (xs.take k) (ws.take k) ++ if w = [] then [numV x] else []:= by
     rw [List.take_add_one,List.take_add_one,hx,hwk]
     exact told_snoc _ _ _ _ (by simp [hlen])
    have htl : (toldL (xs.take k) (ws.take k)).length <= 1000 := by have := told_len (xs.take k) (ws.take k); simp at this; omega
    generalize toldL (xs.take k) (ws.take k) = A at *
    by_cases hwe : w = []
    ·obtain ⟨n1,n2,n3,n4,n5⟩ := c1 hwe
     have k181 := f181 x n1 n2 n3 n4 n5
     rw [if_pos hwe] at hsn
     (repeat (refine stq ?_))
     refine AL_do2 rfl ⟨_,op_strneB (b := false) (by rw [hwe]; rfl) rfl rfl rfl rfl,?_⟩
     (repeat' (first | refine stq ?_ | (refine AL_do2 rfl ?_; first | refine ⟨_,op_call1 rfl rfl rfl rfl (k181),nrmA rfl ?_⟩) | (with_reducible refine AL_id ?_); (fail_if_success (refine AL_glit rfl rfl rfl (by first | exact .inl (by with_reducible rfl) | exact .inr (by with_reducible rfl)) ?_)); first | refine AL_gdec rfl rfl rfl (fun hg => ?_) (fun hg => ?_) | refine AL_gnot rfl rfl rfl (fun hg => ?_) (fun hg => ?_) | refine AL_gcases rfl rfl rfl (fun hg => ?_) (fun hg => ?_)))
     refine ⟨k + 1,by omega,by omega,?_⟩
     rw [hsn]
     (refine Le.mkR [(0,2)] ?_ ?_ rfl; all_goals (repeat' (first | exact trivial | refine sle ?_ | refine ⟨?_,rfl,?_⟩ | refine ⟨?_,by decide,rfl,?_⟩ | fail)))
     show some (AObj.arr 3 1 (A.map eInt ++ [eInt (numV x)])) = some (AObj.arr 3 1 ((A ++ [numV x]).map eInt))
     rw [List.map_append]; rfl
    ·have hxw := c2 hwe
     subst hxw
     rw [if_neg hwe,List.append_nil] at hsn
     (repeat (refine stq ?_))
     refine AL_do2 rfl ⟨_,op_strneB (b := true) (by
      show (!(x == [])) = true
      cases x with
      | nil => exact absurd rfl hwe
      | cons => rfl) rfl rfl rfl rfl,?_⟩
     (repeat (refine stq ?_))
     refine AL_do2 rfl ⟨_,op_streqB (b := true) (by simp) rfl rfl rfl rfl,?_⟩
     (repeat' (first | refine stq ?_ | (refine AL_do2 rfl ?_; first | refine ⟨_,op_call1 rfl rfl rfl rfl (k160),nrmA rfl ?_⟩) | (with_reducible refine AL_id ?_); (fail_if_success (refine AL_glit rfl rfl rfl (by first | exact .inl (by with_reducible rfl) | exact .inr (by with_reducible rfl)) ?_)); first | refine AL_gdec rfl rfl rfl (fun hg => ?_) (fun hg => ?_) | refine AL_gnot rfl rfl rfl (fun hg => ?_) (fun hg => ?_) | refine AL_gcases rfl rfl rfl (fun hg => ?_) (fun hg => ?_)))
     refine ⟨k + 1,by omega,by omega,?_⟩
     rw [hsn]
     (refine Le.mk ?_ ?_; all_goals (repeat' (first | exact trivial | refine sle ?_ | refine ⟨?_,rfl,?_⟩ | refine ⟨?_,by decide,rfl,?_⟩ | fail)))
 ·refine ACallsB.of_body hT Tryz.func161 rfl (by kernel_rfl) rfl ?_
  (repeat (refine stq ?_))
  refine AL_do2 rfl ⟨_,op_call1 rfl rfl rfl rfl k159,?_⟩
  refine AL_pure (t := 11) rfl rfl ?_
  (repeat (refine stq ?_))
  rw [show decide (((xs.length : Nat) : Int) = ((ws.length : Nat) : Int)) = false from decide_eq_false (by omega)]
  refine AL_callPn rfl rfl rfl rfl k160f ?_
  (repeat (first | refine then_panic ?_ | refine inblk_panic ?_))
  exact ⟨_,⟨_,rfl⟩,rfl⟩
end Go.Abs
