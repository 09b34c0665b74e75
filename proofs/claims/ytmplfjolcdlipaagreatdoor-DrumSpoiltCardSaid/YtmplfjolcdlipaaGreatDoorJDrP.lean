/- The slip of a drum. -/
import Derived.Test.YtmplfjolcdlipaaGreatDoorJDrO
import Derived.Test.YtmplfjolcdlipaaGreatDoorJDrE
import Derived.Test.YtmplfjolcdlipaaGreatDoorJDrF
set_option linter.unusedVariables false
set_option linter.unusedSimpArgs false
namespace Go.Abs
open Go.Proofs
set_option linter.unusedVariables false
set_option linter.unusedSimpArgs false
set_option maxRecDepth 100000
section
variable {P : Program} {T : Nat -> Option TyI} {nt : Nat} {s : ASt} {o : Oper} {ops : Array Oper}
theorem D_strcat {t t' : TypeId} {x y : Operand} {u v : ByteArray} (hg : guardT ops s o = true) (ho : o.op = .binOp .add t x y t') (hd : dstB nt o.dst = true) (hx : s.ev x = some (.pv (.str u))) (hy : s.ev y = some (.pv (.str v))) (hl : u.size + v.size <= 1000000) :
  StepOK P nt ops o s ⟨some (.pv (.str (u ++ v))),false,[],[]⟩ (s.putO o.dst (some (.pv (.str (u ++ v))))) :=
 StepOK.mkP hg fun s1 h1 _ => op_strcat ho hd (by rw [ev_agree h1 (by simp [ho,Op.operands])]; exact hx) (by rw [ev_agree h1 (by simp [ho,Op.operands])]; exact hy) hl
theorem D_buildSliceE {t e n : Nat} {ps : Array (Nat × Operand)} {ti ei : TyI} {es : List (List PV)} (hT : TabOK P T) (hg : guardT ops s o = true) (ho : o.op = .buildSlice t n ps) (hd : dstB nt o.dst = true) (ht : T t = some ti) (hk : ti.kind = .slice e) (he : T e = some ei)
  (hpos : Nat.blt 0 ei.size = true) (hp : partsS s ei.size 0 ps.toList = some es) (hn : Nat.beq ps.toList.length n = true) (hmax : Nat.ble (n * ei.size) 100000 = true) :
  StepOK P nt ops o s ⟨some (.arr s.nxt),true,[],[]⟩ ((s.newObj (.arr e ei.size es)).putO o.dst (some (.arr s.nxt))):= by
 refine StepOK.mkE hg (by cases hd : o.dst <;> rfl) (by cases hd : o.dst <;> exact Nat.le_succ _) (fun id hid _ => ?_) fun fr s1 s2 h1 h2 h3 h4 h5 h6 h7 => ?_
 ·have : ((s.newObj (.arr e ei.size es)).putO o.dst (some (.arr s.nxt))).obj id = (s.newObj (.arr e ei.size es)).obj id := by cases hd : o.dst <;> rfl
  rw [this,ASt.obj_newObj,if_neg (by omega)]
 ·have h8 := op_buildSlice (s := s1) hT ho hd ht hk he hpos (partsS_P (by rw [partsS_local h1 fun p hp => by simp [ho,Op.operands]; exact ⟨p.1,by simpa using hp⟩]; exact hp)) hn hmax
  refine h8.ext (fun t => ?_) (fun id => ?_) ?_
  ·show look s2.env t = look _ t
   rw [h5,<- h2]; cases hd : o.dst <;> rfl
  ·have q1 : ((s.newObj (.arr e ei.size es)).putO o.dst (some (.arr s.nxt))).obj id = (s.newObj (.arr e ei.size es)).obj id := by cases hd : o.dst <;> rfl
   have q2 : ((s1.newObj (.arr e ei.size es)).putO o.dst (some (.arr s1.nxt))).obj id = (s1.newObj (.arr e ei.size es)).obj id := by cases hd : o.dst <;> rfl
   rw [h7,q1,q2,ASt.obj_newObj,ASt.obj_newObj,h2]
   by_cases hid : id ∈ fr
   ·rw [if_pos hid,if_neg (by have := (h3 id hid).1; omega)]
   ·rw [if_neg hid,h4 id hid]
  ·rw [h6]; cases hd : o.dst <;> simp [ASt.putO,ASt.put,ASt.newObj,h2]
theorem D_indexAddr_box {t e n id off : Nat} {x ix : Operand} {i ei : TyI} {k : IntKind} {m : Int} (hT : TabOK P T) (hg : guardT ops s o = true) (ho : o.op = .indexAddr t x ix) (hd : dstB nt o.dst = true) (ht : T t = some i)
  (hk : i.kind = .array e n) (he : T e = some ei) (hx : s.ev x = some (.box id off)) (hi : s.ev ix = some (.pv (.int k m))) (h0 : 0 <= m) (hn : m < n) : StepOK P nt ops o s ⟨some (.box id (off + m.toNat * ei.size)),false,[],[]⟩ (s.putO o.dst (some (.box id (off + m.toNat * ei.size)))) :=
 StepOK.mkP hg fun s1 h1 _ => op_indexAddr_box hT ho hd ht hk he (by rw [ev_agree h1 (by simp [ho,Op.operands])]; exact hx) (by rw [ev_agree h1 (by simp [ho,Op.operands])]; exact hi) h0 hn
end
def nmDrum : ByteArray := bytesOf [100,114,117,109]
def nmKnown : ByteArray := bytesOf [32,107,110,111,119,110]
def nmAcid : ByteArray := bytesOf [97,99,105,100]
def nmFall : ByteArray := bytesOf [32,102,97,108,108]
def nmAdd : ByteArray := bytesOf [97,100,100]
def nmStrip : ByteArray := bytesOf [115,116,114,105,112]
def nmBatch : ByteArray := bytesOf [98,97,116,99,104]
theorem f154' : ACalls Tryz.prog 154 [] (fun r => r = .pv (.agg [.str nmAcid,.str nmAdd,.str nmStrip,.str nmBatch])):= by
 refine ACalls.of_body hT Tryz.func154 rfl (by kernel_rfl) rfl ?_
 (repeat (refine stq ?_))
 exact ⟨_,_,rfl,rfl,rfl⟩
def acN (a : Acid) : List Int := [a.strength.low,a.strength.high]
def faN (a : Acid) : List Int := [a.fall.low,a.fall.high]
def stN (s : Strip) : List Int := [s.hour,s.seen,s.off]
def baN (b : Batch) : List Int := [b.rough,b.goal,b.thick,b.least,b.polish,b.eat]
def numsD (d : Drum) : List Int := d.hours :: d.known :: (d.acids.flatMap (fun a => acN a ++ faN a) ++ (d.adds ++ (d.strips.flatMap stN ++ d.batches.flatMap baN)))
def acL (a : Acid) : ByteArray := lineB nmAcid (acN a) ++ lineB nmFall (faN a)
def hdL (d : Drum) : ByteArray := lineB nmDrum [d.hours] ++ lineB nmKnown [d.known]
def L1 (d : Drum) : List ByteArray := hdL d :: d.acids.map acL
def L2 (d : Drum) : List ByteArray := L1 d ++ [lineB nmAdd d.adds]
def L3 (d : Drum) : List ByteArray := L2 d ++ d.strips.map fun s => lineB nmStrip (stN s)
def linesD (d : Drum) : List ByteArray := L3 d ++ d.batches.map fun b => lineB nmBatch (baN b)
def bsum : List UInt8 -> Int -> Int
 | [],_ => 0
 | b :: r,p => (b.toNat : Int) * p + bsum r (p + 1)
theorem bsum_append : ∀ (l m : List UInt8) (p : Int),bsum (l ++ m) p = bsum l p + bsum m (p + l.length)
 | [],m,p => by simp [bsum]
 | x :: l,m,p => by
  simp only [List.cons_append,bsum,bsum_append l m,List.length_cons,Int.natCast_add,Int.natCast_one]
  rw [show p + 1 + (l.length : Int) = p + ((l.length : Int) + 1) by omega]; omega
theorem bsum_bd : ∀ (l : List UInt8) (p : Int),0 <= p -> p + l.length <= 200001 -> 0 <= bsum l p /\ bsum l p <= 60000000 * l.length
 | [],p,_,_ => by simp [bsum]
 | b :: l,p,h0,h1 => by
  simp only [List.length_cons,Int.natCast_add,Int.natCast_one] at h1 ⊢
  have ih := bsum_bd l (p + 1) (by omega) (by omega)
  have hb : (b.toNat : Int) <= 255 := by have := b.toNat_lt; omega
  have h2 : 0 <= (b.toNat : Int) * p := Int.mul_nonneg (by omega) h0
  have h3 : (b.toNat : Int) * p <= 255 * 200001 := Int.mul_le_mul hb (by omega) h0 (by omega)
  simp only [bsum]; omega
def lineSum (x : ByteArray) : Int := bsum x.data.toList 1
def checkI (L : List ByteArray) : Int := sumI (L.map lineSum)
def nlB : ByteArray := ⟨#[10]⟩
def endB : ByteArray := bytesOf [101,110,100,32]
def endL (c : Int) : ByteArray := ((endB ++ itoaB (c / 100)) ++ itoaB (c / 10 % 10)) ++ itoaB (c % 10)
def textOf (L : List ByteArray) : ByteArray := joinB (L ++ [endL (checkI L % 103)]) nlB ++ nlB
def textD (d : Drum) : ByteArray := textOf (linesD d)
def eStrC (x : ByteArray) : List PV := [.str x]
theorem NumsOK.sub {l m : List Int} (h : NumsOK l) (hs : ∀ x ∈ m,x ∈ l) : NumsOK m := fun x hx => h x (hs x hx)
theorem itoa_size {n : Nat} (h : n < 100) : (itoaB n).size <= 2:= by
 have : ∀ m : Fin 100,(Lib.decDigits m.1).length <= 2:= by
  intro m
  unfold Lib.decDigits
  split
  ·simp
  ·unfold Lib.decDigits
   split
   ·simp
   ·have := m.2; omega
 exact this ⟨n,h⟩
def sumSz (L : List ByteArray) : Nat := (L.map (·.size)).sum
theorem join_size {L : List ByteArray} (hL : L.length <= 1000) (hs : sumSz L <= 200000) : (joinB L nlB).size <= 201000:= by
 have key : ∀ (L : List ByteArray),Lib.lens (L.map (·.data.toList)) = sumSz L:= by
  intro L
  induction L with
  | nil => simp [Lib.lens,sumSz]
  | cons x L ih =>
   have h2 : x.data.toList.length = x.size := rfl
   simp only [Lib.lens,sumSz,List.map_cons,List.sum_cons] at ih ⊢
   omega
 show (Lib.join (L.map (·.data.toList)) nlB.data.toList).toArray.size <= _
 cases L with
 | nil => simp [Lib.join_nil]
 | cons x L =>
  have := key (x :: L)
  simp only [List.map_cons,List.size_toArray,Lib.join_length,List.length_map,List.length_cons] at this hL ⊢
  have h1 : nlB.data.toList.length = 1 := rfl
  rw [h1]; omega
def SizesOK (L : List ByteArray) : Prop := L ≠ [] /\ L.length <= 720 /\ sumSz L <= 120000
theorem sum_one {L : List ByteArray} {x : ByteArray} (h : x ∈ L) : x.size <= sumSz L:= by
 induction L with
 | nil => cases h
 | cons y L ih =>
  simp only [sumSz,List.map_cons,List.sum_cons] at ih ⊢
  rcases List.mem_cons.1 h with rfl | h
  ·omega
  ·have := ih h; omega
theorem sum_app (L M : List ByteArray) : sumSz (L ++ M) = sumSz L + sumSz M := by simp [sumSz]
theorem sum_take (L : List ByteArray) (i : Nat) : sumSz (L.take i) <= sumSz L:= by
 have := sum_app (L.take i) (L.drop i)
 rw [List.take_append_drop] at this; omega
theorem sum_all {L : List ByteArray} {B : Nat} (h : ∀ x ∈ L,x.size <= B) : sumSz L <= B * L.length:= by
 induction L with
 | nil => simp [sumSz]
 | cons y L ih =>
  have h1 := ih fun x hx => h x (by simp [hx])
  have h2 := h y (by simp)
  simp only [sumSz,List.map_cons,List.sum_cons,List.length_cons] at h1 ⊢
  rw [Nat.mul_add]; omega
theorem lines_sum {d : Drum} (h1 : d.acids.length + d.strips.length + d.batches.length <= 700) (hx : ∀ x,x = hdL d \/ (∃ a ∈ d.acids,acL a = x) \/ (∃ s ∈ d.strips,lineB nmStrip (stN s) = x) \/ (∃ b ∈ d.batches,lineB nmBatch (baN b) = x) -> x.size <= 140) (ha : (lineB nmAdd d.adds).size <= 20000) : sumSz (linesD d) <= 120000:= by
 have e0 := hx (hdL d) (.inl rfl)
 have e1 := sum_all (L := d.acids.map acL) (B := 140) fun x h => by obtain ⟨a,h1,h2⟩ := List.mem_map.1 h; exact hx x (.inr (.inl ⟨a,h1,h2⟩))
 have e2 := sum_all (L := d.strips.map fun s => lineB nmStrip (stN s)) (B := 140) fun x h => by obtain ⟨a,h1,h2⟩ := List.mem_map.1 h; exact hx x (.inr (.inr (.inl ⟨a,h1,h2⟩)))
 have e3 := sum_all (L := d.batches.map fun b => lineB nmBatch (baN b)) (B := 140) fun x h => by obtain ⟨a,h1,h2⟩ := List.mem_map.1 h; exact hx x (.inr (.inr (.inr ⟨a,h1,h2⟩)))
 simp only [List.length_map] at e1 e2 e3
 have g1 : ∀ (x : ByteArray) (l : List ByteArray),sumSz (x :: l) = x.size + sumSz l := fun x l => by simp [sumSz]
 have g0 : sumSz [] = 0 := rfl
 unfold linesD L3 L2 L1
 rw [sum_app,sum_app,sum_app,g1,g1,g0]
 omega
theorem lineSum_bd {x : ByteArray} (h : x.size <= 120000) : 0 <= lineSum x /\ lineSum x <= 7200000000000:= by
 have h1 : x.data.toList.length = x.size := rfl
 have := bsum_bd x.data.toList 1 (by omega) (by omega)
 unfold lineSum; omega
theorem checkI_bd {L : List ByteArray} (hL : L.length <= 720) (hs : ∀ x ∈ L,x.size <= 120000) : 0 <= checkI L /\ checkI L <= 7200000000000 * 720:= by
 have key : ∀ (L : List ByteArray),(∀ x ∈ L,x.size <= 120000) -> 0 <= checkI L /\ checkI L <= 7200000000000 * L.length:= by
  intro L
  induction L with
  | nil => intro _; simp [checkI,sumI]
  | cons x L ih =>
   intro h
   have h1 := ih fun y hy => h y (by simp [hy])
   have h2 := lineSum_bd (h x (by simp))
   simp only [checkI,List.map_cons,sumI,List.length_cons,Int.natCast_add,Int.natCast_one] at h1 ⊢
   omega
 have := key L hs
 omega
theorem byte_wrap (b : UInt8) : IntKind.i64.wrap (b.toNat : Int) = b.toNat:= by
 have := b.toNat_lt
 unfold IntKind.wrap; simp [IntKind.signed,IntKind.bits]; omega
theorem nat_wrap {n : Nat} (h : n < 1000) : IntKind.i64.wrap (n : Int) = n:= by
 unfold IntKind.wrap; simp [IntKind.signed,IntKind.bits]; omega
theorem linesD_ok {d : Drum} (h1 : d.acids.length + d.strips.length + d.batches.length <= 700) (h2 : d.adds.length <= 700) (hn : NumsOK (numsD d)) : SizesOK (linesD d):= by
 refine ⟨by simp [linesD,L3,L2,L1],by simp [linesD,L3,L2,L1]; omega,lines_sum h1 (fun x hx => ?_) ?_⟩
 ·have z1 : nmDrum.size = 4 := rfl
  have z2 : nmKnown.size = 6 := rfl
  have z3 : nmAcid.size = 4 := rfl
  have z4 : nmFall.size = 5 := rfl
  have z5 : nmAdd.size = 3 := rfl
  have z6 : nmStrip.size = 5 := rfl
  have z7 : nmBatch.size = 5 := rfl
  rcases hx with rfl | ⟨a,ha,rfl⟩ | ⟨s,hs,rfl⟩ | ⟨b,hb,rfl⟩
  ·have e1 := lineB_size (nm := nmDrum) (nums := [d.hours]) (hn.sub (by simp [numsD]))
   have e2 := lineB_size (nm := nmKnown) (nums := [d.known]) (hn.sub (by simp [numsD]))
   unfold hdL
   rw [app_size]
   simp only [List.length_cons,List.length_nil] at e1 e2; omega
  ·have e1 := lineB_size (nm := nmAcid) (nums := acN a) (hn.sub fun x hx => by simp only [numsD,List.mem_cons,List.mem_append,List.mem_flatMap]; exact .inr (.inr (.inl ⟨a,ha,.inl hx⟩)))
   have e2 := lineB_size (nm := nmFall) (nums := faN a) (hn.sub fun x hx => by simp only [numsD,List.mem_cons,List.mem_append,List.mem_flatMap]; exact .inr (.inr (.inl ⟨a,ha,.inr hx⟩)))
   unfold acL
   rw [app_size]
   simp only [acN,faN,List.length_cons,List.length_nil] at e1 e2 ⊢; omega
  ·have e1 := lineB_size (nm := nmStrip) (nums := stN s) (hn.sub fun x hx => by simp only [numsD,List.mem_cons,List.mem_append,List.mem_flatMap]; exact .inr (.inr (.inr (.inr (.inl ⟨s,hs,hx⟩)))))
   simp only [stN,List.length_cons,List.length_nil] at e1 ⊢; omega
  ·have e1 := lineB_size (nm := nmBatch) (nums := baN b) (hn.sub fun x hx => by simp only [numsD,List.mem_cons,List.mem_append,List.mem_flatMap]; exact .inr (.inr (.inr (.inr (.inr ⟨b,hb,hx⟩)))))
   simp only [baN,List.length_cons,List.length_nil] at e1 ⊢; omega
 ·have z5 : nmAdd.size = 3 := rfl
  have e1 := lineB_size (nm := nmAdd) (nums := d.adds) (hn.sub fun x hx => by simp only [numsD,List.mem_cons,List.mem_append]; exact .inr (.inr (.inr (.inl hx))))
  omega
end Go.Abs
namespace Go.Abs
open Go.Proofs
set_option linter.unusedVariables false
set_option linter.unusedSimpArgs false
set_option maxRecDepth 100000
abbrev wdO : AObj := .box [.pv (.str nmAcid),.pv (.str nmAdd),.pv (.str nmStrip),.pv (.str nmBatch)]
abbrev boO (d : Drum) : AObj := .box ((eDrumC d).map FV.pv)
set_option maxHeartbeats 8000000 in
theorem f105w (d : Drum) (h1 : d.acids.length + d.strips.length + d.batches.length <= 700) (h2 : d.adds.length <= 700) (hn : NumsOK (numsD d)) : ACalls Tryz.prog 105 [eDrum d] (fun r => r = .pv (.str (textD d))):= by
 have hOK := linesD_ok h1 h2 hn
 have z1 : nmDrum.size = 4 := rfl
 have z2 : nmKnown.size = 6 := rfl
 have z3 : nmAcid.size = 4 := rfl
 have z4 : nmFall.size = 5 := rfl
 have z5 : nmAdd.size = 3 := rfl
 have z6 : nmStrip.size = 5 := rfl
 have z7 : nmBatch.size = 5 := rfl
 have nA : NumsOK [d.hours] := hn.sub (by simp [numsD])
 have nB : NumsOK [d.known] := hn.sub (by simp [numsD])
 have e1 := lineB_size (nm := nmDrum) nA
 have e2 := lineB_size (nm := nmKnown) nB
 simp only [List.length_cons,List.length_nil] at e1 e2
 have kA := f155 nmDrum [d.hours] nA (by omega) (by simp)
 have kB := f155 nmKnown [d.known] nB (by omega) (by simp)
 refine ACalls.of_body hT Tryz.func105 rfl (by kernel_rfl) rfl ?_
 (repeat' (first | refine stq ?_ | (refine AL_do2 rfl ?_; first | refine ⟨_,op_call1 rfl rfl rfl rfl (f154'),nrmA rfl ?_⟩) | (with_reducible refine AL_id ?_); (fail_if_success (refine AL_glit rfl rfl rfl (by first | exact .inl (by with_reducible rfl) | exact .inr (by with_reducible rfl)) ?_)); first | refine AL_gdec rfl rfl rfl (fun hg => ?_) (fun hg => ?_) | refine AL_gnot rfl rfl rfl (fun hg => ?_) (fun hg => ?_) | refine AL_gcases rfl rfl rfl (fun hg => ?_) (fun hg => ?_)))
 iterate 3 (refine sdq ?_)
 refine DG_next (D_call rfl rfl rfl rfl rfl kA) ?_
 iterate 3 (refine sdq ?_)
 refine DG_next (D_call rfl rfl rfl rfl rfl kB) ?_
 refine DG_next (D_strcat rfl rfl rfl rfl rfl (by omega)) ?_
 refine DG_next (D_buildSliceE (es := [eStrC (hdL d)]) hT rfl rfl rfl rfl rfl rfl rfl rfl rfl rfl) ?_
 refine sdq ?_
 refine DG_end hM (by kernel_rfl) ?_
 (repeat (refine stq ?_))
 refine AW_loopC (fun k : Nat => k <= d.acids.length) (fun k => mkSt [(1,.box 0 0),(3,.box 1 0),(4,.arr 2),(27,.pv (.sl (d.acids.map eAcid))),(28,.pv (vi d.acids.length)),(29,.pv (vi k))] [(0,boO d),(1,wdO),(2,.arr 9 1 ((hdL d :: (d.acids.take k).map acL).map eStrC))] 3) (fun k => d.acids.length - k) 0 (Nat.zero_le _) ?_ ?_
 ·(refine Le.mk ?_ ?_; all_goals (repeat' (first | exact trivial | refine sle ?_ | refine ⟨?_,rfl,?_⟩ | refine ⟨?_,by decide,rfl,?_⟩ | fail)))
 ·intro k hk
  (repeat (refine stq ?_))
  refine AW_if rfl (fun hc => ?_) (fun hc => ?_)
  ·have hk' : k < d.acids.length := by omega
   obtain ⟨a,ha⟩ : ∃ a,d.acids[k]? = some a := ⟨d.acids[k],by simp [hk']⟩
   have e3 := get_map eAcid ha
   have hm := List.mem_of_getElem? ha
   have nC : NumsOK [a.strength.low,a.strength.high] := hn.sub fun x hx => by simp only [numsD,List.mem_cons,List.mem_append,List.mem_flatMap]; exact .inr (.inr (.inl ⟨a,hm,.inl hx⟩))
   have nD : NumsOK [a.fall.low,a.fall.high] := hn.sub fun x hx => by simp only [numsD,List.mem_cons,List.mem_append,List.mem_flatMap]; exact .inr (.inr (.inl ⟨a,hm,.inr hx⟩))
   have kC := f155 nmAcid _ nC (by omega) (by simp)
   have kD := f155 nmFall _ nD (by omega) (by simp)
   have e4 := lineB_size (nm := nmAcid) nC
   have e5 := lineB_size (nm := nmFall) nD
   simp only [List.length_cons,List.length_nil] at e4 e5
   have hLl : (hdL d :: (d.acids.take k).map acL).length <= 1000 := by simp; omega
   have hsn : hdL d :: (d.acids.take (k + 1)).map acL = (hdL d :: (d.acids.take k).map acL) ++ [acL a] := by rw [map_take_succ _ ha]; rfl
   generalize hL : (hdL d :: (d.acids.take k).map acL) = L at hLl hsn ⊢
   (repeat (refine stq ?_))
   refine sdq ?_
   refine DG_next (D_indexAddr_box (e := 9) (n := 4) (m := 0) (k := .i64) (id := 1) (off := 0) hT rfl rfl rfl rfl rfl rfl rfl rfl (by omega) (by omega)) ?_
   iterate 8 (refine sdq ?_)
   refine DG_next (D_call rfl rfl rfl rfl rfl kC) ?_
   iterate 7 (refine sdq ?_)
   refine DG_next (D_call rfl rfl rfl rfl rfl kD) ?_
   refine DG_next (D_strcat rfl rfl rfl rfl rfl (by omega)) ?_
   iterate 3 (refine sdq ?_)
   refine DG_end hM (by kernel_rfl) ?_
   (repeat (refine stq ?_))
   refine ⟨k + 1,hk',by omega,?_⟩
   rw [hsn]
   (refine Le.mkR [(0,0),(1,1),(2,4)] ?_ ?_ rfl; all_goals (repeat' (first | exact trivial | refine sle ?_ | refine ⟨?_,rfl,?_⟩ | refine ⟨?_,by decide,rfl,?_⟩ | fail)))
   show some (AObj.arr 9 1 (L.map eStrC ++ [eStrC (acL a)])) = some (AObj.arr 9 1 ((L ++ [acL a]).map eStrC))
   rw [List.map_append]; rfl
  ·have hk' : k = d.acids.length := by omega
   subst hk'
   rw [List.take_length]
   rw [show hdL d :: d.acids.map acL = L1 d from rfl]
   have kE := f155 nmAdd d.adds (hn.sub fun x hx => by simp only [numsD,List.mem_cons,List.mem_append]; exact .inr (.inr (.inr (.inl hx)))) (by omega) (by omega)
   have hl1 : (L1 d).length <= 1000 := by simp [L1]; omega
   have hl2 : (L2 d).length = d.acids.length + 2 := by simp [L2,L1]
   have hl3 : (L3 d).length = d.acids.length + 2 + d.strips.length := by simp [L3,L2,L1]; omega
   have d2 : L2 d = L1 d ++ [lineB nmAdd d.adds] := rfl
   have d3 : L3 d = L2 d ++ d.strips.map fun s => lineB nmStrip (stN s) := rfl
   generalize L1 d = M1 at *
   (repeat (refine stq ?_))
   try (refine AL_do2 rfl ⟨_,op_indexAddr_box (e := 9) (n := 4) (m := 1) (k := .i64) (id := 1) (off := 0) hT rfl rfl rfl rfl rfl rfl rfl (by omega) (by omega),?_⟩)
   (repeat' (first | refine stq ?_ | (refine AL_do2 rfl ?_; first | refine ⟨_,op_call1 rfl rfl rfl rfl (kE),nrmA rfl ?_⟩) | (with_reducible refine AL_id ?_); (fail_if_success (refine AL_glit rfl rfl rfl (by first | exact .inl (by with_reducible rfl) | exact .inr (by with_reducible rfl)) ?_)); first | refine AL_gdec rfl rfl rfl (fun hg => ?_) (fun hg => ?_) | refine AL_gnot rfl rfl rfl (fun hg => ?_) (fun hg => ?_) | refine AL_gcases rfl rfl rfl (fun hg => ?_) (fun hg => ?_)))
   refine AW_loopC (fun k : Nat => k <= d.strips.length) (fun k => mkSt [(1,.box 0 0),(3,.box 1 0),(4,.arr 2),(65,.pv (.sl (d.strips.map eStrip))),(66,.pv (vi d.strips.length)),(67,.pv (vi k))] [(0,boO d),(1,wdO),(2,.arr 9 1 ((L2 d ++ (d.strips.take k).map fun s => lineB nmStrip (stN s)).map eStrC))] 3) (fun k => d.strips.length - k) 0 (Nat.zero_le _) ?_ ?_
   ·(refine Le.mkR [(0,0),(1,1),(2,4)] ?_ ?_ rfl; all_goals (repeat' (first | exact trivial | refine sle ?_ | refine ⟨?_,rfl,?_⟩ | refine ⟨?_,by decide,rfl,?_⟩ | fail)))
    show some (AObj.arr 9 1 (M1.map eStrC ++ [eStrC (lineB nmAdd d.adds)])) = some (AObj.arr 9 1 ((L2 d ++ (d.strips.take 0).map fun s => lineB nmStrip (stN s)).map eStrC))
    rw [d2]; simp
   ·intro k hk
    have hLl : (L2 d ++ (d.strips.take k).map fun s => lineB nmStrip (stN s)).length <= 1000 := by simp; omega
    generalize hL : (L2 d ++ (d.strips.take k).map fun s => lineB nmStrip (stN s)) = L at hLl ⊢
    (repeat (refine stq ?_))
    refine AW_if rfl (fun hc => ?_) (fun hc => ?_)
    ·have hk' : k < d.strips.length := by omega
     obtain ⟨s,hs⟩ : ∃ s,d.strips[k]? = some s := ⟨d.strips[k],by simp [hk']⟩
     have e3 := get_map eStrip hs
     have hm := List.mem_of_getElem? hs
     have kF := f155 nmStrip [s.hour,s.seen,s.off] (hn.sub fun x hx => by simp only [numsD,List.mem_cons,List.mem_append,List.mem_flatMap]; exact .inr (.inr (.inr (.inr (.inl ⟨s,hm,hx⟩))))) (by omega) (by simp)
     (repeat (refine stq ?_))
     try (refine AL_do2 rfl ⟨_,op_indexAddr_box (e := 9) (n := 4) (m := 2) (k := .i64) (id := 1) (off := 0) hT rfl rfl rfl rfl rfl rfl rfl (by omega) (by omega),?_⟩)
     (repeat' (first | refine stq ?_ | (refine AL_do2 rfl ?_; first | refine ⟨_,op_callB rfl rfl rfl rfl (kF) rfl,nrmA rfl ?_⟩) | (with_reducible refine AL_id ?_); (fail_if_success (refine AL_glit rfl rfl rfl (by first | exact .inl (by with_reducible rfl) | exact .inr (by with_reducible rfl)) ?_)); first | refine AL_gdec rfl rfl rfl (fun hg => ?_) (fun hg => ?_) | refine AL_gnot rfl rfl rfl (fun hg => ?_) (fun hg => ?_) | refine AL_gcases rfl rfl rfl (fun hg => ?_) (fun hg => ?_)))
     refine ⟨k + 1,hk',by omega,?_⟩
     (refine Le.mkR [(0,0),(1,1),(2,6)] ?_ ?_ rfl; all_goals (repeat' (first | exact trivial | refine sle ?_ | refine ⟨?_,rfl,?_⟩ | refine ⟨?_,by decide,rfl,?_⟩ | fail)))
     show some (AObj.arr 9 1 (L.map eStrC ++ [eStrC (lineB nmStrip (stN s))])) = some (AObj.arr 9 1 ((L2 d ++ (d.strips.take (k + 1)).map fun s => lineB nmStrip (stN s)).map eStrC))
     rw [map_take_succ _ hs,<- List.append_assoc,hL,List.map_append]; rfl
    ·have hk' : k = d.strips.length := by omega
     subst hk'
     rw [List.take_length] at hL
     change L3 d = L at hL
     have d4 : linesD d = L3 d ++ d.batches.map fun b => lineB nmBatch (baN b) := rfl
     rw [hL] at d4 hl3
     (repeat (refine stq ?_))
     refine AW_loopC (fun k : Nat => k <= d.batches.length) (fun k => mkSt [(1,.box 0 0),(3,.box 1 0),(4,.arr 2),(86,.pv (.sl (d.batches.map eBatch))),(87,.pv (vi d.batches.length)),(88,.pv (vi k))] [(0,boO d),(1,wdO),(2,.arr 9 1 ((L ++ (d.batches.take k).map fun b => lineB nmBatch (baN b)).map eStrC))] 3) (fun k => d.batches.length - k) 0 (Nat.zero_le _) ?_ ?_
     ·(refine Le.mk ?_ ?_; all_goals (repeat' (first | exact trivial | refine sle ?_ | refine ⟨?_,rfl,?_⟩ | refine ⟨?_,by decide,rfl,?_⟩ | fail)))
      show some (AObj.arr 9 1 (L.map eStrC)) = some (AObj.arr 9 1 ((L ++ (d.batches.take 0).map fun b => lineB nmBatch (baN b)).map eStrC)); simp
     ·intro k hk
      have hLl : (L ++ (d.batches.take k).map fun b => lineB nmBatch (baN b)).length <= 1000 := by simp; omega
      generalize hL2 : (L ++ (d.batches.take k).map fun b => lineB nmBatch (baN b)) = B at hLl ⊢
      (repeat (refine stq ?_))
      refine AW_if rfl (fun hc => ?_) (fun hc => ?_)
      ·have hk' : k < d.batches.length := by omega
       obtain ⟨b,hb⟩ : ∃ b,d.batches[k]? = some b := ⟨d.batches[k],by simp [hk']⟩
       have e3 := get_map eBatch hb
       have hm := List.mem_of_getElem? hb
       have kG := f155 nmBatch [b.rough,b.goal,b.thick,b.least,b.polish,b.eat] (hn.sub fun x hx => by simp only [numsD,List.mem_cons,List.mem_append,List.mem_flatMap]; exact .inr (.inr (.inr (.inr (.inr ⟨b,hm,hx⟩))))) (by omega) (by simp)
       (repeat (refine stq ?_))
       try (refine AL_do2 rfl ⟨_,op_indexAddr_box (e := 9) (n := 4) (m := 3) (k := .i64) (id := 1) (off := 0) hT rfl rfl rfl rfl rfl rfl rfl (by omega) (by omega),?_⟩)
       (repeat' (first | refine stq ?_ | (refine AL_do2 rfl ?_; first | refine ⟨_,op_callB rfl rfl rfl rfl (kG) rfl,nrmA rfl ?_⟩) | (with_reducible refine AL_id ?_); (fail_if_success (refine AL_glit rfl rfl rfl (by first | exact .inl (by with_reducible rfl) | exact .inr (by with_reducible rfl)) ?_)); first | refine AL_gdec rfl rfl rfl (fun hg => ?_) (fun hg => ?_) | refine AL_gnot rfl rfl rfl (fun hg => ?_) (fun hg => ?_) | refine AL_gcases rfl rfl rfl (fun hg => ?_) (fun hg => ?_)))
       refine ⟨k + 1,hk',by omega,?_⟩
       (refine Le.mkR [(0,0),(1,1),(2,6)] ?_ ?_ rfl; all_goals (repeat' (first | exact trivial | refine sle ?_ | refine ⟨?_,rfl,?_⟩ | refine ⟨?_,by decide,rfl,?_⟩ | fail)))
       show some (AObj.arr 9 1 (B.map eStrC ++ [eStrC (lineB nmBatch (baN b))])) = some (AObj.arr 9 1 ((L ++ (d.batches.take (k + 1)).map fun b => lineB nmBatch (baN b)).map eStrC))
       rw [map_take_succ _ hb,<- List.append_assoc,hL2,List.map_append]; rfl
      ·have hk' : k = d.batches.length := by omega
       subst hk'
       rw [List.take_length] at hL2
       rw [hL2] at d4
       unfold textD
       have h32 : (linesD d).length <= 720 := by simp [linesD,L3,L2,L1]; omega
       rw [d4] at hOK h32 ⊢
       clear hL2 d4
       generalize B = L' at *
       obtain ⟨hne,hLl',hsum⟩ := hOK
       have hsz : ∀ x ∈ L',x.size <= 120000 := fun x hx => Nat.le_trans (sum_one hx) hsum
       (repeat (refine stq ?_))
       refine AW_loopC (fun i : Nat => i <= L'.length) (fun i => mkSt [(4,.arr 2),(11,.pv (vi (checkI (L'.take i)))),(112,.arr 2),(113,.pv (vi L'.length)),(114,.pv (vi i))] [(2,.arr 9 1 (L'.map eStrC))] 3) (fun i => L'.length - i) 0 (Nat.zero_le _) ?_ ?_
       ·(refine Le.mk ?_ ?_; all_goals (repeat' (first | exact trivial | refine sle ?_ | refine ⟨?_,rfl,?_⟩ | refine ⟨?_,by decide,rfl,?_⟩ | fail)))
       ·intro i hi
        (repeat (refine stq ?_))
        refine AW_if rfl (fun hc => ?_) (fun hc => ?_)
        ·have hi' : i < L'.length := by omega
         obtain ⟨x,hx⟩ : ∃ x,L'[i]? = some x := ⟨L'[i],by simp [hi']⟩
         have e3 := get_map eStrC hx
         have hxs := hsz x (List.mem_of_getElem? hx)
         have hcb := checkI_bd (L := L'.take i) (by simp; omega) fun y hy => hsz y (List.mem_of_mem_take hy)
         have hxl : x.data.toList.length = x.size := rfl
         (repeat (refine stq ?_))
         refine AL_do2 rfl ⟨_,op_indexAddr_arr (k := .i64) (n := (i : Int)) (id := 2) (e' := 9) (sz := 1) (es := L'.map eStrC) hT rfl rfl rfl rfl rfl rfl rfl rfl (by omega) (by rw [Int.toNat_natCast,List.length_map]; omega) rfl,?_⟩
         refine AL_do2 rfl ⟨_,op_load_aptr (el := eStrC x) hT rfl rfl rfl rfl rfl e3 rfl,?_⟩
         (repeat' (first | refine stq ?_ | refine sty ?_ | (with_reducible refine AL_id ?_); (fail_if_success (refine AL_glit rfl rfl rfl (by first | exact .inl (by with_reducible rfl) | exact .inr (by with_reducible rfl)) ?_)); first | refine AL_gdec rfl rfl rfl (fun hg => ?_) (fun hg => ?_) | refine AL_gnot rfl rfl rfl (fun hg => ?_) (fun hg => ?_) | refine AL_gcases rfl rfl rfl (fun hg => ?_) (fun hg => ?_)))
         refine AW_loopC (fun j : Nat => j <= x.size) (fun j => mkSt [(4,.arr 2),(11,.pv (vi (checkI (L'.take i) + bsum (x.data.toList.take j) 1))),(13,.pv (.str x)),(112,.arr 2),(113,.pv (vi L'.length)),(114,.pv (vi i)),(119,.pv (vi x.size)),(120,.pv (vi j))] [(2,.arr 9 1 (L'.map eStrC))] 3) (fun j => x.size - j) 0 (Nat.zero_le _) ?_ ?_
         ·(refine Le.mk ?_ ?_; all_goals (repeat' (first | exact trivial | refine sle ?_ | refine ⟨?_,rfl,?_⟩ | refine ⟨?_,by decide,rfl,?_⟩ | fail)))
          show some (FV.pv (vi (checkI (L'.take i)))) = some (FV.pv (vi (checkI (L'.take i) + bsum (x.data.toList.take 0) 1))); simp [bsum]
         ·intro j hj
          (repeat (refine stq ?_))
          refine AW_if rfl (fun hc => ?_) (fun hc => ?_)
          ·have hj' : j < x.size := by omega
           obtain ⟨b,hb⟩ : ∃ b,x.data.toList[j]? = some b := ⟨x.data.toList[j],by simp [hxl,hj']⟩
           have hb' : x[((j : Nat) : Int).toNat]? = some b:= by
            rw [Int.toNat_natCast]
            rw [List.getElem?_eq_getElem (by omega)] at hb
            rw [getElem?_pos x j hj']
            have hb3 : x.data[j]'hj' = b := by simpa using hb
            exact congrArg some hb3
           have hsb := bsum_bd (x.data.toList.take j) 1 (by omega) (by simp; omega)
           have hj2 : ((x.data.toList.take j).length : Int) = j := by simp; omega
           have hsn : bsum (x.data.toList.take (j + 1)) 1 = bsum (x.data.toList.take j) 1 + (b.toNat : Int) * ((j : Int) + 1):= by
            rw [List.take_add_one,hb,bsum_append,hj2]
            simp only [Option.toList_some,bsum]
            rw [show (1 : Int) + j = j + 1 by omega]; omega
           have hbt : (b.toNat : Int) <= 255 := by have := b.toNat_lt; omega
           have hm1 : 0 <= (b.toNat : Int) * ((j : Int) + 1) := Int.mul_nonneg (by omega) (by omega)
           have hm2 : (b.toNat : Int) * ((j : Int) + 1) <= 255 * 120001 := Int.mul_le_mul hbt (by omega) (by omega) (by omega)
           have hw := byte_wrap b
           have hmul : -9223372036854775808 <= IntKind.i64.wrap (b.toNat : Int) * ((j : Int) + 1) /\ IntKind.i64.wrap (b.toNat : Int) * ((j : Int) + 1) <= 9223372036854775807 := by rw [hw]; omega
           have hmul2 : 0 <= IntKind.i64.wrap (b.toNat : Int) * ((j : Int) + 1) /\ IntKind.i64.wrap (b.toNat : Int) * ((j : Int) + 1) <= 255 * 120001 := by rw [hw]; omega
           (repeat (refine stq ?_))
           refine AL_do2 rfl ⟨_,op_index_str hT rfl rfl rfl rfl rfl rfl (by omega) hb',?_⟩
           (repeat (refine stq ?_))
           refine ⟨j + 1,hj',by omega,?_⟩
           (refine Le.mk ?_ ?_; all_goals (repeat' (first | exact trivial | refine sle ?_ | refine ⟨?_,rfl,?_⟩ | refine ⟨?_,by decide,rfl,?_⟩ | fail)))
           show some (FV.pv (vi (checkI (L'.take i) + bsum (x.data.toList.take j) 1 + IntKind.i64.wrap (b.toNat : Int) * ((j : Int) + 1)))) = some (FV.pv (vi (checkI (L'.take i) + bsum (x.data.toList.take (j + 1)) 1)))
           rw [hsn,hw,Int.add_assoc]
          ·have hj' : j = x.size := by omega
           have hsn : checkI (L'.take (i + 1)) = checkI (L'.take i) + bsum (x.data.toList.take j) 1:= by
            rw [checkI,map_take_succ _ hx,sumI_append,hj',<- hxl,List.take_length]; simp [sumI,checkI,lineSum]
           rw [<- hsn]
           (repeat (refine stq ?_))
           refine ⟨i + 1,hi',by omega,?_⟩
           (refine Le.mk ?_ ?_; all_goals (repeat' (first | exact trivial | refine sle ?_ | refine ⟨?_,rfl,?_⟩ | refine ⟨?_,by decide,rfl,?_⟩ | fail)))
        ·have hi' : i = L'.length := by omega
         rw [hi',List.take_length]
         have hcb := checkI_bd hLl' hsz
         obtain ⟨c,hc,hc2⟩ : ∃ c : Nat,(checkI L').tmod 103 = c /\ c < 103 := ⟨((checkI L').tmod 103).toNat,by
          have := Int.tmod_nonneg 103 hcb.1; omega,by
          have := Int.tmod_nonneg 103 hcb.1; have := Int.tmod_lt_of_pos (checkI L') (b := 103) (by omega); omega⟩
         have hcm : checkI L' % 103 = (c : Int) := by rw [<- hc,Int.tmod_eq_emod_of_nonneg hcb.1]
         have hq1 : IntKind.i64.wrap ((c : Int).tdiv 100) = ((c / 100 : Nat) : Int) := by rw [show (c : Int).tdiv 100 = ((c / 100 : Nat) : Int) from rfl,nat_wrap (by omega)]
         have hq2 : (IntKind.i64.wrap ((c : Int).tdiv 10)).tmod 10 = ((c / 10 % 10 : Nat) : Int) := by rw [show (c : Int).tdiv 10 = ((c / 10 : Nat) : Int) from rfl,nat_wrap (by omega)]; rfl
         have hq3 : (c : Int).tmod 10 = ((c % 10 : Nat) : Int) := rfl
         have i1 := itoa_size (n := c / 100) (by omega)
         have i2 := itoa_size (n := c / 10 % 10) (by omega)
         have i3 := itoa_size (n := c % 10) (by omega)
         have e0 : endB.size = 4 := rfl
         have n0 : nlB.size = 1 := rfl
         have hx1 : (endB ++ itoaB (c / 100 : Nat)).size <= 20 := by rw [app_size]; omega
         have hx2 : ((endB ++ itoaB (c / 100 : Nat)) ++ itoaB (c / 10 % 10 : Nat)).size <= 30 := by rw [app_size]; omega
         have hx3 : (((endB ++ itoaB (c / 100 : Nat)) ++ itoaB (c / 10 % 10 : Nat)) ++ itoaB (c % 10 : Nat)).size <= 40 := by rw [app_size]; omega
         have hL2l : (L' ++ [((endB ++ itoaB (c / 100 : Nat)) ++ itoaB (c / 10 % 10 : Nat)) ++ itoaB (c % 10 : Nat)]).length <= 800 := by rw [List.length_append,List.length_singleton]; omega
         have hjs := join_size (L := L' ++ [((endB ++ itoaB (c / 100 : Nat)) ++ itoaB (c / 10 % 10 : Nat)) ++ itoaB (c % 10 : Nat)]) (by omega) (by
          rw [sum_app]
          have : sumSz [((endB ++ itoaB (c / 100 : Nat)) ++ itoaB (c / 10 % 10 : Nat)) ++ itoaB (c % 10 : Nat)] = (((endB ++ itoaB (c / 100 : Nat)) ++ itoaB (c / 10 % 10 : Nat)) ++ itoaB (c % 10 : Nat)).size := by simp [sumSz]
          omega)
         have j1 : (Lib.join ((L' ++ [((endB ++ itoaB (c / 100 : Nat)) ++ itoaB (c / 10 % 10 : Nat)) ++ itoaB (c % 10 : Nat)]).map (·.data.toList)) nlB.data.toList).length <= 140737488355328:= by
          have : (joinB (L' ++ [((endB ++ itoaB (c / 100 : Nat)) ++ itoaB (c / 10 % 10 : Nat)) ++ itoaB (c % 10 : Nat)]) nlB).size = (Lib.join ((L' ++ [((endB ++ itoaB (c / 100 : Nat)) ++ itoaB (c / 10 % 10 : Nat)) ++ itoaB (c % 10 : Nat)]).map (·.data.toList)) nlB.data.toList).length := rfl
          omega
         have k157 := f157 (L' ++ [((endB ++ itoaB (c / 100 : Nat)) ++ itoaB (c / 10 % 10 : Nat)) ++ itoaB (c % 10 : Nat)]) nlB (by omega) (by simp) j1
         (repeat (refine stq ?_))
         refine AL_do2 rfl ⟨_,op_rem rfl rfl rfl rfl (by decide),?_⟩
         rw [hc]
         (repeat (refine stq ?_))
         refine AL_do2 rfl ⟨_,op_quo rfl rfl rfl rfl (by decide),?_⟩
         rw [hq1]
         (repeat' (first | refine stq ?_ | (refine AL_do2 rfl ?_; first | refine ⟨_,op_call1 rfl rfl rfl rfl (f156 (c / 100) (by omega)),nrmA rfl ?_⟩) | (with_reducible refine AL_id ?_); (fail_if_success (refine AL_glit rfl rfl rfl (by first | exact .inl (by with_reducible rfl) | exact .inr (by with_reducible rfl)) ?_)); first | refine AL_gdec rfl rfl rfl (fun hg => ?_) (fun hg => ?_) | refine AL_gnot rfl rfl rfl (fun hg => ?_) (fun hg => ?_) | refine AL_gcases rfl rfl rfl (fun hg => ?_) (fun hg => ?_)))
         refine AL_do2 rfl ⟨_,op_strcat (u := endB) (v := itoaB (c / 100 : Nat)) rfl rfl rfl rfl (by omega),?_⟩
         (repeat (refine stq ?_))
         refine AL_do2 rfl ⟨_,op_quo rfl rfl rfl rfl (by decide),?_⟩
         refine AL_do2 rfl ⟨_,op_rem rfl rfl rfl rfl (by decide),?_⟩
         rw [hq2]
         (repeat' (first | refine stq ?_ | (refine AL_do2 rfl ?_; first | refine ⟨_,op_call1 rfl rfl rfl rfl (f156 (c / 10 % 10) (by omega)),nrmA rfl ?_⟩) | (with_reducible refine AL_id ?_); (fail_if_success (refine AL_glit rfl rfl rfl (by first | exact .inl (by with_reducible rfl) | exact .inr (by with_reducible rfl)) ?_)); first | refine AL_gdec rfl rfl rfl (fun hg => ?_) (fun hg => ?_) | refine AL_gnot rfl rfl rfl (fun hg => ?_) (fun hg => ?_) | refine AL_gcases rfl rfl rfl (fun hg => ?_) (fun hg => ?_)))
         refine AL_do2 rfl ⟨_,op_strcat (u := endB ++ itoaB (c / 100 : Nat)) (v := itoaB (c / 10 % 10 : Nat)) rfl rfl rfl rfl (by omega),?_⟩
         (repeat (refine stq ?_))
         refine AL_do2 rfl ⟨_,op_rem rfl rfl rfl rfl (by decide),?_⟩
         rw [hq3]
         (repeat' (first | refine stq ?_ | (refine AL_do2 rfl ?_; first | refine ⟨_,op_call1 rfl rfl rfl rfl (f156 (c % 10) (by omega)),nrmA rfl ?_⟩) | (with_reducible refine AL_id ?_); (fail_if_success (refine AL_glit rfl rfl rfl (by first | exact .inl (by with_reducible rfl) | exact .inr (by with_reducible rfl)) ?_)); first | refine AL_gdec rfl rfl rfl (fun hg => ?_) (fun hg => ?_) | refine AL_gnot rfl rfl rfl (fun hg => ?_) (fun hg => ?_) | refine AL_gcases rfl rfl rfl (fun hg => ?_) (fun hg => ?_)))
         refine AL_do2 rfl ⟨_,op_strcat (u := (endB ++ itoaB (c / 100 : Nat)) ++ itoaB (c / 10 % 10 : Nat)) (v := itoaB (c % 10 : Nat)) rfl rfl rfl rfl (by omega),?_⟩
         unfold textOf endL
         rw [hcm]
         rw [show (c : Int) / 100 = ((c / 100 : Nat) : Int) from rfl,show (c : Int) / 10 % 10 = ((c / 10 % 10 : Nat) : Int) from rfl,show (c : Int) % 10 = ((c % 10 : Nat) : Int) from rfl]
         generalize hE : ((endB ++ itoaB (c / 100 : Nat)) ++ itoaB (c / 10 % 10 : Nat)) ++ itoaB (c % 10 : Nat) = E at *
         (repeat (refine stq ?_))
         refine AL_le (s' := mkSt [(152,.arr 0)] [(0,.arr 9 1 ((L' ++ [E]).map eStrC))] 1) ?_ ?_
         ·(refine Le.mkR [(0,4)] ?_ ?_ rfl; all_goals (repeat' (first | exact trivial | refine sle ?_ | refine ⟨?_,rfl,?_⟩ | refine ⟨?_,by decide,rfl,?_⟩ | fail)))
          rw [List.map_append]; rfl
         (repeat' (first | refine stq ?_ | (refine AL_do2 rfl ?_; first | refine ⟨_,op_callB rfl rfl rfl rfl (k157) rfl,nrmA rfl ?_⟩) | (with_reducible refine AL_id ?_); (fail_if_success (refine AL_glit rfl rfl rfl (by first | exact .inl (by with_reducible rfl) | exact .inr (by with_reducible rfl)) ?_)); first | refine AL_gdec rfl rfl rfl (fun hg => ?_) (fun hg => ?_) | refine AL_gnot rfl rfl rfl (fun hg => ?_) (fun hg => ?_) | refine AL_gcases rfl rfl rfl (fun hg => ?_) (fun hg => ?_)))
         refine AL_do2 rfl ⟨_,op_strcat (u := joinB (L' ++ [E]) nlB) (v := nlB) rfl rfl rfl rfl (by omega),?_⟩
         (repeat (refine stq ?_))
         exact ⟨_,_,rfl,rfl,rfl⟩
theorem f105 (d : Drum) (h1 : d.acids.length <= 10) (h2 : d.adds.length <= 20) (h3 : d.strips.length <= 10) (h4 : d.batches.length <= 10) (hn : NumsOK (numsD d)) : ACalls Tryz.prog 105 [eDrum d] (fun r => r = .pv (.str (textD d))) := f105w d (by omega) (by omega) hn
end Go.Abs
