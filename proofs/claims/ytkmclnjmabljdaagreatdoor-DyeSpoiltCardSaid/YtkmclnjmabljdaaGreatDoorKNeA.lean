/- Numerals below 100, and strings.Join, by the shelf's contracts. -/
import Derived.Test.YtkmclnjmabljdaaGreatDoorKNdJ
import Derived.Test.YtkmclnjmabljdaaGreatDoorKSh
import Derived.Test.YtkmclnjmabljdaaGreatDoorKNcG
set_option linter.unusedVariables false
set_option linter.unusedSimpArgs false
namespace Go.Abs
open Go.Proofs Go.RowKit
set_option linter.unusedVariables false
set_option linter.unusedSimpArgs false
set_option maxRecDepth 100000
theorem ACalls.of_str {P : Program} {f : FuncId} {ps : List PV} {s : ByteArray} (hE : Enters P f) (h : ∀ W D vs,RepL W D vs ps -> (∀ b,D b -> b < W.heap.size) -> Calls P f vs W fun e w' => e = .returned (.string s) /\ Below W.heap.size W w') : ACalls P f ps (fun r => r = .pv (.str s)) :=
 ⟨hE,fun W D vs hko hD hr => (h W D vs hr hD).mono fun e w' ⟨he,hb⟩ => ⟨_,.pv (.str s),D,he,hb,fun _ h => h,fun _ h => .inl h,fun b hb' => Nat.lt_of_lt_of_le (hD b hb') hb.size,.str s,rfl⟩⟩
def bytesOf (l : List UInt8) : ByteArray := ⟨l.toArray⟩
theorem f201 (n : Nat) (hn : n < 100) : ACalls Tryz.prog 201 [vi n] (fun r => r = .pv (.str (bytesOf (Lib.decDigits n)))):= by
 refine ACalls.of_str (enters_of (fn := Tryz.f201) rfl rfl (by kernel_rfl)) fun W D vs hr hD => ?_
 obtain ⟨h1,h2⟩ := hr
 have h0 : vs = #[.int .i64 n]:= by
  apply Array.ext
  ·simpa using h1
  ·intro j q1 q2
   have hj : j = 0 := by simp at q2; omega
   subst hj
   have := h2 0 vs[0] (vi n) (by simp [q1]) rfl
   simpa using this.inv_int
 subst h0
 exact (Tryz.strconv_Itoa_small n hn W).mono fun e w' ⟨he,hw⟩ => ⟨he,by rw [hw]; exact Below.refl _ _⟩
def joinB (xs : List ByteArray) (sep : ByteArray) : ByteArray := bytesOf (Lib.join (xs.map (·.data.toList)) sep.data.toList)
def eStrs (xs : List ByteArray) : PV := .sl (xs.map fun x => [.str x])
theorem f200 (xs : List ByteArray) (sep : ByteArray) (hN : xs.length <= 1000) (hne : xs ≠ []) (hlen : (Lib.join (xs.map (·.data.toList)) sep.data.toList).length <= 140737488355328) : ACalls Tryz.prog 200 [eStrs xs,.str sep] (fun r => r = .pv (.str (joinB xs sep))):= by
 refine ACalls.of_str (enters_of (fn := Tryz.f200) rfl rfl (by kernel_rfl)) fun W D vs hr hD => ?_
 obtain ⟨h1,h2⟩ := hr
 have hpos : 0 < xs.length := by cases xs with
  | nil => exact absurd rfl hne
  | cons => simp
 have h1' : vs.size = 2 := h1
 have r0 := h2 0 vs[0] (eStrs xs) (by simp) rfl
 have r1 := h2 1 vs[1] (.str sep) (by simp) rfl
 have e1 := r1.inv_str
 have hvs : vs = #[vs[0],vs[1]]:= by
  apply Array.ext
  ·simpa using h1'
  ·intro j q1 q2
   match j with
   | 0 => rfl
   | 1 => rfl
   | j + 2 => simp at q2; omega
 generalize vs[0] = v0 at r0 hvs
 generalize vs[1] = v1 at e1 hvs
 subst e1
 subst hvs
 cases r0 with
 | sl a m c sz es us hm hcap hmax hsz ha hlf hr =>
  have hsz1 : sz = 1:= by
   obtain ⟨x,hx⟩ : ∃ x,xs[0]? = some x := ⟨xs[0],by simp [hpos]⟩
   exact (hsz 0 [.str x] (by simp [hx])).symm
  subst hsz1
  simp only [List.length_map] at hm
  subst hm
  obtain ⟨b,rfl,hDb,hc0⟩ := ha 0 0 hpos (by omega)
  have hspot : b.spot = none:= by
   simp only [Nat.zero_mul,Nat.add_zero,Addr.add,if_true] at hc0
   unfold World.cell? at hc0
   split at hc0
   ·split at hc0
    ·cases hc0
    ·rename_i h; simpa using h
   ·cases hc0
  obtain ⟨bk,o,sp⟩ := b
  simp only at hspot hDb
  subst hspot
  refine Calls.mono (Tryz.strings_Join bk o c xs sep W (fun j x hx => ?_) (hD _ hDb) (by omega) hcap hlen) fun e w' h => h
  have hj := (List.getElem?_eq_some_iff.1 hx).1
  obtain ⟨b',hb',_,hc⟩ := ha j 0 hj (by omega)
  cases hb'
  have hrep := hr j 0 [.str x] (.str x) (by simp [hx]) rfl
  rw [addr_add,Nat.mul_one,Nat.add_zero] at hc
  rw [hc,hrep.inv_str]
end Go.Abs
namespace Go.Abs
open Go.Proofs
set_option linter.unusedVariables false
set_option linter.unusedSimpArgs false
set_option maxRecDepth 100000
theorem f277 (m n : Int) : ACalls Tryz.prog 277 [.agg [vi m,vi n]] (fun r => r = .own 3 1 ([m,n].map eInt)):= by
 refine ACalls.of_body hT Tryz.func277 rfl (by kernel_rfl) rfl ?_
 (repeat (refine stp ?_))
 exact ⟨_,_,rfl,rfl,rfl⟩
theorem f279 (s : Stock) (h : s.baths.length <= 1000) : ACalls Tryz.prog 279 [.agg (eStock s)] (fun r => r = .own 3 1 ([s.many,s.price,(s.baths.length : Int)].map eInt)):= by
 refine ACalls.of_body hT Tryz.func279 rfl (by kernel_rfl) rfl ?_
 (repeat (refine stp ?_))
 exact ⟨_,_,rfl,rfl,rfl⟩
theorem f280 (b : Bath) : ACalls Tryz.prog 280 [.agg (eBath b)] (fun r => r = .own 3 1 ([b.dye,b.temper,b.hours.low,b.hours.high].map eInt)):= by
 refine ACalls.of_body hT Tryz.func280 rfl (by kernel_rfl) rfl ?_
 (repeat (refine stp ?_))
 exact ⟨_,_,rfl,rfl,rfl⟩
def dyeNums (d : Dye) : List Int := d.full :: d.takes.flatMap fun s => [s.low,s.high]
theorem f278 (d : Dye) (h : d.takes.length <= 1000) : ACalls Tryz.prog 278 [.agg (eDye d)] (fun r => r = .own 3 1 ((dyeNums d).map eInt)):= by
 refine ACalls.of_body hT Tryz.func278 rfl (by kernel_rfl) rfl ?_
 (repeat (refine stp ?_))
 refine AW_loopC (fun k : Nat => k <= d.takes.length) (fun k => mkSt [(3,.arr 1),(12,.pv (eSpans d.takes)),(13,.pv (vi d.takes.length)),(14,.pv (vi k))]
  [(1,.arr 3 1 ((d.full :: (d.takes.take k).flatMap fun s => [s.low,s.high]).map eInt))] 2) (fun k => d.takes.length - k) 0 (Nat.zero_le _) ?_ ?_
 ·(refine Le.mkR [(1,1)] ?_ ?_ rfl; all_goals (repeat' (first | exact trivial | refine sle ?_ | refine ⟨?_,rfl,?_⟩ | refine ⟨?_,by decide,rfl,?_⟩ | fail)))
 ·intro k hk
  (repeat (refine stp ?_))
  refine AW_if rfl (fun hc => ?_) (fun hc => ?_)
  ·have hk' : k < d.takes.length := by omega
   obtain ⟨x,hx⟩ : ∃ x,d.takes[k]? = some x := ⟨d.takes[k],by simp [hk']⟩
   have e1 := get_map eSpan hx
   have hs : (d.takes.take (k + 1)).flatMap (fun s => [s.low,s.high]) = (d.takes.take k).flatMap (fun s => [s.low,s.high]) ++ [x.low,x.high] := by rw [List.take_add_one,hx]; simp
   have hln : ((d.takes.take k).flatMap fun s => [s.low,s.high]).length = k * 2 := by rw [flatMap_const_len (c := 2) (fun _ => rfl)]; simp; omega
   (repeat (refine stp ?_))
   refine ⟨k + 1,hk',by omega,?_⟩
   rw [hs]
   (refine Le.mkR [(1,4)] ?_ ?_ rfl; all_goals (repeat' (first | exact trivial | refine sle ?_ | refine ⟨?_,rfl,?_⟩ | refine ⟨?_,by decide,rfl,?_⟩ | fail)))
   simp; rfl
  ·have hk' : k = d.takes.length := by omega
   rw [hk',List.take_length]
   (repeat (refine stp ?_))
   exact ⟨_,_,rfl,rfl,rfl⟩
end Go.Abs
namespace Go.Abs
open Go.Proofs
set_option linter.unusedVariables false
set_option linter.unusedSimpArgs false
set_option maxRecDepth 100000
def namesL : List String := ["house", "dye", "stock", "bath"]
theorem f221 : ACalls Tryz.prog 221 [] (fun r => r = .pv (.agg (namesL.map fun x => .str x.toUTF8))):= by
 refine ACalls.of_body hT Tryz.func221 rfl (by kernel_rfl) rfl ?_
 (repeat (refine stp ?_))
 refine ⟨_,_,rfl,rfl,?_⟩
 show RV.pv _ = RV.pv _
 kernel_rfl
def spB : ByteArray := ⟨#[32]⟩
def itoaB (n : Int) : ByteArray := bytesOf (Lib.decDigits n.toNat)
def lineB (nm : ByteArray) (nums : List Int) : ByteArray := nums.foldl (fun acc x => acc ++ (spB ++ itoaB x)) nm
theorem lineB_snoc (nm : ByteArray) (nums : List Int) (x : Int) : lineB nm (nums ++ [x]) = lineB nm nums ++ (spB ++ itoaB x) := by simp [lineB]
def NumsOK (nums : List Int) : Prop := ∀ x ∈ nums,ACalls Tryz.prog 201 [vi x] (fun r => r = .pv (.str (itoaB x))) /\ (itoaB x).size <= 20
theorem app_size (u v : ByteArray) : (u ++ v).size = u.size + v.size := ByteArray.size_append
theorem snocInd {α : Type} {p : List α -> Prop} (h0 : p []) (h1 : ∀ l x,p l -> p (l ++ [x])) (l : List α) : p l:= by
 have : ∀ r : List α,p r.reverse:= by
  intro r
  induction r with
  | nil => exact h0
  | cons x r ih => rw [List.reverse_cons]; exact h1 _ _ ih
 have := this l.reverse
 rwa [List.reverse_reverse] at this
theorem lineB_size {nm : ByteArray} : ∀ {nums : List Int},NumsOK nums -> (lineB nm nums).size <= nm.size + 21 * nums.length:= by
 intro nums
 induction nums using snocInd with
 | h0 => intro _; simp [lineB]
 | h1 l x ih =>
  intro h
  have h1 := ih fun y hy => h y (by simp [hy])
  have h2 := (h x (by simp)).2
  have h3 : spB.size = 1 := rfl
  rw [lineB_snoc,app_size,app_size]
  simp only [List.length_append,List.length_singleton]
  omega
theorem f199top (m n : Int) (hn : NumsOK ([m,n])) (hlen : ([m,n]).length <= 1000) : ACalls Tryz.prog 199 [.iface 237 (.agg [vi m,vi n])] (fun r => r = .pv (.str (lineB (namesL[0]'(by decide)).toUTF8 ([m,n])))):= by
 have hmeth := f277 m n
 generalize [m,n] = nums at hn hlen hmeth ⊢
 have hnm : (namesL[0]'(by decide)).toUTF8.size <= 5 := by decide
 refine ACalls.of_body hT Tryz.func199 rfl (by kernel_rfl) rfl ?_
 (repeat' (first | refine stp ?_ | refine stz ?_ | (refine AL_do2 rfl ?_; first | refine ⟨_,op_call1 rfl rfl rfl rfl (f221),?_⟩) | refine AL_gdec rfl rfl rfl (fun hg => ?_) (fun hg => ?_) | refine AL_gnot rfl rfl rfl (fun hg => ?_) (fun hg => ?_) | refine AL_gcases rfl rfl rfl (fun hg => ?_) (fun hg => ?_)))
 refine AL_do2 rfl ⟨_,op_assert_f (fvs := [.nils,.pv (vi 0)]) hT rfl rfl rfl rfl rfl rfl (by kernel_rfl),?_⟩
 (repeat' (first | refine stp ?_ | refine stz ?_ | (refine AL_do2 rfl ?_; first | refine ⟨_,op_call1 rfl rfl rfl rfl (f221),?_⟩) | refine AL_gdec rfl rfl rfl (fun hg => ?_) (fun hg => ?_) | refine AL_gnot rfl rfl rfl (fun hg => ?_) (fun hg => ?_) | refine AL_gcases rfl rfl rfl (fun hg => ?_) (fun hg => ?_)))
 refine AL_do2 rfl ⟨_,op_assert_f (fvs := [.nils,.pv (vi 0),.pv (vi 0)]) hT rfl rfl rfl rfl rfl rfl (by kernel_rfl),?_⟩
 (repeat' (first | refine stp ?_ | refine stz ?_ | (refine AL_do2 rfl ?_; first | refine ⟨_,op_call1 rfl rfl rfl rfl (f221),?_⟩) | refine AL_gdec rfl rfl rfl (fun hg => ?_) (fun hg => ?_) | refine AL_gnot rfl rfl rfl (fun hg => ?_) (fun hg => ?_) | refine AL_gcases rfl rfl rfl (fun hg => ?_) (fun hg => ?_)))
 refine AL_do2 rfl ⟨_,op_assert_f (fvs := [.pv (vi 0),.pv (vi 0),.pv (vi 0),.pv (vi 0)]) hT rfl rfl rfl rfl rfl rfl (by kernel_rfl),?_⟩
 (repeat' (first | refine stp ?_ | refine stz ?_ | (refine AL_do2 rfl ?_; first | refine ⟨_,op_call1 rfl rfl rfl rfl (f221),?_⟩) | refine AL_gdec rfl rfl rfl (fun hg => ?_) (fun hg => ?_) | refine AL_gnot rfl rfl rfl (fun hg => ?_) (fun hg => ?_) | refine AL_gcases rfl rfl rfl (fun hg => ?_) (fun hg => ?_)))
 refine AL_do2 rfl ⟨_,op_invoke rfl rfl rfl (by intro v w; kernel_rfl) hmeth,?_⟩
 refine AL_pure (t := 25) rfl rfl ?_
 change AL _ _ _ _ _ (ASt.put _ 25 (some (.pv (eInts nums))))
 generalize hnmg : (namesL[0]'(by decide)).toUTF8 = nm at hnm ⊢
 (repeat' (first | refine stp ?_ | refine stz ?_ | (refine AL_do2 rfl ?_; first | refine ⟨_,op_call1 rfl rfl rfl rfl (f221),?_⟩) | refine AL_gdec rfl rfl rfl (fun hg => ?_) (fun hg => ?_) | refine AL_gnot rfl rfl rfl (fun hg => ?_) (fun hg => ?_) | refine AL_gcases rfl rfl rfl (fun hg => ?_) (fun hg => ?_)))
 refine AW_loopC (fun k : Nat => k <= nums.length) (fun k => mkSt [(3,.pv (.str (lineB nm (nums.take k)))),(25,.pv (eInts nums)),(26,.pv (vi nums.length)),(27,.pv (vi k))] [] 0) (fun k => nums.length - k) 0 (Nat.zero_le _) ?_ ?_
 ·(refine Le.mk ?_ ?_; all_goals (repeat' (first | exact trivial | refine sle ?_ | refine ⟨?_,rfl,?_⟩ | refine ⟨?_,by decide,rfl,?_⟩ | fail)))
  subst hnmg
  rfl
 ·intro k hk
  (repeat (refine stp ?_))
  refine AW_if rfl (fun hc => ?_) (fun hc => ?_)
  ·have hk' : k < nums.length := by omega
   obtain ⟨x,hx⟩ : ∃ x,nums[k]? = some x := ⟨nums[k],by simp [hk']⟩
   have e1 := get_map eInt hx
   obtain ⟨hI,hxs⟩ := hn x (List.mem_of_getElem? hx)
   have hs : nums.take (k + 1) = nums.take k ++ [x] := by rw [List.take_add_one,hx]; rfl
   have hls := lineB_size (nm := nm) (nums := nums.take k) fun y hy => hn y (List.mem_of_mem_take hy)
   have htk : (nums.take k).length <= 1000 := by simp; omega
   have h1 : spB.size + (itoaB x).size <= 1000000 := by have : spB.size = 1 := rfl; omega
   have h2 : (lineB nm (nums.take k)).size + (spB ++ itoaB x).size <= 1000000 := by rw [app_size]; have : spB.size = 1 := rfl; omega
   (repeat' (first | refine stp ?_ | (refine AL_do2 rfl ?_; first | refine ⟨_,op_call1 rfl rfl rfl rfl (hI),?_⟩) | refine AL_gdec rfl rfl rfl (fun hg => ?_) (fun hg => ?_) | refine AL_gnot rfl rfl rfl (fun hg => ?_) (fun hg => ?_) | refine AL_gcases rfl rfl rfl (fun hg => ?_) (fun hg => ?_)))
   refine AL_do2 rfl ⟨_,op_strcat (u := spB) rfl rfl rfl rfl h1,?_⟩
   refine AL_do2 rfl ⟨_,op_strcat rfl rfl rfl rfl h2,?_⟩
   (repeat (refine stp ?_))
   refine ⟨k + 1,hk',by omega,?_⟩
   (refine Le.mk ?_ ?_; all_goals (repeat' (first | exact trivial | refine sle ?_ | refine ⟨?_,rfl,?_⟩ | refine ⟨?_,by decide,rfl,?_⟩ | fail)))
   rw [hs,lineB_snoc]; rfl
  ·have hk' : k = nums.length := by omega
   rw [hk',List.take_length]
   (repeat (refine stp ?_))
   exact ⟨_,_,rfl,rfl,rfl⟩
theorem f199kind (d : Dye) (hd : d.takes.length <= 1000) (hn : NumsOK (dyeNums d)) (hlen : (dyeNums d).length <= 1000) : ACalls Tryz.prog 199 [.iface 239 (.agg (eDye d))] (fun r => r = .pv (.str (lineB (namesL[1]'(by decide)).toUTF8 (dyeNums d)))):= by
 have hmeth := f278 d hd
 generalize dyeNums d = nums at hn hlen hmeth ⊢
 have hnm : (namesL[1]'(by decide)).toUTF8.size <= 5 := by decide
 refine ACalls.of_body hT Tryz.func199 rfl (by kernel_rfl) rfl ?_
 (repeat' (first | refine stp ?_ | refine stz ?_ | (refine AL_do2 rfl ?_; first | refine ⟨_,op_call1 rfl rfl rfl rfl (f221),?_⟩) | refine AL_gdec rfl rfl rfl (fun hg => ?_) (fun hg => ?_) | refine AL_gnot rfl rfl rfl (fun hg => ?_) (fun hg => ?_) | refine AL_gcases rfl rfl rfl (fun hg => ?_) (fun hg => ?_)))
 refine AL_do2 rfl ⟨_,op_assert hT rfl rfl rfl rfl rfl,?_⟩
 (repeat' (first | refine stp ?_ | refine stz ?_ | (refine AL_do2 rfl ?_; first | refine ⟨_,op_call1 rfl rfl rfl rfl (f221),?_⟩) | refine AL_gdec rfl rfl rfl (fun hg => ?_) (fun hg => ?_) | refine AL_gnot rfl rfl rfl (fun hg => ?_) (fun hg => ?_) | refine AL_gcases rfl rfl rfl (fun hg => ?_) (fun hg => ?_)))
 refine AL_do2 rfl ⟨_,op_invoke rfl rfl rfl (by intro v w; kernel_rfl) hmeth,?_⟩
 refine AL_pure (t := 25) rfl rfl ?_
 change AL _ _ _ _ _ (ASt.put _ 25 (some (.pv (eInts nums))))
 generalize hnmg : (namesL[1]'(by decide)).toUTF8 = nm at hnm ⊢
 (repeat' (first | refine stp ?_ | refine stz ?_ | (refine AL_do2 rfl ?_; first | refine ⟨_,op_call1 rfl rfl rfl rfl (f221),?_⟩) | refine AL_gdec rfl rfl rfl (fun hg => ?_) (fun hg => ?_) | refine AL_gnot rfl rfl rfl (fun hg => ?_) (fun hg => ?_) | refine AL_gcases rfl rfl rfl (fun hg => ?_) (fun hg => ?_)))
 refine AW_loopC (fun k : Nat => k <= nums.length) (fun k => mkSt [(3,.pv (.str (lineB nm (nums.take k)))),(25,.pv (eInts nums)),(26,.pv (vi nums.length)),(27,.pv (vi k))] [] 0) (fun k => nums.length - k) 0 (Nat.zero_le _) ?_ ?_
 ·(refine Le.mk ?_ ?_; all_goals (repeat' (first | exact trivial | refine sle ?_ | refine ⟨?_,rfl,?_⟩ | refine ⟨?_,by decide,rfl,?_⟩ | fail)))
  subst hnmg
  rfl
 ·intro k hk
  (repeat (refine stp ?_))
  refine AW_if rfl (fun hc => ?_) (fun hc => ?_)
  ·have hk' : k < nums.length := by omega
   obtain ⟨x,hx⟩ : ∃ x,nums[k]? = some x := ⟨nums[k],by simp [hk']⟩
   have e1 := get_map eInt hx
   obtain ⟨hI,hxs⟩ := hn x (List.mem_of_getElem? hx)
   have hs : nums.take (k + 1) = nums.take k ++ [x] := by rw [List.take_add_one,hx]; rfl
   have hls := lineB_size (nm := nm) (nums := nums.take k) fun y hy => hn y (List.mem_of_mem_take hy)
   have htk : (nums.take k).length <= 1000 := by simp; omega
   have h1 : spB.size + (itoaB x).size <= 1000000 := by have : spB.size = 1 := rfl; omega
   have h2 : (lineB nm (nums.take k)).size + (spB ++ itoaB x).size <= 1000000 := by rw [app_size]; have : spB.size = 1 := rfl; omega
   (repeat' (first | refine stp ?_ | (refine AL_do2 rfl ?_; first | refine ⟨_,op_call1 rfl rfl rfl rfl (hI),?_⟩) | refine AL_gdec rfl rfl rfl (fun hg => ?_) (fun hg => ?_) | refine AL_gnot rfl rfl rfl (fun hg => ?_) (fun hg => ?_) | refine AL_gcases rfl rfl rfl (fun hg => ?_) (fun hg => ?_)))
   refine AL_do2 rfl ⟨_,op_strcat (u := spB) rfl rfl rfl rfl h1,?_⟩
   refine AL_do2 rfl ⟨_,op_strcat rfl rfl rfl rfl h2,?_⟩
   (repeat (refine stp ?_))
   refine ⟨k + 1,hk',by omega,?_⟩
   (refine Le.mk ?_ ?_; all_goals (repeat' (first | exact trivial | refine sle ?_ | refine ⟨?_,rfl,?_⟩ | refine ⟨?_,by decide,rfl,?_⟩ | fail)))
   rw [hs,lineB_snoc]; rfl
  ·have hk' : k = nums.length := by omega
   rw [hk',List.take_length]
   (repeat (refine stp ?_))
   exact ⟨_,_,rfl,rfl,rfl⟩
theorem f199lot (s : Stock) (hd : s.baths.length <= 1000) (hn : NumsOK ([s.many,s.price,(s.baths.length : Int)])) (hlen : ([s.many,s.price,(s.baths.length : Int)]).length <= 1000) : ACalls Tryz.prog 199 [.iface 241 (.agg (eStock s))] (fun r => r = .pv (.str (lineB (namesL[2]'(by decide)).toUTF8 ([s.many,s.price,(s.baths.length : Int)])))):= by
 have hmeth := f279 s hd
 generalize [s.many,s.price,(s.baths.length : Int)] = nums at hn hlen hmeth ⊢
 have hnm : (namesL[2]'(by decide)).toUTF8.size <= 5 := by decide
 refine ACalls.of_body hT Tryz.func199 rfl (by kernel_rfl) rfl ?_
 (repeat' (first | refine stp ?_ | refine stz ?_ | (refine AL_do2 rfl ?_; first | refine ⟨_,op_call1 rfl rfl rfl rfl (f221),?_⟩) | refine AL_gdec rfl rfl rfl (fun hg => ?_) (fun hg => ?_) | refine AL_gnot rfl rfl rfl (fun hg => ?_) (fun hg => ?_) | refine AL_gcases rfl rfl rfl (fun hg => ?_) (fun hg => ?_)))
 refine AL_do2 rfl ⟨_,op_assert_f (fvs := [.nils,.pv (vi 0)]) hT rfl rfl rfl rfl rfl rfl (by kernel_rfl),?_⟩
 (repeat' (first | refine stp ?_ | refine stz ?_ | (refine AL_do2 rfl ?_; first | refine ⟨_,op_call1 rfl rfl rfl rfl (f221),?_⟩) | refine AL_gdec rfl rfl rfl (fun hg => ?_) (fun hg => ?_) | refine AL_gnot rfl rfl rfl (fun hg => ?_) (fun hg => ?_) | refine AL_gcases rfl rfl rfl (fun hg => ?_) (fun hg => ?_)))
 refine AL_do2 rfl ⟨_,op_assert hT rfl rfl rfl rfl rfl,?_⟩
 (repeat' (first | refine stp ?_ | refine stz ?_ | (refine AL_do2 rfl ?_; first | refine ⟨_,op_call1 rfl rfl rfl rfl (f221),?_⟩) | refine AL_gdec rfl rfl rfl (fun hg => ?_) (fun hg => ?_) | refine AL_gnot rfl rfl rfl (fun hg => ?_) (fun hg => ?_) | refine AL_gcases rfl rfl rfl (fun hg => ?_) (fun hg => ?_)))
 refine AL_do2 rfl ⟨_,op_invoke rfl rfl rfl (by intro v w; kernel_rfl) hmeth,?_⟩
 refine AL_pure (t := 25) rfl rfl ?_
 change AL _ _ _ _ _ (ASt.put _ 25 (some (.pv (eInts nums))))
 generalize hnmg : (namesL[2]'(by decide)).toUTF8 = nm at hnm ⊢
 (repeat' (first | refine stp ?_ | refine stz ?_ | (refine AL_do2 rfl ?_; first | refine ⟨_,op_call1 rfl rfl rfl rfl (f221),?_⟩) | refine AL_gdec rfl rfl rfl (fun hg => ?_) (fun hg => ?_) | refine AL_gnot rfl rfl rfl (fun hg => ?_) (fun hg => ?_) | refine AL_gcases rfl rfl rfl (fun hg => ?_) (fun hg => ?_)))
 refine AW_loopC (fun k : Nat => k <= nums.length) (fun k => mkSt [(3,.pv (.str (lineB nm (nums.take k)))),(25,.pv (eInts nums)),(26,.pv (vi nums.length)),(27,.pv (vi k))] [] 0) (fun k => nums.length - k) 0 (Nat.zero_le _) ?_ ?_
 ·(refine Le.mk ?_ ?_; all_goals (repeat' (first | exact trivial | refine sle ?_ | refine ⟨?_,rfl,?_⟩ | refine ⟨?_,by decide,rfl,?_⟩ | fail)))
  subst hnmg
  rfl
 ·intro k hk
  (repeat (refine stp ?_))
  refine AW_if rfl (fun hc => ?_) (fun hc => ?_)
  ·have hk' : k < nums.length := by omega
   obtain ⟨x,hx⟩ : ∃ x,nums[k]? = some x := ⟨nums[k],by simp [hk']⟩
   have e1 := get_map eInt hx
   obtain ⟨hI,hxs⟩ := hn x (List.mem_of_getElem? hx)
   have hs : nums.take (k + 1) = nums.take k ++ [x] := by rw [List.take_add_one,hx]; rfl
   have hls := lineB_size (nm := nm) (nums := nums.take k) fun y hy => hn y (List.mem_of_mem_take hy)
   have htk : (nums.take k).length <= 1000 := by simp; omega
   have h1 : spB.size + (itoaB x).size <= 1000000 := by have : spB.size = 1 := rfl; omega
   have h2 : (lineB nm (nums.take k)).size + (spB ++ itoaB x).size <= 1000000 := by rw [app_size]; have : spB.size = 1 := rfl; omega
   (repeat' (first | refine stp ?_ | (refine AL_do2 rfl ?_; first | refine ⟨_,op_call1 rfl rfl rfl rfl (hI),?_⟩) | refine AL_gdec rfl rfl rfl (fun hg => ?_) (fun hg => ?_) | refine AL_gnot rfl rfl rfl (fun hg => ?_) (fun hg => ?_) | refine AL_gcases rfl rfl rfl (fun hg => ?_) (fun hg => ?_)))
   refine AL_do2 rfl ⟨_,op_strcat (u := spB) rfl rfl rfl rfl h1,?_⟩
   refine AL_do2 rfl ⟨_,op_strcat rfl rfl rfl rfl h2,?_⟩
   (repeat (refine stp ?_))
   refine ⟨k + 1,hk',by omega,?_⟩
   (refine Le.mk ?_ ?_; all_goals (repeat' (first | exact trivial | refine sle ?_ | refine ⟨?_,rfl,?_⟩ | refine ⟨?_,by decide,rfl,?_⟩ | fail)))
   rw [hs,lineB_snoc]; rfl
  ·have hk' : k = nums.length := by omega
   rw [hk',List.take_length]
   (repeat (refine stp ?_))
   exact ⟨_,_,rfl,rfl,rfl⟩
theorem f199bath (b : Bath) (hn : NumsOK ([b.dye,b.temper,b.hours.low,b.hours.high])) (hlen : ([b.dye,b.temper,b.hours.low,b.hours.high]).length <= 1000) : ACalls Tryz.prog 199 [.iface 243 (.agg (eBath b))] (fun r => r = .pv (.str (lineB (namesL[3]'(by decide)).toUTF8 ([b.dye,b.temper,b.hours.low,b.hours.high])))):= by
 have hmeth := f280 b
 generalize [b.dye,b.temper,b.hours.low,b.hours.high] = nums at hn hlen hmeth ⊢
 have hnm : (namesL[3]'(by decide)).toUTF8.size <= 5 := by decide
 refine ACalls.of_body hT Tryz.func199 rfl (by kernel_rfl) rfl ?_
 (repeat' (first | refine stp ?_ | refine stz ?_ | (refine AL_do2 rfl ?_; first | refine ⟨_,op_call1 rfl rfl rfl rfl (f221),?_⟩) | refine AL_gdec rfl rfl rfl (fun hg => ?_) (fun hg => ?_) | refine AL_gnot rfl rfl rfl (fun hg => ?_) (fun hg => ?_) | refine AL_gcases rfl rfl rfl (fun hg => ?_) (fun hg => ?_)))
 refine AL_do2 rfl ⟨_,op_assert_f (fvs := [.nils,.pv (vi 0)]) hT rfl rfl rfl rfl rfl rfl (by kernel_rfl),?_⟩
 (repeat' (first | refine stp ?_ | refine stz ?_ | (refine AL_do2 rfl ?_; first | refine ⟨_,op_call1 rfl rfl rfl rfl (f221),?_⟩) | refine AL_gdec rfl rfl rfl (fun hg => ?_) (fun hg => ?_) | refine AL_gnot rfl rfl rfl (fun hg => ?_) (fun hg => ?_) | refine AL_gcases rfl rfl rfl (fun hg => ?_) (fun hg => ?_)))
 refine AL_do2 rfl ⟨_,op_assert_f (fvs := [.nils,.pv (vi 0),.pv (vi 0)]) hT rfl rfl rfl rfl rfl rfl (by kernel_rfl),?_⟩
 (repeat' (first | refine stp ?_ | refine stz ?_ | (refine AL_do2 rfl ?_; first | refine ⟨_,op_call1 rfl rfl rfl rfl (f221),?_⟩) | refine AL_gdec rfl rfl rfl (fun hg => ?_) (fun hg => ?_) | refine AL_gnot rfl rfl rfl (fun hg => ?_) (fun hg => ?_) | refine AL_gcases rfl rfl rfl (fun hg => ?_) (fun hg => ?_)))
 refine AL_do2 rfl ⟨_,op_assert hT rfl rfl rfl rfl rfl,?_⟩
 (repeat' (first | refine stp ?_ | refine stz ?_ | (refine AL_do2 rfl ?_; first | refine ⟨_,op_call1 rfl rfl rfl rfl (f221),?_⟩) | refine AL_gdec rfl rfl rfl (fun hg => ?_) (fun hg => ?_) | refine AL_gnot rfl rfl rfl (fun hg => ?_) (fun hg => ?_) | refine AL_gcases rfl rfl rfl (fun hg => ?_) (fun hg => ?_)))
 refine AL_do2 rfl ⟨_,op_invoke rfl rfl rfl (by intro v w; kernel_rfl) hmeth,?_⟩
 refine AL_pure (t := 25) rfl rfl ?_
 change AL _ _ _ _ _ (ASt.put _ 25 (some (.pv (eInts nums))))
 generalize hnmg : (namesL[3]'(by decide)).toUTF8 = nm at hnm ⊢
 (repeat' (first | refine stp ?_ | refine stz ?_ | (refine AL_do2 rfl ?_; first | refine ⟨_,op_call1 rfl rfl rfl rfl (f221),?_⟩) | refine AL_gdec rfl rfl rfl (fun hg => ?_) (fun hg => ?_) | refine AL_gnot rfl rfl rfl (fun hg => ?_) (fun hg => ?_) | refine AL_gcases rfl rfl rfl (fun hg => ?_) (fun hg => ?_)))
 refine AW_loopC (fun k : Nat => k <= nums.length) (fun k => mkSt [(3,.pv (.str (lineB nm (nums.take k)))),(25,.pv (eInts nums)),(26,.pv (vi nums.length)),(27,.pv (vi k))] [] 0) (fun k => nums.length - k) 0 (Nat.zero_le _) ?_ ?_
 ·(refine Le.mk ?_ ?_; all_goals (repeat' (first | exact trivial | refine sle ?_ | refine ⟨?_,rfl,?_⟩ | refine ⟨?_,by decide,rfl,?_⟩ | fail)))
  subst hnmg
  rfl
 ·intro k hk
  (repeat (refine stp ?_))
  refine AW_if rfl (fun hc => ?_) (fun hc => ?_)
  ·have hk' : k < nums.length := by omega
   obtain ⟨x,hx⟩ : ∃ x,nums[k]? = some x := ⟨nums[k],by simp [hk']⟩
   have e1 := get_map eInt hx
   obtain ⟨hI,hxs⟩ := hn x (List.mem_of_getElem? hx)
   have hs : nums.take (k + 1) = nums.take k ++ [x] := by rw [List.take_add_one,hx]; rfl
   have hls := lineB_size (nm := nm) (nums := nums.take k) fun y hy => hn y (List.mem_of_mem_take hy)
   have htk : (nums.take k).length <= 1000 := by simp; omega
   have h1 : spB.size + (itoaB x).size <= 1000000 := by have : spB.size = 1 := rfl; omega
   have h2 : (lineB nm (nums.take k)).size + (spB ++ itoaB x).size <= 1000000 := by rw [app_size]; have : spB.size = 1 := rfl; omega
   (repeat' (first | refine stp ?_ | (refine AL_do2 rfl ?_; first | refine ⟨_,op_call1 rfl rfl rfl rfl (hI),?_⟩) | refine AL_gdec rfl rfl rfl (fun hg => ?_) (fun hg => ?_) | refine AL_gnot rfl rfl rfl (fun hg => ?_) (fun hg => ?_) | refine AL_gcases rfl rfl rfl (fun hg => ?_) (fun hg => ?_)))
   refine AL_do2 rfl ⟨_,op_strcat (u := spB) rfl rfl rfl rfl h1,?_⟩
   refine AL_do2 rfl ⟨_,op_strcat rfl rfl rfl rfl h2,?_⟩
   (repeat (refine stp ?_))
   refine ⟨k + 1,hk',by omega,?_⟩
   (refine Le.mk ?_ ?_; all_goals (repeat' (first | exact trivial | refine sle ?_ | refine ⟨?_,rfl,?_⟩ | refine ⟨?_,by decide,rfl,?_⟩ | fail)))
   rw [hs,lineB_snoc]; rfl
  ·have hk' : k = nums.length := by omega
   rw [hk',List.take_length]
   (repeat (refine stp ?_))
   exact ⟨_,_,rfl,rfl,rfl⟩
end Go.Abs
