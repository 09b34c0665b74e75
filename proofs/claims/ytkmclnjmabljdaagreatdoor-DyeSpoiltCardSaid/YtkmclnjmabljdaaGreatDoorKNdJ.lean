/- slices.Repeat, slices.Equal, and widening of spans. -/
import Derived.Test.YtkmclnjmabljdaaGreatDoorKNdH
import Derived.Test.YtkmclnjmabljdaaGreatDoorKNcG
set_option linter.unusedVariables false
set_option linter.unusedSimpArgs false
namespace Go.Abs
open Go.Proofs
set_option linter.unusedVariables false
set_option linter.unusedSimpArgs false
set_option maxRecDepth 100000
def mulHi (x y : Int) : Int :=
 let m (a : Int) : Int := andR .u64 a 4294967295
 let h (a : Int) : Int := shrR .u64 a 32
 let t := w64 (w64 (h x * m y) + h (w64 (m x * m y)))
 let w1 := w64 (m t + w64 (m x * h y))
 w64 (w64 (w64 (h x * h y) + h t) + h w1)
theorem f229 (x y : Int) : ACalls Tryz.prog 229 [.int .u64 x,.int .u64 y] (fun r => r = .tup [.int .u64 (mulHi x y),.int .u64 (w64 (x * y))]):= by
 refine ACalls.of_body hT Tryz.func229 rfl (by kernel_rfl) rfl ?_
 (repeat (refine stp ?_))
 exact ⟨_,_,rfl,rfl,rfl⟩
theorem f215 (x y : Int) : ACalls Tryz.prog 215 [.int .u64 x,.int .u64 y] (fun r => r = .tup [.int .u64 (mulHi x y),.int .u64 (w64 (x * y))]):= by
 refine ACalls.of_body hT Tryz.func215 rfl (by kernel_rfl) rfl ?_
 (repeat (refine stp ?_))
 refine AW_cond_cf ?_
 (repeat' (first | refine stp ?_ | (refine AL_do2 rfl ?_; first | refine ⟨_,op_call1 rfl rfl rfl rfl (f229 x y),?_⟩) | refine AL_gdec rfl rfl rfl (fun hg => ?_) (fun hg => ?_) | refine AL_gnot rfl rfl rfl (fun hg => ?_) (fun hg => ?_) | refine AL_gcases rfl rfl rfl (fun hg => ?_) (fun hg => ?_)))
 exact ⟨_,_,rfl,rfl,rfl⟩
def widerI (s : Span) (n : Int) : Span := if s.low > s.high then ⟨n,n⟩ else ⟨min s.low n,max s.high n⟩
theorem f191 (s : Span) (n : Int) : ACalls Tryz.prog 191 [eS s,vi n] (fun r => r = .pv (eS (widerI s n))):= by
 refine ACalls.of_body hT Tryz.func191 rfl (by kernel_rfl) rfl ?_
 (repeat (refine stp ?_))
 refine AW_if rfl (fun hc => ?_) (fun hc => ?_)
 ·(repeat (refine stp ?_))
  exact ⟨_,_,rfl,rfl,by rw [widerI,if_pos hc]; rfl⟩
 ·(repeat (refine stp ?_))
  exact ⟨_,_,rfl,rfl,by rw [widerI,if_neg hc]; rfl⟩
theorem f190 (a b : List Int) (ha : a.length <= 1000) (hb : b.length <= 1000) : ACalls Tryz.prog 190 [eInts a,eInts b] (fun r => r = .pv (.bool (decide (a = b)))):= by
 refine ACalls.of_body hT Tryz.func190 rfl (by kernel_rfl) rfl ?_
 (repeat (refine stp ?_))
 refine AW_if rfl (fun hc => ?_) (fun hc => ?_)
 ·(repeat (refine stp ?_))
  exact ⟨_,_,rfl,rfl,by
   have : a ≠ b := by rintro rfl; exact hc rfl
   simp [this]⟩
 ·have hlen : a.length = b.length := by omega
  (repeat (refine stp ?_))
  refine AW_loopC (fun k : Nat => k <= a.length /\ (a = b ↔ a.drop k = b.drop k)) (fun k => mkSt [(0,.pv (eInts a)),(1,.pv (eInts b)),(12,.pv (vi a.length)),(13,.pv (vi k))] [] 0) (fun k => a.length - k) 0 ⟨Nat.zero_le _,by simp⟩ ?_ ?_
  ·(refine Le.mk ?_ ?_; all_goals (repeat' (first | exact trivial | refine sle ?_ | refine ⟨?_,rfl,?_⟩ | refine ⟨?_,by decide,rfl,?_⟩ | fail)))
  ·rintro k ⟨hk,hi⟩
   (repeat (refine stp ?_))
   refine AW_if rfl (fun hc => ?_) (fun hc => ?_)
   ·have hk' : k < a.length := by omega
    obtain ⟨x,hx⟩ : ∃ x,a[k]? = some x := ⟨a[k],by simp [hk']⟩
    obtain ⟨y,hy⟩ : ∃ y,b[k]? = some y := ⟨b[k]'(by omega),by simp⟩
    have e1 := get_map eInt hx
    have e2 := get_map eInt hy
    have hxe : a[k] = x := (List.getElem?_eq_some_iff.1 hx).2
    have hye : b[k]'(by omega) = y := (List.getElem?_eq_some_iff.1 hy).2
    rw [List.drop_eq_getElem_cons hk',List.drop_eq_getElem_cons (l := b) (by omega),hxe,hye] at hi
    (repeat (refine stp ?_))
    (repeat (refine sdr ?_))
    refine DG_end hM (by kernel_rfl) ?_
    (repeat (refine stp ?_))
    refine AW_if rfl (fun hc2 => ?_) (fun hc2 => ?_)
    ·(repeat (refine stp ?_))
     exact ⟨_,_,rfl,rfl,by
      have : a ≠ b := fun h => hc2 (by have := hi.1 h; simp at this; exact this.1)
      simp [this]⟩
    ·(repeat (refine stp ?_))
     have hxy : x = y := Decidable.byContradiction hc2
     refine ⟨k + 1,⟨by omega,by rw [hi,hxy]; simp⟩,by omega,?_⟩
     (refine Le.mk ?_ ?_; all_goals (repeat' (first | exact trivial | refine sle ?_ | refine ⟨?_,rfl,?_⟩ | refine ⟨?_,by decide,rfl,?_⟩ | fail)))
   ·have hk' : k = a.length := by omega
    subst hk'
    (repeat (refine stp ?_))
    exact ⟨_,_,rfl,rfl,by
     have : a = b := hi.2 (by rw [List.drop_length,List.drop_eq_nil_of_le (by omega)])
     simp [this]⟩
theorem mul_small {n : Nat} (h : 1 <= n /\ n <= 4) : mulHi (w64 1) (w64 n) = 0 /\ w64 (w64 1 * w64 n) = n:= by
 rcases n with _ | _ | _ | _ | _ | n <;> first | omega | (exact ⟨by decide,by decide⟩)
theorem f215s {n : Nat} (h : 1 <= n /\ n <= 4) : ACalls Tryz.prog 215 [.int .u64 (w64 1),.int .u64 (w64 n)] (fun r => r = .tup [.int .u64 0,.int .u64 n]):= by
 have := f215 (w64 1) (w64 n)
 rw [(mul_small h).1,(mul_small h).2] at this
 exact this
theorem splice_rep (el zp : List PV) {n k : Nat} (hk : k <= n) (m : Nat) (hm : m = min k (n - k)) :
  splice (List.replicate k el ++ List.replicate (n - k) zp) k ((((List.replicate k el ++ List.replicate (n - k) zp).drop 0).take k).take m) = List.replicate (k + m) el ++ List.replicate (n - (k + m)) zp:= by
 have h1 : ((List.replicate k el ++ List.replicate (n - k) zp).drop 0).take k = List.replicate k el:= by
  rw [List.drop_zero,List.take_append_of_le_length (by simp)]; simp
 rw [h1]
 have h2 : (List.replicate k el).take m = List.replicate m el := by rw [List.take_replicate,Nat.min_eq_left (by omega)]
 rw [h2,splice,List.take_append_of_le_length (by simp),List.length_replicate,List.take_replicate,Nat.min_self,List.drop_append,List.drop_replicate,List.length_replicate,List.drop_replicate,show k - (k + m) = 0 by omega,show n - k - (k + m - k) = n - (k + m) by omega,
  List.replicate_append_replicate,List.replicate_zero,List.nil_append]
theorem splice_first (el zp : List PV) {n : Nat} (h : 1 <= n) : splice (List.replicate n zp) 0 [el] = List.replicate 1 el ++ List.replicate (n - 1) zp:= by
 obtain ⟨m,rfl⟩ : ∃ m,n = m + 1 := ⟨n - 1,by omega⟩
 simp [splice]
set_option maxHeartbeats 4000000 in
theorem f189 (s : Span) (n : Nat) (hn : 1 <= n /\ n <= 4) : ACalls Tryz.prog 189 [eSpans [s],vi n] (fun r => r = .own 37 2 ((List.replicate n s).map eSpan)):= by
 refine ACalls.of_body hT Tryz.func189 rfl (by kernel_rfl) rfl ?_
 (repeat' (first | refine stp ?_ | (refine AL_do2 rfl ?_; first | refine ⟨_,op_call1 rfl rfl rfl rfl (f215s hn),?_⟩) | refine AL_gdec rfl rfl rfl (fun hg => ?_) (fun hg => ?_) | refine AL_gnot rfl rfl rfl (fun hg => ?_) (fun hg => ?_) | refine AL_gcases rfl rfl rfl (fun hg => ?_) (fun hg => ?_)))
 refine AW_if rfl (fun hc2 => by omega) (fun hc2 => ?_)
 have hwr : IntKind.i64.wrap (n : Int) = n := by unfold IntKind.wrap; simp [IntKind.signed,IntKind.bits]; omega
 (repeat (refine stp ?_))
 rw [hwr]
 refine AL_do2 rfl ⟨_,op_makeSlice (n := n) (zp := [vi 0,vi 0]) hT rfl rfl rfl rfl rfl rfl rfl rfl rfl rfl (by omega) rfl,?_⟩
 (repeat (refine stp ?_))
 refine AL_do2 rfl ⟨_,op_copy_pure (t := 28) (id := 0) (m := 1) hT rfl rfl rfl rfl rfl rfl rfl (by decide) rfl rfl rfl (by intro z hz; simp at hz; subst hz; rfl) (by simp; omega) (by omega),?_⟩
 (repeat (refine stp ?_))
 refine AW_arr_sub (t := 7) (n := n) rfl rfl (by rw [splice_length _ _ _ (by simp; omega)]; simp) (by omega) ?_
 refine AW_loopC (fun k : Nat => 1 <= k /\ k <= n) (fun k => mkSt [(7,.sub 0 2 0 n),(8,.pv (vi k))] [(0,.arr 37 2 (List.replicate k (eSpan s) ++ List.replicate (n - k) [vi 0,vi 0]))] 1) (fun k => n - k) 1 ⟨by omega,by omega⟩ ?_ ?_
 ·(refine Le.mkR [(0,0)] ?_ ?_ rfl; all_goals (repeat' (first | exact trivial | refine sle ?_ | refine ⟨?_,rfl,?_⟩ | refine ⟨?_,by decide,rfl,?_⟩ | fail)))
  show some (AObj.arr 37 2 (splice (List.replicate n [vi 0,vi 0]) 0 [eSpan s])) = _
  rw [splice_first _ _ hn.1]; rfl
 ·rintro k ⟨hk1,hk2⟩
  have hlen : (List.replicate k (eSpan s) ++ List.replicate (n - k) [vi 0,vi 0]).length = n := by simp; omega
  (repeat (refine stp ?_))
  refine AL_do2 rfl ⟨_,op_len_sub hT rfl rfl rfl rfl rfl,?_⟩
  (repeat (refine stp ?_))
  refine AW_if rfl (fun hc3 => ?_) (fun hc3 => ?_)
  ·(repeat (refine stp ?_))
   (repeat (refine sdr ?_))
   obtain ⟨m,hm⟩ : ∃ m,m = min k (n - k) := ⟨_,rfl⟩
   refine DG_next (D_slice_sub (lo := k) (hi := n) hT rfl rfl rfl rfl rfl rfl rfl rfl (.inr ⟨_,_,rfl,rfl⟩) (.inl ⟨rfl,rfl⟩) (by omega) (by omega) (by omega)) ?_
   (repeat (refine sdr ?_))
   refine DG_next (D_slice_sub (lo := 0) (hi := k) hT rfl rfl rfl rfl rfl rfl rfl rfl (.inl ⟨rfl,rfl⟩) (.inr ⟨_,_,rfl,rfl⟩) (by omega) (by omega) (by omega)) ?_
   (repeat (refine sdr ?_))
   refine DG_next (D_copy_sub (t := 28) (id := 0) (sz := 2) (lo := k) (n := n - k) (lo2 := 0) (n2 := k) (m := m) hT rfl rfl rfl rfl rfl rfl rfl rfl (by decide) rfl rfl rfl hm (by omega) (by omega) (by omega)) ?_
   rw [splice_rep _ _ hk2 m hm]
   (repeat (refine sdr ?_))
   refine DG_end hM (by kernel_rfl) ?_
   (repeat (refine stp ?_))
   refine ⟨k + m,⟨by omega,by omega⟩,by omega,?_⟩
   (refine Le.mkR [(0,0)] ?_ ?_ rfl; all_goals (repeat' (first | exact trivial | refine sle ?_ | refine ⟨?_,rfl,?_⟩ | refine ⟨?_,by decide,rfl,?_⟩ | fail)))
  ·have hkn : k = n := by omega
   subst hkn
   refine AW_sub_arr (t := 7) rfl rfl hlen ?_
   (repeat (refine stp ?_))
   exact ⟨_,_,rfl,rfl,by simp⟩
end Go.Abs
namespace Go.Abs
open Go.Proofs
set_option linter.unusedVariables false
set_option linter.unusedSimpArgs false
set_option maxRecDepth 100000
def provedStep (acc : List Span × Span) (y : List Int × Int) : List Span × Span := (List.zipWith widerI acc.1 y.1,widerI acc.2 y.2)
def provedF (s : Sorter) (trays : List Int) (l : List (List Int × Int)) : List Span × Span := (l.filter fun y => decide (layI s.tire y.1 y.2 = trays)).foldl provedStep (List.replicate s.looks.length ⟨1,0⟩,⟨1,0⟩)
def provedI (s : Sorter) (trays : List Int) : List Span × Span := provedF s trays (truthsI s)
theorem provedF_snoc (s : Sorter) (trays : List Int) (l : List (List Int × Int)) (y : List Int × Int) : provedF s trays (l ++ [y]) = if layI s.tire y.1 y.2 = trays then provedStep (provedF s trays l) y else provedF s trays l:= by
 unfold provedF
 rw [List.filter_append,List.foldl_append]
 by_cases h : layI s.tire y.1 y.2 = trays <;> simp [h]
theorem provedF_len {s : Sorter} {trays : List Int} (hs : SorterP s) : ∀ {l : List (List Int × Int)},(∀ y ∈ l,y.1.length = s.looks.length) -> (provedF s trays l).1.length = s.looks.length:= by
 have key : ∀ (l : List (List Int × Int)) (acc : List Span × Span),(∀ y ∈ l,y.1.length = s.looks.length) -> acc.1.length = s.looks.length -> (l.foldl provedStep acc).1.length = s.looks.length:= by
  intro l
  induction l with
  | nil => intro acc _ h; exact h
  | cons y l ih =>
   intro acc hy h
   exact ih _ (fun z hz => hy z (by simp [hz])) (by simp [provedStep,h,hy y (by simp)])
 intro l hl
 exact key _ _ (fun y hy => hl y (List.mem_filter.1 hy).1) (by simp)
def widK (L : List Span) (y : List Int) (k : Nat) : List Span := (List.zipWith widerI L y).take k ++ L.drop k
theorem widK_get {L : List Span} {y : List Int} {k : Nat} {u : Span} (h : L[k]? = some u) (hl : y.length = L.length) : (widK L y k)[k]? = some u:= by
 have hk := (List.getElem?_eq_some_iff.1 h).1
 rw [widK,List.getElem?_append_right (by simp; omega),List.getElem?_drop,List.length_take,List.length_zipWith,<- h]
 congr 1; omega
theorem widK_succ {L : List Span} {y : List Int} {k : Nat} {u : Span} {x : Int} (h : L[k]? = some u) (hx : y[k]? = some x) (hl : y.length = L.length) : (widK L y k).set k (widerI u x) = widK L y (k + 1):= by
 have hk := (List.getElem?_eq_some_iff.1 h).1
 have hz : (List.zipWith widerI L y)[k]? = some (widerI u x) := by rw [List.getElem?_zipWith,h,hx]
 rw [widK,widK,List.take_add_one,hz]
 have h2 : ((List.zipWith widerI L y).take k).length = k := by simp; omega
 rw [List.set_append_right _ _ (by omega),h2,Nat.sub_self,List.drop_eq_getElem_cons hk,List.set_cons_zero]
 simp
theorem widK_len {L : List Span} {y : List Int} {k : Nat} (hk : k <= L.length) (hl : y.length = L.length) : (widK L y k).length = L.length:= by
 simp [widK]; omega
abbrev provO (av : Nat -> Value) (s : Sorter) (trays : List Int) (L : List Span) (E : Span) : List (Nat × AObj) :=
 [(0,.box [.pv (vi s.eye.low),.pv (vi s.eye.high),.pv (vi s.tire),.pv (eSpans s.looks)]),(1,.box [.pv (eInts trays)]),(2,.box [.pv (vi 0),.pv (vi 0)]),(4,.arr 37 2 (L.map eSpan)),(5,.box [.arr 4]),(6,.box [.pv (vi E.low),.pv (vi E.high)]),
  (7,.anc (av 2) (.box 0 0)),(8,.anc (av 3) (.box 1 0)),(9,.anc (av 5) (.box 2 0)),(10,.anc (av 6) (.box 5 0)),(11,.anc (av 7) (.box 6 0))]
set_option maxHeartbeats 8000000 in
theorem f145 (s : Sorter) (trays : List Int) (hP : SorterP s) (ht : trays.length <= 1000) : ACallsX Tryz.prog 145 [.pv (eSorter s),.pv (eInts trays)] [] 0
  (fun sf => ¬ (provedI s trays).2.low > (provedI s trays).2.high /\ sf = mkSt [(0,.tup [.arr 0,.agg [.pv (vi (provedI s trays).2.low),.pv (vi (provedI s trays).2.high)]])] [(0,.arr 37 2 ((provedI s trays).1.map eSpan))] 1)
  (fun c sf => c.1 = 181 /\ (provedI s trays).2.low > (provedI s trays).2.high /\ sf = mkSt [] [(0,.anc c.2 (.pv (.agg [eInts trays])))] 1):= by
 have hlen := hP.len
 have hti := hP.tire
 refine ACallsX.of_body hT Tryz.func145 rfl (by kernel_rfl) rfl ?_
 (repeat (refine stp ?_))
 refine AL_pure (t := 12) rfl rfl ?_
 refine AL_do2 rfl ⟨_,op_call1 rfl rfl rfl rfl (f189 ⟨1,0⟩ s.looks.length hlen),?_⟩
 (repeat (refine stp ?_))
 refine AL_do2 rfl ⟨_,op_call1 rfl rfl rfl rfl (f148 s),?_⟩
 (repeat (refine stp ?_))
 refine AW_range (gf := 192) (caps := [.ptr (sorterC s)]) (L := truthsL s) [2,3,5,6,7] [(2,.box 0 0),(3,.box 1 0),(5,.box 2 0),(6,.box 5 0),(7,.box 6 0)]
  (fun av k (_ : Unit) => provO av s trays (provedF s trays ((truthsI s).take k)).1 (provedF s trays ((truthsI s).take k)).2) (fun _ _ => True) 12 [7,8,9,10,11] () trivial
  ?_ (it192 s hP) ?_ ?_ ?_ ?_ ?_ ?_
 ·rfl
 ·intro p hp
  simp only [List.mem_cons,List.not_mem_nil,or_false] at hp; subst hp; rfl
 ·intro x hx
  simp only [truthsL,List.mem_map] at hx
  obtain ⟨y,_,rfl⟩ := hx; rfl
 ·intro av j i
  ((repeat' (first | exact trivial | refine And.intro ?_ ?_)); all_goals (first | rfl | decide))
 ·intro av
  (refine Le.mk ?_ ?_; all_goals (repeat' (first | exact trivial | refine sle ?_ | refine ⟨?_,rfl,?_⟩ | refine ⟨?_,by decide,rfl,?_⟩ | fail)))
 ·intro av k _ x _ hx
  obtain ⟨y,hy,rfl⟩ : ∃ y,(truthsI s)[k]? = some y /\ [.agg [eInts y.1,vi y.2]] = x:= by
   rw [truthsL,List.getElem?_map,Option.map_eq_some_iff] at hx; exact hx
  obtain ⟨y1,y2,y3,y4⟩ := truthsI_mem hP (List.mem_of_getElem? hy)
  have hll := layI_len s.tire y.1 y.2
  have htk : (truthsI s).take (k + 1) = (truthsI s).take k ++ [y] := by rw [List.take_add_one,hy]; rfl
  have hsn := provedF_snoc s trays ((truthsI s).take k) y
  rw [<- htk] at hsn
  have hLl := provedF_len (trays := trays) hP (l := (truthsI s).take k) (fun z hz => (truthsI_mem hP (List.mem_of_mem_take hz)).1)
  generalize provedF s trays ((truthsI s).take k) = acc at hsn hLl ⊢
  obtain ⟨L,E⟩ := acc
  dsimp only at hLl ⊢
  (repeat (refine stp ?_))
  (repeat (first | refine DG_next (D_call_own_p rfl rfl rfl rfl rfl rfl (f141 s.tire y.1 y.2 (by omega) (fun z hz => by have := y2 z hz; omega) (by omega) (by omega))) ?_ | refine sdr ?_ | refine DG_next (D_call rfl rfl rfl rfl rfl (f190 (layI s.tire y.1 y.2) trays (by omega) ht)) ?_))
  refine DG_end hM (by kernel_rfl) ?_
  (repeat (refine stp ?_))
  refine AW_cond rfl (fun hc => ?_) (fun hc => ?_)
  ·have hne : ¬ layI s.tire y.1 y.2 = trays := by simpa using hc
   rw [if_neg hne] at hsn
   (repeat (refine stp ?_))
   refine roundQ_intro () trivial ?_
   rw [hsn]
   (refine Le.mk ?_ ?_; all_goals (repeat' (first | exact trivial | refine sle ?_ | refine ⟨?_,rfl,?_⟩ | refine ⟨?_,by decide,rfl,?_⟩ | fail)))
  ·have heq : layI s.tire y.1 y.2 = trays := by simpa using hc
   rw [if_pos heq] at hsn
   have hw0 : widK L y.1 0 = L := by simp [widK]
   have hwf : widK L y.1 y.1.length = List.zipWith widerI L y.1 := by rw [widK,List.take_of_length_le (by simp; omega),List.drop_eq_nil_of_le (by omega),List.append_nil]
   (repeat (refine stp ?_))
   refine AW_loopC (fun j : Nat => j <= y.1.length) (fun j => mkSt [(6,.box 5 0),(7,.box 6 0),(8,.box 12 0),(32,.pv (eInts y.1)),(33,.pv (vi y.1.length)),(34,.pv (vi j))]
    (provO av s trays (widK L y.1 j) E ++ [(12,.box [.pv (eInts y.1),.pv (vi y.2)])]) 13) (fun j => y.1.length - j) 0 (Nat.zero_le _) ?_ ?_
   ·rw [hw0]; (refine Le.mk ?_ ?_; all_goals (repeat' (first | exact trivial | refine sle ?_ | refine ⟨?_,rfl,?_⟩ | refine ⟨?_,by decide,rfl,?_⟩ | fail)))
   ·intro j hj
    (repeat (refine stp ?_))
    refine AW_if rfl (fun hc2 => ?_) (fun hc2 => ?_)
    ·have hj' : j < y.1.length := by omega
     obtain ⟨x,hx⟩ : ∃ x,y.1[j]? = some x := ⟨y.1[j],by simp [hj']⟩
     obtain ⟨u,hu⟩ : ∃ u,L[j]? = some u := ⟨L[j]'(by omega),by simp⟩
     have e1 := get_map eInt hx
     have hwl := widK_len (L := L) (y := y.1) (k := j) (by omega) (by omega)
     have hwg := widK_get (y := y.1) hu (by omega)
     have hws := widK_succ hu hx (by omega)
     have e2 : ((widK L y.1 j).map eSpan)[j]? = some (eSpan u) := by rw [List.getElem?_map,hwg]; rfl
     (repeat (refine stp ?_))
     (repeat (refine sdr ?_))
     refine DG_next (D_indexAddr_arr (n := (j : Int)) hT rfl rfl rfl rfl rfl rfl rfl rfl rfl (by omega) (by simp; omega) rfl) ?_
     refine DG_next (D_load_aptr (el := eSpan u) hT rfl rfl rfl rfl rfl rfl e2 rfl) ?_
     (repeat (first | refine sdr ?_ | refine DG_next (D_call rfl rfl rfl rfl rfl (f191 u x)) ?_))
     refine DG_next (D_indexAddr_arr (n := (j : Int)) hT rfl rfl rfl rfl rfl rfl rfl rfl rfl (by omega) (by simp; omega) rfl) ?_
     refine DG_end hM (by kernel_rfl) ?_
     (repeat (refine stp ?_))
     refine AL_do2 rfl ⟨_,op_store_aptr (el := eSpan u) hT rfl rfl rfl rfl rfl e2 rfl rfl rfl rfl,?_⟩
     (repeat (refine stp ?_))
     refine ⟨j + 1,hj',by omega,?_⟩
     have hws' : ((widK L y.1 j).map eSpan).set j (eSpan (widerI u x)) = (widK L y.1 (j + 1)).map eSpan := by rw [<- List.map_set,hws]
     (refine Le.mk ?_ ?_; all_goals (repeat' (first | exact trivial | refine sle ?_ | refine ⟨?_,rfl,?_⟩ | refine ⟨?_,by decide,rfl,?_⟩ | fail)))
     show some (AObj.arr 37 2 (((widK L y.1 j).map eSpan).set j (eSpan (widerI u x)))) = some (AObj.arr 37 2 ((widK L y.1 (j + 1)).map eSpan))
     rw [hws']
    ·have hj' : j = y.1.length := by omega
     subst hj'
     rw [hwf]
     (repeat' (first | refine stp ?_ | (refine AL_do2 rfl ?_; first | refine ⟨_,op_call1 rfl rfl rfl rfl (f191 E y.2),?_⟩) | refine AL_gdec rfl rfl rfl (fun hg => ?_) (fun hg => ?_) | refine AL_gnot rfl rfl rfl (fun hg => ?_) (fun hg => ?_) | refine AL_gcases rfl rfl rfl (fun hg => ?_) (fun hg => ?_)))
     refine roundQ_intro () trivial ?_
     rw [hsn]
     (refine Le.mk ?_ ?_; all_goals (repeat' (first | exact trivial | refine sle ?_ | refine ⟨?_,rfl,?_⟩ | refine ⟨?_,by decide,rfl,?_⟩ | fail)))
 ·intro av _ _
  rw [show (truthsL s).length = (truthsI s).length by simp [truthsL],List.take_length]
  change AW _ _ _ _ (mkSt _ (provO av s trays (provedI s trays).1 (provedI s trays).2) _)
  generalize provedI s trays = acc
  obtain ⟨L,E⟩ := acc
  dsimp only
  (repeat (refine stp ?_))
  refine AW_if rfl (fun hc => ?_) (fun hc => ?_)
  ·(repeat (refine stp ?_))
   refine AL_do2 rfl ⟨_,op_mkiface hT rfl rfl rfl rfl rfl,?_⟩
   refine AL_doP rfl (op_panic rfl rfl) (fun _ h => h.elim) ?_
   rintro t s' v ⟨ht',rfl⟩
   refine ⟨v,t,mkSt [] [(0,.anc v (.pv (.agg [eInts trays])))] 1,rfl,?_,ht',hc,rfl⟩
   (refine Le.mkR [(0,12)] ?_ ?_ rfl; all_goals (repeat' (first | exact trivial | refine sle ?_ | refine ⟨?_,rfl,?_⟩ | refine ⟨?_,by decide,rfl,?_⟩ | fail)))
  ·(repeat (refine stp ?_))
   (repeat (refine sdr ?_))
   refine DG_end hM (by kernel_rfl) ?_
   (repeat (refine stp ?_))
   refine ⟨_,mkSt [(0,.tup [.arr 0,.agg [.pv (vi E.low),.pv (vi E.high)]])] [(0,.arr 37 2 (L.map eSpan))] 1,rfl,?_,hc,rfl⟩
   (refine Le.mkR [(0,4)] ?_ ?_ rfl; all_goals (repeat' (first | exact trivial | refine sle ?_ | refine ⟨?_,rfl,?_⟩ | refine ⟨?_,by decide,rfl,?_⟩ | fail)))
end Go.Abs
namespace Go.Abs
open Go.Proofs
set_option linter.unusedVariables false
set_option linter.unusedSimpArgs false
set_option maxRecDepth 100000
theorem ifc20 : ifcB Tryz.prog 20 = true := by kernel_rfl
theorem f143 (n : Int) (s : Sorter) : ACalls Tryz.prog 143 [vi n,.ptr (sorterC s)] (fun r => r = .pv (.bool (!inB n 0 s.looks.length))):= by
 refine ACalls.of_body hT Tryz.func143 rfl (by kernel_rfl) rfl ?_
 (repeat' (first | refine stp ?_ | (refine AL_do2 rfl ?_; first | refine ⟨_,op_call1 rfl rfl rfl rfl (f113 n 0 s.looks.length),?_⟩) | refine AL_gdec rfl rfl rfl (fun hg => ?_) (fun hg => ?_) | refine AL_gnot rfl rfl rfl (fun hg => ?_) (fun hg => ?_) | refine AL_gcases rfl rfl rfl (fun hg => ?_) (fun hg => ?_)))
 exact ⟨_,_,rfl,rfl,rfl⟩
abbrev resO (x4 : FV) (a b c : Int) : List (Nat × AObj) := [(0,.box [x4]),(1,.box [.pv (vi a),.pv (vi b)]),(2,.box [.pv (vi c)])]
abbrev xs144 : List FV := [.box 0 0,.box 1 0,.box 2 0]
theorem d144r (es : List (List PV)) (a b c : Int) (av : Nat -> Value) : DCallsX Tryz.prog 144 xs144 (resO (.pv (.sl es)) a b c ++ ancL av [(3,0),(4,1),(5,2)]) 6
  (fun sf => sf = mkSt [(0,.tup [])] (resO (.pv (.sl es)) a b c ++ ancL av [(3,0),(4,1),(5,2)]) 6) .returning .returning:= by
 refine DCallsX.of_recover hT (fn := Tryz.f144) rfl rfl rfl ⟨_,rfl⟩ rfl rfl rfl .nilIface (.pv .nilIface) (fun c₀ cs hu => .inr ⟨by simp [recoverD,hu],rfl,rfl⟩) (fun D φ W _ => ⟨rfl,.pv _ _ .nilIface⟩) ?_
 (repeat (refine stp ?_))
 refine AL_do2 rfl ⟨_,op_eql_nilI ifc20 rfl rfl rfl,?_⟩
 (repeat (refine stp ?_))
 refine ⟨_,_,rfl,?_,rfl⟩
 (refine Le.mk ?_ ?_; all_goals (repeat' (first | exact trivial | refine sle ?_ | refine ⟨?_,rfl,?_⟩ | refine ⟨?_,by decide,rfl,?_⟩ | fail)))
theorem d144p (trays : List Int) (x : Value) (av : Nat -> Value) : DCallsX Tryz.prog 144 xs144 ((resO .nils 0 0 0 ++ [(3,.anc x (.pv (.agg [eInts trays])))]) ++ ancL av [(4,0),(5,1),(6,2)]) 7
  (fun sf => sf = mkSt [(0,.tup [])] (resO .nils 0 0 7 ++ ancL av [(4,0),(5,1),(6,2)]) 7) (.panicking [{ v := .iface 181 x,recovered := false }]) (.panicking [{ v := .iface 181 x,recovered := true }]):= by
 refine DCallsX.of_recover hT (fn := Tryz.f144) rfl rfl rfl ⟨_,rfl⟩ rfl rfl rfl (.iface 181 x) (.pv (.iface 181 (.agg [eInts trays]))) (fun c₀ cs hu => .inl (by simp [recoverD,hu])) (fun D φ W hH => ⟨rfl,?_⟩) ?_
 ·have h := (hH.objs 3 (.anc x (.pv (.agg [eInts trays]))) rfl).2.2
  exact .pv _ _ (.iface 181 x _ (FRep.inv_pv h))
 (repeat (refine stp ?_))
 refine AL_do2 rfl ⟨_,op_eql_iface ifc20 rfl rfl rfl,?_⟩
 (repeat (refine stp ?_))
 refine AL_do2 rfl ⟨_,op_assert hT rfl rfl rfl rfl rfl,?_⟩
 (repeat (refine stp ?_))
 refine ⟨_,_,rfl,?_,rfl⟩
 (refine Le.mk ?_ ?_; all_goals (repeat' (first | exact trivial | refine sle ?_ | refine ⟨?_,rfl,?_⟩ | refine ⟨?_,by decide,rfl,?_⟩ | fail)))
def provesOK (s : Sorter) (trays : List Int) : Bool := isSorterB s && decide (trays.length = s.looks.length) && !trays.any (fun n => !inB n 0 s.looks.length)
def provesE (s : Sorter) (trays : List Int) : List Span × Span × Int :=
 if provesOK s trays then if (provedI s trays).2.low > (provedI s trays).2.high then ([],⟨0,0⟩,7) else ((provedI s trays).1,(provedI s trays).2,0) else ([],⟨0,0⟩,2)
def provesR (x : List Span × Span × Int) (r : RV) : Prop := r = .tup [eSpans x.1,eS x.2.1,vi x.2.2]
abbrev s54 (x4 : FV) (a b c : Int) (v : Value) : List (Nat × AObj) := [(0,.box [x4]),(1,.box [.pv (vi a),.pv (vi b)]),(2,.box [.pv (vi c)]),(3,.anc v (.fn 144 [.box 0 0,.box 1 0,.box 2 0]))]
abbrev e54 : List (Nat × FV) := [(4,.box 0 0),(5,.box 1 0),(6,.box 2 0)]
def Q54 (s : Sorter) (trays : List Int) (v : Value) : Exit -> ASt -> Prop
 | .ret,s' => ¬ (provedI s trays).2.low > (provedI s trays).2.high /\ Le s' (mkSt e54 (s54 (.pv (eSpans (provedI s trays).1)) (provedI s trays).2.low (provedI s trays).2.high 0 v) 4)
 | .panic ch,s' => ∃ x,ch = [{ v := .iface 181 x,recovered := false }] /\ (provedI s trays).2.low > (provedI s trays).2.high /\ Le s' (mkSt e54 (s54 .nils 0 0 0 v ++ [(4,.anc x (.pv (.agg [eInts trays])))]) 5)
 | _,_ => False
set_option maxHeartbeats 8000000 in
theorem f54 (s : Sorter) (trays : List Int) (hs : s.looks.length <= 1000) (ht : trays.length <= 1000) : ACalls Tryz.prog 54 [eSorter s,eInts trays] (provesR (provesE s trays)):= by
 refine ACalls.of_deferring (fn := Tryz.f54) rfl rfl (by kernel_rfl) rfl ?_
 refine AWR_seq (Qx := fun _ _ => False) ?_ (fun _ _ _ _ _ _ _ _ h => by obtain ⟨_,_,_,_,h⟩ := h; exact h.elim)
 (repeat (refine stp ?_))
 refine AWR_seq (Qx := RetQ T Tryz.f54.results.toList (provesR (provesE s trays))) ?_ (fun _ _ _ _ _ _ hp he h => RfD.of_ret hT hp he h)
 (repeat' (first | refine stp ?_ | (refine AL_do2 rfl ?_; first | refine ⟨_,op_call1 rfl rfl rfl rfl (f138 s hs),?_⟩ | refine ⟨_,op_callB rfl rfl rfl rfl (c142 trays 143 [.ptr (sorterC s)] (fun n => !inB n 0 s.looks.length) ht (fun x _ => f143 x s)) rfl,?_⟩) | refine AL_gdec rfl rfl rfl (fun hg => ?_) (fun hg => ?_) | refine AL_gnot rfl rfl rfl (fun hg => ?_) (fun hg => ?_) | refine AL_gcases rfl rfl rfl (fun hg => ?_) (fun hg => ?_)))
 ·have hok : provesOK s trays = false := by simp_all [provesOK]
  exact ⟨_,_,rfl,rfl,by rw [provesR,provesE,hok]; rfl⟩
 ·have hok : provesOK s trays = false := by simp_all [provesOK]; omega
  exact ⟨_,_,rfl,rfl,by rw [provesR,provesE,hok]; rfl⟩
 refine AW_cond rfl (fun hc => ?_) (fun hc => ?_)
 ·(repeat (refine stp ?_))
  have hok : provesOK s trays = false := by simp_all [provesOK]
  exact ⟨_,_,rfl,rfl,by rw [provesR,provesE,hok]; rfl⟩
 have c1 : isSorterB s = true := by simp_all
 have hok : provesOK s trays = true := by simp_all [provesOK]; omega
 have hP := sorterP_of c1
 have hspec : provesE s trays = if (provedI s trays).2.low > (provedI s trays).2.high then ([],⟨0,0⟩,7) else ((provedI s trays).1,(provedI s trays).2,0) := by rw [provesE,hok]; rfl
 rw [hspec]
 (repeat (refine stp ?_))
 refine AWR_defer (f := .tmp 24) rfl (op_mkfunc rfl rfl rfl) rfl rfl rfl rfl fun v => ?_
 refine AWR_end (Qx := Q54 s trays v) ?_ ?_
 ·(repeat (refine stp ?_))
  refine AL_doP rfl (op_callX (objs := []) (n := 0) [] [] [] (fun av => f145 s trays hP ht) rfl rfl rfl rfl (by (repeat' (first | exact trivial | refine And.intro ?_ ?_)); all_goals (first | rfl | decide)) rfl (by (repeat' (first | exact trivial | refine And.intro ?_ ?_)); all_goals (first | rfl | decide)) rfl trivial (by simp) (fun _ _ _ => trivial) (fun _ _ _ _ => trivial)) ?_ ?_
  ·rintro s' ⟨av,sf,⟨hne,rfl⟩,rfl⟩
   refine AL_step hT rfl ?_
   refine AL_step hT rfl ?_
   refine AL_pure (t := 29) rfl rfl ?_
   (repeat (refine stp ?_))
   refine DG_step hT rfl ?_
   refine DG_step hT rfl ?_
   refine DG_next (D_store_same hT rfl rfl rfl rfl rfl rfl rfl rfl rfl rfl rfl) ?_
   refine DG_next (D_store_same hT rfl rfl rfl rfl rfl rfl rfl rfl rfl rfl rfl) ?_
   refine DG_end hM (by kernel_rfl) ?_
   (repeat (refine stp ?_))
   refine ⟨hne,?_⟩
   (refine Le.mkR [(0,1),(1,2),(2,3),(3,4)] ?_ ?_ rfl; all_goals (repeat' (first | exact trivial | refine sle ?_ | refine ⟨?_,rfl,?_⟩ | refine ⟨?_,by decide,rfl,?_⟩ | fail)))
  ·rintro t s' x ⟨av,sf,⟨ht',hgt,rfl⟩,rfl⟩
   simp only at ht'
   subst ht'
   refine ⟨x,rfl,hgt,?_⟩
   (refine Le.mkR [(0,1),(1,2),(2,3),(3,4),(4,5)] ?_ ?_ rfl; all_goals (repeat' (first | exact trivial | refine sle ?_ | refine ⟨?_,rfl,?_⟩ | refine ⟨?_,by decide,rfl,?_⟩ | fail)))
 ·rintro W0 D0 e a w hr hp ⟨s',D',φ',hI,hq⟩ hX
  have hen : Enters Tryz.prog 144 := enters_of (fn := Tryz.f144) rfl rfl (by kernel_rfl)
  cases e with
  | ret =>
   obtain ⟨hne,hle⟩ := hq
   obtain ⟨φ2,hI2⟩ := hle.inv hI
   rw [if_neg hne]
   refine leaves_deferred (A := 3) (u' := .returning) [] [0,1,2] [(3,0),(4,1),(5,2)] (objs := resO (.pv (eSpans (provedI s trays).1)) (provedI s trays).2.low (provedI s trays).2.high 0) (fun av => d144r _ _ _ _ av) hen rfl (by (repeat' (first | exact trivial | refine And.intro ?_ ?_)); all_goals (first | rfl | decide)) rfl (by (repeat' (first | exact trivial | refine And.intro ?_ ?_)); all_goals (first | rfl | decide)) rfl ⟨⟨rfl,rfl,⟨_,.head _⟩,rfl⟩,⟨rfl,rfl,⟨_,.tail _ (.head _)⟩,rfl⟩,⟨rfl,rfl,⟨_,.tail _ (.tail _ (.head _))⟩,rfl⟩,trivial⟩ (by simp) ?_ (by simp) rfl hp hr.2.2 hI2 ?_
   ·rintro av sf rfl
    exact ⟨.inl ⟨3,by simp,rfl⟩,.inl ⟨4,by simp,rfl⟩,.inl ⟨5,by simp,rfl⟩,trivial⟩
   ·rintro av sf D2 φ3 w' rfl hI3
    have := ret_post (fn := Tryz.f54) (Q := provesR ((provedI s trays).1,(provedI s trays).2,0)) hT (D0 := { D0 with pd := none }) hX hI3 rfl rfl rfl
    exact this
  | panic ch =>
   obtain ⟨x,rfl,hgt,hle⟩ := hq
   obtain ⟨φ2,hI2⟩ := hle.inv hI
   rw [if_pos hgt]
   refine leaves_deferred (A := 3) (u' := .panicking [{ v := .iface 181 x,recovered := true }]) [(3,4)] [0,1,2] [(4,0),(5,1),(6,2)] (objs := resO .nils 0 0 0 ++ [(3,.anc x (.pv (.agg [eInts trays])))]) (fun av => d144p trays x av) hen rfl (by (repeat' (first | exact trivial | refine And.intro ?_ ?_)); all_goals (first | rfl | decide)) rfl (by (repeat' (first | exact trivial | refine And.intro ?_ ?_)); all_goals (first | rfl | decide)) rfl ⟨⟨rfl,rfl,⟨_,.head _⟩,rfl⟩,⟨rfl,rfl,⟨_,.tail _ (.head _)⟩,rfl⟩,⟨rfl,rfl,⟨_,.tail _ (.tail _ (.head _))⟩,rfl⟩,trivial⟩ (by simp) ?_ (by simp) rfl hp hr.2.2 hI2 ?_
   ·rintro av sf rfl
    exact ⟨.inl ⟨4,by simp,rfl⟩,.inl ⟨5,by simp,rfl⟩,.inl ⟨6,by simp,rfl⟩,trivial⟩
   ·rintro av sf D2 φ3 w' rfl hI3
    have := ret_post (fn := Tryz.f54) (Q := provesR ([],⟨0,0⟩,7)) hT (D0 := { D0 with pd := none }) hX hI3 rfl rfl rfl
    exact this
  | _ => exact hq.elim
end Go.Abs
