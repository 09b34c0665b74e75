/- The program's Read, of any text. -/
import Derived.Test.YtkmclnjmabljdaaGreatDoorKNiG
import Derived.Test.YtkmclnjmabljdaaGreatDoorKNdJ
set_option linter.unusedVariables false
set_option linter.unusedSimpArgs false
namespace Go.Abs
open Go.Proofs Go.RowKit
set_option linter.unusedVariables false
set_option linter.unusedSimpArgs false
set_option maxRecDepth 100000
theorem f158t {s : List UInt8} {h : List Dye} {l : List Stock} (hs : s.length <= 600) (hr : readM s = some (h,l)) : ACalls Tryz.prog 158 [.str (bytesOf s)] (fun r => r = .tup [eHouse h,eStocks l]) :=
 (ACallsB.mono (f158g s hs) (fun r ⟨h',l',h1,h2⟩ => by rw [hr] at h1; cases h1; exact h2) (fun c hc => by rw [hr] at hc; exact absurd hc.1 (by simp))).calm
theorem f158n {s : List UInt8} (hs : s.length <= 600) (hr : readM s = none) : ACallsB Tryz.prog 158 [.str (bytesOf s)] (fun _ => False) panW :=
 ACallsB.mono (f158g s hs) (fun r ⟨h',l',h1,h2⟩ => by rw [hr] at h1; cases h1) (fun c hc => hc.2)
theorem readM_ok {s : List UInt8} {h : List Dye} {l : List Stock} (hs : s.length <= 600) (hr : readM s = some (h,l)) : (∀ d ∈ h,SmallDy d) /\ (∀ x ∈ l,SmallSt x) /\ h.length + stLines l <= 600 /\ textB h l = bytesOf s:= by
 have hLl := splitS_len 10 s
 have hS : ShortL 601 (splitS 10 s) := ⟨by omega,fun x hx => by have := splitS_each hx; omega⟩
 cases hn : nextM wTop 2 (splitS 10 s) with
 | none => rw [readM_none hn] at hr; cases hr
 | some p =>
  obtain ⟨ns,L1⟩ := p
  obtain ⟨_,hS1,hnl,hnb⟩ := next_short hn hS
  obtain ⟨a,b,rfl⟩ : ∃ a b,ns = [a,b] := by match ns,hnl with | [a,b],_ => exact ⟨a,b,rfl⟩
  rw [readM_some hn] at hr
  cases hd : dyesM a.toNat L1 with
  | none => rw [hd] at hr; cases hr
  | some p =>
   obtain ⟨ds,L2⟩ := p
   rw [hd,readB] at hr
   obtain ⟨hS2,hdl,hda,hdS⟩ := dyesM_ok _ _ _ _ _ hS1 hd
   cases hst : stocksM b.toNat L2 with
   | none => rw [hst] at hr; cases hr
   | some p =>
    obtain ⟨l2,L3⟩ := p
    rw [hst,readC] at hr
    obtain ⟨_,q1,q2,q3⟩ := stocksM_ok _ _ _ _ _ hS2 hst
    split at hr
    ·rename_i ht
     simp only [Option.some.injEq,Prod.mk.injEq] at hr
     obtain ⟨rfl,rfl⟩ := hr
     exact ⟨hdS,q3,by omega,ht⟩
    ·cases hr
theorem small_ok {h : List Dye} {l : List Stock} (hh : ∀ d ∈ h,SmallDy d) (hc : h.length + stLines l <= 700) : houseOK h /\ stocksOK l:= by
 have hll : ∀ l : List Stock,l.length <= stLines l:= by
  intro l
  induction l with
  | nil => exact Nat.le_refl _
  | cons s l ih => simp only [stLines,List.map_cons,List.sum_cons,List.length_cons] at ih ⊢; omega
 have := hll l
 refine ⟨⟨by omega,fun d hd => by have := (hh d hd).1; omega⟩,⟨by omega,fun s hs => ?_⟩⟩
 have : s.baths.length + 1 <= stLines l:= by
  unfold stLines
  exact le_sumN (List.mem_map.2 ⟨s,hs,rfl⟩)
 omega
abbrev rdX (f g : FV) (e : Int) : List (Nat × AObj) := [(0,.box [f]),(1,.box [g]),(2,.box [.pv (vi e)])]
abbrev rdY : List (Nat × Nat) := [(3,0),(4,1),(5,2)]
abbrev xs157 : List FV := [.box 0 0,.box 1 0,.box 2 0]
theorem d157r (f g : List (List PV)) (e : Int) (av : Nat -> Value) : DCallsX Tryz.prog 157 xs157 (rdX (.pv (.sl f)) (.pv (.sl g)) e ++ ancL av rdY) 6
  (fun sf => sf = mkSt [(0,.tup [])] (rdX (.pv (.sl f)) (.pv (.sl g)) e ++ ancL av rdY) 6) .returning .returning:= by
 refine DCallsX.of_recover hT (fn := Tryz.f157) rfl rfl rfl ⟨_,rfl⟩ rfl rfl rfl .nilIface (.pv .nilIface) (fun c₀ cs hu => .inr ⟨by simp [recoverD,hu],rfl,rfl⟩) (fun D φ W _ => ⟨rfl,.pv _ _ .nilIface⟩) ?_
 (repeat (refine stq ?_))
 refine AL_do2 rfl ⟨_,op_eql_nilI ifc20 rfl rfl rfl,?_⟩
 (repeat (refine stq ?_))
 refine ⟨_,_,rfl,?_,rfl⟩
 (refine Le.mk ?_ ?_; all_goals (repeat' (first | exact trivial | refine sle ?_ | refine ⟨?_,rfl,?_⟩ | refine ⟨?_,by decide,rfl,?_⟩ | fail)))
theorem d157z (e : Int) (av : Nat -> Value) : DCallsX Tryz.prog 157 xs157 (rdX .nils .nils e ++ ancL av rdY) 6
  (fun sf => sf = mkSt [(0,.tup [])] (rdX .nils .nils e ++ ancL av rdY) 6) .returning .returning:= by
 refine DCallsX.of_recover hT (fn := Tryz.f157) rfl rfl rfl ⟨_,rfl⟩ rfl rfl rfl .nilIface (.pv .nilIface) (fun c₀ cs hu => .inr ⟨by simp [recoverD,hu],rfl,rfl⟩) (fun D φ W _ => ⟨rfl,.pv _ _ .nilIface⟩) ?_
 (repeat (refine stq ?_))
 refine AL_do2 rfl ⟨_,op_eql_nilI ifc20 rfl rfl rfl,?_⟩
 (repeat (refine stq ?_))
 refine ⟨_,_,rfl,?_,rfl⟩
 (refine Le.mk ?_ ?_; all_goals (repeat' (first | exact trivial | refine sle ?_ | refine ⟨?_,rfl,?_⟩ | refine ⟨?_,by decide,rfl,?_⟩ | fail)))
theorem d157n (x : ByteArray) (av : Nat -> Value) : DCallsX Tryz.prog 157 xs157 (rdX .nils .nils 0 ++ ancL av rdY) 6
  (fun sf => sf = mkSt [(0,.tup [])] (rdX .nils .nils 4 ++ ancL av rdY) 6) (.panicking (panV (197,.agg #[.string x]))) (.panicking [{ v := .iface 197 (.agg #[.string x]),recovered := true }]):= by
 refine DCallsX.of_recover hT (fn := Tryz.f157) rfl rfl rfl ⟨_,rfl⟩ rfl rfl rfl (.iface 197 (.agg #[.string x])) (.pv (.iface 197 (.agg [.str x]))) (fun c₀ cs hu => .inl (by simp [recoverD,hu,panV])) (fun D φ W hH => ⟨rfl,.pv _ _ (.iface 197 _ _ (.agg _ _ rfl fun j v p hv hp => ?_))⟩) ?_
 ·match j with
  | 0 => simp at hv hp; subst hv; subst hp; exact .str _
  | j + 1 => simp at hp
 (repeat (refine stq ?_))
 refine AL_do2 rfl ⟨_,op_eql_iface ifc20 rfl rfl rfl,?_⟩
 (repeat (refine stq ?_))
 refine AL_do2 rfl ⟨_,op_assert hT rfl rfl rfl rfl rfl,?_⟩
 (repeat (refine stq ?_))
 refine ⟨_,_,rfl,?_,rfl⟩
 (refine Le.mk ?_ ?_; all_goals (repeat' (first | exact trivial | refine sle ?_ | refine ⟨?_,rfl,?_⟩ | refine ⟨?_,by decide,rfl,?_⟩ | fail)))
def readE (s : List UInt8) : List Dye × List Stock × Int :=
 if s.length > 500 then ([],[],3) else match readM s with
 | none => ([],[],4)
 | some (h,l) => if isHouseB h && areStocksB h l 0 then (h,l,0) else ([],[],2)
def readT (x : List Dye × List Stock × Int) (r : RV) : Prop := r = .tup [eHouse x.1,eStocks x.2.1,vi x.2.2]
abbrev s92 (f g : FV) (e : Int) (v : Value) : List (Nat × AObj) := rdX f g e ++ [(3,.anc v (.fn 157 [.box 0 0,.box 1 0,.box 2 0]))]
abbrev e92 : List (Nat × FV) := [(2,.box 0 0),(3,.box 1 0),(4,.box 2 0)]
def Q92t (h : List Dye) (l : List Stock) (v : Value) : Exit -> ASt -> Prop
 | .ret,s' => Le s' (mkSt e92 (s92 (.pv (.sl (h.map eDye))) (.pv (eStocks l)) 0 v) 4)
 | _,_ => False
def Q92z (v : Value) : Exit -> ASt -> Prop
 | .ret,s' => Le s' (mkSt e92 (s92 .nils .nils 2 v) 4)
 | _,_ => False
def Q92n (v : Value) : Exit -> ASt -> Prop
 | .panic ch,s' => (∃ x : ByteArray,ch = panV (197,.agg #[.string x])) /\ Le s' (mkSt e92 (s92 .nils .nils 0 v) 4)
 | _,_ => False
abbrev kp92 : List Nat := [0,1,2]
set_option maxHeartbeats 8000000 in
theorem f92l {s : List UInt8} (hs : s.length > 500) : ACalls Tryz.prog 92 [.str (bytesOf s)] (readT ([],[],3)):= by
 have hsz := bytesOf_size s
 refine ACalls.of_deferring (fn := Tryz.f92) rfl rfl (by kernel_rfl) rfl ?_
 refine AWR_seq (Qx := fun _ _ => False) ?_ (fun _ _ _ _ _ _ _ _ h => by obtain ⟨_,_,_,_,h⟩ := h; exact h.elim)
 (repeat (refine stq ?_))
 refine AWR_seq (Qx := RetQ T Tryz.f92.results.toList (readT ([],[],3))) ?_ (fun _ _ _ _ _ _ hp he h => RfD.of_ret hT hp he h)
 (repeat' (first | refine stq ?_ | (refine AL_do2 rfl ?_; first | refine ⟨_,op_len_str hT rfl rfl rfl rfl rfl,?_⟩) | ((first | (with_reducible refine AL_id ?_); (fail_if_success (refine AL_glit rfl rfl rfl (by first | exact .inl (by with_reducible rfl) | exact .inr (by with_reducible rfl)) ?_)); first | refine AL_gdec rfl rfl rfl (fun hg => ?_) (fun hg => ?_) | refine AL_gnot rfl rfl rfl (fun hg => ?_) (fun hg => ?_) | refine AL_gcases rfl rfl rfl (fun hg => ?_) (fun hg => ?_)) <;> (try (exfalso; omega))) | refine AW_if rfl (fun hc => absurd hc (by omega)) (fun _ => ?_) | refine AW_if rfl (fun _ => ?_) (fun hc => absurd (by omega) hc)))
 all_goals (try (exfalso; omega))
 exact ⟨_,_,rfl,rfl,rfl⟩
set_option maxHeartbeats 8000000 in
theorem f92n {s : List UInt8} (hs : s.length <= 500) (hr : readM s = none) : ACalls Tryz.prog 92 [.str (bytesOf s)] (readT ([],[],4)):= by
 have hsz := bytesOf_size s
 have k := f158n (by omega) hr
 refine ACalls.of_deferring (fn := Tryz.f92) rfl rfl (by kernel_rfl) rfl ?_
 refine AWR_seq (Qx := fun _ _ => False) ?_ (fun _ _ _ _ _ _ _ _ h => by obtain ⟨_,_,_,_,h⟩ := h; exact h.elim)
 (repeat (refine stq ?_))
 refine AWR_seq (Qx := RetQ T Tryz.f92.results.toList (readT ([],[],4))) ?_ (fun _ _ _ _ _ _ hp he h => RfD.of_ret hT hp he h)
 (repeat' (first | refine stq ?_ | (refine AL_do2 rfl ?_; first | refine ⟨_,op_len_str hT rfl rfl rfl rfl rfl,?_⟩) | ((first | (with_reducible refine AL_id ?_); (fail_if_success (refine AL_glit rfl rfl rfl (by first | exact .inl (by with_reducible rfl) | exact .inr (by with_reducible rfl)) ?_)); first | refine AL_gdec rfl rfl rfl (fun hg => ?_) (fun hg => ?_) | refine AL_gnot rfl rfl rfl (fun hg => ?_) (fun hg => ?_) | refine AL_gcases rfl rfl rfl (fun hg => ?_) (fun hg => ?_)) <;> (try (exfalso; omega))) | refine AW_if rfl (fun hc => absurd hc (by omega)) (fun _ => ?_) | refine AW_if rfl (fun _ => ?_) (fun hc => absurd (by omega) hc)))
 all_goals (try (exfalso; omega))
 refine AWR_defer (f := .tmp 9) rfl (op_mkfunc rfl rfl rfl) rfl rfl rfl rfl fun v => ?_
 refine AWR_end (Qx := Q92n v) ?_ ?_
 ·(repeat (refine stq ?_))
  refine AL_doP rfl (op_callBP rfl rfl rfl rfl k) ?_ ?_
  ·rintro s' ⟨r,hf,_⟩
   exact False.elim hf
  ·rintro t s' x ⟨⟨y,hc⟩,rfl⟩
   cases hc
   (repeat (first | refine then_panic ?_ | refine inblk_panic ?_))
   refine ⟨⟨y,rfl⟩,?_⟩
   (refine Le.mk ?_ ?_; all_goals (repeat' (first | exact trivial | refine sle ?_ | refine ⟨?_,rfl,?_⟩ | refine ⟨?_,by decide,rfl,?_⟩ | fail)))
 ·rintro W0 D0 e a w hr hp ⟨s',D',φ',hI,hq⟩ hX
  have hen : Enters Tryz.prog 157 := enters_of (fn := Tryz.f157) rfl rfl (by kernel_rfl)
  cases e with
  | panic ch =>
   obtain ⟨⟨y,rfl⟩,hle⟩ := hq
   obtain ⟨φ2,hI2⟩ := hle.inv hI
   refine leaves_deferred (A := 3) (u' := .panicking [{ v := .iface 197 (.agg #[.string y]),recovered := true }]) [] kp92 rdY (objs := rdX .nils .nils 0) (fun av => d157n y av) hen rfl (by (repeat' (first | exact trivial | refine And.intro ?_ ?_)); all_goals (first | rfl | decide)) rfl (by (repeat' (first | exact trivial | refine And.intro ?_ ?_)); all_goals (first | rfl | decide)) rfl ⟨⟨rfl,rfl,⟨_,.head _⟩,rfl⟩,⟨rfl,rfl,⟨_,.tail _ (.head _)⟩,rfl⟩,⟨rfl,rfl,⟨_,.tail _ (.tail _ (.head _))⟩,rfl⟩,trivial⟩ (by simp) ?_ (by simp) rfl hp hr.2.2 hI2 ?_
   ·rintro av sf rfl
    exact ⟨.inl ⟨3,by simp,rfl⟩,.inl ⟨4,by simp,rfl⟩,.inl ⟨5,by simp,rfl⟩,trivial⟩
   ·rintro av sf D2 φ3 w' rfl hI3
    have := ret_post (fn := Tryz.f92) (Q := readT ([],[],4)) hT (D0 := { D0 with pd := none }) hX hI3 rfl rfl rfl
    exact this
  | _ => exact hq.elim
set_option maxHeartbeats 8000000 in
theorem f92b {s : List UInt8} {h : List Dye} {l : List Stock} (hs : s.length <= 500) (hr : readM s = some (h,l)) (hb : (isHouseB h && areStocksB h l 0) = false) : ACalls Tryz.prog 92 [.str (bytesOf s)] (readT ([],[],2)):= by
 have hsz := bytesOf_size s
 have k := f158t (by omega) hr
 obtain ⟨hsm,hsm2,hcnt,htx⟩ := readM_ok (by omega) hr
 obtain ⟨hO,hO2⟩ := small_ok (l := l) hsm (by omega)
 have k105 := f105 h hO.1 hO.2
 have k127 := f127 h l 0 hO.1 hO2
 refine ACalls.of_deferring (fn := Tryz.f92) rfl rfl (by kernel_rfl) rfl ?_
 refine AWR_seq (Qx := fun _ _ => False) ?_ (fun _ _ _ _ _ _ _ _ h => by obtain ⟨_,_,_,_,h⟩ := h; exact h.elim)
 (repeat (refine stq ?_))
 refine AWR_seq (Qx := RetQ T Tryz.f92.results.toList (readT ([],[],2))) ?_ (fun _ _ _ _ _ _ hp he h => RfD.of_ret hT hp he h)
 (repeat' (first | refine stq ?_ | (refine AL_do2 rfl ?_; first | refine ⟨_,op_len_str hT rfl rfl rfl rfl rfl,?_⟩) | ((first | (with_reducible refine AL_id ?_); (fail_if_success (refine AL_glit rfl rfl rfl (by first | exact .inl (by with_reducible rfl) | exact .inr (by with_reducible rfl)) ?_)); first | refine AL_gdec rfl rfl rfl (fun hg => ?_) (fun hg => ?_) | refine AL_gnot rfl rfl rfl (fun hg => ?_) (fun hg => ?_) | refine AL_gcases rfl rfl rfl (fun hg => ?_) (fun hg => ?_)) <;> (try (exfalso; omega))) | refine AW_if rfl (fun hc => absurd hc (by omega)) (fun _ => ?_) | refine AW_if rfl (fun _ => ?_) (fun hc => absurd (by omega) hc)))
 all_goals (try (exfalso; omega))
 refine AWR_defer (f := .tmp 9) rfl (op_mkfunc rfl rfl rfl) rfl rfl rfl rfl fun v => ?_
 refine AWR_end (Qx := Q92z v) ?_ ?_
 ·cases h1 : isHouseB h with
  | false =>
   rw [h1] at k105
   (repeat' (first | refine AL_skip rfl rfl ?_ | refine stq ?_ | (refine AL_do2 rfl ?_; first | refine ⟨_,op_call1 rfl rfl rfl rfl (k),nrmA rfl ?_⟩ | refine ⟨_,op_call1 rfl rfl rfl rfl (k105),nrmA rfl ?_⟩ | refine ⟨_,op_call1 rfl rfl rfl rfl (k127),nrmA rfl ?_⟩) | ((first | (with_reducible refine AL_id ?_); (fail_if_success (refine AL_glit rfl rfl rfl (by first | exact .inl (by with_reducible rfl) | exact .inr (by with_reducible rfl)) ?_)); first | refine AL_gdec rfl rfl rfl (fun hg => ?_) (fun hg => ?_) | refine AL_gnot rfl rfl rfl (fun hg => ?_) (fun hg => ?_) | refine AL_gcases rfl rfl rfl (fun hg => ?_) (fun hg => ?_)) <;> (try (exfalso; omega))) | refine AW_if rfl (fun hc => absurd hc (by omega)) (fun _ => ?_) | refine AW_if rfl (fun _ => ?_) (fun hc => absurd (by omega) hc)))
   all_goals (try (exfalso; first | omega | (simp at hg; done)))
   all_goals (show Le _ _)
   all_goals (refine Le.mk ?_ ?_; all_goals (repeat' (first | exact trivial | refine sle ?_ | refine ⟨?_,rfl,?_⟩ | refine ⟨?_,by decide,rfl,?_⟩ | fail)))
  | true =>
   have h2 : areStocksB h l 0 = false := by rw [h1] at hb; simpa using hb
   rw [h1] at k105
   rw [h2] at k127
   (repeat' (first | refine AL_skip rfl rfl ?_ | refine stq ?_ | (refine AL_do2 rfl ?_; first | refine ⟨_,op_call1 rfl rfl rfl rfl (k),nrmA rfl ?_⟩ | refine ⟨_,op_call1 rfl rfl rfl rfl (k105),nrmA rfl ?_⟩ | refine ⟨_,op_call1 rfl rfl rfl rfl (k127),nrmA rfl ?_⟩) | ((first | (with_reducible refine AL_id ?_); (fail_if_success (refine AL_glit rfl rfl rfl (by first | exact .inl (by with_reducible rfl) | exact .inr (by with_reducible rfl)) ?_)); first | refine AL_gdec rfl rfl rfl (fun hg => ?_) (fun hg => ?_) | refine AL_gnot rfl rfl rfl (fun hg => ?_) (fun hg => ?_) | refine AL_gcases rfl rfl rfl (fun hg => ?_) (fun hg => ?_)) <;> (try (exfalso; omega))) | refine AW_if rfl (fun hc => absurd hc (by omega)) (fun _ => ?_) | refine AW_if rfl (fun _ => ?_) (fun hc => absurd (by omega) hc)))
   all_goals (try (exfalso; first | omega | (simp at hg; done)))
   all_goals (show Le _ _)
   all_goals (refine Le.mk ?_ ?_; all_goals (repeat' (first | exact trivial | refine sle ?_ | refine ⟨?_,rfl,?_⟩ | refine ⟨?_,by decide,rfl,?_⟩ | fail)))
 ·rintro W0 D0 e a w hr hp ⟨s',D',φ',hI,hq⟩ hX
  have hen : Enters Tryz.prog 157 := enters_of (fn := Tryz.f157) rfl rfl (by kernel_rfl)
  cases e with
  | ret =>
   have hle : Le s' (mkSt e92 (s92 .nils .nils 2 v) 4) := hq
   obtain ⟨φ2,hI2⟩ := hle.inv hI
   refine leaves_deferred (A := 3) (u' := .returning) [] kp92 rdY (objs := rdX .nils .nils 2) (fun av => d157z 2 av) hen rfl (by (repeat' (first | exact trivial | refine And.intro ?_ ?_)); all_goals (first | rfl | decide)) rfl (by (repeat' (first | exact trivial | refine And.intro ?_ ?_)); all_goals (first | rfl | decide)) rfl ⟨⟨rfl,rfl,⟨_,.head _⟩,rfl⟩,⟨rfl,rfl,⟨_,.tail _ (.head _)⟩,rfl⟩,⟨rfl,rfl,⟨_,.tail _ (.tail _ (.head _))⟩,rfl⟩,trivial⟩ (by simp) ?_ (by simp) rfl hp hr.2.2 hI2 ?_
   ·rintro av sf rfl
    exact ⟨.inl ⟨3,by simp,rfl⟩,.inl ⟨4,by simp,rfl⟩,.inl ⟨5,by simp,rfl⟩,trivial⟩
   ·rintro av sf D2 φ3 w' rfl hI3
    have := ret_post (fn := Tryz.f92) (Q := readT ([],[],2)) hT (D0 := { D0 with pd := none }) hX hI3 rfl rfl rfl
    exact this
  | _ => exact hq.elim
set_option maxHeartbeats 8000000 in
theorem f92t {s : List UInt8} {h : List Dye} {l : List Stock} (hs : s.length <= 500) (hr : readM s = some (h,l)) (hb : (isHouseB h && areStocksB h l 0) = true) : ACalls Tryz.prog 92 [.str (bytesOf s)] (readT (h,l,0)):= by
 have hsz := bytesOf_size s
 have k := f158t (by omega) hr
 obtain ⟨hsm,hsm2,hcnt,htx⟩ := readM_ok (by omega) hr
 obtain ⟨hO,hO2⟩ := small_ok (l := l) hsm (by omega)
 have k105 := f105 h hO.1 hO.2
 have k127 := f127 h l 0 hO.1 hO2
 rw [Bool.and_eq_true] at hb
 rw [hb.1] at k105
 rw [hb.2] at k127
 refine ACalls.of_deferring (fn := Tryz.f92) rfl rfl (by kernel_rfl) rfl ?_
 refine AWR_seq (Qx := fun _ _ => False) ?_ (fun _ _ _ _ _ _ _ _ h => by obtain ⟨_,_,_,_,h⟩ := h; exact h.elim)
 (repeat (refine stq ?_))
 refine AWR_seq (Qx := RetQ T Tryz.f92.results.toList (readT (h,l,0))) ?_ (fun _ _ _ _ _ _ hp he h => RfD.of_ret hT hp he h)
 (repeat' (first | refine stq ?_ | (refine AL_do2 rfl ?_; first | refine ⟨_,op_len_str hT rfl rfl rfl rfl rfl,?_⟩) | ((first | (with_reducible refine AL_id ?_); (fail_if_success (refine AL_glit rfl rfl rfl (by first | exact .inl (by with_reducible rfl) | exact .inr (by with_reducible rfl)) ?_)); first | refine AL_gdec rfl rfl rfl (fun hg => ?_) (fun hg => ?_) | refine AL_gnot rfl rfl rfl (fun hg => ?_) (fun hg => ?_) | refine AL_gcases rfl rfl rfl (fun hg => ?_) (fun hg => ?_)) <;> (try (exfalso; omega))) | refine AW_if rfl (fun hc => absurd hc (by omega)) (fun _ => ?_) | refine AW_if rfl (fun _ => ?_) (fun hc => absurd (by omega) hc)))
 all_goals (try (exfalso; omega))
 refine AWR_defer (f := .tmp 9) rfl (op_mkfunc rfl rfl rfl) rfl rfl rfl rfl fun v => ?_
 refine AWR_end (Qx := Q92t h l v) ?_ ?_
 ·(repeat' (first | refine AL_skip rfl rfl ?_ | refine stq ?_ | (refine AL_do2 rfl ?_; first | refine ⟨_,op_call1 rfl rfl rfl rfl (k),nrmA rfl ?_⟩ | refine ⟨_,op_call1 rfl rfl rfl rfl (k105),nrmA rfl ?_⟩ | refine ⟨_,op_call1 rfl rfl rfl rfl (k127),nrmA rfl ?_⟩) | ((first | (with_reducible refine AL_id ?_); (fail_if_success (refine AL_glit rfl rfl rfl (by first | exact .inl (by with_reducible rfl) | exact .inr (by with_reducible rfl)) ?_)); first | refine AL_gdec rfl rfl rfl (fun hg => ?_) (fun hg => ?_) | refine AL_gnot rfl rfl rfl (fun hg => ?_) (fun hg => ?_) | refine AL_gcases rfl rfl rfl (fun hg => ?_) (fun hg => ?_)) <;> (try (exfalso; omega))) | refine AW_if rfl (fun hc => absurd hc (by omega)) (fun _ => ?_) | refine AW_if rfl (fun _ => ?_) (fun hc => absurd (by omega) hc)))
  all_goals (try (exfalso; first | omega | (simp at hg; done)))
  iterate 2 (refine sdq ?_)
  refine DG_next (D_store_same hT rfl rfl rfl rfl rfl rfl rfl rfl rfl rfl rfl) ?_
  refine DG_next (D_store_same hT rfl rfl rfl rfl rfl rfl rfl rfl rfl rfl rfl) ?_
  refine DG_end hM (by kernel_rfl) ?_
  (repeat (refine stq ?_))
  show Le _ _
  (refine Le.mk ?_ ?_; all_goals (repeat' (first | exact trivial | refine sle ?_ | refine ⟨?_,rfl,?_⟩ | refine ⟨?_,by decide,rfl,?_⟩ | fail)))
 ·rintro W0 D0 e a w hr hp ⟨s',D',φ',hI,hq⟩ hX
  have hen : Enters Tryz.prog 157 := enters_of (fn := Tryz.f157) rfl rfl (by kernel_rfl)
  cases e with
  | ret =>
   have hle : Le s' (mkSt e92 (s92 (.pv (.sl (h.map eDye))) (.pv (eStocks l)) 0 v) 4) := hq
   obtain ⟨φ2,hI2⟩ := hle.inv hI
   refine leaves_deferred (A := 3) (u' := .returning) [] kp92 rdY (objs := rdX (.pv (.sl (h.map eDye))) (.pv (eStocks l)) 0) (fun av => d157r _ _ 0 av) hen rfl (by (repeat' (first | exact trivial | refine And.intro ?_ ?_)); all_goals (first | rfl | decide)) rfl (by (repeat' (first | exact trivial | refine And.intro ?_ ?_)); all_goals (first | rfl | decide)) rfl ⟨⟨rfl,rfl,⟨_,.head _⟩,rfl⟩,⟨rfl,rfl,⟨_,.tail _ (.head _)⟩,rfl⟩,⟨rfl,rfl,⟨_,.tail _ (.tail _ (.head _))⟩,rfl⟩,trivial⟩ (by simp) ?_ (by simp) rfl hp hr.2.2 hI2 ?_
   ·rintro av sf rfl
    exact ⟨.inl ⟨3,by simp,rfl⟩,.inl ⟨4,by simp,rfl⟩,.inl ⟨5,by simp,rfl⟩,trivial⟩
   ·rintro av sf D2 φ3 w' rfl hI3
    have := ret_post (fn := Tryz.f92) (Q := readT (h,l,0)) hT (D0 := { D0 with pd := none }) hX hI3 rfl rfl rfl
    exact this
  | _ => exact hq.elim
theorem f92 (s : List UInt8) : ACalls Tryz.prog 92 [.str (bytesOf s)] (fun r => r = .tup [eHouse (readE s).1,eStocks (readE s).2.1,vi (readE s).2.2]):= by
 unfold readE
 split
 ·rename_i hs
  exact f92l hs
 ·rename_i hs
  cases hr : readM s with
  | none => exact f92n (by omega) hr
  | some p =>
   obtain ⟨h,l⟩ := p
   dsimp only
   cases hb : (isHouseB h && areStocksB h l 0) with
   | true => exact f92t (by omega) hr hb
   | false => exact f92b (by omega) hr hb
end Go.Abs
