/- A string becomes a slice of bytes, of which one is changed; the bytes become a string. -/
import Derived.Test.YtkmclnjmabljdaaGreatDoorKNcK
import Derived.Laws.IdiomStrings
import Derived.Lib.ConvBytes
import Derived.Test.YtkmclnjmabljdaaGreatDoorKNiP
set_option linter.unusedVariables false
set_option linter.unusedSimpArgs false
namespace Go.Abs
open Go.RowKit
set_option linter.unusedVariables false
set_option linter.unusedSimpArgs false
def bytE (xs : List UInt8) (l : Nat) : Ext := ⟨[],l,fun _ B _ w => (∀ b,B b ↔ b = l) /\ ∀ (j : Nat) (x : UInt8),xs[j]? = some x -> w.cell? ⟨l,j,none⟩ = some (.int .u8 x.toNat) /\ w.frozen? ⟨l,j,none⟩ = false⟩
abbrev bytO (xs : List UInt8) (l : Nat) : AObj := .ext (bytE xs l) 0 (fun b => b = l)
abbrev bytV (l n c : Nat) : Value := .slice (some ⟨l,0,none⟩) n c
theorem cell_heap {w w' : World} {l j : Nat} (h : w'.heap[l]? = w.heap[l]?) : w'.cell? ⟨l,j,none⟩ = w.cell? ⟨l,j,none⟩ /\ w'.frozen? ⟨l,j,none⟩ = w.frozen? ⟨l,j,none⟩:= by
 unfold World.cell? World.frozen?
 rw [h]; exact ⟨rfl,rfl⟩
theorem bytE_mono (xs : List UInt8) (l : Nat) : (bytE xs l).Mono := fun k B D D' w w' h hD hw hB => by
 obtain ⟨h1,h2⟩ := h
 refine ⟨h1,fun j x hx => ?_⟩
 obtain ⟨e1,e2⟩ := cell_heap (j := j) (hB l ((h1 l).2 rfl))
 rw [e1,e2]; exact h2 j x hx
section
variable {P : Program} {T : Nat -> Option TyI} {nt : Nat} {s : ASt} {o : Oper} {ops : Array Oper} {rest : List Oper} {Q : Exit -> ASt -> Prop}
theorem op_strBytes {src dst e : TypeId} {x : Operand} {si di ei : TyI} {xs : List UInt8} (hT : TabOK P T) (ho : o.op = .convert src dst x) (hd : dstB nt o.dst = true) (hs : T src = some si) (hsk : si.kind = .str) (ht : T dst = some di) (hdk : di.kind = .slice e) (he : T e = some ei) (hek : ei.kind = .int .u8)
  (hx : s.ev x = some (.pv (.str ⟨xs.toArray⟩))) : OpToS P nt o s (fun s' => ∃ l c,s' = ((s.newObj (bytO xs l)).newObj (.anc (bytV l xs.length c) (.arr (s.nxt + 1)))).putO o.dst (some (.arr (s.nxt + 1)))):= by
 intro ro W0 D0 D φ a w hI hko K Q hK
 have hv : a.eval x = .string ⟨xs.toArray⟩:= by
  have := (hI.ev hx).2
  generalize a.eval x = v at this
  cases this with
  | pv v p h => exact h.inv_str
 have hrun := Lib.run_convert_string_bytes (P := P) w src dst e ⟨xs.toArray⟩ ((hT.ty hs).str hsk) ((hT.ty ht).slice hdk) ((hT.ty he).int hek)
 have hr : (execOp a.eval o).run P w = .ok (.value (bytV w.heap.size xs.length (grownCap w xs.length 0 e))) (Lib.bytesWorld w e ⟨xs.toArray⟩):= by
  simp only [execOp,ho,hv,Sem.run_bind,hrun,Result.andThen_ok,Sem.run_pure]
  rfl
 refine wpIn_of (by rw [ho]; intro c hc; cases hc) ?_
 unfold Oper.wp
 rw [hr]
 have hold : ∀ b,b < w.heap.size -> (Lib.bytesWorld w e ⟨xs.toArray⟩).heap[b]? = w.heap[b]? := fun b hb => Lib.bytesWorld_at_old w e _ b hb
 have hbel : Below 0 w (Lib.bytesWorld w e ⟨xs.toArray⟩) := ⟨rfl,rfl,rfl,by rw [Lib.bytesWorld_size]; omega,fun k hk => absurd hk (Nat.not_lt_zero _)⟩
 have hN : Inv W0 D0 nt (s.newObj (bytO xs w.heap.size)) D (addH φ s.nxt (.map (some w.heap.size))) a (Lib.bytesWorld w e ⟨xs.toArray⟩):= by
  refine hI.chg s.nxt (fun _ => False) hbel (fun b hlt _ => hold b hlt) (fun _ h => h) (fun b h => .inl h) (fun id hid => addH_old φ _ hid) (Nat.le_succ _) (fun t x hx => hx) ?_ ?_
  ·intro id ob2 hne ho
   rw [ASt.obj_newObj,if_neg (fun e => hne e.symm)] at ho
   exact ⟨fun hf => hf,ho⟩
  ·intro ob2 ho
   rw [ASt.obj_newObj,if_pos rfl] at ho
   cases ho
   refine ⟨Nat.lt_succ_self _,rfl,⟨bytE_mono xs _,addH_new _ _ _,rfl,fun b => Iff.rfl,fun j x hx => ?_⟩,fun b hb => ?_⟩
   ·have hj : j < xs.length := (List.getElem?_eq_some_iff.1 hx).1
    refine ⟨?_,?_⟩
    ·have hc := Lib.bytesWorld_cell w e ⟨xs.toArray⟩ j (by show j < xs.toArray.size; simpa using hj)
     rw [hc]
     have : (xs.toArray.toList.getD j 0) = x := by simp [List.getD,hx]
     show some (Value.int .u8 ((xs.toArray.toList.getD j 0).toNat : Nat)) = _
     rw [this]
    ·unfold World.frozen?
     show (match (Lib.bytesWorld w e ⟨xs.toArray⟩).heap[w.heap.size]? with | some (.cells _ _ (lo,hi)) => (decide (lo <= j) && decide (j < hi)) | _ => false) = false
     rw [Lib.bytesWorld_at_new]
     simp only [Bool.and_eq_false_iff,decide_eq_false_iff_not]
     left
     simp [Lib.bytesCells]
     omega
   ·have hb : b = w.heap.size := hb
    subst hb
    exact ⟨fun h => Nat.lt_irrefl _ (hI.dlt _ h),by rw [Lib.bytesWorld_size]; omega,.inl (Nat.le_refl _)⟩
 have hN2 : Inv W0 D0 nt ((s.newObj (bytO xs w.heap.size)).newObj (.anc (bytV w.heap.size xs.length (grownCap w xs.length 0 e)) (.arr (s.nxt + 1)))) D (addH (addH φ s.nxt (.map (some w.heap.size))) (s.nxt + 1) (bytV w.heap.size xs.length (grownCap w xs.length 0 e))) a (Lib.bytesWorld w e ⟨xs.toArray⟩):= by
  refine hN.chg (s.nxt + 1) (fun _ => False) (Below.refl _ _) (fun b _ _ => rfl) (fun _ h => h) (fun b h => .inl h) (fun id hid => addH_old _ _ hid) (Nat.le_succ _) (fun t x hx => hx) ?_ ?_
  ·intro id ob2 hne ho
   rw [ASt.obj_newObj,if_neg (fun e => hne e.symm)] at ho
   exact ⟨fun hf => hf,ho⟩
  ·intro ob2 ho
   rw [ASt.obj_newObj,if_pos (show (s.newObj (bytO xs w.heap.size)).nxt = s.nxt + 1 from rfl)] at ho
   cases ho
   exact ⟨Nat.lt_succ_self _,by simp [AObj.lt,FV.lt,ASt.newObj],.arr _ _ _ _ (addH_new _ _ _),fun b hb => hb.elim⟩
 refine hK _ D _ _ _ ⟨w.heap.size,_,rfl⟩ (hN2.put o.dst (dstB_lt hd) _ _ fun x' hx' => ?_)
 cases hx'
 exact ⟨by simp [FV.lt,ASt.newObj],.arr _ _ _ _ (addH_new _ _ _)⟩
theorem byt_val {W0 : World} {D0 : Bas} {D : Nat -> Prop} {φ : Nat -> Value} {a : Act} {w : World} (hI : Inv W0 D0 nt s D φ a w) {id l n c : Nat} (hob : s.obj id = some (.anc (bytV l n c) (.arr id))) : φ id = bytV l n c:= by
 obtain ⟨_,_,h⟩ := hI.objs id _ hob
 have h : FRep w D φ (bytV l n c) (.arr id) := h
 generalize hV : bytV l n c = V at h
 cases h with
 | arr id n c ad h => exact h
theorem op_byteAddr {t e id l m c : Nat} {x ix : Operand} {ti ei : TyI} {k : IntKind} {n : Int} (hT : TabOK P T) (ho : o.op = .indexAddr t x ix) (hd : dstB nt o.dst = true) (ht : T t = some ti) (hk : ti.kind = .slice e) (he : T e = some ei) (hsz : Nat.beq 1 ei.size = true)
  (hx : s.ev x = some (.arr id)) (hob : s.obj id = some (.anc (bytV l m c) (.arr id))) (hi : s.ev ix = some (.pv (.int k n))) (hn : 0 <= n) (hlt : n.toNat < m) : OpTo P nt o s (s.putO o.dst (some (.aptr id 1 n.toNat 0))) :=
 OpTo.value hd fun W0 D0 D φ a w hI => by
  obtain ⟨hid,hr⟩ := hI.ev hx
  have hφ := byt_val hI hob
  generalize hv : a.eval x = v at hr
  cases hr with
  | arr id m' c' ad hφ' =>
   rw [hφ] at hφ'
   cases hφ'
   have hs : 1 = ei.size := Nat.eq_of_beq_eq_true hsz
   have hund := (hT.ty ht).slice hk
   have hilt : n < (m : Int) := by omega
   refine ⟨.pointer (some ((⟨l,0,none⟩ : Addr).add (n.toNat * ei.size))),?_,?_⟩
   ·simp [execOp,ho,hv,hI.ev_int hi,Instr.indexAt,asIntOf,underlying,hund,hn,hilt,(hT.ty he).run_size w]
   ·intro x' hx'; cases hx'
    refine ⟨by simpa [FV.lt] using hid,?_⟩
    rw [addr_add,Nat.zero_add,<- hs]
    exact .aptr id 1 n.toNat 0 l _ _ hφ
theorem op_byteStore {t id id1 l m c k : Nat} {x y : Operand} {i : TyI} {xs : List UInt8} {b : UInt8} (hT : TabOK P T) (ho : o.op = .store t x y) (hd : o.dst = none) (ht : T t = some i) (hsz : Nat.beq 1 i.size = true) (hx : s.ev x = some (.aptr id 1 k 0)) (hob : s.obj id = some (.anc (bytV l m c) (.arr id)))
  (hob1 : s.obj id1 = some (bytO xs l)) (hk : k < xs.length) (hy : s.ev y = some (.pv (.int .u8 b.toNat))) : OpTo P nt o s (s.setObj id1 (some (bytO (xs.set k b) l))):= by
 intro ro W0 D0 D φ a w hI hko K Q hK
 obtain ⟨_,hrx⟩ := hI.ev hx
 have hvy := hI.ev_int hy
 have hφ := byt_val hI hob
 have hs : 1 = i.size := Nat.eq_of_beq_eq_true hsz
 obtain ⟨hid1,_,_,hφ1,_,hB,hcs⟩ := hI.objs id1 _ hob1
 generalize hv : a.eval x = v at hrx
 cases hrx with
 | aptr id sz k off g n c hφ' =>
  rw [hφ] at hφ'
  cases hφ'
  obtain ⟨x0,hx0⟩ : ∃ x0,xs[k]? = some x0 := ⟨xs[k],by simp [hk]⟩
  obtain ⟨hc0,hf0⟩ := hcs k x0 hx0
  have hst : (store (⟨l,k,none⟩ : Addr) (.int .u8 b.toNat)).run P w = .ok () (w.setCell ⟨l,k,none⟩ (.int .u8 b.toNat)):= by
   rw [run_store P w _ _ _ rfl,hc0,hf0]; rfl
  have hrun : (execOp a.eval o).run P w = .ok .skip (w.setCell ⟨l,k,none⟩ (.int .u8 b.toNat)):= by
   have hca : (Value.int IntKind.u8 b.toNat).cells = #[.int .u8 b.toNat] := rfl
   simp only [execOp,ho,hv,hvy,Instr.storeAt,Instr.sureAddr,Sem.run_bind,Sem.run_pure,Result.andThen_ok,storeVar,(hT.ty ht).run_size w,<- hs,hca]
   simp [storeCells,Sem.run_bind,addr_add]
   rw [hst]; rfl
  have hlt : l < w.heap.size:= by
   unfold World.cell? at hc0
   by_cases h : l < w.heap.size
   ·exact h
   ·rw [Array.getElem?_eq_none (show w.heap.size <= l by omega)] at hc0; simp at hc0
  have hother : ∀ b',b' ≠ l -> (w.setCell ⟨l,k,none⟩ (.int .u8 b.toNat)).heap[b']? = w.heap[b']? := fun b' hb' => heap_setCell_other _ _ _ _ hb'
  refine wpIn_of (by rw [ho]; intro c hc; cases hc) ?_
  unfold Oper.wp
  rw [hrun]
  have hput : a.put o.dst undef = a := by rw [hd]; rfl
  show K (a.put o.dst undef) _
  rw [hput]
  refine hK D φ a _ (hI.chg id1 (fun j => j = id1) ⟨rfl,rfl,rfl,by simp,fun k hk => absurd hk (Nat.not_lt_zero _)⟩ ?_ (fun _ h => h) (fun b' hb' => .inl hb') (fun _ _ => rfl) (Nat.le_refl _) (fun t x hx => hx) ?_ ?_)
  ·intro b' _ hne
   exact hother b' (fun e => hne id1 _ rfl hob1 (by show b' = l; exact e))
  ·intro id' ob' hne ho'
   rw [ASt.obj_setObj,if_neg (fun e => hne e.symm)] at ho'
   exact ⟨hne,ho'⟩
  ·intro ob' ho'
   rw [ASt.obj_setObj,if_pos rfl] at ho'
   cases ho'
   refine ⟨hid1,rfl,⟨bytE_mono _ _,hφ1,rfl,fun b => Iff.rfl,fun j x hj => ?_⟩,fun b' hb' => ?_⟩
   ·rw [World.frozen?_setCell]
    rw [List.getElem?_set] at hj
    by_cases hkj : k = j
    ·subst hkj
     rw [if_pos rfl,if_pos hk] at hj
     cases hj
     exact ⟨World.cell?_setCell_same _ _ _ hc0,hf0⟩
    ·rw [if_neg hkj] at hj
     obtain ⟨q1,q2⟩ := hcs j x hj
     refine ⟨?_,q2⟩
     rw [World.cell?_setCell_other _ _ _ _ (by intro e; cases e; exact hkj rfl)]
     exact q1
   ·obtain ⟨g1,g2,g3⟩ := hI.own id1 _ b' hob1 hb'
    exact ⟨g1,by simpa using g3,.inr ⟨id1,_,rfl,hob1,hb'⟩⟩
theorem op_bytesBack {src dst e : TypeId} {x : Operand} {si di ei : TyI} {id id1 l c n : Nat} {xs : List UInt8} (hT : TabOK P T) (ho : o.op = .convert src dst x) (hd : dstB nt o.dst = true) (hs : T src = some si) (hsk : si.kind = .slice e) (he : T e = some ei) (hek : ei.kind = .int .u8) (ht : T dst = some di) (hdk : di.kind = .str)
  (hx : s.ev x = some (.arr id)) (hob : s.obj id = some (.anc (bytV l n c) (.arr id))) (hn : n = xs.length) (hob1 : s.obj id1 = some (bytO xs l)) : OpTo P nt o s (s.putO o.dst (some (.pv (.str ⟨xs.toArray⟩)))) :=
 OpTo.value hd fun W0 D0 D φ a w hI => by
  subst hn
  obtain ⟨hid,hr⟩ := hI.ev hx
  have hφ := byt_val hI hob
  obtain ⟨_,_,_,_,_,_,hcs⟩ := hI.objs id1 _ hob1
  generalize hv : a.eval x = v at hr
  cases hr with
  | arr id m' c' ad hφ' =>
   rw [hφ] at hφ'
   cases hφ'
   have hrun := run_convert_bytes_back (P := P) w src dst e ⟨l,0,none⟩ c xs ((hT.ty hs).slice hsk) ((hT.ty he).int hek) ((hT.ty ht).str hdk) (fun j hj => by
    rw [addr_add,Nat.zero_add]
    exact (hcs j xs[j] (by simp [hj])).1)
   refine ⟨.string ⟨xs.toArray⟩,by simp only [execOp,ho,hv,Sem.run_bind,hrun,Result.andThen_ok,Sem.run_pure],fun x' hx' => ?_⟩
   cases hx'
   exact ⟨rfl,.pv _ _ (.str _)⟩
end
end Go.Abs
namespace Go.Abs
open Go.Proofs Go.RowKit
set_option linter.unusedVariables false
set_option linter.unusedSimpArgs false
set_option maxRecDepth 100000
theorem f92o {s : List UInt8} (hs : s.length <= 500) (h : readM s = none) : ACalls Tryz.prog 92 [.str (bytesOf s)] (fun r => r = .tup [eHouse [],eStocks [],vi 4]):= by
 have k := f92 s
 rw [show readE s = ([],[],4) by unfold readE; rw [if_neg (by omega),h]] at k
 exact k
theorem wrapd {b : UInt8} (h : 48 <= b.toNat /\ b.toNat <= 57) : IntKind.i64.wrap (IntKind.u8.wrap ((b.toNat : Int) - 48)) = (b.toNat : Int) - 48:= by
 unfold IntKind.wrap; simp [IntKind.signed,IntKind.bits]; omega
set_option maxHeartbeats 8000000 in
theorem f26y {h : List Dye} {l : List Stock} (hs : slimB h = true) (hst : stockedB l = true) (h1 : isHouseB h = true) (h2 : areStocksB h l 0 = true) {n g : Int} (hg9 : 0 <= g /\ g <= 9) {b : UInt8} (hn : 0 <= n) (hnb : (textB h l).data.toList[n.toNat]? = some b) (hbd : 48 <= b.toNat /\ b.toNat <= 57) (hne : (b.toNat : Int) - 48 ≠ g) :
  ACalls Tryz.prog 26 [eHouse h,eStocks l,vi n,vi g] (fun r => r = .pv (.bool true)):= by
 have hO := slim_houseOK hs
 have hO2 := (stocked_ok hst).2.2
 have k27 := f27 h
 have k47 := f47 l
 have k30 := f30 h hO
 have k91 := f91 h l 0 hO.1 hO2
 have k90 := f90K hO hO2
 rw [hs] at k27
 rw [hst] at k47
 rw [h1] at k30
 rw [h2] at k91
 rw [print_y h1 h2] at k90
 have k90 : ACalls Tryz.prog 90 [eHouse h,eStocks l] (fun r => r = .tup [.str (textB h l),vi 0]) := k90
 have hl6 := text_len h1 h2
 obtain ⟨b',hb'⟩ : ∃ b' : UInt8,(b'.toNat : Int) = 48 + g := ⟨UInt8.ofNat (48 + g).toNat,by simp only [UInt8.toNat_ofNat',Nat.reducePow]; omega⟩
 have hsp := spoilt h1 h2 hnb hbd (by omega : 48 <= b'.toNat /\ b'.toNat <= 57) (fun e => hne (by subst e; omega))
 have hte : textB h l = bytesOf (textB h l).data.toList := bytes_ext rfl
 rw [hte] at k90
 generalize (textB h l).data.toList = xs at *
 have hnl : n.toNat < xs.length := (List.getElem?_eq_some_iff.1 hnb).1
 have k92 := f92o (s := xs.set n.toNat b') (by rw [List.length_set]; exact hl6) hsp
 have hsz := bytesOf_size xs
 have hbx : (bytesOf xs)[n.toNat]? = some b:= by
  rw [getElem?_pos (bytesOf xs) n.toNat (by rw [hsz]; exact hnl)]
  have := (List.getElem?_eq_some_iff.1 hnb).2
  exact congrArg some ((rfl : (bytesOf xs)[n.toNat]'(by rw [hsz]; exact hnl) = xs[n.toNat]'hnl).trans this)
 have hw := wrapd hbd
 have hwb : IntKind.u8.wrap (48 + g) = (b'.toNat : Int):= by
  rw [hb']; unfold IntKind.wrap; simp [IntKind.signed,IntKind.bits]; omega
 refine ACalls.of_body hT Tryz.func26 rfl (by kernel_rfl) rfl ?_
 (repeat' (first | refine AL_skip rfl rfl ?_ | refine stq ?_ | (refine AL_do2 rfl ?_; first | refine ⟨_,op_call1 rfl rfl rfl rfl (k27),nrmA rfl ?_⟩ | refine ⟨_,op_call1 rfl rfl rfl rfl (k47),nrmA rfl ?_⟩ | refine ⟨_,op_call1 rfl rfl rfl rfl (k30),nrmA rfl ?_⟩ | refine ⟨_,op_call1 rfl rfl rfl rfl (k91),nrmA rfl ?_⟩ | refine ⟨_,op_call1 rfl rfl rfl rfl (k90),nrmA rfl ?_⟩ | refine ⟨_,op_len_str hT rfl rfl rfl rfl rfl,?_⟩ | refine ⟨_,op_index_str hT rfl rfl rfl rfl rfl rfl (by omega) hbx,?_⟩ | refine ⟨_,op_bin (k := .u8) (op := .sub) rfl rfl rfl rfl rfl,?_⟩) | ((first | (with_reducible refine AL_id ?_); (fail_if_success (refine AL_glit rfl rfl rfl (by first | exact .inl (by with_reducible rfl) | exact .inr (by with_reducible rfl)) ?_)); first | refine AL_gdec rfl rfl rfl (fun hg => ?_) (fun hg => ?_) | refine AL_gnot rfl rfl rfl (fun hg => ?_) (fun hg => ?_) | refine AL_gcases rfl rfl rfl (fun hg => ?_) (fun hg => ?_)) <;> (try (exfalso; omega))) | refine AW_if rfl (fun hc => absurd hc (by omega)) (fun _ => ?_) | refine AW_if rfl (fun _ => ?_) (fun hc => absurd (by omega) hc)))
 refine AL_doS rfl (op_strBytes (xs := xs) hT rfl rfl rfl rfl rfl rfl rfl rfl rfl) ?_
 rintro s' ⟨l,c,rfl⟩
 (repeat (refine stq ?_))
 rw [hwb]
 refine AL_do2 rfl ⟨_,op_byteAddr hT rfl rfl rfl rfl rfl rfl rfl rfl rfl (by omega) hnl,?_⟩
 (repeat (refine stq ?_))
 refine AL_do2 rfl ⟨_,op_byteStore (id1 := 1) (b := b') hT rfl rfl rfl rfl rfl rfl rfl hnl rfl,?_⟩
 (repeat (refine stq ?_))
 refine AL_do2 rfl ⟨_,op_bytesBack (id1 := 1) hT rfl rfl rfl rfl rfl rfl rfl rfl rfl rfl (by rw [List.length_set]) rfl,?_⟩
 (repeat' (first | refine AL_skip rfl rfl ?_ | refine stq ?_ | (refine AL_do2 rfl ?_; first | refine ⟨_,op_call1 rfl rfl rfl rfl (k92),nrmA rfl ?_⟩ | refine ⟨_,op_call1 rfl rfl rfl rfl (f28),nrmA rfl ?_⟩) | ((first | (with_reducible refine AL_id ?_); (fail_if_success (refine AL_glit rfl rfl rfl (by first | exact .inl (by with_reducible rfl) | exact .inr (by with_reducible rfl)) ?_)); first | refine AL_gdec rfl rfl rfl (fun hg => ?_) (fun hg => ?_) | refine AL_gnot rfl rfl rfl (fun hg => ?_) (fun hg => ?_) | refine AL_gcases rfl rfl rfl (fun hg => ?_) (fun hg => ?_)) <;> (try (exfalso; omega))) | refine AW_if rfl (fun hc => absurd hc (by omega)) (fun _ => ?_) | refine AW_if rfl (fun _ => ?_) (fun hc => absurd (by omega) hc)))
 all_goals first | exact ⟨_,_,rfl,rfl,rfl⟩ | (exfalso; omega)
set_option maxHeartbeats 8000000 in
theorem f26 (h : List Dye) (l : List Stock) (n g : Int) : ACalls Tryz.prog 26 [eHouse h,eStocks l,vi n,vi g] (fun r => r = .pv (.bool true)):= by
 have k27 := f27 h
 have k47 := f47 l
 cases hs : slimB h with
 | false =>
  rw [hs] at k27
  refine ACalls.of_body hT Tryz.func26 rfl (by kernel_rfl) rfl ?_
  (repeat' (first | refine AL_skip rfl rfl ?_ | refine stq ?_ | (refine AL_do2 rfl ?_; first | refine ⟨_,op_call1 rfl rfl rfl rfl (k27),nrmA rfl ?_⟩ | refine ⟨_,op_call1 rfl rfl rfl rfl (f28),nrmA rfl ?_⟩) | ((first | (with_reducible refine AL_id ?_); (fail_if_success (refine AL_glit rfl rfl rfl (by first | exact .inl (by with_reducible rfl) | exact .inr (by with_reducible rfl)) ?_)); first | refine AL_gdec rfl rfl rfl (fun hg => ?_) (fun hg => ?_) | refine AL_gnot rfl rfl rfl (fun hg => ?_) (fun hg => ?_) | refine AL_gcases rfl rfl rfl (fun hg => ?_) (fun hg => ?_)) <;> (try (exfalso; omega))) | refine AW_if rfl (fun hc => absurd hc (by omega)) (fun _ => ?_) | refine AW_if rfl (fun _ => ?_) (fun hc => absurd (by omega) hc)))
  all_goals first | exact ⟨_,_,rfl,rfl,rfl⟩ | (exfalso; omega)
 | true =>
  cases hst : stockedB l with
  | false =>
   rw [hs] at k27
   rw [hst] at k47
   refine ACalls.of_body hT Tryz.func26 rfl (by kernel_rfl) rfl ?_
   (repeat' (first | refine AL_skip rfl rfl ?_ | refine stq ?_ | (refine AL_do2 rfl ?_; first | refine ⟨_,op_call1 rfl rfl rfl rfl (k27),nrmA rfl ?_⟩ | refine ⟨_,op_call1 rfl rfl rfl rfl (k47),nrmA rfl ?_⟩ | refine ⟨_,op_call1 rfl rfl rfl rfl (f28),nrmA rfl ?_⟩) | ((first | (with_reducible refine AL_id ?_); (fail_if_success (refine AL_glit rfl rfl rfl (by first | exact .inl (by with_reducible rfl) | exact .inr (by with_reducible rfl)) ?_)); first | refine AL_gdec rfl rfl rfl (fun hg => ?_) (fun hg => ?_) | refine AL_gnot rfl rfl rfl (fun hg => ?_) (fun hg => ?_) | refine AL_gcases rfl rfl rfl (fun hg => ?_) (fun hg => ?_)) <;> (try (exfalso; omega))) | refine AW_if rfl (fun hc => absurd hc (by omega)) (fun _ => ?_) | refine AW_if rfl (fun _ => ?_) (fun hc => absurd (by omega) hc)))
   all_goals first | exact ⟨_,_,rfl,rfl,rfl⟩ | (exfalso; omega)
  | true =>
   have hO := slim_houseOK hs
   have hO2 := (stocked_ok hst).2.2
   have k30 := f30 h hO
   have k91 := f91 h l 0 hO.1 hO2
   have k90 := f90K hO hO2
   cases h1 : isHouseB h with
   | false =>
    rw [hs] at k27
    rw [hst] at k47
    rw [h1] at k30
    refine ACalls.of_body hT Tryz.func26 rfl (by kernel_rfl) rfl ?_
    (repeat' (first | refine AL_skip rfl rfl ?_ | refine stq ?_ | (refine AL_do2 rfl ?_; first | refine ⟨_,op_call1 rfl rfl rfl rfl (k27),nrmA rfl ?_⟩ | refine ⟨_,op_call1 rfl rfl rfl rfl (k47),nrmA rfl ?_⟩ | refine ⟨_,op_call1 rfl rfl rfl rfl (k30),nrmA rfl ?_⟩ | refine ⟨_,op_call1 rfl rfl rfl rfl (f28),nrmA rfl ?_⟩) | ((first | (with_reducible refine AL_id ?_); (fail_if_success (refine AL_glit rfl rfl rfl (by first | exact .inl (by with_reducible rfl) | exact .inr (by with_reducible rfl)) ?_)); first | refine AL_gdec rfl rfl rfl (fun hg => ?_) (fun hg => ?_) | refine AL_gnot rfl rfl rfl (fun hg => ?_) (fun hg => ?_) | refine AL_gcases rfl rfl rfl (fun hg => ?_) (fun hg => ?_)) <;> (try (exfalso; omega))) | refine AW_if rfl (fun hc => absurd hc (by omega)) (fun _ => ?_) | refine AW_if rfl (fun _ => ?_) (fun hc => absurd (by omega) hc)))
    all_goals first | exact ⟨_,_,rfl,rfl,rfl⟩ | (exfalso; omega)
   | true =>
    cases h2 : areStocksB h l 0 with
    | false =>
     rw [hs] at k27
     rw [hst] at k47
     rw [h1] at k30
     rw [h2] at k91
     refine ACalls.of_body hT Tryz.func26 rfl (by kernel_rfl) rfl ?_
     (repeat' (first | refine AL_skip rfl rfl ?_ | refine stq ?_ | (refine AL_do2 rfl ?_; first | refine ⟨_,op_call1 rfl rfl rfl rfl (k27),nrmA rfl ?_⟩ | refine ⟨_,op_call1 rfl rfl rfl rfl (k47),nrmA rfl ?_⟩ | refine ⟨_,op_call1 rfl rfl rfl rfl (k30),nrmA rfl ?_⟩ | refine ⟨_,op_call1 rfl rfl rfl rfl (k91),nrmA rfl ?_⟩ | refine ⟨_,op_call1 rfl rfl rfl rfl (f28),nrmA rfl ?_⟩) | ((first | (with_reducible refine AL_id ?_); (fail_if_success (refine AL_glit rfl rfl rfl (by first | exact .inl (by with_reducible rfl) | exact .inr (by with_reducible rfl)) ?_)); first | refine AL_gdec rfl rfl rfl (fun hg => ?_) (fun hg => ?_) | refine AL_gnot rfl rfl rfl (fun hg => ?_) (fun hg => ?_) | refine AL_gcases rfl rfl rfl (fun hg => ?_) (fun hg => ?_)) <;> (try (exfalso; omega))) | refine AW_if rfl (fun hc => absurd hc (by omega)) (fun _ => ?_) | refine AW_if rfl (fun _ => ?_) (fun hc => absurd (by omega) hc)))
     all_goals first | exact ⟨_,_,rfl,rfl,rfl⟩ | (exfalso; omega)
    | true =>
     by_cases hg9 : 0 <= g /\ g <= 9
     ·rw [print_y h1 h2] at k90
      have k90 : ACalls Tryz.prog 90 [eHouse h,eStocks l] (fun r => r = .tup [.str (textB h l),vi 0]) := k90
      have hte : textB h l = bytesOf (textB h l).data.toList := bytes_ext rfl
      by_cases hn : 0 <= n /\ n < (textB h l).data.toList.length
      ·obtain ⟨b,hnb⟩ : ∃ b,(textB h l).data.toList[n.toNat]? = some b := ⟨(textB h l).data.toList[n.toNat]'(by omega),by simp⟩
       by_cases hbd : (48 <= b.toNat /\ b.toNat <= 57) /\ (b.toNat : Int) - 48 ≠ g
       ·exact f26y hs hst h1 h2 hg9 hn.1 hnb hbd.1 hbd.2
       ·rw [hs] at k27
        rw [hst] at k47
        rw [h1] at k30
        rw [h2] at k91
        rw [hte] at k90
        generalize (textB h l).data.toList = xs at *
        have hnl : n.toNat < xs.length := (List.getElem?_eq_some_iff.1 hnb).1
        have hsz := bytesOf_size xs
        have hbx : (bytesOf xs)[n.toNat]? = some b:= by
         rw [getElem?_pos (bytesOf xs) n.toNat (by rw [hsz]; exact hnl)]
         have := (List.getElem?_eq_some_iff.1 hnb).2
         exact congrArg some ((rfl : (bytesOf xs)[n.toNat]'(by rw [hsz]; exact hnl) = xs[n.toNat]'hnl).trans this)
        have hb255 := b.toNat_lt
        by_cases hdg : 48 <= b.toNat /\ b.toNat <= 57
        ·have hw := wrapd hdg
         refine ACalls.of_body hT Tryz.func26 rfl (by kernel_rfl) rfl ?_
         (repeat' (first | refine AL_skip rfl rfl ?_ | refine stq ?_ | (refine AL_do2 rfl ?_; first | refine ⟨_,op_call1 rfl rfl rfl rfl (k27),nrmA rfl ?_⟩ | refine ⟨_,op_call1 rfl rfl rfl rfl (k47),nrmA rfl ?_⟩ | refine ⟨_,op_call1 rfl rfl rfl rfl (k30),nrmA rfl ?_⟩ | refine ⟨_,op_call1 rfl rfl rfl rfl (k91),nrmA rfl ?_⟩ | refine ⟨_,op_call1 rfl rfl rfl rfl (k90),nrmA rfl ?_⟩ | refine ⟨_,op_call1 rfl rfl rfl rfl (f28),nrmA rfl ?_⟩ | refine ⟨_,op_len_str hT rfl rfl rfl rfl rfl,?_⟩ | refine ⟨_,op_index_str hT rfl rfl rfl rfl rfl rfl (by omega) hbx,?_⟩ | refine ⟨_,op_bin (k := .u8) (op := .sub) rfl rfl rfl rfl rfl,?_⟩) | ((first | (with_reducible refine AL_id ?_); (fail_if_success (refine AL_glit rfl rfl rfl (by first | exact .inl (by with_reducible rfl) | exact .inr (by with_reducible rfl)) ?_)); first | refine AL_gdec rfl rfl rfl (fun hg => ?_) (fun hg => ?_) | refine AL_gnot rfl rfl rfl (fun hg => ?_) (fun hg => ?_) | refine AL_gcases rfl rfl rfl (fun hg => ?_) (fun hg => ?_)) <;> (try (exfalso; omega))) | refine AW_if rfl (fun hc => absurd hc (by omega)) (fun _ => ?_) | refine AW_if rfl (fun _ => ?_) (fun hc => absurd (by omega) hc)))
         all_goals first | exact ⟨_,_,rfl,rfl,rfl⟩ | (exfalso; omega)
        ·refine ACalls.of_body hT Tryz.func26 rfl (by kernel_rfl) rfl ?_
         (repeat' (first | refine AL_skip rfl rfl ?_ | refine stq ?_ | (refine AL_do2 rfl ?_; first | refine ⟨_,op_call1 rfl rfl rfl rfl (k27),nrmA rfl ?_⟩ | refine ⟨_,op_call1 rfl rfl rfl rfl (k47),nrmA rfl ?_⟩ | refine ⟨_,op_call1 rfl rfl rfl rfl (k30),nrmA rfl ?_⟩ | refine ⟨_,op_call1 rfl rfl rfl rfl (k91),nrmA rfl ?_⟩ | refine ⟨_,op_call1 rfl rfl rfl rfl (k90),nrmA rfl ?_⟩ | refine ⟨_,op_call1 rfl rfl rfl rfl (f28),nrmA rfl ?_⟩ | refine ⟨_,op_len_str hT rfl rfl rfl rfl rfl,?_⟩ | refine ⟨_,op_index_str hT rfl rfl rfl rfl rfl rfl (by omega) hbx,?_⟩ | refine ⟨_,op_bin (k := .u8) (op := .sub) rfl rfl rfl rfl rfl,?_⟩) | ((first | (with_reducible refine AL_id ?_); (fail_if_success (refine AL_glit rfl rfl rfl (by first | exact .inl (by with_reducible rfl) | exact .inr (by with_reducible rfl)) ?_)); first | refine AL_gdec rfl rfl rfl (fun hg => ?_) (fun hg => ?_) | refine AL_gnot rfl rfl rfl (fun hg => ?_) (fun hg => ?_) | refine AL_gcases rfl rfl rfl (fun hg => ?_) (fun hg => ?_)) <;> (try (exfalso; omega))) | refine AW_if rfl (fun hc => absurd hc (by omega)) (fun _ => ?_) | refine AW_if rfl (fun _ => ?_) (fun hc => absurd (by omega) hc)))
         all_goals first | exact ⟨_,_,rfl,rfl,rfl⟩ | (exfalso; omega)
      ·rw [hs] at k27
       rw [hst] at k47
       rw [h1] at k30
       rw [h2] at k91
       rw [hte] at k90
       generalize (textB h l).data.toList = xs at *
       have hsz := bytesOf_size xs
       refine ACalls.of_body hT Tryz.func26 rfl (by kernel_rfl) rfl ?_
       (repeat' (first | refine AL_skip rfl rfl ?_ | refine stq ?_ | (refine AL_do2 rfl ?_; first | refine ⟨_,op_call1 rfl rfl rfl rfl (k27),nrmA rfl ?_⟩ | refine ⟨_,op_call1 rfl rfl rfl rfl (k47),nrmA rfl ?_⟩ | refine ⟨_,op_call1 rfl rfl rfl rfl (k30),nrmA rfl ?_⟩ | refine ⟨_,op_call1 rfl rfl rfl rfl (k91),nrmA rfl ?_⟩ | refine ⟨_,op_call1 rfl rfl rfl rfl (k90),nrmA rfl ?_⟩ | refine ⟨_,op_call1 rfl rfl rfl rfl (f28),nrmA rfl ?_⟩ | refine ⟨_,op_len_str hT rfl rfl rfl rfl rfl,?_⟩) | ((first | (with_reducible refine AL_id ?_); (fail_if_success (refine AL_glit rfl rfl rfl (by first | exact .inl (by with_reducible rfl) | exact .inr (by with_reducible rfl)) ?_)); first | refine AL_gdec rfl rfl rfl (fun hg => ?_) (fun hg => ?_) | refine AL_gnot rfl rfl rfl (fun hg => ?_) (fun hg => ?_) | refine AL_gcases rfl rfl rfl (fun hg => ?_) (fun hg => ?_)) <;> (try (exfalso; omega))) | refine AW_if rfl (fun hc => absurd hc (by omega)) (fun _ => ?_) | refine AW_if rfl (fun _ => ?_) (fun hc => absurd (by omega) hc)))
       all_goals first | exact ⟨_,_,rfl,rfl,rfl⟩ | (exfalso; omega)
     ·rw [hs] at k27
      rw [hst] at k47
      rw [h1] at k30
      rw [h2] at k91
      refine ACalls.of_body hT Tryz.func26 rfl (by kernel_rfl) rfl ?_
      (repeat' (first | refine AL_skip rfl rfl ?_ | refine stq ?_ | (refine AL_do2 rfl ?_; first | refine ⟨_,op_call1 rfl rfl rfl rfl (k27),nrmA rfl ?_⟩ | refine ⟨_,op_call1 rfl rfl rfl rfl (k47),nrmA rfl ?_⟩ | refine ⟨_,op_call1 rfl rfl rfl rfl (k30),nrmA rfl ?_⟩ | refine ⟨_,op_call1 rfl rfl rfl rfl (k91),nrmA rfl ?_⟩ | refine ⟨_,op_call1 rfl rfl rfl rfl (f28),nrmA rfl ?_⟩) | ((first | (with_reducible refine AL_id ?_); (fail_if_success (refine AL_glit rfl rfl rfl (by first | exact .inl (by with_reducible rfl) | exact .inr (by with_reducible rfl)) ?_)); first | refine AL_gdec rfl rfl rfl (fun hg => ?_) (fun hg => ?_) | refine AL_gnot rfl rfl rfl (fun hg => ?_) (fun hg => ?_) | refine AL_gcases rfl rfl rfl (fun hg => ?_) (fun hg => ?_)) <;> (try (exfalso; omega))) | refine AW_if rfl (fun hc => absurd hc (by omega)) (fun _ => ?_) | refine AW_if rfl (fun _ => ?_) (fun hc => absurd (by omega) hc)))
      all_goals first | exact ⟨_,_,rfl,rfl,rfl⟩ | (exfalso; omega)
end Go.Abs
