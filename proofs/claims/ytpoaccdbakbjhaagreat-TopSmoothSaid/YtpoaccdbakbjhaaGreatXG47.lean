/- Which paths each hand may walk. -/
import Derived.Test.YtpoaccdbakbjhaaGreatXG45
import Derived.Test.YtpoaccdbakbjhaaGreatXG46
import Derived.Test.YtpoaccdbakbjhaaGreatXG39
import Derived.Test.YtpoaccdbakbjhaaGreatXG40
import Derived.Test.YtpoaccdbakbjhaaGreatXG25
set_option linter.unusedVariables false
set_option linter.unusedSimpArgs false
namespace Go.Abs
open Go.Proofs
set_option maxRecDepth 100000
def ownI (h:SHouse) (k i:Nat):List (List (List Int)):=h.hands.mapIdx fun j x=>((walksL h).take (if j < i then k + 1 else k)).filter (keepsB h x)
def ownN (h:SHouse) (k:Nat):List (List (List Int)):=ownI h k 0
theorem ownI_len (h:SHouse) (k i:Nat):(ownI h k i).length = h.hands.length:=by rw [ownI,List.length_mapIdx]
theorem ownI_all (h:SHouse) (k:Nat):ownI h k h.hands.length = ownN h (k + 1):= by
 apply List.ext_getElem?
 intro j
 rw [ownN,ownI,ownI,List.getElem?_mapIdx,List.getElem?_mapIdx]
 cases hq:h.hands[j]? with
 | none=>rfl
 | some x =>
  have hj:=(List.getElem?_eq_some_iff.1 hq).1
  simp only [Option.map_some,if_pos hj,Nat.not_lt_zero,if_false]
theorem ownI_succ {h:SHouse} {k i:Nat} {p:List Int} {x:SHand} (hp:(walksL h)[k]? = some p) (hx:h.hands[i]? = some x):∃ l,(ownI h k i)[i]? = some l /\ l.length <= k /\ ownI h k (i + 1) = (ownI h k i).set i (l ++ if keepsB h x p then [p] else []):= by
 refine ⟨((walksL h).take k).filter (keepsB h x),?_,?_,?_⟩
 ·rw [ownI,List.getElem?_mapIdx,hx]; simp
 ·refine Nat.le_trans (List.length_filter_le _ _) ?_
  rw [List.length_take]; omega
 ·apply List.ext_getElem?
  intro j
  have hi:=(List.getElem?_eq_some_iff.1 hx).1
  rw [List.getElem?_set,ownI_len]
  by_cases hij:i = j
  ·subst hij
   rw [if_pos rfl,if_pos hi,ownI,List.getElem?_mapIdx,hx,Option.map_some,if_pos (by omega),List.take_add_one,hp,List.filter_append]
   simp only [Option.toList_some,List.filter_cons,List.filter_nil]
  ·rw [if_neg hij,ownI,ownI,List.getElem?_mapIdx,List.getElem?_mapIdx]
   cases hq:h.hands[j]? with
   | none=>rfl
   | some y =>
    simp only [Option.map_some]
    by_cases h1:j < i
    ·rw [if_pos (by omega),if_pos h1]
    ·rw [if_neg (by omega),if_neg h1]
theorem own_zero (h:SHouse):ownN h 0 = List.replicate h.hands.length []:= by
 apply List.ext_getElem?
 intro j
 rw [ownN,ownI,List.getElem?_mapIdx,List.getElem?_replicate]
 cases hq:h.hands[j]? with
 | none =>
  have h1:=List.getElem?_eq_none_iff.1 hq
  show none = _
  rw [if_neg (fun h2=>by omega)]
 | some y=>rw [if_pos (List.getElem?_eq_some_iff.1 hq).1]; simp
def RowsOf (rows:List (Value × List (List PV))) (own:List (List (List Int))):Prop:=rows.map (·.2) = own.map fun l=>l.map eL1
theorem rowsOf_get {rows:List (Value × List (List PV))} {own:List (List (List Int))} (h:RowsOf rows own) {i:Nat} {l:List (List Int)} (hl:own[i]? = some l):∃ v,rows[i]? = some (v,l.map eL1):= by
 have h1:=congrArg (fun (q:List (List (List PV)))=>q[i]?) h
 simp only [List.getElem?_map,hl,Option.map_some] at h1
 obtain ⟨⟨v,es⟩,hr,he⟩:=Option.map_eq_some_iff.1 h1
 simp only at he
 subst he
 exact ⟨v,hr⟩
theorem rowsOf_set {rows:List (Value × List (List PV))} {own:List (List (List Int))} (h:RowsOf rows own) (i:Nat) (v:Value) (l:List (List Int)):RowsOf (rows.set i (v,l.map eL1)) (own.set i l):= by
 rw [RowsOf,List.map_set,List.map_set,h]
theorem rowsOf_len {rows:List (Value × List (List PV))} {own:List (List (List Int))} (h:RowsOf rows own):rows.length = own.length:= by
 have:=congrArg List.length h
 simpa using this
theorem rowsOf_own {rows:List (Value × List (List PV))} {own:List (List (List Int))} (h:RowsOf rows own):PV.sl (rows.map fun p=>[.sl p.2]) = eOwn own:= by
 have h1:rows.map (fun p=>[PV.sl p.2]) = (rows.map (·.2)).map fun es=>[PV.sl es]:=by rw [List.map_map]; rfl
 rw [h1,h,List.map_map]; rfl
theorem sel_get {rows:List (Value × List (List PV))} {i:Nat} {v v':Value} {es ns:List (List PV)} (hv:rows[i]? = some (v,es)) {j:Nat} {y:Value × Option (List (List PV))} (hy:((rows.set i (v',ns)).map fun p=>(p.1,some p.2))[j]? = some y):((rows.map fun p=>(p.1,some p.2)).set i (v,none) ++ [(v',some ns)])[if j = i then rows.length else j]? = some y:= by
 have hi:=(List.getElem?_eq_some_iff.1 hv).1
 rw [List.getElem?_map,List.getElem?_set] at hy
 by_cases h:j = i
 ·subst h
  rw [if_pos rfl,if_pos hi] at hy
  rw [if_pos rfl,List.getElem?_append_right (by simp)]
  simpa using hy
 ·rw [if_neg (fun q=>h q.symm)] at hy
  rw [if_neg h]
  have hj:j < rows.length:= by
   cases hq:rows[j]? with
   | none=>rw [hq] at hy; cases hy
   | some z=>exact (List.getElem?_eq_some_iff.1 hq).1
  rw [List.getElem?_append_left (by simpa using hj),List.getElem?_set_ne (fun q=>h q.symm),List.getElem?_map]
  exact hy
theorem sel_inj {n i a b:Nat} (ha:a < n) (hb:b < n) (h:(if a = i then n else a) = (if b = i then n else b)):a = b:= by
 split at h <;> split at h <;> omega
abbrev poolR (rows:List (Value × List (List PV))):AObj:=.pool 33 1 (rows.map fun p=>(p.1,some p.2))
abbrev outRw (rows:List (Value × List (List PV))):AObj:=.arr 31 1 (rows.map fun p=>[.raw p.1])
theorem walks_ok {h:SHouse}:∀ (d:Nat) (now:List Int),now.length + d = h.sets.length -> (∀ r ∈ now,r = -1 \/ roomOK r) -> ∀ p ∈ walksP h d now,pathOK h p
 | 0,now,hn,hr,p,hp=>by
  rw [walksP,List.mem_singleton] at hp
  subst hp
  exact ⟨by omega,hr⟩
 | d + 1,now,hn,hr,p,hp=>by
  rw [walksP,List.mem_flatMap] at hp
  obtain ⟨r,hro,hp⟩:=hp
  split at hp
  ·refine walks_ok d (now ++ [r]) (by rw [List.length_append,List.length_singleton]; omega) (fun y hy=>?_) p hp
   rcases List.mem_append.1 hy with hy|hy
   ·exact hr y hy
   ·rw [List.mem_singleton] at hy
    subst hy
    obtain ⟨i,hi⟩:=List.mem_iff_getElem?.1 hro
    exact (opt_room hi).2
  ·cases hp
theorem walksL_ok {h:SHouse}:∀ p ∈ walksL h,pathOK h p:=walks_ok _ [] (by simp) (by simp)
abbrev roO (h:SHouse) (l:Nat) (av:Nat -> Value) (rows:List (Value × List (List PV))):List (Nat × AObj):=[(1,dayO h l),(2,.box ((eDayC h (keysL h) l).map FV.pv)),(3,outRw rows),(4,.box [.arr 3]),(5,poolR rows),(6,.anc (av 1) (.pv (.ptr (eHouseC h)))),(7,.anc (av 5) (.box 2 0)),(8,.anc (av 6) (.box 4 0))]
theorem own_ok {h:SHouse} (hwl:(walksL h).length <= 1000) {k:Nat}:∀ l ∈ ownN h k,l.length <= 1000 /\ ∀ p ∈ l,pathOK h p:=fun l hl=>by
 rw [ownN,ownI] at hl
 obtain ⟨i,hi,rfl⟩:=List.mem_mapIdx.1 hl
 refine ⟨Nat.le_trans (List.length_filter_le _ _) (by rw [List.length_take]; omega),fun p hp=>walksL_ok p (List.mem_of_mem_take (List.mem_filter.1 hp).1)⟩
set_option maxHeartbeats 8000000 in
theorem t25 (h:SHouse) (hh:HouseP h) (hK:KeysP (keysL h)) (hwl:(walksL h).length <= 1000) (fw:Int) (out:List (List Int)) (hout:out ≠ [])
  (hsr:searchF h.hands.length (ownN h (walksL h).length) h.hands.length [] h.sets 0 ⟨h.hands.length + 1,none⟩ = ⟨fw,some out⟩):ACalls Tryz.prog 25 [eHouse h] (fun x=>x = .tup [eLists out,vi fw,vi 0]):= by
 have k59:=fun av=>t59 h hh (ownN h (walksL h).length) (ownI_len _ _ _) (own_ok hwl) h.hands.length [] h.sets 0 (by simp) rfl hh.set (by simp) (h.hands.length + 1) none av
 rw [hsr] at k59
 dsimp only at k59
 have k53:=t53 h hh
 have k54:=t54 h hh hK
 have k55:=t55 h
 have hit:=it129 h hh
 refine ACalls.of_body hT Tryz.func25 rfl (by kernel_rfl) rfl ?_
 (repeat (refine stq ?_))
 refine AL_boxPtr 1 (ps:=eHouseC h) rfl rfl ?_
 (repeat' (first|refine stq ?_|(refine AL_do2 rfl ?_; first|refine ⟨_,op_call1 rfl rfl rfl rfl (k53),nrmA rfl ?_⟩)|(with_reducible refine AL_id ?_); (fail_if_success (refine glq rfl rfl rfl ?_)); first|refine AL_gdec rfl rfl rfl (fun hg=>?_) (fun hg=>?_)|refine AL_gnot rfl rfl rfl (fun hg=>?_) (fun hg=>?_)|refine AL_gcases rfl rfl rfl (fun hg=>?_) (fun hg=>?_)))
 refine AL_doS rfl (op_callXs (objs:=[]) (n:=0) [] [] [] (fun av=>k54) rfl rfl rfl rfl (by (repeat' (first|exact trivial|refine And.intro ?_ ?_)); all_goals (first|rfl|decide)) rfl (by (repeat' (first|exact trivial|refine And.intro ?_ ?_)); all_goals (first|rfl|decide)) rfl trivial (by simp) (fun av sf h=>trivial)) ?_
 rintro s' ⟨av',sf,⟨l,rfl⟩,rfl⟩
 (repeat (refine stq ?_))
 refine AL_do2 rfl ⟨_,op_makeSliceNil (n:=h.hands.length) hT rfl rfl rfl rfl rfl rfl rfl rfl rfl (by have:=hh.n4; omega) rfl,?_⟩
 (repeat' (first|refine stq ?_|(refine AL_do2 rfl ?_; first|refine ⟨_,op_call1 rfl rfl rfl rfl (k55),nrmA rfl ?_⟩)|(with_reducible refine AL_id ?_); (fail_if_success (refine glq rfl rfl rfl ?_)); first|refine AL_gdec rfl rfl rfl (fun hg=>?_) (fun hg=>?_)|refine AL_gnot rfl rfl rfl (fun hg=>?_) (fun hg=>?_)|refine AL_gcases rfl rfl rfl (fun hg=>?_) (fun hg=>?_)))
 refine AW_poolN 33 1 h.hands.length ?_
 have hown0:RowsOf (List.replicate h.hands.length (Value.slice none 0 0,[])) (ownN h 0):= by
  rw [own_zero,RowsOf,List.map_replicate,List.map_replicate]; rfl
 refine AW_range (gf:=129) (caps:=[.ptr (eHouseC h),.ptr [sfn h]]) (L:=(walksL h).map fun x=>[eInts x]) [1,5,6] [(1,.pv (.ptr (eHouseC h))),(5,.box 2 0),(6,.box 4 0)]
  (fun av k (rows:List (Value × List (List PV)))=>roO h l av rows) (fun k rows=>RowsOf rows (ownN h k)) 9 [6,7,8] (List.replicate h.hands.length (Value.slice none 0 0,[])) hown0 ?_ hit ?_ ?_ ?_ ?_ ?_ ?_
 ·rfl
 ·intro p hp
  simp only [List.mem_cons,List.not_mem_nil,or_false] at hp; rcases hp with rfl <;> rfl
 ·intro x hx
  obtain ⟨y,_,rfl⟩:=List.mem_map.1 hx; rfl
 ·intro av j i
  ((repeat' (first|exact trivial|refine And.intro ?_ ?_)); all_goals (first|rfl|decide))
 ·intro av
  dsimp only
  rw [roO,outRw,poolR,List.map_replicate,List.map_replicate]
  (refine Le.mk ?_ ?_; all_goals (repeat' (first|exact trivial|refine sle ?_|refine ⟨?_,rfl,?_⟩|refine ⟨?_,by decide,rfl,?_⟩|fail)))
 ·intro av k rows x hR hx
  obtain ⟨p,hp,rfl⟩:∃ p,(walksL h)[k]? = some p /\ [eInts p] = x:= by
   rw [List.getElem?_map,Option.map_eq_some_iff] at hx; exact hx
  have hpo:=walksL_ok p (List.mem_of_getElem? hp)
  have hn4:=hh.n4
  have hkb:k < 100000:= by
   have:=(List.getElem?_eq_some_iff.1 hp).1; omega
  (repeat (refine stq ?_))
  refine AW_loopC (fun i:Nat × List (Value × List (List PV))=>i.1 <= h.hands.length /\ RowsOf i.2 (ownI h k i.1)) (fun i=>mkSt [(1,.pv (.ptr (eHouseC h))),(5,.box 2 0),(6,.box 4 0),(7,.pv (eInts p)),(27,.pv (.sl (h.hands.map eHand))),(28,.pv (vi h.hands.length)),(29,.pv (vi i.1))] (roO h l av i.2) 9) (fun i=>h.hands.length - i.1) (0,rows) ⟨Nat.zero_le _,hR⟩ ?_ ?_
  ·(refine Le.mk ?_ ?_; all_goals (repeat' (first|exact trivial|refine sle ?_|refine ⟨?_,rfl,?_⟩|refine ⟨?_,by decide,rfl,?_⟩|fail)))
  ·rintro ⟨i,rows⟩ ⟨hi,hR⟩
   simp only at hi hR
   dsimp only
   (repeat (refine stq ?_))
   refine AW_if rfl (fun hc=>?_) (fun hc=>?_)
   ·have hi':i < h.hands.length:=by omega
    obtain ⟨x,hx⟩:∃ x,h.hands[i]? = some x:=⟨h.hands[i],by simp [hi']⟩
    have e1:=get_map eHand hx
    have k58:=t58 h hh hK l x p hpo
    obtain ⟨L,hL,hLl,hst⟩:=ownI_succ hp hx
    obtain ⟨v,hv⟩:=rowsOf_get hR hL
    (repeat (refine stq ?_))
    refine AL_do2 rfl ⟨_,op_callExt (id:=1) (fun _=>rfl) (fun _=>rfl) rfl rfl rfl rfl (by (repeat' (first|exact trivial|refine And.intro ?_ ?_)); all_goals (first|rfl|decide)) rfl rfl k58,?_⟩
    cases q:keepsB h x p with
    | false =>
     rw [q,if_neg (by simp),List.append_nil] at hst
     have hse:(ownI h k i).set i L = ownI h k i:= by
      apply List.ext_getElem?
      intro j
      rw [List.getElem?_set]
      by_cases hij:i = j
      ·subst hij; rw [if_pos rfl,hL,if_pos (List.getElem?_eq_some_iff.1 hL).1]
      ·rw [if_neg hij]
     rw [hse] at hst
     (repeat (refine stq ?_))
     refine ⟨(i + 1,rows),⟨hi',by rw [hst]; exact hR⟩,by simp only; omega,?_⟩
     (refine Le.mk ?_ ?_; all_goals (repeat' (first|exact trivial|refine sle ?_|refine ⟨?_,rfl,?_⟩|refine ⟨?_,by decide,rfl,?_⟩|fail)))
    | true =>
     rw [q,if_pos rfl] at hst
     have hrl:rows.length = h.hands.length:=by rw [rowsOf_len hR,ownI_len]
     have e5:=get_map (fun p:Value × List (List PV)=>[PV.raw p.1]) hv
     have hvp:(rows.map fun p=>(p.1,some p.2))[i]? = some (v,some (L.map eL1)):=by rw [List.getElem?_map,hv]; rfl
     have hml:(rows.map fun p=>[PV.raw p.1]).length = h.hands.length:=by rw [List.length_map]; exact hrl
     (repeat (refine stq ?_))
     (repeat (refine sdq ?_))
     refine DG_next (D_indexAddr_arr hT rfl rfl rfl rfl rfl rfl rfl rfl rfl (by omega) (by omega) rfl) ?_
     refine DG_next (D_load_aptr (el:=[.raw v]) hT rfl rfl rfl rfl rfl rfl e5 rfl) ?_
     (repeat (refine sdq ?_))
     refine DG_next (D_appendPool (g:=5) i hT rfl rfl rfl rfl rfl rfl rfl rfl rfl rfl rfl rfl (Nat.le_of_ble_eq_true rfl) hvp rfl rfl (by intro hh; cases hh) (by intro y hy; simp only [List.mem_singleton] at hy; subst hy; rfl) (by rw [List.length_map]; show L.length + 1 <= _; omega) rfl) ?_
     refine DG_end hM (by kernel_rfl) ?_
     refine AL_poolIn (t:=46) (g:=5) rfl rfl rfl rfl fun v'=>?_
     refine AL_poolSel 5 (l':=(rows.set i (v',L.map eL1 ++ [[eInts p]])).map fun p=>(p.1,some p.2)) rfl (fun j=>if j = i then rows.length else j) (fun j y hy=>sel_get hv hy) (fun a b ha hb=>sel_inj (by simpa using ha) (by simpa using hb)) ?_
     have e7:L.map eL1 ++ [[eInts p]] = (L ++ [p]).map eL1:=by simp
     have e6:(rows.map fun p=>[PV.raw p.1]).set i [.raw v'] = (rows.set i (v',L.map eL1 ++ [[eInts p]])).map fun p=>[PV.raw p.1]:=by rw [List.map_set]
     refine AL_do2 rfl ⟨_,op_indexAddr_arr hT rfl rfl rfl rfl rfl rfl rfl rfl (by omega) (by omega) rfl,?_⟩
     refine AL_do2 rfl ⟨_,op_store_aptr (el:=[.raw v]) hT rfl rfl rfl rfl rfl e5 rfl rfl rfl rfl,?_⟩
     (repeat (refine stq ?_))
     refine ⟨(i + 1,rows.set i (v',L.map eL1 ++ [[eInts p]])),⟨hi',by rw [hst,e7]; exact rowsOf_set hR i v' (L ++ [p])⟩,by simp only; omega,?_⟩
     have e8:outRw (rows.set i (v',L.map eL1 ++ [[eInts p]])) = .arr 31 1 ((rows.map fun p=>[PV.raw p.1]).set i [.raw v']):=congrArg (AObj.arr 31 1) e6.symm
     dsimp only
     rw [roO,e8]
     (refine Le.mk ?_ ?_; all_goals (repeat' (first|exact trivial|refine sle ?_|refine ⟨?_,rfl,?_⟩|refine ⟨?_,by decide,rfl,?_⟩|fail)))
   ·have hil:i = h.hands.length:=by omega
    subst hil
    rw [ownI_all] at hR
    (repeat (refine stq ?_))
    refine roundQ_intro rows hR ?_
    (refine Le.mk ?_ ?_; all_goals (repeat' (first|exact trivial|refine sle ?_|refine ⟨?_,rfl,?_⟩|refine ⟨?_,by decide,rfl,?_⟩|fail)))
 ·intro av rows hR
  rw [List.length_map] at hR
  have hn4:=hh.n4
  refine AW_arrBox (b:=4) 0 rfl rfl rfl rfl ?_
  refine AW_poolPure 4 0 5 (rows:=rows) rfl rfl rfl rfl ?_
  rw [rowsOf_own hR]
  refine AW_boxPtr 6 (ps:=[eOwn (ownN h (walksL h).length)]) rfl rfl ?_
  (repeat (refine stq ?_))
  refine AL_doS rfl (op_callXs (objs:=ssO h (ownN h (walksL h).length) (h.hands.length + 1) none) (n:=6) [(0,10),(1,9),(2,11)] [0,1] [(3,0),(4,1),(5,2)] k59 rfl rfl rfl rfl (by (repeat' (first|exact trivial|refine And.intro ?_ ?_)); all_goals (first|rfl|decide)) rfl (by (repeat' (first|exact trivial|refine And.intro ?_ ?_)); all_goals (first|rfl|decide)) rfl ⟨⟨rfl,rfl,⟨_,.head _⟩,rfl⟩,⟨rfl,rfl,⟨_,.tail _ (.head _)⟩,rfl⟩,⟨rfl,rfl,⟨_,.tail _ (.tail _ (.head _))⟩,rfl⟩,trivial⟩ (by simp) (fun av' sf hsf=>by subst hsf; exact ⟨.inl ⟨3,by simp,rfl⟩,.inl ⟨4,by simp,rfl⟩,trivial⟩)) ?_
  rintro s' ⟨av',sf,rfl,rfl⟩
  (repeat (refine stq ?_))
  refine AL_doS rfl (op_eql_slnil hT rfl rfl rfl rfl rfl (fun el h=>by obtain ⟨b,_,rfl⟩:=List.mem_map.1 h; exact Nat.succ_pos _)) ?_
  rintro s' ⟨b,hb,rfl⟩
  cases b with
  | true=>exact absurd (List.map_eq_nil_iff.1 (hb rfl)) hout
  | false =>
   (repeat (refine stq ?_))
   (repeat (refine sdq ?_))
   refine DG_end hM (by kernel_rfl) ?_
   (repeat (refine stq ?_))
   exact ⟨_,_,rfl,rfl,rfl⟩
end Go.Abs
namespace Go.Abs
open Go.Proofs
set_option maxRecDepth 100000
theorem keysEx_nd:(keysL hEx).Nodup:=by decide +kernel
theorem keysEx:KeysP (keysL hEx):= by
 refine ⟨fun x hx=>?_,fun i j x y hx hy hij hxy=>?_⟩
 ·rw [keysL] at hx
  obtain ⟨f,_,rfl⟩:=List.mem_map.1 hx
  cases f <;> rfl
 ·subst hxy
  obtain ⟨hi,e1⟩:=List.getElem?_eq_some_iff.1 hx
  obtain ⟨hj,e2⟩:=List.getElem?_eq_some_iff.1 hy
  exact hij ((List.getElem_inj keysEx_nd).1 (e1.trans e2.symm))
theorem walksEx:(walksL hEx).length = 18:=by decide +kernel
def outEx:List (List Int):=[[-1,-1,0],[0,0,-1],[1,1,-1]]
theorem searchEx:(searchF hEx.hands.length (ownN hEx 18) hEx.hands.length [] hEx.sets 0 ⟨hEx.hands.length + 1,none⟩).fewest = 3 /\ (searchF hEx.hands.length (ownN hEx 18) hEx.hands.length [] hEx.sets 0 ⟨hEx.hands.length + 1,none⟩).out = some outEx:=by decide +kernel
theorem t25Ex:ACalls Tryz.prog 25 [eHouse hEx] (fun x=>x = .tup [eLists outEx,vi 3,vi 0]):= by
 refine t25 hEx hEx_ok keysEx (by rw [walksEx]; omega) 3 outEx (by decide) ?_
 rw [walksEx]
 have h:=searchEx
 generalize searchF hEx.hands.length (ownN hEx 18) hEx.hands.length [] hEx.sets 0 ⟨hEx.hands.length + 1,none⟩ = s at *
 obtain ⟨a,b⟩:=s
 obtain ⟨h1,h2⟩:=h
 simp only at h1 h2
 rw [h1,h2]
theorem t10:ACalls Tryz.prog 10 [] (fun x=>x = .pv (.bool true)):= by
 have k1:=t24
 have k2:=t23Ex
 have k3:=t26
 have k4:=t25Ex
 have k5:=t28
 have k6:=t27Ex
 generalize (packM wEx 0).blanks = bl at *
 obtain ⟨pl,hpl,p3,p0,p1,p2⟩:∃ pl:List Int,[1,1,0] = pl /\ pl.length = 3 /\ pl[0]? = some 1 /\ pl[1]? = some 1 /\ pl[2]? = some 0:=⟨_,rfl,rfl,rfl,rfl,rfl⟩
 rw [hpl] at k6
 have o3:outEx.length = 3:=rfl
 generalize outEx = ol at *
 have e0:(pl.map eInt)[(0:Int).toNat]? = some (eInt 1):=get_map eInt p0
 have e1:(pl.map eInt)[(1:Int).toNat]? = some (eInt 1):=get_map eInt p1
 have e2:(pl.map eInt)[(2:Int).toNat]? = some (eInt 0):=get_map eInt p2
 refine ACalls.of_body hT Tryz.func10 rfl (by kernel_rfl) rfl ?_
 (repeat' (first|refine stq ?_|(refine AL_do2 rfl ?_; first|refine ⟨_,op_call1 rfl rfl rfl rfl (k1),nrmA rfl ?_⟩|refine ⟨_,op_call1 rfl rfl rfl rfl (k2),nrmA rfl ?_⟩|refine ⟨_,op_call1 rfl rfl rfl rfl (k3),nrmA rfl ?_⟩|refine ⟨_,op_call1 rfl rfl rfl rfl (k4),nrmA rfl ?_⟩|refine ⟨_,op_call1 rfl rfl rfl rfl (k5),nrmA rfl ?_⟩|refine ⟨_,op_call1 rfl rfl rfl rfl (k6),nrmA rfl ?_⟩)|((first|(with_reducible refine AL_id ?_); (fail_if_success (refine glq rfl rfl rfl ?_)); first|refine AL_gdec rfl rfl rfl (fun hg=>?_) (fun hg=>?_)|refine AL_gnot rfl rfl rfl (fun hg=>?_) (fun hg=>?_)|refine AL_gcases rfl rfl rfl (fun hg=>?_) (fun hg=>?_)) <;> (try (exfalso; omega)))|refine AW_if rfl (fun hc=>absurd hc (by omega)) (fun _=>?_)|refine AW_if rfl (fun _=>?_) (fun hc=>absurd (by omega) hc)))
 all_goals (try (exfalso; omega))
 exact ⟨_,_,rfl,rfl,rfl⟩
end Go.Abs
namespace Go.Abs
open Go.Proofs
set_option maxRecDepth 100000
def cutBest (w:Work):List Blank:=(packM w 0).blanks
theorem cutBest_ok {w:Work} (hw:WorkP w) {t:List (List Int)} (hs:sizedT w.map t = true) (hf:fitsT w.map t = true):CutP w (cutBest w) /\ (cutBest w).length <= 48:= by
 have h:=pack_ok hw hs hf _ 0 (Nat.le_refl _)
 exact ⟨pack_cut h,(pack_48 hw h).1⟩
theorem t11 (w:Work) (hw:WorkP w) (t:List (List Int)) (hs:sizedT w.map t = true) (hf:fitsT w.map t = true):ACalls Tryz.prog 11 [eWork w] (fun x=>x = .tup [eBlanks (cutBest w),.bool true]):= by
 obtain ⟨hc,h48⟩:=cutBest_ok hw hs hf
 have k23:=t23 w hw t hs hf
 have k29:=t29 w hw (cutBest w) (by omega) hc
 rw [show (packM w 0).blanks = cutBest w from rfl] at k23
 generalize (packM w 0).worth = m at *
 generalize cutBest w = l at *
 refine ACalls.of_body hT Tryz.func11 rfl (by kernel_rfl) rfl ?_
 (repeat' (first|refine stq ?_|(refine AL_do2 rfl ?_; first|refine ⟨_,op_call1 rfl rfl rfl rfl (k23),nrmA rfl ?_⟩|refine ⟨_,op_call1 rfl rfl rfl rfl (k29),nrmA rfl ?_⟩)|((first|(with_reducible refine AL_id ?_); (fail_if_success (refine glq rfl rfl rfl ?_)); first|refine AL_gdec rfl rfl rfl (fun hg=>?_) (fun hg=>?_)|refine AL_gnot rfl rfl rfl (fun hg=>?_) (fun hg=>?_)|refine AL_gcases rfl rfl rfl (fun hg=>?_) (fun hg=>?_)) <;> (try (exfalso; omega)))|refine AW_if rfl (fun hc=>absurd hc (by omega)) (fun _=>?_)|refine AW_if rfl (fun _=>?_) (fun hc=>absurd (by omega) hc)))
 all_goals (try (exfalso; omega))
 exact ⟨_,_,rfl,rfl,rfl⟩
end Go.Abs
namespace Go.Abs
open Go.Proofs
set_option maxRecDepth 100000
theorem f55c {d:Drum} (hd:drumOK d) (he:errE d true = 0) (b:Bool) (ho:openS (allW d) = b):ACalls Tryz.prog 13 [eDrum d] (fun r=>r = .tup [if b then eS (allW d) else eS ⟨0,0⟩,vi (if b then 0 else 5)]):= by
 have k:=f55 d hd
 rw [windowE,if_pos he,ho] at k
 cases b <;> exact k
theorem f55y {d:Drum} (hd:drumOK d) (he:errE d true = 0) (ho:openS (allW d) = true):ACalls Tryz.prog 13 [eDrum d] (fun r=>r = .tup [eS (allW d),vi 0]):=f55c hd he true ho
theorem f55n {d:Drum} (hd:drumOK d) (he:errE d true = 0) (ho:openS (allW d) = false):ACalls Tryz.prog 13 [eDrum d] (fun r=>r = .tup [eS ⟨0,0⟩,vi 5]):=f55c hd he false ho
end Go.Abs
