/- A pool of slices of the function's own, each known by its value: rows of a list of lists that are written. -/
import Derived.Test.YtpoaccdbakbjhaaGreatXG19
import Derived.Test.YtpoaccdbakbjhaaGreatXG30
set_option linter.unusedVariables false
set_option linter.unusedSimpArgs false
namespace Go.Abs
open Go.RowKit
theorem getElem?_mem_set {α:Type} {l:List α} {k i:Nat} {x y:α} (h:(l.set k x)[i]? = some y):(i = k /\ k < l.length /\ y = x) \/ (i ≠ k /\ l[i]? = some y):= by
 rw [List.getElem?_set] at h
 split at h
 ·rename_i e
  split at h
  ·rename_i hl; cases h; exact .inl ⟨e.symm,by omega,rfl⟩
  ·cases h
 ·rename_i e; exact .inr ⟨fun q=>e q.symm,h⟩
theorem Rep.inv_raw {w:World} {D:Nat -> Prop} {v u:Value} (h:Rep w D v (.raw u)):v = u:=by cases h; rfl
section
variable {P:Program} {nt:Nat} {s:ASt} {ops:Array Oper} {rest:List Oper} {c:Code} {Q:Exit -> ASt -> Prop}
variable {W0:World} {D0:Bas} {D:Nat -> Prop} {φ:Nat -> Value} {a:Act} {w:World}
theorem Inv.pool0 (hI:Inv W0 D0 nt s D φ a w) (e sz:Nat):Inv W0 D0 nt (s.newObj (.pool e sz [])) D (addH φ s.nxt (.bool false)) a w:= by
 refine hI.chg s.nxt (fun _=>False) (Below.refl _ _) (fun _ _ _=>rfl) (fun _ h=>h) (fun b hb=>.inl hb) (fun id hid=>addH_old φ _ hid) (Nat.le_succ _) (fun t x hx=>hx) ?_ ?_
 ·intro id ob2 hne ho
  rw [ASt.obj_newObj,if_neg (fun e=>hne e.symm)] at ho
  exact ⟨fun hf=>hf,ho⟩
 ·intro ob2 ho
  rw [ASt.obj_newObj,if_pos rfl] at ho
  cases ho
  exact ⟨Nat.lt_succ_self _,rfl,⟨addH_new _ _ _,fun v es h=>by simp at h,fun i j v u es fs b h=>by simp at h⟩,fun b hb=>by obtain ⟨v,es,h,_⟩:=hb; simp at h⟩
theorem AW_pool0 (e sz:Nat) (h:AW P nt c Q (s.newObj (.pool e sz []))):AW P nt c Q s:=fun ro W0 D0 D φ a w hr hI=>h ro W0 D0 D _ a w hr (hI.pool0 e sz)
theorem Inv.poolIn (hI:Inv W0 D0 nt s D φ a w) {t r g e sz:Nat} {es:List (List PV)} {l:List (Value × Option (List (List PV)))} (hne:Nat.beq r g = false) (hx:s.get t = some (.arr r)) (hr:s.obj r = some (.arr e sz es)) (hg:s.obj g = some (.pool e sz l)) :
  Inv W0 D0 nt (((s.setObj r none).setObj g (some (.pool e sz (l ++ [(φ r,some es)])))).put t (some (.pv (.raw (φ r))))) D φ a w:= by
 have hne':r ≠ g:=fun e=>by subst e; simp at hne
 obtain ⟨hgn,_,g0,g1,g2⟩:=hI.objs g _ hg
 obtain ⟨hrn,_,xs,q1,q2⟩:=hI.objs r _ hr
 have hmid:Inv W0 D0 nt ((s.setObj r none).setObj g (some (.pool e sz (l ++ [(φ r,some es)])))) D φ a w:= by
  refine hI.chg g (fun j=>j = g \/ j = r) (Below.refl _ _) (fun _ _ _=>rfl) (fun _ h=>h) (fun b hb=>.inl hb) (fun _ _=>rfl) (Nat.le_refl _) (fun t x hx=>hx) ?_ ?_
  ·intro id ob hid ho
   rw [ASt.obj_setObj,if_neg (fun e=>hid e.symm),ASt.obj_setObj] at ho
   split at ho
   ·cases ho
   ·rename_i hri; exact ⟨fun h=>h.elim hid (fun h=>hri h.symm),ho⟩
  ·intro ob ho
   rw [ASt.obj_setObj,if_pos rfl] at ho
   cases ho
   have hrg:∀ v' es' b,(v',some es') ∈ l -> blk v' = some b -> blk (φ r) = some b -> False:=fun v' es' b hm h1 h2 =>
    hne' (hI.sep r _ g _ b hr hg h2 ⟨v',es',hm,h1⟩)
   refine ⟨hgn,rfl,⟨g0,fun v' es' hm=>?_,fun i j v1 v2 e1 e2 b h1 h2 b1 b2=>?_⟩,fun b hb=>?_⟩
   ·rcases List.mem_append.1 hm with hm|hm
    ·exact g1 v' es' hm
    ·simp only [List.mem_singleton,Prod.mk.injEq,Option.some.injEq] at hm
     obtain ⟨rfl,rfl⟩:=hm
     exact ⟨xs,q1,q2⟩
   ·have cas:∀ (i:Nat) (v:Value) (es':List (List PV)),(l ++ [(φ r,some es)])[i]? = some (v,some es') -> l[i]? = some (v,some es') \/ (i = l.length /\ v = φ r):= by
     intro i v es' h
     rcases Nat.lt_or_ge i l.length with hi|hi
     ·rw [List.getElem?_append_left hi] at h; exact .inl h
     ·rw [List.getElem?_append_right hi] at h
      have:i - l.length = 0:= by
       rcases Nat.eq_zero_or_pos (i - l.length) with h0|h0
       ·exact h0
       ·rw [List.getElem?_eq_none (by simp; omega)] at h; cases h
      rw [this] at h
      simp only [List.getElem?_cons_zero,Option.some.injEq,Prod.mk.injEq] at h
      exact .inr ⟨by omega,h.1.symm⟩
    rcases cas i v1 e1 h1 with p1|⟨p1,p1'⟩ <;> rcases cas j v2 e2 h2 with p2|⟨p2,p2'⟩
    ·exact g2 i j v1 v2 e1 e2 b p1 p2 b1 b2
    ·exact (hrg v1 e1 b (List.mem_of_getElem? p1) b1 (by rw [<- p2']; exact b2)).elim
    ·exact (hrg v2 e2 b (List.mem_of_getElem? p2) b2 (by rw [<- p1']; exact b1)).elim
    ·omega
   ·obtain ⟨v',es',hm,h1⟩:=hb
    rcases List.mem_append.1 hm with hm|hm
    ·obtain ⟨z1,z2,z3⟩:=hI.own g _ b hg ⟨v',es',hm,h1⟩
     exact ⟨z1,z3,.inr ⟨g,_,.inl rfl,hg,⟨v',es',hm,h1⟩⟩⟩
    ·simp only [List.mem_singleton,Prod.mk.injEq,Option.some.injEq] at hm
     obtain ⟨rfl,rfl⟩:=hm
     obtain ⟨z1,z2,z3⟩:=hI.own r _ b hr h1
     exact ⟨z1,z3,.inr ⟨r,_,.inr rfl,hr,h1⟩⟩
 refine ⟨hmid.below,hmid.size,?_,hmid.dlt,hmid.dof,hmid.d0,?_,fun id ob h=>hmid.objs id ob h,fun id ob b h=>hmid.own id ob b h,fun id ob id' ob' b h h'=>hmid.sep id ob id' ob' b h h'⟩
 ·exact hmid.defers_of (fun id ob h=>h)
 ·intro t' x' hg'
  rw [ASt.get_put] at hg'
  by_cases ht:t = t'
  ·subst ht
   rw [if_pos rfl] at hg'
   cases hg'
   obtain ⟨_,v,hv,hrr⟩:=hI.env t _ hx
   refine ⟨rfl,v,hv,?_⟩
   cases hrr with
   | arr id n c ad hφ=>rw [hφ]; exact .pv _ _ (.raw _ rfl)
  ·rw [if_neg ht] at hg'
   exact hmid.env t' x' hg'
theorem AL_poolIn {t r g e sz:Nat} {es:List (List PV)} {l:List (Value × Option (List (List PV)))} (hne:Nat.beq r g = false) (hx:s.get t = some (.arr r)) (hr:s.obj r = some (.arr e sz es)) (hg:s.obj g = some (.pool e sz l))
  (h:∀ v,AL P nt ops rest Q (((s.setObj r none).setObj g (some (.pool e sz (l ++ [(v,some es)])))).put t (some (.pv (.raw v))))):AL P nt ops rest Q s:=fun ro W0 D0 D φ a w hro hI=>h (φ r) ro W0 D0 D φ a w hro (hI.poolIn hne hx hr hg)
theorem AW_poolIn {t r g e sz:Nat} {es:List (List PV)} {l:List (Value × Option (List (List PV)))} (hne:Nat.beq r g = false) (hx:s.get t = some (.arr r)) (hr:s.obj r = some (.arr e sz es)) (hg:s.obj g = some (.pool e sz l))
  (h:∀ v,AW P nt c Q (((s.setObj r none).setObj g (some (.pool e sz (l ++ [(v,some es)])))).put t (some (.pv (.raw v))))):AW P nt c Q s:=fun ro W0 D0 D φ a w hro hI=>h (φ r) ro W0 D0 D φ a w hro (hI.poolIn hne hx hr hg)
theorem Inv.poolOut (hI:Inv W0 D0 nt s D φ a w) {t g k e sz:Nat} {v:Value} {es:List (List PV)} {l:List (Value × Option (List (List PV)))} (hx:s.get t = some (.pv (.raw v))) (hg:s.obj g = some (.pool e sz l)) (hk:l[k]? = some (v,some es)) :
  ∃ φ',Inv W0 D0 nt ((((s.setObj g (some (.pool e sz (l.set k (v,none))))).newObj (.arr e sz es)).newObj (.anc v (.arr s.nxt))).put t (some (.arr s.nxt))) D φ' a w:= by
 obtain ⟨hgn,_,g0,g1,g2⟩:=hI.objs g _ hg
 obtain ⟨xs,q1,q2⟩:=g1 v es (List.mem_of_getElem? hk)
 have hset:∀ (i:Nat) (v':Value) (es':List (List PV)),(l.set k (v,none))[i]? = some (v',some es') -> i ≠ k /\ l[i]? = some (v',some es'):=fun i v' es' h=>by
  rcases getElem?_mem_set h with ⟨_,_,h3⟩|h
  ·cases h3
  ·exact h
 have hmem:∀ (v':Value) (es':List (List PV)),(v',some es') ∈ l.set k (v,none) -> ∃ i,i ≠ k /\ l[i]? = some (v',some es'):=fun v' es' h=>by
  obtain ⟨i,hi⟩:=List.mem_iff_getElem?.1 h
  exact ⟨i,hset i v' es' hi⟩
 have h1:Inv W0 D0 nt (s.setObj g (some (.pool e sz (l.set k (v,none))))) D φ a w:= by
  refine hI.chg g (fun j=>j = g) (Below.refl _ _) (fun _ _ _=>rfl) (fun _ h=>h) (fun b hb=>.inl hb) (fun _ _=>rfl) (Nat.le_refl _) (fun t x hx=>hx) ?_ ?_
  ·intro id ob hid ho
   rw [ASt.obj_setObj,if_neg (fun e=>hid e.symm)] at ho
   exact ⟨hid,ho⟩
  ·intro ob ho
   rw [ASt.obj_setObj,if_pos rfl] at ho
   cases ho
   refine ⟨hgn,rfl,⟨g0,fun v' es' hm=>?_,fun i j v1 v2 e1 e2 b p1 p2=>g2 i j v1 v2 e1 e2 b (hset i v1 e1 p1).2 (hset j v2 e2 p2).2⟩,fun b hb=>?_⟩
   ·obtain ⟨i,_,hi⟩:=hmem v' es' hm
    exact g1 v' es' (List.mem_of_getElem? hi)
   ·obtain ⟨v',es',hm,hb⟩:=hb
    obtain ⟨i,_,hi⟩:=hmem v' es' hm
    have hb':oblk φ g (.pool e sz l) b:=⟨v',es',List.mem_of_getElem? hi,hb⟩
    obtain ⟨z1,z2,z3⟩:=hI.own g _ b hg hb'
    exact ⟨z1,z3,.inr ⟨g,_,rfl,hg,hb'⟩⟩
 have hob:∀ b,blk v = some b -> oblk φ g (.pool e sz l) b:=fun b hb=>⟨v,es,List.mem_of_getElem? hk,hb⟩
 have h2:Inv W0 D0 nt ((s.setObj g (some (.pool e sz (l.set k (v,none))))).newObj (.arr e sz es)) D (addH φ s.nxt v) a w:= by
  refine ⟨h1.below,h1.size,?_,h1.dlt,h1.dof,h1.d0,?_,?_,?_,?_⟩
  ·obtain ⟨ms,y1,y2,y3⟩:=hI.defers
   refine ⟨ms,y1,y2,fun d hd=>?_⟩
   obtain ⟨m,z1,z2,z3,z4,z5⟩:=y3 d hd
   refine ⟨m,z1,z2,z3,z4,fun id ob ho hb=>?_⟩
   rw [ASt.obj_newObj] at ho
   split at ho
   ·rename_i hid
    cases ho
    subst hid
    have hb:blk (addH φ s.nxt v s.nxt) = some m:=hb
    rw [addH_new] at hb
    exact z5 g _ hg (hob m hb)
   ·rw [ASt.obj_setObj] at ho
    split at ho
    ·rename_i hid; subst hid; cases ho
     obtain ⟨v',es',hm,hb⟩:=hb
     obtain ⟨i,_,hi⟩:=hmem v' es' hm
     exact z5 g _ hg ⟨v',es',List.mem_of_getElem? hi,hb⟩
    ·exact z5 id ob ho ((oblk_congr (addH_old φ v (hI.objs id ob ho).1) ob m).1 hb)
  ·intro t' x' ht'
   obtain ⟨z1,u,z2,z3⟩:=hI.env t' x' ht'
   exact ⟨FV.lt_mono (Nat.le_succ _) x' z1,u,z2,z3.mono (fun _ _=>rfl) (fun _ h=>h) (fun id hid=>addH_old φ v hid) z1⟩
  ·intro id ob ho
   rw [ASt.obj_newObj] at ho
   split at ho
   ·rename_i hid
    cases ho
    subst hid
    exact ⟨Nat.lt_succ_self _,rfl,xs,by rw [show (s.setObj g (some (.pool e sz (l.set k (v,none))))).nxt = s.nxt from rfl,addH_new]; exact q1,q2⟩
   ·obtain ⟨z1,z2,z3⟩:=h1.objs id ob ho
    exact ⟨Nat.lt_succ_of_lt z1,AObj.lt_mono (Nat.le_succ _) ob z2,z3.keep z2 z1 (fun _ _=>rfl) (fun _ h=>h) (fun id hid=>addH_old φ v hid) (fun _ _=>rfl)⟩
  ·intro id ob b ho hb
   rw [ASt.obj_newObj] at ho
   split at ho
   ·rename_i hid
    cases ho
    subst hid
    have hb:blk (addH φ s.nxt v s.nxt) = some b:=hb
    rw [addH_new] at hb
    exact hI.own g _ b hg (hob b hb)
   ·exact h1.own id ob b ho ((oblk_congr (addH_old φ v (h1.objs id ob ho).1) ob b).1 hb)
  ·have key:∀ id ob b,(s.setObj g (some (.pool e sz (l.set k (v,none))))).obj id = some ob -> oblk φ id ob b -> blk v = some b -> False:= by
    intro id ob b ho hb hv
    rw [ASt.obj_setObj] at ho
    split at ho
    ·rename_i hid; subst hid; cases ho
     obtain ⟨v',es',hm,hb⟩:=hb
     obtain ⟨i,hik,hi⟩:=hmem v' es' hm
     exact hik (g2 i k v' v es' es b hi hk hb hv)
    ·rename_i hid
     exact hid (hI.sep g _ id ob b hg ho (hob b hv) hb)
   intro id ob id' ob' b ho ho' hb hb'
   rw [ASt.obj_newObj] at ho ho'
   split at ho <;> split at ho'
   ·rename_i p1 p2; exact p1.symm.trans p2
   ·rename_i p1 p2
    cases ho; subst p1
    have hb:blk (addH φ s.nxt v s.nxt) = some b:=hb
    rw [addH_new] at hb
    exact (key id' ob' b ho' ((oblk_congr (addH_old φ v (h1.objs id' ob' ho').1) ob' b).1 hb') hb).elim
   ·rename_i p1 p2
    cases ho'; subst p2
    have hb':blk (addH φ s.nxt v s.nxt) = some b:=hb'
    rw [addH_new] at hb'
    exact (key id ob b ho ((oblk_congr (addH_old φ v (h1.objs id ob ho).1) ob b).1 hb) hb').elim
   ·exact h1.sep id ob id' ob' b ho ho' ((oblk_congr (addH_old φ v (h1.objs id ob ho).1) ob b).1 hb) ((oblk_congr (addH_old φ v (h1.objs id' ob' ho').1) ob' b).1 hb')
 have hvs:∃ a0 n0 c0,v = .slice a0 n0 c0:= by
  rcases q1.2 with ⟨h,_⟩|⟨g',cap,cur,h,_⟩
  ·exact ⟨_,_,_,h⟩
  ·exact ⟨_,_,_,h⟩
 obtain ⟨a0,n0,c0,hv0⟩:=hvs
 have hrr:FRep w D (addH φ s.nxt v) v (.arr s.nxt):= by
  have:=addH_new φ s.nxt v
  rw [hv0] at this ⊢
  exact .arr _ _ _ _ this
 have h3:Inv W0 D0 nt (((s.setObj g (some (.pool e sz (l.set k (v,none))))).newObj (.arr e sz es)).newObj (.anc v (.arr s.nxt))) D (addH (addH φ s.nxt v) (s.nxt + 1) (.bool false)) a w:= by
  refine h2.new (Below.refl _ _) (fun _ h=>h) (fun _ h=>.inl h) (.anc v (.arr s.nxt)) (.bool false) (by simp [AObj.lt,FV.lt,ASt.newObj,ASt.setObj]) ?_ (by intro b hb; simp [blk] at hb)
  exact hrr.mono (n:=s.nxt + 1) (fun _ _=>rfl) (fun _ h=>h) (fun id hid=>addH_old _ _ hid) (by simp [FV.lt])
 refine ⟨_,⟨h3.below,h3.size,?_,h3.dlt,h3.dof,h3.d0,?_,fun id ob h=>h3.objs id ob h,fun id ob b h=>h3.own id ob b h,fun id ob id' ob' b h h'=>h3.sep id ob id' ob' b h h'⟩⟩
 ·exact h3.defers_of (fun id ob h=>h)
 ·intro t' x' hg'
  rw [ASt.get_put] at hg'
  by_cases ht:t = t'
  ·subst ht
   rw [if_pos rfl] at hg'
   cases hg'
   obtain ⟨_,v',hv',hrr'⟩:=hI.env t _ hx
   have hvv:v' = v:= by
    cases hrr' with
    | pv _ _ hp=>cases hp; rfl
   subst hvv
   exact ⟨by simp [FV.lt,ASt.newObj,ASt.setObj,ASt.put]; omega,v',hv',hrr.mono (n:=s.nxt + 1) (fun _ _=>rfl) (fun _ h=>h) (fun id hid=>addH_old _ _ hid) (by simp [FV.lt])⟩
  ·rw [if_neg ht] at hg'
   exact h3.env t' x' hg'
theorem AL_poolOut {t g e sz:Nat} (k:Nat) {v:Value} {es:List (List PV)} {l:List (Value × Option (List (List PV)))} (hx:s.get t = some (.pv (.raw v))) (hg:s.obj g = some (.pool e sz l)) (hk:l[k]? = some (v,some es))
  (h:AL P nt ops rest Q ((((s.setObj g (some (.pool e sz (l.set k (v,none))))).newObj (.arr e sz es)).newObj (.anc v (.arr s.nxt))).put t (some (.arr s.nxt)))):AL P nt ops rest Q s:=fun ro W0 D0 D φ a w hro hI=>by
 obtain ⟨φ',hI'⟩:=hI.poolOut hx hg hk
 exact h ro W0 D0 D φ' a w hro hI'
theorem Inv.poolBack (hI:Inv W0 D0 nt s D φ a w) {r n g k e sz:Nat} {v:Value} {es:List (List PV)} {l:List (Value × Option (List (List PV)))} (hrg:Nat.beq r g = false) (hng:Nat.beq n g = false) (hr:s.obj r = some (.arr e sz es)) (hn:s.obj n = some (.anc v (.arr r))) (hg:s.obj g = some (.pool e sz l))
  (hk:l[k]? = some (v,none)):Inv W0 D0 nt (((s.setObj r none).setObj n none).setObj g (some (.pool e sz (l.set k (v,some es))))) D φ a w:= by
 have hrg':r ≠ g:=fun e=>by subst e; simp at hrg
 have hng':n ≠ g:=fun e=>by subst e; simp at hng
 obtain ⟨hgn,_,g0,g1,g2⟩:=hI.objs g _ hg
 obtain ⟨hrn,_,xs,q1,q2⟩:=hI.objs r _ hr
 have hv:φ r = v:= by
  have:FRep w D φ v (.arr r):=(hI.objs n _ hn).2.2
  cases this with
  | arr _ _ _ _ h=>exact h
 rw [hv] at q1
 have hset:∀ (i:Nat) (v':Value) (es':List (List PV)),(l.set k (v,some es))[i]? = some (v',some es') -> (i = k /\ v' = v /\ es' = es) \/ (i ≠ k /\ l[i]? = some (v',some es')):=fun i v' es' h=>by
  rcases getElem?_mem_set h with ⟨h1,_,h3⟩|h
  ·simp only [Prod.mk.injEq,Option.some.injEq] at h3; exact .inl ⟨h1,h3.1,h3.2⟩
  ·exact .inr h
 have hsep:∀ v' es' b,(v',some es') ∈ l -> blk v' = some b -> blk v = some b -> False:=fun v' es' b hm h1 h2 =>
  hrg' (hI.sep r _ g _ b hr hg (by show blk (φ r) = some b; rw [hv]; exact h2) ⟨v',es',hm,h1⟩)
 refine hI.chg g (fun j=>j = g \/ j = r) (Below.refl _ _) (fun _ _ _=>rfl) (fun _ h=>h) (fun b hb=>.inl hb) (fun _ _=>rfl) (Nat.le_refl _) (fun t x hx=>hx) ?_ ?_
 ·intro id ob hid ho
  rw [ASt.obj_setObj,if_neg (fun e=>hid e.symm),ASt.obj_setObj] at ho
  split at ho
  ·cases ho
  ·rw [ASt.obj_setObj] at ho
   split at ho
   ·cases ho
   ·rename_i hri; exact ⟨fun h=>h.elim hid (fun h=>hri h.symm),ho⟩
 ·intro ob ho
  rw [ASt.obj_setObj,if_pos rfl] at ho
  cases ho
  refine ⟨hgn,rfl,⟨g0,fun v' es' hm=>?_,fun i j v1 v2 e1 e2 b p1 p2 b1 b2=>?_⟩,fun b hb=>?_⟩
  ·obtain ⟨i,hi⟩:=List.mem_iff_getElem?.1 hm
   rcases hset i v' es' hi with ⟨_,rfl,rfl⟩|⟨_,h⟩
   ·exact ⟨xs,q1,q2⟩
   ·exact g1 v' es' (List.mem_of_getElem? h)
  ·rcases hset i v1 e1 p1 with ⟨z1,y1,_⟩|⟨_,z1⟩ <;> rcases hset j v2 e2 p2 with ⟨z2,y2,_⟩|⟨_,z2⟩
   ·omega
   ·rw [y1] at b1; exact (hsep v2 e2 b (List.mem_of_getElem? z2) b2 b1).elim
   ·rw [y2] at b2; exact (hsep v1 e1 b (List.mem_of_getElem? z1) b1 b2).elim
   ·exact g2 i j v1 v2 e1 e2 b z1 z2 b1 b2
  ·obtain ⟨v',es',hm,h1⟩:=hb
   obtain ⟨i,hi⟩:=List.mem_iff_getElem?.1 hm
   rcases hset i v' es' hi with ⟨_,y1,_⟩|⟨_,h⟩
   ·rw [y1] at h1
    have hb':oblk φ r (.arr e sz es) b:=by show blk (φ r) = some b; rw [hv]; exact h1
    obtain ⟨z1,z2,z3⟩:=hI.own r _ b hr hb'
    exact ⟨z1,z3,.inr ⟨r,_,.inr rfl,hr,hb'⟩⟩
   ·have hb':oblk φ g (.pool e sz l) b:=⟨v',es',List.mem_of_getElem? h,h1⟩
    obtain ⟨z1,z2,z3⟩:=hI.own g _ b hg hb'
    exact ⟨z1,z3,.inr ⟨g,_,.inl rfl,hg,hb'⟩⟩
theorem AL_poolBack (r n g k:Nat) {e sz:Nat} {v:Value} {es:List (List PV)} {l:List (Value × Option (List (List PV)))} (hrg:Nat.beq r g = false) (hng:Nat.beq n g = false) (hr:s.obj r = some (.arr e sz es)) (hn:s.obj n = some (.anc v (.arr r))) (hg:s.obj g = some (.pool e sz l))
  (hk:l[k]? = some (v,none)) (h:AL P nt ops rest Q (((s.setObj r none).setObj n none).setObj g (some (.pool e sz (l.set k (v,some es)))))):AL P nt ops rest Q s:=fun ro W0 D0 D φ a w hro hI=>h ro W0 D0 D φ a w hro (hI.poolBack hrg hng hr hn hg hk)
theorem AW_poolBack (r n g k:Nat) {e sz:Nat} {v:Value} {es:List (List PV)} {l:List (Value × Option (List (List PV)))} (hrg:Nat.beq r g = false) (hng:Nat.beq n g = false) (hr:s.obj r = some (.arr e sz es)) (hn:s.obj n = some (.anc v (.arr r))) (hg:s.obj g = some (.pool e sz l))
  (hk:l[k]? = some (v,none)) (h:AW P nt c Q (((s.setObj r none).setObj n none).setObj g (some (.pool e sz (l.set k (v,some es)))))):AW P nt c Q s:=fun ro W0 D0 D φ a w hro hI=>h ro W0 D0 D φ a w hro (hI.poolBack hrg hng hr hn hg hk)
theorem Inv.poolPure (hI:Inv W0 D0 nt s D φ a w) {b i g e sz:Nat} {fs:List FV} {rows:List (Value × List (List PV))} (hbg:Nat.beq b g = false) (hb:s.obj b = some (.box fs)) (hi:fs[i]? = some (.pv (.sl (rows.map fun p=>[.raw p.1])))) (hg:s.obj g = some (.pool e sz (rows.map fun p=>(p.1,some p.2)))) :
  ∃ D',Inv W0 D0 nt ((s.setObj g none).setObj b (some (.box (fs.set i (.pv (.sl (rows.map fun p=>[.sl p.2]))))))) D' φ a w:= by
 have hbg':b ≠ g:=fun e=>by subst e; simp at hbg
 obtain ⟨hgn,_,g0,g1,g2⟩:=hI.objs g _ hg
 obtain ⟨hbn,hbl,bb,vs,e0,h1,h2,h3,h4⟩:=hI.objs b _ hb
 have hD:∀ b,D b -> D b \/ oblk φ g (.pool e sz (rows.map fun p=>(p.1,some p.2))) b:=fun b h=>.inl h
 refine ⟨fun b=>D b \/ oblk φ g (.pool e sz (rows.map fun p=>(p.1,some p.2))) b,hI.chg b (fun j=>j = b \/ j = g) (Below.refl _ _) (fun _ _ _=>rfl) (fun _ h=>.inl h) ?_ (fun _ _=>rfl) (Nat.le_refl _) (fun t x hx=>hx) ?_ ?_⟩
 ·intro b' hb'
  rcases hb' with hb'|hb'
  ·exact .inl hb'
  ·exact .inr ⟨(hI.own g _ b' hg hb').2.2,.inr ⟨g,_,.inr rfl,hg,hb'⟩⟩
 ·intro id ob hid ho
  rw [ASt.obj_setObj,if_neg (fun e=>hid e.symm),ASt.obj_setObj] at ho
  split at ho
  ·cases ho
  ·rename_i hri; exact ⟨fun h=>h.elim hid (fun h=>hri h.symm),ho⟩
 ·intro ob ho
  rw [ASt.obj_setObj,if_pos rfl] at ho
  cases ho
  refine ⟨hbn,FV.ltL_set rfl fs i hbl,⟨bb,vs,e0,h1,h2,by simpa using h3,fun j v y hv hy=>?_⟩,fun b' hb'=>?_⟩
  ·rcases getElem?_mem_set hy with ⟨hj,hl,rfl⟩|⟨hj,hy⟩
   ·subst hj
    refine ⟨rfl,?_⟩
    have hr:=(h4 j v _ hv hi).2
    have key:∀ (es:List (List PV)) (v:Value),es = rows.map (fun p=>[PV.raw p.1]) -> Rep w D v (.sl es) -> Rep w (fun b=>D b \/ oblk φ g (.pool e sz (rows.map fun p=>(p.1,some p.2))) b) v (.sl (rows.map fun p=>[.sl p.2])):= by
     intro es v he hr
     cases hr with
     | sl a n c sz' es us hn hcap hmax hsz ha hlf hr =>
      subst he
      have hrow:∀ (i:Nat) (e:List PV),(rows.map fun p=>[PV.sl p.2])[i]? = some e -> ∃ p,rows[i]? = some p /\ e = [.sl p.2]:=fun i e h=>by
       rw [List.getElem?_map,Option.map_eq_some_iff] at h
       obtain ⟨p,hp,rfl⟩:=h
       exact ⟨p,hp,rfl⟩
      refine .sl a n c sz' _ us (by simpa using hn) hcap hmax (fun i e h=>?_) (fun i j hi hj=>?_) (fun i j e p h hp=>?_) (fun i j e p h hp=>?_)
      ·obtain ⟨p,hp,rfl⟩:=hrow i e h
       exact hsz i [.raw p.1] (by rw [List.getElem?_map,hp]; rfl)
      ·obtain ⟨q,q1,q2,q3⟩:=ha i j hi hj
       exact ⟨q,q1,.inl q2,q3⟩
      ·obtain ⟨p',hp',rfl⟩:=hrow i e h
       have:j = 0:= by
        have:=(List.getElem?_eq_some_iff.1 hp).1; simpa using this
       subst this
       cases hp; rfl
      ·obtain ⟨p',hp',rfl⟩:=hrow i e h
       have:j = 0:= by
        have:=(List.getElem?_eq_some_iff.1 hp).1; simpa using this
       subst this
       simp only [List.getElem?_cons_zero,Option.some.injEq] at hp
       subst hp
       have hu:us i 0 = p'.1:= by
        exact (hr i 0 [.raw p'.1] (.raw p'.1) (by rw [List.getElem?_map,hp']; rfl) rfl).inv_raw
       rw [hu]
       have hm:(p'.1,some p'.2) ∈ rows.map fun p=>(p.1,some p.2):=List.mem_map.2 ⟨p',List.mem_of_getElem? hp',rfl⟩
       obtain ⟨xs,q1,q2⟩:=g1 p'.1 p'.2 hm
       exact owns_rep q1 (q2.mono (fun _ _=>rfl) (fun _ h=>.inl h)) (fun b hb=>.inr ⟨p'.1,p'.2,hm,hb⟩)
    generalize hq:FV.pv (.sl (rows.map fun p=>[PV.raw p.1])) = q at hr
    cases hr <;> cases hq
    rename_i hr
    exact .pv _ _ (key _ _ rfl hr)
   ·obtain ⟨q1,q2⟩:=h4 j v y hv hy
    refine ⟨q1,?_⟩
    have hyl:y.lt s.nxt = true:=FV.lt_mem hbl (List.mem_of_getElem? hy)
    exact q2.mono (n:=s.nxt) (fun _ _=>rfl) (fun _ h=>.inl h) (fun _ _=>rfl) hyl
  ·have hb2:oblk φ b (.box fs) b':=hb'
   obtain ⟨q1,q2,q3⟩:=hI.own b _ b' hb hb2
   refine ⟨fun h=>?_,q3,.inr ⟨b,_,.inl rfl,hb,hb2⟩⟩
   rcases h with h|h
   ·exact q1 h
   ·exact hbg' (hI.sep b _ g _ b' hb hg hb2 h)
theorem AW_poolPure (b i g:Nat) {e sz:Nat} {fs:List FV} {rows:List (Value × List (List PV))} (hbg:Nat.beq b g = false) (hb:s.obj b = some (.box fs)) (hi:fs[i]? = some (.pv (.sl (rows.map fun p=>[.raw p.1])))) (hg:s.obj g = some (.pool e sz (rows.map fun p=>(p.1,some p.2))))
  (h:AW P nt c Q ((s.setObj g none).setObj b (some (.box (fs.set i (.pv (.sl (rows.map fun p=>[.sl p.2])))))))):AW P nt c Q s:=fun ro W0 D0 D φ a w hro hI=>by
 obtain ⟨D',hI'⟩:=hI.poolPure hbg hb hi hg
 exact h ro W0 D0 D' φ a w hro hI'
section
variable {T:Nat -> Option TyI} {o:Oper}
theorem op_nilCheck_aptr {x:Operand} {id sz k off:Nat} (ho:o.op = .nilCheck x) (hd:dstB nt o.dst = true) (hx:s.ev x = some (.aptr id sz k off)):OpTo P nt o s (s.putO o.dst (some (.aptr id sz k off))) :=
 OpTo.value hd fun W0 D0 D φ a w hI=>by
  obtain ⟨hlt,hr⟩:=hI.ev hx
  generalize hv:a.eval x = v at hr
  cases hr with
  | aptr id sz k off g n c hφ =>
   refine ⟨_,by simp only [execOp,ho,hv]; rfl,?_⟩
   intro x' hx'; cases hx'
   exact ⟨hlt,.aptr id sz k off g n c hφ⟩
theorem D_nilCheck_aptr {x:Operand} {id sz k off:Nat} (hg:guardT ops s o = true) (ho:o.op = .nilCheck x) (hd:dstB nt o.dst = true) (hx:s.ev x = some (.aptr id sz k off)):StepOK P nt ops o s ⟨some (.aptr id sz k off),false,[],[]⟩ (s.putO o.dst (some (.aptr id sz k off))) :=
 StepOK.mkP hg fun s1 h1 _=>op_nilCheck_aptr ho hd (by rw [ev_agree h1 (by simp [ho,Op.operands])]; exact hx)
theorem D_store_aptr {t id e sz k off:Nat} {x y:Operand} {i:TyI} {es:List (List PV)} {el:List PV} {p:PV} (hT:TabOK P T) (hg:guardT ops s o = true) (ho:o.op = .store t x y) (hd:o.dst = none) (ht:T t = some i) (hx:s.ev x = some (.aptr id sz k off)) (hob:s.obj id = some (.arr e sz es))
  (hel:es[k]? = some el) (hy:s.evS y = some p) (hlf:leafP (cellsP p) = true) (hsz:Nat.beq (cellsP p).length i.size = true) (hfit:Nat.ble (off + (cellsP p).length) sz = true) :
  StepOK P nt ops o s ⟨none,false,[],[id]⟩ ((s.setObj id (some (.arr e sz (es.set k (splice el off (cellsP p)))))).putO o.dst none):= by
 have hb:((s.setObj id (some (.arr e sz (es.set k (splice el off (cellsP p)))))).putO o.dst none).obj id = some (.arr e sz (es.set k (splice el off (cellsP p)))):= by
  have:((s.setObj id (some (.arr e sz (es.set k (splice el off (cellsP p)))))).putO o.dst none).obj id = (s.setObj id (some (.arr e sz (es.set k (splice el off (cellsP p)))))).obj id:=by cases o.dst <;> rfl
  rw [this,ASt.obj_setObj,if_pos rfl]
 refine StepOK.mkL hg (by rw [hd]; rfl) (by rw [hd]; rfl) (by simp only [List.map_cons,List.map_nil,hb]; rw [hd]; rfl) fun s1 h1 h2=>?_
 have h8:=op_store_aptr (nt:=nt) (s:=s1) hT ho hd ht (by rw [ev_agree h1 (by simp [ho,Op.operands])]; exact hx) (by rw [h2 id (by simp)]; exact hob) hel (evS_D (by rw [evS_local h1 (by simp [ho,Op.operands])]; exact hy)) hlf hsz hfit
 refine h8.ext (fun t=>?_) (fun id'=>?_) ?_
 ·rw [hd]; rfl
 ·simp only [List.map_cons,List.map_nil,hb]; rfl
 ·rfl
end
end
end Go.Abs
namespace Go.Abs
open Go.Proofs
set_option maxRecDepth 100000
abbrev rawC (v:Value):List PV:=[.raw v]
def eBndRC (w:Work) (vs:List Value):List PV:=eWorkC w ++ [.sl (vs.map rawC)]
def eBndR (w:Work) (vs:List Value):PV:=.agg (eBndRC w vs)
def poolL (vs:List Value) (G:List (List Span)):List (Value × Option (List (List PV))):=List.zipWith (fun v l=>(v,some (l.map eSpan))) vs G
abbrev poolO (vs:List Value) (G:List (List Span)):AObj:=.pool 56 2 (poolL vs G)
theorem poolL_get {vs:List Value} {G:List (List Span)} {r:Nat} {v:Value} {l:List Span} (hv:vs[r]? = some v) (hl:G[r]? = some l):(poolL vs G)[r]? = some (v,some (l.map eSpan)):= by
 rw [poolL,List.getElem?_zipWith,hv,hl]
theorem poolL_set {vs:List Value} {G:List (List Span)} {r:Nat} {v:Value} {l:List Span} {x:Option (List (List PV))} (hv:vs[r]? = some v) (hr:r < G.length):((poolL vs G).set r (v,x)).set r (v,some (l.map eSpan)) = poolL vs (G.set r l):= by
 rw [List.set_set]
 refine List.ext_getElem? fun i=>?_
 rw [poolL,poolL,List.getElem?_zipWith,List.getElem?_set,List.getElem?_set,List.getElem?_zipWith,List.length_zipWith]
 have hvl:=(List.getElem?_eq_some_iff.1 hv).1
 by_cases h:r = i
 ·subst h
  rw [if_pos rfl,if_pos rfl,if_pos (by omega),if_pos hr,hv]
 ·rw [if_neg h,if_neg h]
def narrowG (G:List (List Span)) (r c:Nat) (s:Span):List (List Span):=match G[r]? with
 | some l=>match l[c]? with
  | some x=>G.set r (l.set c (common x s))
  | none=>G
 | none=>G
theorem narrowG_at {G:List (List Span)} {r c:Nat} {s x:Span} {l:List Span} (hl:G[r]? = some l) (hx:l[c]? = some x):narrowG G r c s = G.set r (l.set c (common x s)):= by
 rw [narrowG,hl]; simp only []; rw [hx]
theorem t170 (x:List Int) (c:Nat) (a b:Int) (ha:x[c]? = some a) (hb:x[c + 1]? = some b) (hx:x.length <= 1000):ACalls Tryz.prog 170 [vi c,.ptr [eInts x]] (fun r=>r = .pv (.bool (!decide (a = 1) && !decide (b = 1)))):= by
 have hc:c < x.length:=(List.getElem?_eq_some_iff.1 ha).1
 have e1:=get_map eInt ha
 have e2:(x.map eInt)[((c:Int) + 1).toNat]? = some (eInt b):=by rw [show ((c:Int) + 1).toNat = c + 1 by omega]; exact get_map eInt hb
 refine ACalls.of_body hT Tryz.func170 rfl (by kernel_rfl) rfl ?_
 (repeat' (first|refine stq ?_|((first|(with_reducible refine AL_id ?_); (fail_if_success (refine glq rfl rfl rfl ?_)); first|refine AL_gdec rfl rfl rfl (fun hg=>?_) (fun hg=>?_)|refine AL_gnot rfl rfl rfl (fun hg=>?_) (fun hg=>?_)|refine AL_gcases rfl rfl rfl (fun hg=>?_) (fun hg=>?_)) <;> (try (exfalso; omega)))|refine AW_if rfl (fun hc=>absurd hc (by omega)) (fun _=>?_)|refine AW_if rfl (fun _=>?_) (fun hc=>absurd (by omega) hc)))
 all_goals exact ⟨_,_,rfl,rfl,by simp_all⟩
set_option maxHeartbeats 4000000 in
theorem t169 (w:Work) (vs:List Value) (G:List (List Span)) (r c:Nat) (s x:Span) (v:Value) (l:List Span) (hv:vs[r]? = some v) (hl:G[r]? = some l) (hx:l[c]? = some x) (hne:(common x s).low <= (common x s).high) :
  ACallsX Tryz.prog 169 [.pv (eBndR w vs),.pv (vi r),.pv (vi c),.pv (eS s)] [(0,poolO vs G)] 1 (fun sf=>sf = mkSt [(0,.tup [])] [(0,poolO vs (narrowG G r c s))] 1) (fun _ _=>False):= by
 have hrl:r < G.length:=(List.getElem?_eq_some_iff.1 hl).1
 have hcl:c < l.length:=(List.getElem?_eq_some_iff.1 hx).1
 have ev:(vs.map rawC)[(r:Int).toNat]? = some (rawC v):=get_map rawC hv
 have ex:(l.map eSpan)[(c:Int).toNat]? = some (eSpan x):=get_map eSpan hx
 have ex':(l.map eSpan)[c]? = some (eSpan x):=map_get hx
 have hlen:(l.map eSpan).length = l.length:=by simp
 have hp:=poolL_get hv hl
 rw [narrowG_at hl hx]
 refine ACallsX.of_body hT Tryz.func169 rfl (by kernel_rfl) rfl ?_
 (repeat (refine stq ?_))
 refine AL_poolOut (t:=13) (g:=0) r rfl rfl hp ?_
 refine AL_do2 rfl ⟨_,op_indexAddr_arr (n:=(c:Int)) hT rfl rfl rfl rfl rfl rfl rfl rfl (by omega) (by rw [hlen]; omega) rfl,?_⟩
 (repeat (refine stq ?_))
 (repeat (first|refine DG_next (D_nilCheck_aptr rfl rfl rfl rfl) ?_|refine DG_next (D_load_aptr (el:=eSpan x) hT rfl rfl rfl rfl rfl rfl ex' rfl) ?_|refine sdq ?_))
 refine DG_next (D_store_aptr (el:=eSpan x) hT rfl rfl rfl rfl rfl rfl ex' rfl rfl rfl rfl) ?_
 refine DG_end hM (by kernel_rfl) ?_
 (repeat (refine stq ?_))
 refine AL_do2 rfl ⟨_,op_nilCheck_aptr rfl rfl rfl,?_⟩
 (repeat (refine stq ?_))
 have hcl2:(c:Int).toNat < (l.map eSpan).length:=by omega
 refine AL_do2 rfl ⟨_,op_store_aptr (el:=[vi (max x.low s.low),vi x.high]) hT rfl rfl rfl rfl rfl (by rw [List.getElem?_set,if_pos rfl,if_pos hcl2]; rfl) rfl rfl rfl rfl,?_⟩
 rw [List.set_set]
 (repeat (refine stq ?_))
 have ex2:((l.map eSpan).set (c:Int).toNat (splice [vi (max x.low s.low),vi x.high] (0 + 1) (cellsP (.int .i64 (min x.high s.high)))))[(c:Int).toNat]? = some (eSpan (common x s)):= by
  rw [List.getElem?_set,if_pos rfl,if_pos hcl2]; rfl
 generalize hes:(l.map eSpan).set (c:Int).toNat (splice [vi (max x.low s.low),vi x.high] (0 + 1) (cellsP (.int .i64 (min x.high s.high)))) = es at *
 (repeat (first|refine DG_next (D_nilCheck_aptr rfl rfl rfl rfl) ?_|refine DG_next (D_load_aptr (el:=eSpan (common x s)) hT rfl rfl rfl rfl rfl rfl ex2 rfl) ?_|refine sdq ?_))
 refine DG_end hM (by kernel_rfl) ?_
 (repeat (refine stq ?_))
 refine AW_if rfl (fun hc=>absurd hc (by show ¬ ((common x s).low > (common x s).high); omega)) (fun _=>?_)
 have hes2:es = (l.set c (common x s)).map eSpan:= by
  rw [<- hes]
  exact map_put l c (common x s)
 have hpn:((poolL vs G).set r (v,none))[r]? = some (v,none):= by
  rw [List.getElem?_set,if_pos rfl,if_pos (List.getElem?_eq_some_iff.1 hp).1]
 refine AW_poolBack 3 4 0 r rfl rfl rfl rfl rfl hpn ?_
 (repeat (refine stq ?_))
 refine ⟨_,mkSt [(0,.tup [])] [(0,poolO vs (G.set r (l.set c (common x s))))] 1,rfl,?_,rfl⟩
 (refine Le.mk ?_ ?_; all_goals (repeat' (first|exact trivial|refine sle ?_|refine ⟨?_,rfl,?_⟩|refine ⟨?_,by decide,rfl,?_⟩|fail)))
 show some (AObj.pool 56 2 (((poolL vs G).set r (v,none)).set r (v,some es))) = _
 rw [hes2,poolL_set hv hrl]
end Go.Abs
namespace Go.Abs
def row0 (l:List Int):List Span:=l.map fun c=>if c = 1 then ⟨0,0⟩ else ⟨0,60⟩
def spanN (G:List (List Span)) (r c:Nat):Span:=((G[r]?.getD [])[c]?).getD ⟨0,0⟩
def joinN (x:List Int) (c:Nat):Bool:=!decide ((x[c]?).getD 1 = 1) && !decide ((x[c + 1]?).getD 1 = 1)
def gSpan (g:Gauge):Span:=⟨g.seen - g.off,g.seen + g.off⟩
def gStep (G:List (List Span)) (g:Gauge):List (List Span):=narrowG G g.row.toNat g.col.toNat (gSpan g)
def fwdG (m:SMap) (x:List Int) (r:Nat) (G:List (List Span)) (c:Nat):List (List Span):=if joinN x c then narrowG G r (c + 1) ⟨(spanN G r c).low - m.taper,(spanN G r c).high⟩ else G
def bwdG (m:SMap) (x:List Int) (r:Nat) (G:List (List Span)) (c:Nat):List (List Span):=if joinN x c then narrowG G r c ⟨(spanN G r (c + 1)).low,(spanN G r (c + 1)).high + m.taper⟩ else G
def fwdN (m:SMap) (x:List Int) (r:Nat) (G:List (List Span)):Nat -> List (List Span)
 | 0=>G
 | k + 1=>fwdG m x r (fwdN m x r G k) k
def bwdN (m:SMap) (x:List Int) (r:Nat):Nat -> List (List Span) -> List (List Span)
 | 0,G=>G
 | k + 1,G=>bwdN m x r k (bwdG m x r G k)
def rowN (m:SMap) (G:List (List Span)) (r:Nat):List (List Span):=match m.cells[r]? with
 | some x=>bwdN m x r (x.length - 1) (fwdN m x r G (x.length - 1))
 | none=>G
def gaugesN (m:SMap):Nat -> List (List Span)
 | 0=>m.cells.map row0
 | k + 1=>match m.gauges[k]? with
  | some g=>gStep (gaugesN m k) g
  | none=>gaugesN m k
def rowsN (m:SMap):Nat -> List (List Span)
 | 0=>gaugesN m m.gauges.length
 | k + 1=>rowN m (rowsN m k) k
def thickM (m:SMap):List (List Span):=rowsN m m.cells.length
structure InG (m:SMap) (t:List (List Int)) (G:List (List Span)):Prop where
 len:G.length = m.cells.length
 row:∀ l ∈ G,l.length = colsN m
 inn:∀ (r c:Nat) (l:List Span) (s:Span),G[r]? = some l -> l[c]? = some s -> 0 <= s.low /\ s.low <= numT t r c /\ numT t r c <= s.high /\ s.high <= 60
theorem InG.at {m:SMap} {t:List (List Int)} {G:List (List Span)} (h:InG m t G) {r c:Nat} (hr:r < m.cells.length) (hc:c < colsN m):∃ l,G[r]? = some l /\ l[c]? = some (spanN G r c) /\ l.length = colsN m /\
  0 <= (spanN G r c).low /\ (spanN G r c).low <= numT t r c /\ numT t r c <= (spanN G r c).high /\ (spanN G r c).high <= 60:= by
 have h1:=h.len
 obtain ⟨l,hl⟩:∃ l,G[r]? = some l:=⟨G[r]'(by omega),by simp⟩
 have h2:=h.row l (List.mem_of_getElem? hl)
 obtain ⟨s,hs⟩:∃ s,l[c]? = some s:=⟨l[c]'(by omega),by simp⟩
 have e:spanN G r c = s:=by rw [spanN,hl,Option.getD_some,hs,Option.getD_some]
 rw [e]
 exact ⟨l,hl,hs,h2,h.inn r c l s hl hs⟩
theorem InG.narrow {m:SMap} {t:List (List Int)} {G:List (List Span)} (h:InG m t G) {r c:Nat} (hr:r < m.cells.length) (hc:c < colsN m) {s:Span} (h1:s.low <= numT t r c) (h2:numT t r c <= s.high) :
  InG m t (narrowG G r c s) /\ (common (spanN G r c) s).low <= (common (spanN G r c) s).high:= by
 obtain ⟨l,hl,hx,hll,b1,b2,b3,b4⟩:=h.at hr hc
 rw [narrowG_at hl hx]
 refine ⟨⟨by rw [List.length_set]; exact h.len,fun l' hl'=>?_,fun r' c' l' s' hl' hs'=>?_⟩,by simp only [common]; omega⟩
 ·rcases List.mem_or_eq_of_mem_set hl' with g|g
  ·exact h.row l' g
  ·rw [g,List.length_set]; exact hll
 ·rw [List.getElem?_set] at hl'
  split at hl'
  ·rename_i e
   subst e
   split at hl'
   ·cases hl'
    rw [List.getElem?_set] at hs'
    split at hs'
    ·rename_i e
     subst e
     split at hs'
     ·cases hs'
      simp only [common]
      omega
     ·cases hs'
    ·exact h.inn r c' l s' hl hs'
   ·cases hl'
  ·exact h.inn r' c' l' s' hl' hs'
theorem InG.zero {m:SMap} {t:List (List Int)} (hm:MapP m) (hs:sizedT m t = true) (hf:fitsT m t = true):InG m t (m.cells.map row0):= by
 refine ⟨by simp,fun l hl=>?_,fun r c l s hl hc=>?_⟩
 ·obtain ⟨x,hx,rfl⟩:=List.mem_map.1 hl
  rw [row0,List.length_map]
  exact hm.row x hx
 ·rw [List.getElem?_map,Option.map_eq_some_iff] at hl
  obtain ⟨x,hx,rfl⟩:=hl
  rw [row0,List.getElem?_map,Option.map_eq_some_iff] at hc
  obtain ⟨a,ha,rfl⟩:=hc
  have hr:=(List.getElem?_eq_some_iff.1 hx).1
  have hcl:=(List.getElem?_eq_some_iff.1 ha).1
  have hxl:=cols_row hm hx
  have:=fits_cell hf (r:=r) (c:=c) hr (by omega)
  rw [cellFit,cellI,atG_row hx,ha] at this
  simp only [Option.getD_some] at this
  by_cases h1:a = 1
  ·rw [if_pos h1] at this ⊢
   have:=of_decide_eq_true this
   simp only; omega
  ·rw [if_neg h1,Bool.and_eq_true] at this
   rw [if_neg h1]
   have:=inB_true this.1
   simp only; omega
theorem joined_fits {m:SMap} {t:List (List Int)} (hm:MapP m) (hf:fitsT m t = true) {r c:Nat} {x:List Int} (hx:m.cells[r]? = some x) (hc:c + 1 < x.length) (hj:joinN x c = true):numT t r c - m.taper <= numT t r (c + 1:Nat) /\ numT t r (c + 1:Nat) <= numT t r c:= by
 have hr:=(List.getElem?_eq_some_iff.1 hx).1
 have hxl:=cols_row hm hx
 have:=fits_cell hf (r:=r) (c:=c) hr (by omega)
 simp only [joinN,Bool.and_eq_true,Bool.not_eq_true',decide_eq_false_iff_not] at hj
 have e1:cellI m r c = (x[c]?).getD 1:=by rw [cellI,atG_row hx]
 have e2:cellI m r (c + 1:Int) = (x[c + 1]?).getD 1:=by rw [show ((c:Int) + 1) = ((c + 1:Nat):Int) by omega,cellI,atG_row hx]
 rw [cellFit,if_neg (by rw [e1]; exact hj.1),Bool.and_eq_true,decide_eq_false (by rw [e2]; exact hj.2),Bool.false_or] at this
 have h2:=inB_true this.2
 rw [show ((c:Int) + 1) = ((c + 1:Nat):Int) by omega] at h2
 exact h2
theorem InG.fwd {m:SMap} {t:List (List Int)} {G:List (List Span)} (hm:MapP m) (hf:fitsT m t = true) (h:InG m t G) {r c:Nat} {x:List Int} (hx:m.cells[r]? = some x) (hc:c + 1 < x.length):InG m t (fwdG m x r G c) /\
  (joinN x c = true -> (common (spanN G r (c + 1)) ⟨(spanN G r c).low - m.taper,(spanN G r c).high⟩).low <= (common (spanN G r (c + 1)) ⟨(spanN G r c).low - m.taper,(spanN G r c).high⟩).high):= by
 have hr:=(List.getElem?_eq_some_iff.1 hx).1
 have hxl:=cols_row hm hx
 obtain ⟨l,_,_,_,b1,b2,b3,b4⟩:=h.at (r:=r) (c:=c) hr (by omega)
 rw [fwdG]
 cases hj:joinN x c with
 | false=>exact ⟨by simpa using h,fun h=>by cases h⟩
 | true =>
  have hjf:=joined_fits hm hf hx hc hj
  have:=h.narrow (r:=r) (c:=c + 1) (s:=⟨(spanN G r c).low - m.taper,(spanN G r c).high⟩) hr (by omega) (by simp only; omega) (by simp only; omega)
  exact ⟨by simpa using this.1,fun _=>this.2⟩
theorem InG.bwd {m:SMap} {t:List (List Int)} {G:List (List Span)} (hm:MapP m) (hf:fitsT m t = true) (h:InG m t G) {r c:Nat} {x:List Int} (hx:m.cells[r]? = some x) (hc:c + 1 < x.length):InG m t (bwdG m x r G c) /\
  (joinN x c = true -> (common (spanN G r c) ⟨(spanN G r (c + 1)).low,(spanN G r (c + 1)).high + m.taper⟩).low <= (common (spanN G r c) ⟨(spanN G r (c + 1)).low,(spanN G r (c + 1)).high + m.taper⟩).high):= by
 have hr:=(List.getElem?_eq_some_iff.1 hx).1
 have hxl:=cols_row hm hx
 obtain ⟨l,_,_,_,b1,b2,b3,b4⟩:=h.at (r:=r) (c:=c + 1) hr (by omega)
 rw [bwdG]
 cases hj:joinN x c with
 | false=>exact ⟨by simpa using h,fun h=>by cases h⟩
 | true =>
  have hjf:=joined_fits hm hf hx hc hj
  have:=h.narrow (r:=r) (c:=c) (s:=⟨(spanN G r (c + 1)).low,(spanN G r (c + 1)).high + m.taper⟩) hr (by omega) (by simp only; omega) (by simp only; omega)
  exact ⟨by simpa using this.1,fun _=>this.2⟩
theorem InG.gauge {m:SMap} {t:List (List Int)} {G:List (List Span)} (hm:MapP m) (hf:fitsT m t = true) (h:InG m t G) {g:Gauge} (hg:g ∈ m.gauges):InG m t (gStep G g) /\
  (common (spanN G g.row.toNat g.col.toNat) (gSpan g)).low <= (common (spanN G g.row.toNat g.col.toNat) (gSpan g)).high:= by
 have hb:=gauge_in hm (hm.gg g hg)
 have hgf:gaugeFit t g = true:= by
  simp only [fitsT,Bool.and_eq_true,List.all_eq_true] at hf
  exact hf.2 g hg
 have:=inB_true hgf
 exact h.narrow (s:=gSpan g) (by omega) (by omega) (by simp only [gSpan]; rw [Int.toNat_of_nonneg hb.1,Int.toNat_of_nonneg hb.2.2.1]; omega) (by simp only [gSpan]; rw [Int.toNat_of_nonneg hb.1,Int.toNat_of_nonneg hb.2.2.1]; omega)
theorem in_fwdN {m:SMap} {t:List (List Int)} {G:List (List Span)} (hm:MapP m) (hf:fitsT m t = true) (h:InG m t G) {r:Nat} {x:List Int} (hx:m.cells[r]? = some x):∀ k,k <= x.length - 1 -> InG m t (fwdN m x r G k)
 | 0,_=>h
 | k + 1,hk=>((in_fwdN hm hf h hx k (by omega)).fwd hm hf hx (by omega)).1
theorem in_bwdN {m:SMap} {t:List (List Int)} (hm:MapP m) (hf:fitsT m t = true) {r:Nat} {x:List Int} (hx:m.cells[r]? = some x):∀ (k:Nat) (G:List (List Span)),InG m t G -> k <= x.length - 1 -> InG m t (bwdN m x r k G)
 | 0,G,h,_=>h
 | k + 1,G,h,hk=>in_bwdN hm hf hx k _ (h.bwd hm hf hx (by omega)).1 (by omega)
theorem in_gauges {m:SMap} {t:List (List Int)} (hm:MapP m) (hs:sizedT m t = true) (hf:fitsT m t = true):∀ k,InG m t (gaugesN m k)
 | 0=>.zero hm hs hf
 | k + 1=>by
  have ih:=in_gauges hm hs hf k
  rw [gaugesN]
  split
  ·rename_i g hg; exact (ih.gauge hm hf (List.mem_of_getElem? hg)).1
  ·exact ih
theorem in_rows {m:SMap} {t:List (List Int)} (hm:MapP m) (hs:sizedT m t = true) (hf:fitsT m t = true):∀ k,InG m t (rowsN m k)
 | 0=>in_gauges hm hs hf _
 | k + 1=>by
  have ih:=in_rows hm hs hf k
  rw [rowsN,rowN]
  split
  ·rename_i x hx
   exact in_bwdN hm hf hx _ _ (in_fwdN hm hf ih hx _ (Nat.le_refl _)) (Nat.le_refl _)
  ·exact ih
theorem in_thick {m:SMap} {t:List (List Int)} (hm:MapP m) (hs:sizedT m t = true) (hf:fitsT m t = true):InG m t (thickM m):=in_rows hm hs hf _
theorem InG.thick {m:SMap} {t:List (List Int)} {G:List (List Span)} (h:InG m t G):ThickP m G:= by
 refine ⟨h.len,h.row,fun l hl s hs=>?_⟩
 obtain ⟨r,hr⟩:=List.mem_iff_getElem?.1 hl
 obtain ⟨c,hc⟩:=List.mem_iff_getElem?.1 hs
 obtain ⟨b1,b2,b3,b4⟩:=h.inn r c l s hr hc
 omega
end Go.Abs
