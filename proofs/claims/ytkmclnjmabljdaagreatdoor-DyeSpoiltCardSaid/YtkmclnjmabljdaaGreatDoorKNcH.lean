/- The arguments of a statement's function, read as pure data; its result and its end. -/
import Derived.Test.YtkmclnjmabljdaaGreatDoorKNcG
import Derived.ChangeArms
import Derived.ProofKit
import Derived.LaidMore
import Derived.OpenShut
import Derived.Stop.Joined
import Derived.Deep.Slices
import Derived.Laws.StructEq
import Derived.JoinedOf
import Derived.SevenTiedAt
set_option linter.unusedVariables false
set_option linter.unusedSimpArgs false
namespace Go.Abs
open Go.RowKit Go.ChangeShapes
set_option linter.unusedVariables false
section
variable {H : Type} {enc : TypeId × Value -> H} {P : Program} {W : World}
def RdC (enc : TypeId × Value -> H) (P : Program) (W : World) (t : TypeId) {α : Type} (e : α -> List PV) : Prop :=
 ∀ fuel cs d,DataW.trod enc P W 0 (fun _ => true) true fuel t cs = some d -> ∃ x : α,cs.length = (e x).length /\ ∀ (j : Nat) v p,cs[j]? = some v -> (e x)[j]? = some p -> p.leaf = true /\ Rep W (fun b => b < W.heap.size) v p
theorem RdC.map {t : TypeId} {α β : Type} {e : α -> List PV} {e' : β -> List PV} (f : α -> β) (hf : ∀ x,e' (f x) = e x) (h : RdC enc P W t e) : RdC enc P W t e' := fun fuel cs d hd => by
 obtain ⟨x,h1,h2⟩ := h fuel cs d hd
 exact ⟨f x,by rw [hf]; exact h1,by rw [hf]; exact h2⟩
theorem RdC.int {t : TypeId} {k : IntKind} (ht : P.underlying t = some (.int k)) : RdC enc P W t (fun n : Int => [.int k n]) := fun fuel cs d hd => by
 obtain ⟨n,rfl,_,_⟩ := DataW.trod_int ht hd
 exact ⟨n,rfl,fun j v p hv hp => by
  match j with
  | 0 => simp at hv hp; subst hv; subst hp; exact ⟨rfl,.int _ _⟩
  | j + 1 => simp at hv⟩
theorem RdC.str {t : TypeId} (ht : P.underlying t = some .string) : RdC enc P W t (fun s : ByteArray => [.str s]) := fun fuel cs d hd => by
 obtain ⟨s,rfl,_,_⟩ := DataW.trod_string ht hd
 exact ⟨s,rfl,fun j v p hv hp => by
  match j with
  | 0 => simp at hv hp; subst hv; subst hp; exact ⟨rfl,.str _⟩
  | j + 1 => simp at hv⟩
theorem list_of_lt {α : Type} {n : Nat} {p : Nat -> α -> Prop} (h : ∀ i,i < n -> ∃ x,p i x) : ∃ l : List α,l.length = n /\ ∀ i x,l[i]? = some x -> p i x:= by
 induction n with
 | zero => exact ⟨[],rfl,fun i x hx => by simp at hx⟩
 | succ n ih =>
  obtain ⟨l,h1,h2⟩ := ih fun i hi => h i (by omega)
  obtain ⟨x,hx⟩ := h n (by omega)
  refine ⟨l ++ [x],by simp [h1],fun i y hy => ?_⟩
  by_cases hi : i < l.length
  ·rw [List.getElem?_append_left hi] at hy; exact h2 i y hy
  ·rw [List.getElem?_append_right (by omega)] at hy
   have : i = n:= by
    rcases Nat.lt_or_ge (i - l.length) 1 with h | h
    ·omega
    ·rw [List.getElem?_eq_none (by simpa using h)] at hy; cases hy
   subst this
   have : i - l.length = 0 := by omega
   rw [this] at hy; simp at hy; subst hy; exact hx
theorem add_add' (a : Addr) (m n : Nat) : (a.add m).add n = a.add (m + n):= by
 unfold Addr.add
 by_cases hm : m = 0 <;> by_cases hn : n = 0 <;> simp [hm,hn] <;> omega
theorem cell_lt {a : Addr} {v : Value} (h : W.cell? a = some v) : a.block < W.heap.size:= by
 unfold World.cell? at h
 rcases Nat.lt_or_ge a.block W.heap.size with h' | h'
 ·exact h'
 ·rw [Array.getElem?_eq_none (by omega)] at h; simp at h
theorem RdC.sl {t el : TypeId} {α : Type} {e : α -> List PV} (ht : P.underlying t = some (.slice el)) (hs : ∀ x,(e x).length = P.cellsOf el) (h : RdC enc P W el e) : RdC enc P W t (fun l : List α => [.sl (l.map e)]) := fun fuel cs d hd => by
 rcases DataW.trod_slice ht hd with ⟨rfl,_⟩ | ⟨a,len,cap,elems,rest,n,rfl,rfl,rfl,_,hl,hc,hlen,hel,_⟩
 ·refine ⟨[],rfl,fun j v p hv hp => ?_⟩
  match j with
  | 0 =>
   simp at hv hp; subst hv; subst hp
   exact ⟨rfl,.sl none 0 0 0 [] (fun _ _ => .bool true) rfl (Nat.le_refl _) (Nat.zero_le _) (fun i e h => by simp at h) (fun i j hi => by omega) (fun i j e p h => by simp at h) (fun i j e p h => by simp at h)⟩
  | j + 1 => simp at hv
 ·have key : ∀ i,i < len -> ∃ x : α,∀ j p,(e x)[j]? = some p -> ∃ v,W.cell? (a.add (i * P.cellsOf el + j)) = some v /\ p.leaf = true /\ Rep W (fun b => b < W.heap.size) v p := fun i hi => by
   have h1 := hel i hi
   obtain ⟨y,hy⟩ : ∃ y,elems[i]? = some y := ⟨elems[i]'(by omega),by simp⟩
   rw [hy,Option.bind_eq_some_iff] at h1
   obtain ⟨cs',hcs,htr⟩ := h1
   obtain ⟨_,g2,g3⟩ := World.cells?_some hcs
   obtain ⟨x,hx1,hx2⟩ := h _ _ _ htr
   refine ⟨x,fun j p hp => ?_⟩
   have hj : j < cs'.length := by rw [hx1]; exact (List.getElem?_eq_some_iff.1 hp).1
   have := g3 j (by omega)
   rw [add_add'] at this
   exact ⟨cs'[j],by rw [this]; simp,hx2 j _ _ (by simp) hp⟩
  obtain ⟨l,hl1,hl2⟩ := list_of_lt key
  refine ⟨l,rfl,fun j v p hv hp => ?_⟩
  match j with
  | 0 =>
   simp at hv hp; subst hv; subst hp
   refine ⟨rfl,.sl (some a) len cap (P.cellsOf el) _ (fun i j => (W.cell? (a.add (i * P.cellsOf el + j))).getD (.bool true)) (by simp [hl1]) hl hc ?_ ?_ ?_ ?_⟩
   ·intro i y hy
    rw [List.getElem?_map,Option.map_eq_some_iff] at hy
    obtain ⟨x,_,rfl⟩ := hy
    exact hs x
   ·intro i j hi hj
    obtain ⟨x,hx⟩ : ∃ x,l[i]? = some x := ⟨l[i]'(by omega),by simp⟩
    obtain ⟨p,hp⟩ : ∃ p,(e x)[j]? = some p := ⟨(e x)[j]'(by rw [hs]; exact hj),by simp⟩
    obtain ⟨v,hv,_,_⟩ := hl2 i x hx j p hp
    refine ⟨a,rfl,?_,by rw [hv]; rfl⟩
    have := cell_lt hv
    unfold Addr.add at this
    split at this <;> exact this
   ·intro i j y p hy hp
    rw [List.getElem?_map,Option.map_eq_some_iff] at hy
    obtain ⟨x,hx,rfl⟩ := hy
    obtain ⟨_,_,h2,_⟩ := hl2 i x hx j p hp
    exact h2
   ·intro i j y p hy hp
    rw [List.getElem?_map,Option.map_eq_some_iff] at hy
    obtain ⟨x,hx,rfl⟩ := hy
    obtain ⟨v,hv,_,h3⟩ := hl2 i x hx j p hp
    simp only [hv,Option.getD_some]
    exact h3
  | j + 1 => simp at hv
def RdF (enc : TypeId × Value -> H) (P : Program) (W : World) (t : TypeId) {α : Type} (e : α -> List PV) (fs : List (Nat × Nat)) (k : Nat) : Prop :=
 ∀ cs : List Value,cs.length = P.cellsOf t -> (∀ f ∈ fs,∃ n d,DataW.trod enc P W 0 (fun _ => true) true n f.1 ((cs.drop f.2).take (P.cellsOf f.1)) = some d) →
  ∃ x : α,cs.length = k + (e x).length /\ ∀ (j : Nat) v p,cs[k + j]? = some v -> (e x)[j]? = some p -> p.leaf = true /\ Rep W (fun b => b < W.heap.size) v p
theorem RdF.nil {t : TypeId} {k : Nat} (hk : P.cellsOf t = k) : RdF enc P W t (fun _ : Unit => []) [] k := fun cs hl _ => ⟨(),by simp; omega,fun j v p _ hp => by simp at hp⟩
theorem RdF.cons {t : TypeId} {α β : Type} {e : α -> List PV} {e' : β -> List PV} {u : Nat} {fs : List (Nat × Nat)} {k : Nat} (m : Nat) (hf : RdC enc P W u e) (hm : P.cellsOf u = m) (hle : k + m <= P.cellsOf t) (h : RdF enc P W t e' fs (k + m)) :
  RdF enc P W t (fun x : α × β => e x.1 ++ e' x.2) ((u,k) :: fs) k := fun cs hl hfs => by
 obtain ⟨n,d,hd⟩ := hfs (u,k) (by simp)
 obtain ⟨x,h1,h2⟩ := hf _ _ _ hd
 obtain ⟨y,h3,h4⟩ := h cs hl fun g hg => hfs g (by simp [hg])
 have hx : (e x).length = m := by rw [<- h1,hm]; simp; omega
 refine ⟨(x,y),by simp; omega,fun j v p hv hp => ?_⟩
 change (e x ++ e' y)[j]? = some p at hp
 by_cases hj : j < m
 ·rw [List.getElem?_append_left (by omega)] at hp
  refine h2 j v p ?_ hp
  rw [hm,List.getElem?_take,if_pos hj,List.getElem?_drop]; exact hv
 ·rw [List.getElem?_append_right (by omega),hx] at hp
  refine h4 (j - m) v p ?_ hp
  rw [show k + m + (j - m) = k + j by omega]; exact hv
theorem RdC.strct {t : TypeId} {α : Type} {e : α -> List PV} {fs : List (Nat × Nat)} (ht : P.underlying t = some (.struct (P.fieldsOf t))) (hfs : (P.fieldsOf t).toList.map (fun f => (f.type,f.offset)) = fs) (h : RdF enc P W t e fs 0) : RdC enc P W t e := fun fuel cs d hd => by
 obtain ⟨xs,n,rfl,rfl,hl,hlen,hf⟩ := DataW.trod_struct ht hd
 obtain ⟨x,h1,h2⟩ := h cs hl fun g hg => by
  rw [<- hfs] at hg
  obtain ⟨f,hf',rfl⟩ := List.mem_map.1 hg
  obtain ⟨i,hi,hif⟩ := List.getElem_of_mem hf'
  have := hf i f (by rw [<- Array.getElem?_toList,List.getElem?_eq_getElem hi,hif])
  obtain ⟨y,hy⟩ : ∃ y,xs[i]? = some y := ⟨xs[i]'(by rw [hlen]; simpa using hi),by simp⟩
  exact ⟨n,y,by rw [this,hy]⟩
 exact ⟨x,by omega,fun j v p hv hp => h2 j v p (by simpa using hv) hp⟩
theorem RdC.arg {t : TypeId} {α : Type} {e : α -> List PV} {v : Value} {d : DataW H} {ps : List MemPlace} (h : RdC enc P W t e) (hv : v.cells = #[v]) (he : ∀ x,∃ p,e x = [p]) (hd : DataW.Trod enc P W 0 (fun _ => true) true t v d ps) : ∃ x p,e x = [p] /\ Rep W (fun b => b < W.heap.size) v p:= by
 obtain ⟨n,hn⟩ := hd
 obtain ⟨x,h1,h2⟩ := h _ _ _ hn
 obtain ⟨p,hp⟩ := he x
 exact ⟨x,p,hp,(h2 0 v p (by simp [hv]) (by simp [hp])).2⟩
theorem RdC.argS {t : TypeId} {α : Type} {e : α -> List PV} {cs : Array Value} {d : DataW H} {ps : List MemPlace} (h : RdC enc P W t e) (hd : DataW.Trod enc P W 0 (fun _ => true) true t (.agg cs) d ps) : ∃ x,Rep W (fun b => b < W.heap.size) (.agg cs) (.agg (e x)):= by
 obtain ⟨n,hn⟩ := hd
 obtain ⟨x,h1,h2⟩ := h _ _ _ hn
 exact ⟨x,.agg cs (e x) (by simpa [Value.cells] using h1) fun j v p hv hp => (h2 j v p (by simpa [Value.cells] using hv) hp).2⟩
theorem cells_slice {t el : TypeId} {v : Value} {r : Reach} {b : Nat} (ht : P.underlying t = some (.slice el)) (h : Value.okWide P W r b t v) : v.cells = #[v]:= by
 cases v <;> first | rfl | (simp [Value.okWide,ht,Cell.okWide,Cell.ok] at h)
theorem cells_int {t : TypeId} {k : IntKind} {v : Value} {r : Reach} {b : Nat} (ht : P.underlying t = some (.int k)) (h : Value.okWide P W r b t v) : v.cells = #[v]:= by
 cases v <;> first | rfl | (simp [Value.okWide,ht,Cell.okWide,Cell.ok] at h)
theorem cells_str {t : TypeId} {v : Value} {r : Reach} {b : Nat} (ht : P.underlying t = some .string) (h : Value.okWide P W r b t v) : v.cells = #[v]:= by
 cases v <;> first | rfl | (simp [Value.okWide,ht,Cell.okWide,Cell.ok] at h)
theorem agg_of_struct {t : TypeId} {fs : Array Field} {v : Value} {r : Reach} {b : Nat} (ht : P.underlying t = some (.struct fs)) (h : Value.okWide P W r b t v) : ∃ cs,v = .agg cs:= by
 simp only [Value.okWide,ht] at h
 obtain ⟨cs,h,_⟩ := h
 exact ⟨cs,h⟩
theorem trodAll_lt {ts : List TypeId} {vs : List Value} {ds : List (DataW H)} {ps : List MemPlace} (hl : laidOutB P = true) (hts : ∀ t ∈ ts,P.readableRec t = true /\ t < P.types.size) {W' : World} {sp : Nat -> Bool}
  (h : DataW.TrodAll enc P W 0 (fun _ => true) true ts vs ds ps) (hb : Below W.heap.size W W') (hlt : ∀ p ∈ ps,p.block < W.heap.size) (hsp : ∀ p ∈ ps,sp p.block = true) : DataW.TrodAll enc P W' 0 sp true ts vs ds ps:= by
 induction ts generalizing vs ds ps with
 | nil =>
  cases vs with
  | nil => cases ds with
   | nil => exact h
   | cons => exact h.elim
  | cons => exact h.elim
 | cons t ts ih =>
  cases vs with
  | nil => exact h.elim
  | cons v vs => cases ds with
   | nil => exact h.elim
   | cons d ds =>
    obtain ⟨p,q,h1,h2,rfl⟩ := h
    exact ⟨p,q,WideElems.Trod_stays hl (hts t (by simp)).1 (hts t (by simp)).2 h1 (fun x hx => hb.same (hlt x (by simp [hx]))) (fun x hx => hsp x (by simp [hx])),
     ih (fun u hu => hts u (by simp [hu])) h2 (fun x hx => hlt x (by simp [hx])) (fun x hx => hsp x (by simp [hx])),rfl⟩
theorem law_post {fn : Func} {s : ChangeSpec} {W' : World} {args : Array Value} {ds gs : List (DataW H)} {before : List MemPlace} {t4 : TypeId} (hs : s.vars = []) (hfn : s.fn H ds = { results := [.lit (.bool true)],args := ds })
  (hres : fn.resultTypes = #[t4]) (ht4 : P.underlying t4 = some .bool) (hl : laidOutB P = true) (hts : ∀ t ∈ fn.params.toList,P.readableRec t = true /\ t < P.types.size)
  (hW : DataW.Whole enc P fn.params.toList s.vars false W args.toList ds gs before) (hb : Below W.heap.size W W') : s.post enc P fn false true false false W args (.bool true) W':= by
 have hlt : ∀ p ∈ before,p.block < W.heap.size := fun p hp => hW.lt p hp
 have hW0 := hW
 obtain ⟨p,q,hA,hV,rfl,hfz,hnd⟩ := hW
 rw [hs] at hV
 have hgq : gs = [] /\ q = []:= by
  cases gs with
  | nil => exact ⟨rfl,hV⟩
  | cons => exact hV.elim
 obtain ⟨rfl,rfl⟩ := hgq
 refine ⟨ds,[],p ++ [],[],p,[],hW0,?_,?_,?_,?_,fun h => by cases h⟩
 ·rw [List.append_nil,hfn,hres]
  exact trodAll_mk1 (shut_bool ht4 true)
 ·rw [List.append_nil,hfn]
  exact trodAll_lt hl hts hA hb (fun x hx => hlt x (by simp [hx])) (fun x hx => by have := hlt x (by simp [hx]); simpa using this)
 ·rw [hs,List.append_nil,hfn]; rfl
 ·refine World.keptBut_mono (fun x hx => ⟨hx,?_⟩) (hb.frame (· ∈ p ++ []))
  rw [List.append_nil] at hx
  exact .inr (.inl hx)
end
end Go.Abs
namespace Go.Abs
set_option linter.unusedVariables false
theorem joined_abs {P : Program} {f : FuncId} {fn : Func} {s : ChangeSpec} {c : OpenClaim} (g1 : laidOutB P = true) (g2 : mapsRowed P = true) (g3 : P.stopsHeard = true) (g4 : P.mayEnter = true) (g5 : (c.lifted == P.liftsFinal) = true) (g6 : (P.make == some c.make) = true)
  (g7 : (c.plainKeys == P.plainKeys) = true) (g8 : (P.stops == []) = true) (g9 : (P.stopKnobs == []) = true)
  (h1 : c.wf (OpenSpec.ofChange s) = true) (h2 : (fn.params.all (P.readableRec ·) && namedTie P c.named s.vars) = true) (h2b : ((c.stops == []) && (c.knobs == [])) = true)
  (h3 : (c.inPlace == P.inPlace f) = true) (h4 : (c.unfollowed == P.unfollowed f) = true) (h5 : (c.recurses == P.recurses f) = true) (h6 : (c.named == P.varsNamed f) = true)
  (h7 : ((c.maps == (fn.params.toList ++ s.plain.varTypes P).any (P.mapsRec ·)) && (c.ifaces == (fn.params.toList ++ s.plain.varTypes P).any (P.ifacesRec ·)) && (c.mapsOut == P.mapsAmong fn.resultTypes.toList) &&
   (c.loops == (fn.params.toList ++ s.plain.varTypes P).any (P.loopsFrom ·)) && (c.wideKeys == (fn.params.toList ++ s.plain.varTypes P ++ fn.resultTypes.toList).any (P.wideKeysFrom ·))) = true)
  (h8 : (s.vars.all (P.varReadable ·) && fn.resultTypes.all (fun t => P.readableRec t && decide (t < P.types.size)) && (c.ifacesOut == fn.resultTypes.toList.any (P.ifacesRec ·)) && (c.loopsOut == fn.resultTypes.toList.any (P.loopsFrom ·))) = true)
  (h10 : c.shortTexts.isNone = true)
  (hdom : c.domain.isEmpty = true) (d1 : (c.kinds == []) = true) (d2 : (c.pinned == c.pinnedBy) = true)
  (h14 : ((c.veiled == (fn.params.toList ++ s.plain.varTypes P ++ fn.resultTypes.toList).any (P.veiledRec ·)) && c.veiledFits P fn.params.toList (fn.params.toList ++ s.plain.varTypes P ++ fn.resultTypes.toList)) = true) :
  joinedFacts P f fn s c = true:= by
 simp only [Bool.and_eq_true] at h2 h2b h7 h8 h14
 obtain ⟨a1,a2⟩ := h2
 obtain ⟨a3,a4⟩ := h2b
 obtain ⟨⟨⟨⟨b1,b2⟩,b3⟩,b4⟩,b5⟩ := h7
 obtain ⟨⟨⟨c1,c2⟩,c3⟩,c4⟩ := h8
 obtain ⟨e1,e2⟩ := h14
 unfold joinedFacts
 rw [h1,g1,g2,a1,a2,a3,g8,a4,g9,h3,h4,h5,h6,b1,b2,b3,b4,b5,c1,c2,c3,c4,g7,h10,g3,g4,g5,g6,if_pos hdom,d1,d2,e1,e2]
 rfl
end Go.Abs
namespace Go.Abs
open Go.RowKit
section
variable {H : Type} {enc : TypeId × Value -> H} {P : Program} {w : World} {base : Nat} {spare : Nat -> Bool} {held : Bool}
theorem trodAll_cons {t : TypeId} {ts : List TypeId} {vs : List Value} {ds : List (DataW H)} {ps : List MemPlace} (h : DataW.TrodAll enc P w base spare held (t :: ts) vs ds ps) :
  ∃ v r d e p q,vs = v :: r /\ ds = d :: e /\ ps = p ++ q /\ DataW.Trod enc P w base spare held t v d p /\ DataW.TrodAll enc P w base spare held ts r e q:= by
 cases vs with
 | nil => exact h.elim
 | cons v r => cases ds with
  | nil => exact h.elim
  | cons d e =>
   obtain ⟨p,q,h1,h2,rfl⟩ := h
   exact ⟨v,r,d,e,p,q,rfl,rfl,rfl,h1,h2⟩
theorem trodAll_nil {vs : List Value} {ds : List (DataW H)} {ps : List MemPlace} (h : DataW.TrodAll enc P w base spare held [] vs ds ps) : vs = [] /\ ds = [] /\ ps = []:= by
 cases vs with
 | cons v r => exact h.elim
 | nil => cases ds with
  | cons d e => exact h.elim
  | nil => exact ⟨rfl,rfl,h⟩
def RepLL (w : World) (D : Nat -> Prop) : List Value -> List PV -> Prop
 | [],[] => True
 | v :: vs,p :: ps => Rep w D v p /\ RepLL w D vs ps
 | _,_ => False
theorem repL_nil {D : Nat -> Prop} : RepLL w D [] [] := trivial
theorem repL_cons {D : Nat -> Prop} {v : Value} {p : PV} {vs : List Value} {ps : List PV} (h : Rep w D v p) (hs : RepLL w D vs ps) : RepLL w D (v :: vs) (p :: ps) := ⟨h,hs⟩
theorem repLL_spec {D : Nat -> Prop} : ∀ {vs : List Value} {ps : List PV},RepLL w D vs ps -> vs.length = ps.length /\ ∀ (j : Nat) (u : Value) (p : PV),vs[j]? = some u -> ps[j]? = some p -> Rep w D u p
 | [],[],_ => ⟨rfl,fun j u p h => by simp at h⟩
 | [],_ :: _,h => h.elim
 | _ :: _,[],h => h.elim
 | v :: vs,p :: ps,h => by
  obtain ⟨h1,h2⟩ := repLL_spec h.2
  refine ⟨by simp [h1],fun j u q hu hq => ?_⟩
  match j with
  | 0 => simp at hu hq; subst hu; subst hq; exact h.1
  | j + 1 => exact h2 j u q (by simpa using hu) (by simpa using hq)
theorem repL_arr {D : Nat -> Prop} {vs : List Value} {ps : List PV} (h : RepLL w D vs ps) : RepL w D vs.toArray ps:= by
 obtain ⟨h1,h2⟩ := repLL_spec h
 exact ⟨by simpa using h1,fun j u p hu hp => h2 j u p (by simpa using hu) hp⟩
end
end Go.Abs
