/- Operations that are passed over leave a mark in their slots, so that what hangs on them is passed over too. -/
import Derived.Test.YtpoaccdbakbjhaaGreatXG16
import Derived.Test.YtpoaccdbakbjhaaGreatXG14
set_option linter.unusedVariables false
set_option linter.unusedSimpArgs false
namespace Go.Abs
open Go.RowKit
section
variable {P:Program} {T:Nat -> Option TyI} {nt:Nat} {s:ASt} {o:Oper} {ops:Array Oper} {rest:List Oper} {Q:Exit -> ASt -> Prop}
def skipB (ops:Array Oper) (s:ASt) (o:Oper):Bool:=match o.guard with
 | none=>false
 | some (j,b)=>match (ops[j]?).bind (·.dst) with
  | some d=>match s.get d with
   | some (.pv (.bool c))=>!(c == b)
   | some (.tup [])=>true
   | _=>false
  | none=>false
theorem skipB_wanted (h:skipB ops s o = true) {W0:World} {D0:Bas} {D:Nat -> Prop} {φ:Nat -> Value} {a:Act} {w:World} (hI:Inv W0 D0 nt s D φ a w):¬ Region.wanted o (yielded ops a.tmps) = true:= by
 unfold skipB at h
 split at h
 ·cases h
 ·rename_i j b hg
  split at h
  ·rename_i d hd
   split at h
   ·rename_i c hc
    have:=yielded_of hI hd hc
    simp only [Region.wanted,hg,this]
    simpa using h
   ·rename_i hc
    obtain ⟨_,v,hv,hr⟩:=hI.env d _ hc
    have hv':v = .tuple #[]:= by
     cases hr with
     | tup vs cs hl _ =>
      have:vs = #[]:=Array.eq_empty_of_size_eq_zero (by simpa using hl)
      rw [this]
    have:yielded ops a.tmps j = none:=by simp [yielded,hd,hv,hv']
    simp [Region.wanted,hg,this]
   ·cases h
  ·cases h
theorem tup_undef {w:World} {D:Nat -> Prop} {φ:Nat -> Value}:FRep w D φ undef (.tup []):=.tup _ _ rfl fun j v p h=>by simp at h
theorem AL_skip (hs:skipB ops s o = true) (hd:dstB nt o.dst = true) (h:AL P nt ops rest Q (s.putO o.dst (some (.tup [])))):AL P nt ops (o :: rest) Q s:= by
 intro ro W0 D0 D φ a w hr hI
 unfold wpListIn
 rw [if_neg (skipB_wanted hs hI)]
 exact ⟨fun _ _=>trivial,h ro W0 D0 D φ _ w hr (hI.put o.dst (dstB_lt hd) undef _ (fun _ h=>by cases h; exact ⟨rfl,tup_undef⟩))⟩
theorem skipB_local {s1:ASt} (h:∀ t ∈ needs ops o,s1.get t = s.get t):skipB ops s1 o = skipB ops s o:= by
 unfold skipB
 split
 ·rfl
 ·rename_i j b hg
  split
  ·rename_i d hd
   rw [h d (List.mem_append_left _ (by simp [guardTmp,hg,hd]))]
  ·rfl
theorem StepOK.skipU (hs:skipB ops s o = true) (hd:dstB nt o.dst = true):StepOK P nt ops o s ⟨some (.tup []),false,[],[]⟩ (s.putO o.dst (some (.tup []))):= by
 refine ⟨by cases hd:o.dst <;> rfl,fun _=>by cases hd:o.dst <;> exact ⟨rfl,rfl⟩,fun h=>(by cases h),fun _ s1 h1 h2 _=>?_,fun h=>(by cases h)⟩
 show GOpTo P nt ops o s1 ⟨putE s1.env o.dst (some (.tup [])),s1.objs,s1.nxt⟩
 rw [putE_eq]
 intro ro W0 D0 D φ a w hI K Q hK
 rw [if_neg (skipB_wanted (by rw [skipB_local h1]; exact hs) hI)]
 exact hK D φ _ w (hI.put o.dst (dstB_lt hd) undef _ (fun _ h=>by cases h; exact ⟨rfl,tup_undef⟩))
end
end Go.Abs
namespace Go.Abs
open Go.Proofs
theorem stp {G' G:Prop} (y:G') (h:G' -> G:=by intro x; first|exact AL_step hT rfl x|exact AL_nil_then x|exact AW_seq x|exact AW_region x|exact AW_block x|exact AW_ret x|exact AW_skip x|exact AW_exit x|exact AW_label x|exact then_normal x|exact then_exit x|exact then_ret x|exact inblk_here x|exact inblk_normal x|exact inblk_ret x|exact inblk_other rfl x|exact AL_nil x|exact DG_start x|exact AW_scope x|exact nogo_normal x|exact nogo_ret x|exact nogo_exit x|exact AW_cond_t rfl x|exact AW_cond_f rfl x|(refine AL_do2 rfl ?_; first|exact ⟨_,op_add rfl rfl rfl rfl (by omega),x⟩|exact ⟨_,op_sub rfl rfl rfl rfl (by omega),x⟩|exact ⟨_,op_len_sl hT rfl rfl rfl rfl rfl (len_map _ _),x⟩|exact ⟨_,op_indexAddr_sl hT rfl rfl rfl rfl rfl rfl rfl (by omega) (by assumption) rfl rfl,x⟩|exact ⟨_,op_mul rfl rfl rfl rfl (by assumption),x⟩|exact ⟨_,op_min2 rfl rfl rfl rfl,x⟩|exact ⟨_,op_max2 rfl rfl rfl rfl,x⟩|exact ⟨_,op_append hT rfl rfl rfl rfl rfl rfl rfl rfl rfl rfl rfl (by intro y hy; (first|(simp only [List.mem_cons,List.not_mem_nil,or_false] at hy; subst hy; rfl)|(simp only [List.mem_cons,List.not_mem_nil,or_false] at hy; rcases hy with hy|hy <;> subst hy <;> rfl)|(obtain ⟨_,_,rfl⟩:=List.mem_map.1 hy; rfl)|(cases hy))) (by simp only [List.length_map,List.length_take,List.length_cons,List.length_nil,List.length_append]; omega) rfl,x⟩|exact ⟨_,op_mkmeth rfl rfl rfl,x⟩|exact ⟨_,op_build_arr hT rfl rfl rfl rfl rfl rfl rfl,x⟩|exact ⟨_,op_index_arr hT rfl rfl rfl rfl rfl rfl rfl rfl rfl (by omega) (by omega) rfl,x⟩|exact ⟨_,op_indexAddr_box hT rfl rfl rfl rfl rfl rfl rfl (by omega) (by omega),x⟩|exact ⟨_,op_neg rfl rfl rfl (by omega),x⟩|exact ⟨_,op_and rfl rfl rfl rfl,x⟩|exact ⟨_,op_shl rfl rfl rfl rfl (by omega),x⟩|exact ⟨_,op_shr rfl rfl rfl rfl (by omega),x⟩|exact ⟨_,op_conv hT rfl rfl rfl rfl rfl rfl rfl,x⟩|exact ⟨_,op_bin (k:=.u64) rfl rfl rfl rfl rfl,x⟩)):G:=h y
theorem sle {G' G:Prop} (y:G') (h:G' -> G:=by intro x; first|exact ⟨rfl,rfl,x⟩|exact ⟨rfl,by decide,rfl,x⟩):G:=h y
theorem sdr {G' G:Prop} (y:G') (h:G' -> G:=by intro x; first|exact DG_step hT rfl x|exact DG_next (D_add rfl rfl rfl rfl rfl (by omega)) x|exact DG_next (D_sub rfl rfl rfl rfl rfl (by omega)) x|exact DG_next (D_len hT rfl rfl rfl rfl rfl rfl (len_map _ _)) x|exact DG_next (D_indexAddr hT rfl rfl rfl rfl rfl rfl rfl rfl (by omega) (by assumption) rfl rfl) x|exact DG_next (D_mul rfl rfl rfl rfl rfl (by assumption)) x|exact DG_next (D_min2 rfl rfl rfl rfl rfl) x|exact DG_next (D_max2 rfl rfl rfl rfl rfl) x|exact DG_next (D_buildSlice hT rfl rfl rfl rfl rfl rfl rfl rfl rfl rfl) x|exact DG_next (D_append hT rfl rfl rfl rfl rfl rfl rfl rfl rfl rfl rfl rfl (by intro y hy; (first|(simp only [List.mem_cons,List.not_mem_nil,or_false] at hy; subst hy; rfl)|(simp only [List.mem_cons,List.not_mem_nil,or_false] at hy; rcases hy with hy|hy <;> subst hy <;> rfl)|(obtain ⟨_,_,rfl⟩:=List.mem_map.1 hy; rfl)|(cases hy))) (by simp only [List.length_map,List.length_take,List.length_cons,List.length_nil,List.length_append]; omega) rfl) x|exact DG_next (D_conv hT rfl rfl rfl rfl rfl rfl rfl rfl) x):G:=h y
end Go.Abs
namespace Go.Abs
open Go.Proofs
def nN (f:Nat -> Option ASt):Nat -> Option ASt
 | 0=>f 0
 | k + 1=>f (k + 1)
def nL {α:Type} (f:List α -> Option ASt):List α -> Option ASt
 | []=>f []
 | p :: r=>f (p :: r)
def nO {α:Type} (f:Option α -> Option ASt):Option α -> Option ASt
 | some y=>f (some y)
 | none=>f none
def nE {α:Type} (f:List (Nat × Option α) -> Option ASt):List (Nat × Option α) -> Option ASt
 | []=>f []
 | (d,x) :: r=>nO (fun x=>nL (fun r=>f ((d,x) :: r)) r) x
def norm1:ASt -> Option ASt
 | ⟨e,o,n⟩=>nN (fun n=>nE (fun o=>nE (fun e=>some ⟨e,o,n⟩) e) o) n
theorem nN_id (f:Nat -> Option ASt) (n:Nat):nN f n = f n:=by cases n <;> rfl
theorem nL_id {α:Type} (f:List α -> Option ASt) (l:List α):nL f l = f l:=by cases l <;> rfl
theorem nO_id {α:Type} (f:Option α -> Option ASt) (o:Option α):nO f o = f o:=by cases o <;> rfl
theorem nE_id {α:Type} (f:List (Nat × Option α) -> Option ASt) (l:List (Nat × Option α)):nE f l = f l:= by
 cases l with
 | nil=>rfl
 | cons p r=>simp only [nE,nO_id,nL_id]
theorem norm1_id (s:ASt):norm1 s = some s:=by simp only [norm1,nN_id,nE_id]
section
variable {P:Program} {T:Nat -> Option TyI} {nt:Nat} {s s2:ASt} {o:Oper} {ops:Array Oper} {rest:List Oper} {Q:Exit -> ASt -> Prop}
theorem nrmA (h:norm1 s = some s2) (x:AL P nt ops rest Q s2):AL P nt ops rest Q s:= by
 rw [norm1_id] at h; cases h; exact x
theorem nrmD {id:Nat} {opl:List Oper} {s0:ASt} {k:Nat} {l:List DEnt} (h:norm1 s = some s2) (x:DG P nt id opl Q s0 k rest s2 l):DG P nt id opl Q s0 k rest s l:= by
 rw [norm1_id] at h; cases h; exact x
theorem AL_stepN (hT:TabOK P T) (hs:(stepG T nt ops s o).bind norm1 = some s2) (h:AL P nt ops rest Q s2):AL P nt ops (o :: rest) Q s:= by
 cases hg:stepG T nt ops s o with
 | none=>rw [hg] at hs; cases hs
 | some s1 =>
  rw [hg] at hs
  have:some s1 = some s2:=(norm1_id s1).symm.trans hs
  cases this
  exact AL_step hT hg h
theorem AL_id (h:AL P nt ops rest Q s):AL P nt ops rest Q s:=h
theorem AL_glit {j d:Nat} {b c:Bool} (hg:o.guard = some (j,b)) (hj:(ops[j]?).bind (·.dst) = some d) (hd:s.get d = some (.pv (.bool c))) (hc:c = true \/ c = false) (h:AL P nt ops (o :: rest) Q s):AL P nt ops (o :: rest) Q s:=h
theorem glq {j d:Nat} {b c:Bool} (hg:o.guard = some (j,b)) (hj:(ops[j]?).bind (·.dst) = some d) (hd:s.get d = some (.pv (.bool c))) (h:AL P nt ops (o :: rest) Q s) (hc:c = true \/ c = false:=by first|exact .inl (by with_reducible rfl)|exact .inr (by with_reducible rfl)):AL P nt ops (o :: rest) Q s:=h
end
theorem stq {G' G:Prop} (y:G') (h:G' -> G:=by intro x; first|exact AL_stepN hT rfl x|exact AL_nil_then x|exact AW_seq x|exact AW_region x|exact AW_block x|exact AW_ret x|exact AW_skip x|exact AW_exit x|exact AW_label x|exact then_normal x|exact then_exit x|exact then_ret x|exact inblk_here x|exact inblk_normal x|exact inblk_ret x|exact inblk_other rfl x|exact AL_nil x|exact DG_start x|exact AW_scope x|exact nogo_normal x|exact nogo_ret x|exact nogo_exit x|exact AW_cond_t rfl x|exact AW_cond_f rfl x|(refine AL_do2 rfl ?_; first|exact ⟨_,op_add rfl rfl rfl rfl (by omega),nrmA rfl x⟩|exact ⟨_,op_sub rfl rfl rfl rfl (by omega),nrmA rfl x⟩|exact ⟨_,op_len_sl hT rfl rfl rfl rfl rfl (len_map _ _),nrmA rfl x⟩|exact ⟨_,op_indexAddr_sl hT rfl rfl rfl rfl rfl rfl rfl (by omega) (by assumption) rfl rfl,nrmA rfl x⟩|exact ⟨_,op_mul rfl rfl rfl rfl (by assumption),nrmA rfl x⟩|exact ⟨_,op_min2 rfl rfl rfl rfl,nrmA rfl x⟩|exact ⟨_,op_max2 rfl rfl rfl rfl,nrmA rfl x⟩|exact ⟨_,op_append hT rfl rfl rfl rfl rfl rfl rfl rfl rfl rfl rfl (by intro y hy; (first|(simp only [List.mem_cons,List.not_mem_nil,or_false] at hy; subst hy; rfl)|(simp only [List.mem_cons,List.not_mem_nil,or_false] at hy; rcases hy with hy|hy <;> subst hy <;> rfl)|(obtain ⟨_,_,rfl⟩:=List.mem_map.1 hy; rfl)|(cases hy))) (by simp only [List.length_map,List.length_take,List.length_cons,List.length_nil,List.length_append]; omega) rfl,nrmA rfl x⟩|exact ⟨_,op_mkmeth rfl rfl rfl,nrmA rfl x⟩|exact ⟨_,op_build_arr hT rfl rfl rfl rfl rfl rfl rfl,nrmA rfl x⟩|exact ⟨_,op_index_arr hT rfl rfl rfl rfl rfl rfl rfl rfl rfl (by omega) (by omega) rfl,nrmA rfl x⟩|exact ⟨_,op_indexAddr_box hT rfl rfl rfl rfl rfl rfl rfl (by omega) (by omega),nrmA rfl x⟩|exact ⟨_,op_neg rfl rfl rfl (by omega),nrmA rfl x⟩|exact ⟨_,op_and rfl rfl rfl rfl,nrmA rfl x⟩|exact ⟨_,op_shl rfl rfl rfl rfl (by omega),nrmA rfl x⟩|exact ⟨_,op_shr rfl rfl rfl rfl (by omega),nrmA rfl x⟩|exact ⟨_,op_conv hT rfl rfl rfl rfl rfl rfl rfl,nrmA rfl x⟩|exact ⟨_,op_bin (k:=.u64) rfl rfl rfl rfl rfl,nrmA rfl x⟩)):G:=h y
theorem sdq {G' G:Prop} (y:G') (h:G' -> G:=by intro x; first|exact DG_step hT rfl (nrmD rfl x)|exact DG_next (D_add rfl rfl rfl rfl rfl (by omega)) (nrmD rfl x)|exact DG_next (D_sub rfl rfl rfl rfl rfl (by omega)) (nrmD rfl x)|exact DG_next (D_len hT rfl rfl rfl rfl rfl rfl (len_map _ _)) (nrmD rfl x)|exact DG_next (D_indexAddr hT rfl rfl rfl rfl rfl rfl rfl rfl (by omega) (by assumption) rfl rfl) (nrmD rfl x)|exact DG_next (D_mul rfl rfl rfl rfl rfl (by assumption)) (nrmD rfl x)|exact DG_next (D_min2 rfl rfl rfl rfl rfl) (nrmD rfl x)|exact DG_next (D_max2 rfl rfl rfl rfl rfl) (nrmD rfl x)|exact DG_next (D_buildSlice hT rfl rfl rfl rfl rfl rfl rfl rfl rfl rfl) (nrmD rfl x)|exact DG_next (D_append hT rfl rfl rfl rfl rfl rfl rfl rfl rfl rfl rfl rfl (by intro y hy; (first|(simp only [List.mem_cons,List.not_mem_nil,or_false] at hy; subst hy; rfl)|(simp only [List.mem_cons,List.not_mem_nil,or_false] at hy; rcases hy with hy|hy <;> subst hy <;> rfl)|(obtain ⟨_,_,rfl⟩:=List.mem_map.1 hy; rfl)|(cases hy))) (by simp only [List.length_map,List.length_take,List.length_cons,List.length_nil,List.length_append]; omega) rfl) (nrmD rfl x)|exact DG_next (D_conv hT rfl rfl rfl rfl rfl rfl rfl rfl) (nrmD rfl x)):G:=h y
end Go.Abs
namespace Go.Abs
structure Span where
 low:Int
 high:Int
 deriving DecidableEq
structure Acid where
 strength:Span
 fall:Span
 deriving DecidableEq
structure Strip where
 hour:Int
 seen:Int
 off:Int
 deriving DecidableEq
structure Batch where
 rough:Int
 goal:Int
 thick:Int
 least:Int
 polish:Int
 eat:Int
 deriving DecidableEq
structure Drum where
 acids:List Acid
 known:Int
 hours:Int
 adds:List Int
 strips:List Strip
 batches:List Batch
def inB (x lo hi:Int):Bool:=decide (lo <= x) && decide (x <= hi)
def spanB (s:Span) (most:Int):Bool:=decide (0 <= s.low) && decide (s.low <= s.high) && decide (s.high <= most)
def acidB (a:Acid):Bool:=spanB a.strength 100 && spanB a.fall 20
def stripB (hours:Int) (s:Strip):Bool:=inB s.hour 0 (hours - 1) && inB s.seen 0 2000 && inB s.off 0 50
def batchB (b:Batch):Bool:=inB b.rough 0 1000 && inB b.goal 0 1000 && inB b.thick 0 1000 && inB b.least 0 1000 && inB b.polish 0 100 && inB b.eat 0 100
def drumB (d:Drum):Bool :=
 inB d.acids.length 1 4 && inB d.known 1 (2 ^ d.acids.length - 1) && inB d.hours 1 12 && decide ((d.adds.length:Int) = d.hours) && decide (d.strips.length <= 6) && inB d.batches.length 1 5 &&
  d.acids.all acidB && d.adds.all (fun n=>inB n 0 100) && d.strips.all (stripB d.hours) && d.batches.all batchB
structure AcidP (a:Acid):Prop where
 s0:0 <= a.strength.low
 s1:a.strength.low <= a.strength.high
 s2:a.strength.high <= 100
 f0:0 <= a.fall.low
 f1:a.fall.low <= a.fall.high
 f2:a.fall.high <= 20
structure StripP (hours:Int) (s:Strip):Prop where
 h0:0 <= s.hour
 h1:s.hour < hours
 s0:0 <= s.seen
 s1:s.seen <= 2000
 o0:0 <= s.off
 o1:s.off <= 50
structure BatchP3 (b:Batch):Prop where
 r0:0 <= b.rough
 r1:b.rough <= 1000
 g0:0 <= b.goal
 g1:b.goal <= 1000
 t0:0 <= b.thick
 t1:b.thick <= 1000
 l0:0 <= b.least
 l1:b.least <= 1000
 p0:0 <= b.polish
 p1:b.polish <= 100
 e0:0 <= b.eat
 e1:b.eat <= 100
structure DrumP (d:Drum):Prop where
 a0:1 <= d.acids.length
 a1:d.acids.length <= 4
 k0:1 <= d.known
 k1:d.known <= 2 ^ d.acids.length - 1
 h0:1 <= d.hours
 h1:d.hours <= 12
 al:(d.adds.length:Int) = d.hours
 sl:d.strips.length <= 6
 b0:1 <= d.batches.length
 b1:d.batches.length <= 5
 acid:∀ a ∈ d.acids,AcidP a
 add:∀ n ∈ d.adds,0 <= n /\ n <= 100
 strip:∀ s ∈ d.strips,StripP d.hours s
 batch:∀ b ∈ d.batches,BatchP3 b
theorem acidP_of {a:Acid}:acidB a = true ↔ AcidP a:= by
 simp only [acidB,spanB,Bool.and_eq_true,decide_eq_true_eq]
 exact ⟨fun ⟨⟨⟨h1,h2⟩,h3⟩,⟨h4,h5⟩,h6⟩=>⟨h1,h2,h3,h4,h5,h6⟩,fun h=>⟨⟨⟨h.s0,h.s1⟩,h.s2⟩,⟨h.f0,h.f1⟩,h.f2⟩⟩
theorem stripP_of {n:Int} {s:Strip}:stripB n s = true ↔ StripP n s:= by
 simp only [stripB,inB,Bool.and_eq_true,decide_eq_true_eq]
 exact ⟨fun ⟨⟨⟨h1,h2⟩,h3,h4⟩,h5,h6⟩=>⟨h1,by omega,h3,h4,h5,h6⟩,fun h=>⟨⟨⟨h.h0,by have:=h.h1; omega⟩,h.s0,h.s1⟩,h.o0,h.o1⟩⟩
theorem batchP_of3 {b:Batch}:batchB b = true ↔ BatchP3 b:= by
 simp only [batchB,inB,Bool.and_eq_true,decide_eq_true_eq]
 exact ⟨fun ⟨⟨⟨⟨⟨⟨a1,a2⟩,b1,b2⟩,c1,c2⟩,d1,d2⟩,e1,e2⟩,f1,f2⟩=>⟨a1,a2,b1,b2,c1,c2,d1,d2,e1,e2,f1,f2⟩,
  fun h=>⟨⟨⟨⟨⟨⟨h.r0,h.r1⟩,h.g0,h.g1⟩,h.t0,h.t1⟩,h.l0,h.l1⟩,h.p0,h.p1⟩,h.e0,h.e1⟩⟩
theorem drumP_of {d:Drum}:drumB d = true ↔ DrumP d:= by
 simp only [drumB,inB,Bool.and_eq_true,decide_eq_true_eq,List.all_eq_true]
 constructor
 ·rintro ⟨⟨⟨⟨⟨⟨⟨⟨⟨⟨a0,a1⟩,k0,k1⟩,h0,h1⟩,al⟩,sl⟩,b0,b1⟩,c1⟩,c2⟩,c3⟩,c4⟩
  exact ⟨by omega,by omega,k0,k1,h0,h1,al,sl,by omega,by omega,fun a h=>acidP_of.1 (c1 a h),c2,fun s h=>stripP_of.1 (c3 s h),fun b h=>batchP_of3.1 (c4 b h)⟩
 ·intro h
  refine ⟨⟨⟨⟨⟨⟨⟨⟨⟨⟨by have:=h.a0; omega,by have:=h.a1; omega⟩,h.k0,h.k1⟩,h.h0,h.h1⟩,h.al⟩,h.sl⟩,by have:=h.b0; omega,by have:=h.b1; omega⟩,fun a ha=>acidP_of.2 (h.acid a ha)⟩,h.add⟩,fun s hs=>stripP_of.2 (h.strip s hs)⟩,fun b hb=>batchP_of3.2 (h.batch b hb)⟩
def common (a b:Span):Span:=⟨max a.low b.low,min a.high b.high⟩
def stripSpan (s:Strip):Span:=⟨s.seen - s.off,s.seen + s.off⟩
def stripped (l:List Strip) (i:Nat) (x:Span):Span:=l.foldl (fun x s=>if s.hour = (i:Int) then common x (stripSpan s) else x) x
def afterS (a:Acid) (add:Int) (s:Span):Span:=⟨max 0 (s.low - a.fall.high) + add,max 0 (s.high - a.fall.low) + add⟩
def beforeS (a:Acid) (add:Int) (s:Span):Span:=⟨if s.low > add then s.low - add + a.fall.low else 0,s.high - add + a.fall.high⟩
def initS (a:Acid) (add:Int):Span:=⟨a.strength.low + add,a.strength.high + add⟩
def fwdS (d:Drum) (a:Acid):Nat -> Span
 | 0=>stripped d.strips 0 (initS a (d.adds.getD 0 0))
 | i + 1=>stripped d.strips (i + 1) (afterS a (d.adds.getD (i + 1) 0) (fwdS d a i))
def bwdS (d:Drum) (a:Acid):Nat -> Span
 | 0=>fwdS d a (d.hours.toNat - 1)
 | k + 1=>common (fwdS d a (d.hours.toNat - 1 - (k + 1))) (beforeS a (d.adds.getD (d.hours.toNat - 1 - k) 0) (bwdS d a k))
def strongS (d:Drum) (a:Acid) (i:Nat):Span:=bwdS d a (d.hours.toNat - 1 - i)
def mayB (d:Drum) (a:Acid):Bool:=(List.range d.hours.toNat).all fun i=>decide ((fwdS d a i).low <= (fwdS d a i).high)
def strongL (d:Drum) (a:Acid):List Span:=(List.range d.hours.toNat).map (strongS d a)
theorem mayB_iff {d:Drum} {a:Acid}:mayB d a = true ↔ ∀ i,i < d.hours.toNat -> (fwdS d a i).low <= (fwdS d a i).high:= by
 simp [mayB,List.all_eq_true]
theorem strongL_len (d:Drum) (a:Acid):(strongL d a).length = d.hours.toNat:=by simp [strongL]
theorem strongL_get {d:Drum} {a:Acid} {i:Nat} (h:i < d.hours.toNat):(strongL d a)[i]? = some (strongS d a i):= by
 simp [strongL,h]
theorem strong_last (d:Drum) (a:Acid):strongS d a (d.hours.toNat - 1) = fwdS d a (d.hours.toNat - 1):= by
 simp [strongS,bwdS]
theorem strong_before {d:Drum} {a:Acid} {i:Nat} (h:i + 1 < d.hours.toNat):strongS d a i = common (fwdS d a i) (beforeS a (d.adds.getD (i + 1) 0) (strongS d a (i + 1))):= by
 unfold strongS
 obtain ⟨k,hk⟩:∃ k,d.hours.toNat - 1 - i = k + 1:=⟨d.hours.toNat - 1 - i - 1,by omega⟩
 have h1:d.hours.toNat - 1 - (i + 1) = k:=by omega
 rw [hk,h1]
 simp only [bwdS]
 rw [show d.hours.toNat - 1 - (k + 1) = i by omega,show d.hours.toNat - 1 - k = i + 1 by omega]
theorem stripped_low (l:List Strip) (i:Nat):∀ (x:Span),x.low <= (stripped l i x).low /\ (stripped l i x).high <= x.high:= by
 induction l with
 | nil=>intro x; simp [stripped]
 | cons s l ih =>
  intro x
  have:=ih (if s.hour = (i:Int) then common x (stripSpan s) else x)
  simp only [stripped,List.foldl_cons] at this ⊢
  refine ⟨Int.le_trans ?_ this.1,Int.le_trans this.2 ?_⟩ <;> split <;> (try simp only [common]) <;> omega
theorem stripped_in {l:List Strip} {i:Nat} {n:Int}:∀ {x:Span},x.low <= n -> n <= x.high -> (∀ s ∈ l,s.hour = (i:Int) -> s.seen - s.off <= n /\ n <= s.seen + s.off) -> (stripped l i x).low <= n /\ n <= (stripped l i x).high:= by
 induction l with
 | nil=>intro x h1 h2 _; exact ⟨h1,h2⟩
 | cons s l ih =>
  intro x h1 h2 hs
  simp only [stripped,List.foldl_cons]
  have h3:=hs s (by simp)
  refine ih ?_ ?_ (fun t ht=>hs t (by simp [ht]))
  ·split
   ·have:=h3 (by assumption); simp only [common,stripSpan]; omega
   ·exact h1
  ·split
   ·have:=h3 (by assumption); simp only [common,stripSpan]; omega
   ·exact h2
theorem stripped_mono {l:List Strip} {i:Nat}:∀ {x y:Span},x.low <= y.low -> y.high <= x.high -> (stripped l i x).low <= (stripped l i y).low /\ (stripped l i y).high <= (stripped l i x).high:= by
 induction l with
 | nil=>intro x y h1 h2; exact ⟨h1,h2⟩
 | cons s l ih =>
  intro x y h1 h2
  simp only [stripped,List.foldl_cons]
  refine ih ?_ ?_ <;> split <;> (try simp only [common]) <;> omega
theorem stripped_append (l r:List Strip) (i:Nat) (x:Span):stripped (l ++ r) i x = stripped r i (stripped l i x):= by
 simp [stripped,List.foldl_append]
theorem stripped_common {l:List Strip} {i:Nat}:∀ {x y:Span},stripped l i (common x y) = common (stripped l i x) y:= by
 induction l with
 | nil=>intro x y; rfl
 | cons s l ih =>
  intro x y
  simp only [stripped,List.foldl_cons]
  have:(if s.hour = (i:Int) then common (common x y) (stripSpan s) else common x y) = common (if s.hour = (i:Int) then common x (stripSpan s) else x) y:= by
   split
   ·simp only [common,Span.mk.injEq]; omega
   ·rfl
  rw [this]; exact ih
theorem stripped_wide {l:List Strip} {i:Nat} {x y:Span} (h1:x.low <= y.low) (h2:y.high <= x.high):common (stripped l i x) y = stripped l i y:= by
 rw [<- stripped_common]
 congr 1
 cases y
 simp only [common,Span.mk.injEq]
 simp only at h1 h2
 omega
section
variable {d:Drum} {a:Acid}
theorem add_bd (hd:DrumP d) (i:Nat):0 <= d.adds.getD i 0 /\ d.adds.getD i 0 <= 100:= by
 rw [List.getD_eq_getElem?_getD]
 cases h:d.adds[i]? with
 | none=>simp
 | some n=>exact hd.add n (List.mem_of_getElem? h)
theorem fwd_bd (hd:DrumP d) (ha:AcidP a):∀ i,0 <= (fwdS d a i).low /\ (fwdS d a i).high <= 100 * (i + 2) /\ d.adds.getD i 0 <= (fwdS d a i).low
 | 0=>by
  have h1:=stripped_low d.strips 0 (initS a (d.adds.getD 0 0))
  have h2:=add_bd hd 0
  have:=ha.s0; have:=ha.s2
  simp only [initS] at h1
  simp only [fwdS,initS]
  omega
 | i + 1=>by
  have ih:=fwd_bd hd ha i
  have h1:=stripped_low d.strips (i + 1) (afterS a (d.adds.getD (i + 1) 0) (fwdS d a i))
  have h2:=add_bd hd (i + 1)
  have:=ha.f0; have:=ha.f1
  simp only [fwdS]
  simp only [afterS] at h1 ⊢
  omega
theorem fwd_step (i:Nat):(afterS a (d.adds.getD (i + 1) 0) (fwdS d a i)).low <= (fwdS d a (i + 1)).low /\ (fwdS d a (i + 1)).high <= (afterS a (d.adds.getD (i + 1) 0) (fwdS d a i)).high:= by
 simp only [fwdS]
 exact stripped_low _ _ _
theorem strong_ok (hd:DrumP d) (ha:AcidP a) (hm:mayB d a = true):∀ k i,i + k + 1 = d.hours.toNat -> (fwdS d a i).low <= (strongS d a i).low /\ (strongS d a i).low <= (strongS d a i).high /\ (strongS d a i).high <= (fwdS d a i).high
 | 0,i,hi=>by
  have e:i = d.hours.toNat - 1:=by omega
  have:=mayB_iff.1 hm i (by omega)
  rw [e,strong_last]
  rw [e] at this
  omega
 | k + 1,i,hi=>by
  have ih:=strong_ok hd ha hm k (i + 1) (by omega)
  have h1:=mayB_iff.1 hm i (by omega)
  have h2:=fwd_step (d:=d) (a:=a) i
  have h3:=fwd_bd hd ha i
  have h4:=fwd_bd hd ha (i + 1)
  have h5:=add_bd hd (i + 1)
  have:=ha.f0; have:=ha.f1
  rw [strong_before (by omega)]
  simp only [afterS] at h2
  simp only [common,beforeS]
  generalize d.adds.getD (i + 1) 0 = n at *
  generalize strongS d a (i + 1) = x at *
  generalize fwdS d a (i + 1) = y at *
  generalize fwdS d a i = z at *
  split <;> omega
theorem strong_ok' (hd:DrumP d) (ha:AcidP a) (hm:mayB d a = true) {i:Nat} (hi:i < d.hours.toNat):(fwdS d a i).low <= (strongS d a i).low /\ (strongS d a i).low <= (strongS d a i).high /\ (strongS d a i).high <= (fwdS d a i).high :=
 strong_ok hd ha hm (d.hours.toNat - 1 - i) i (by omega)
theorem strong_bd (hd:DrumP d) (ha:AcidP a) (hm:mayB d a = true) {i:Nat} (hi:i < d.hours.toNat):0 <= (strongS d a i).low /\ (strongS d a i).low <= (strongS d a i).high /\ (strongS d a i).high <= 1300:= by
 have h1:=strong_ok' hd ha hm hi
 have h2:=fwd_bd hd ha i
 have:=hd.h1
 omega
def stepsB (d:Drum) (a:Acid) (t:List Int) (i:Nat):Bool :=
 let s:=if i = 0 then initS a (d.adds.getD 0 0) else afterS a (d.adds.getD i 0) ⟨t.getD (i - 1) 0,t.getD (i - 1) 0⟩
 inB (t.getD i 0) s.low s.high
def seenB (t:List Int) (s:Strip):Bool:=inB (t.getD s.hour.toNat 0) (s.seen - s.off) (s.seen + s.off)
def truesB (d:Drum) (a:Acid) (t:List Int):Bool:=(List.range d.hours.toNat).all (stepsB d a t) && d.strips.all (seenB t)
theorem steps_iff {t:List Int}:truesB d a t = true ↔ (∀ i,i < d.hours.toNat -> stepsB d a t i = true) /\ ∀ s ∈ d.strips,seenB t s = true:= by
 simp [truesB,List.all_eq_true]
theorem seen_hour (hd:DrumP d) {t:List Int} (hs:∀ s ∈ d.strips,seenB t s = true) (i:Nat):∀ s ∈ d.strips,s.hour = (i:Int) -> s.seen - s.off <= t.getD i 0 /\ t.getD i 0 <= s.seen + s.off:=fun s h1 h2=>by
 have:=hs s h1
 simp only [seenB,inB,Bool.and_eq_true,decide_eq_true_eq] at this
 rw [h2] at this
 exact this
theorem true_fwd (hd:DrumP d) (ha:AcidP a) {t:List Int} (ht:truesB d a t = true):∀ i,i < d.hours.toNat -> (fwdS d a i).low <= t.getD i 0 /\ t.getD i 0 <= (fwdS d a i).high
 | 0,hi=>by
  obtain ⟨h1,h2⟩:=steps_iff.1 ht
  have h3:=h1 0 hi
  simp only [stepsB,if_true,inB,Bool.and_eq_true,decide_eq_true_eq] at h3
  simp only [fwdS]
  exact stripped_in h3.1 h3.2 (seen_hour hd h2 0)
 | i + 1,hi=>by
  obtain ⟨h1,h2⟩:=steps_iff.1 ht
  have ih:=true_fwd hd ha ht i (by omega)
  have h3:=h1 (i + 1) hi
  simp only [stepsB,Nat.add_one_ne_zero,if_false,inB,Bool.and_eq_true,decide_eq_true_eq,Nat.add_sub_cancel,afterS] at h3
  simp only [fwdS]
  refine stripped_in ?_ ?_ (seen_hour hd h2 (i + 1)) <;> simp only [afterS] <;> omega
theorem true_may (hd:DrumP d) (ha:AcidP a) {t:List Int} (ht:truesB d a t = true):mayB d a = true :=
 mayB_iff.2 fun i hi=>by have:=true_fwd hd ha ht i hi; omega
theorem true_strong (hd:DrumP d) (ha:AcidP a) {t:List Int} (ht:truesB d a t = true):∀ k i,i + k + 1 = d.hours.toNat -> (strongS d a i).low <= t.getD i 0 /\ t.getD i 0 <= (strongS d a i).high
 | 0,i,hi=>by
  have e:i = d.hours.toNat - 1:=by omega
  have:=true_fwd hd ha ht i (by omega)
  rw [e,strong_last]
  rw [e] at this
  exact this
 | k + 1,i,hi=>by
  have ih:=true_strong hd ha ht k (i + 1) (by omega)
  have h1:=true_fwd hd ha ht i (by omega)
  have h2:=fwd_bd hd ha i
  have h3:=(steps_iff.1 ht).1 (i + 1) (by omega)
  simp only [stepsB,Nat.add_one_ne_zero,if_false,inB,Bool.and_eq_true,decide_eq_true_eq,Nat.add_sub_cancel,afterS] at h3
  have:=ha.f0; have:=ha.f1
  rw [strong_before (by omega)]
  simp only [common,beforeS]
  split <;> omega
theorem true_strong' (hd:DrumP d) (ha:AcidP a) {t:List Int} (ht:truesB d a t = true) {i:Nat} (hi:i < d.hours.toNat):(strongS d a i).low <= t.getD i 0 /\ t.getD i 0 <= (strongS d a i).high :=
 true_strong hd ha ht (d.hours.toNat - 1 - i) i (by omega)
def endsL (l:List Span) (high:Bool):List Int:=l.map fun s=>if high then s.high else s.low
theorem ends_get {high:Bool} {i:Nat} (hi:i < d.hours.toNat):(endsL (strongL d a) high).getD i 0 = if high then (strongS d a i).high else (strongS d a i).low:= by
 rw [List.getD_eq_getElem?_getD,endsL,List.getElem?_map,strongL_get hi]
 rfl
end
end Go.Abs
namespace Go.Abs
def hasI (set:Int) (i:Nat):Bool:=set.toNat.testBit i
def filledL (d:Drum):List (Acid × Nat):=d.acids.zipIdx.filter fun p=>hasI d.known p.2 && mayB d p.1
def hull2 (s t:Span):Span:=⟨min s.low t.low,max s.high t.high⟩
def hullL:List Span -> Span
 | []=>⟨0,0⟩
 | x :: l=>l.foldl hull2 x
def firstI (p:Nat -> Bool):Nat -> Nat -> Int
 | 0,_=>-1
 | f + 1,i=>if p i then i else firstI p f (i + 1)
def lastI (p:Nat -> Bool):Nat -> Int
 | 0=>-1
 | n + 1=>if p n then n else lastI p n
structure State where
 rough:Int
 thick:Int
 deriving DecidableEq
structure Bounds where
 rough:Span
 thick:Span
 deriving DecidableEq
def eatI (n p:Int):Int:=(n * p).tdiv 100
def sumI:List Int -> Int
 | []=>0
 | x :: l=>x + sumI l
def stateI (b:Batch) (t:List Int) (h:Nat):State:=⟨max 0 (b.rough - sumI ((t.take h).map fun n=>eatI n b.polish)),max 0 (b.thick - sumI ((t.take h).map fun n=>eatI n b.eat))⟩
def weakS (d:Drum) (b:Batch) (h:Nat) (p:Acid × Nat):State:=stateI b (endsL (strongL d p.1) false) h
def hardS (d:Drum) (b:Batch) (h:Nat) (p:Acid × Nat):State:=stateI b (endsL (strongL d p.1) true) h
def boundsI (d:Drum) (b:Batch) (h:Nat):Bounds:=⟨hullL ((filledL d).map fun p=>⟨(hardS d b h p).rough,(weakS d b h p).rough⟩),hullL ((filledL d).map fun p=>⟨(hardS d b h p).thick,(weakS d b h p).thick⟩)⟩
def smoothI (d:Drum) (b:Batch):Int:=firstI (fun h=>decide ((boundsI d b h).rough.high <= b.goal)) (d.hours.toNat + 1) 0
def thinI (d:Drum) (b:Batch):Int:=lastI (fun h=>decide ((boundsI d b h).thick.low >= b.least)) (d.hours.toNat + 1)
theorem firstI_spec (p:Nat -> Bool):∀ (f i:Nat),(firstI p f i = -1 /\ ∀ k,i <= k -> k < i + f -> p k = false) \/ ∃ n:Nat,firstI p f i = n /\ i <= n /\ n < i + f /\ p n = true /\ ∀ k,i <= k -> k < n -> p k = false
 | 0,i=>.inl ⟨rfl,fun k h1 h2=>by omega⟩
 | f + 1,i=>by
  unfold firstI
  cases h:p i with
  | true=>exact .inr ⟨i,by simp,Nat.le_refl _,by omega,h,fun k h1 h2=>by omega⟩
  | false =>
   simp only [Bool.false_eq_true,if_false]
   have ho:∀ k,i <= k -> k < i + 1 -> p k = false:=fun k h1 h2=>by rw [show k = i by omega]; exact h
   rcases firstI_spec p f (i + 1) with ⟨h1,h2⟩|⟨n,h1,h2,h3,h4,h5⟩
   ·refine .inl ⟨h1,fun k g1 g2=>?_⟩
    by_cases hk:k < i + 1
    ·exact ho k g1 hk
    ·exact h2 k (by omega) (by omega)
   ·refine .inr ⟨n,h1,by omega,by omega,h4,fun k g1 g2=>?_⟩
    by_cases hk:k < i + 1
    ·exact ho k g1 hk
    ·exact h5 k (by omega) g2
theorem lastI_spec (p:Nat -> Bool):∀ (n:Nat),(lastI p n = -1 /\ ∀ k,k < n -> p k = false) \/ ∃ m:Nat,lastI p n = m /\ m < n /\ p m = true /\ ∀ k,m < k -> k < n -> p k = false
 | 0=>.inl ⟨rfl,fun k h=>by omega⟩
 | n + 1=>by
  unfold lastI
  cases h:p n with
  | true=>exact .inr ⟨n,by simp,by omega,h,fun k h1 h2=>by omega⟩
  | false =>
   simp only [Bool.false_eq_true,if_false]
   rcases lastI_spec p n with ⟨h1,h2⟩|⟨m,h1,h2,h3,h4⟩
   ·refine .inl ⟨h1,fun k g=>?_⟩
    by_cases hk:k < n
    ·exact h2 k hk
    ·rw [show k = n by omega]; exact h
   ·refine .inr ⟨m,h1,by omega,h3,fun k g1 g2=>?_⟩
    by_cases hk:k < n
    ·exact h4 k g1 hk
    ·rw [show k = n by omega]; exact h
theorem foldl_hull:∀ (l:List Span) (x:Span),(∀ s,s = x \/ s ∈ l -> (l.foldl hull2 x).low <= s.low /\ s.high <= (l.foldl hull2 x).high) /\ (∃ s,(s = x \/ s ∈ l) /\ (l.foldl hull2 x).low = s.low) /\ ∃ s,(s = x \/ s ∈ l) /\ (l.foldl hull2 x).high = s.high
 | [],x=>⟨fun s h=>(by rcases h with rfl|h; exact ⟨Int.le_refl _,Int.le_refl _⟩; cases h),⟨x,.inl rfl,rfl⟩,x,.inl rfl,rfl⟩
 | y :: l,x=>by
  obtain ⟨h1,⟨s2,h2,g2⟩,s3,h3,g3⟩:=foldl_hull l (hull2 x y)
  have hx:=h1 _ (.inl rfl)
  simp only [List.foldl_cons]
  refine ⟨fun s hs=>?_,?_,?_⟩
  ·rcases hs with rfl|hs
   ·simp only [hull2] at hx ⊢; omega
   ·rcases List.mem_cons.1 hs with rfl|hs
    ·simp only [hull2] at hx ⊢; omega
    ·exact h1 s (.inr hs)
  ·rcases h2 with rfl|h2
   ·by_cases h:x.low <= y.low
    ·exact ⟨x,.inl rfl,by rw [g2]; simp only [hull2]; omega⟩
    ·exact ⟨y,.inr (by simp),by rw [g2]; simp only [hull2]; omega⟩
   ·exact ⟨s2,.inr (by simp [h2]),g2⟩
  ·rcases h3 with rfl|h3
   ·by_cases h:x.high <= y.high
    ·exact ⟨y,.inr (by simp),by rw [g3]; simp only [hull2]; omega⟩
    ·exact ⟨x,.inl rfl,by rw [g3]; simp only [hull2]; omega⟩
   ·exact ⟨s3,.inr (by simp [h3]),g3⟩
theorem hull_in {l:List Span} {s:Span} (h:s ∈ l):(hullL l).low <= s.low /\ s.high <= (hullL l).high:= by
 cases l with
 | nil=>cases h
 | cons x l=>exact (foldl_hull l x).1 s (by rcases List.mem_cons.1 h with h|h <;> simp [h])
theorem hull_low {l:List Span} (h:l ≠ []):∃ s ∈ l,(hullL l).low = s.low:= by
 cases l with
 | nil=>exact absurd rfl h
 | cons x l =>
  obtain ⟨s,hs,h2⟩:=(foldl_hull l x).2.1
  exact ⟨s,by rcases hs with h|h <;> simp [h],h2⟩
theorem hull_high {l:List Span} (h:l ≠ []):∃ s ∈ l,(hullL l).high = s.high:= by
 cases l with
 | nil=>exact absurd rfl h
 | cons x l =>
  obtain ⟨s,hs,h2⟩:=(foldl_hull l x).2.2
  exact ⟨s,by rcases hs with h|h <;> simp [h],h2⟩
theorem eat_nonneg {n p:Int} (hn:0 <= n) (hp:0 <= p):0 <= eatI n p:= by
 unfold eatI
 rw [Int.tdiv_eq_ediv_of_nonneg (Int.mul_nonneg hn hp)]
 exact Int.ediv_nonneg (Int.mul_nonneg hn hp) (by decide)
theorem eat_mono {n m p:Int} (hn:0 <= n) (hm:n <= m) (hp:0 <= p):eatI n p <= eatI m p:= by
 unfold eatI
 rw [Int.tdiv_eq_ediv_of_nonneg (Int.mul_nonneg hn hp),Int.tdiv_eq_ediv_of_nonneg (Int.mul_nonneg (by omega) hp)]
 exact Int.ediv_le_ediv (by decide) (Int.mul_le_mul_of_nonneg_right hm hp)
theorem sumI_append:∀ (l r:List Int),sumI (l ++ r) = sumI l + sumI r
 | [],r=>by simp [sumI]
 | x :: l,r=>by simp only [List.cons_append,sumI,sumI_append l r]; omega
def eaten (t:List Int) (p:Int) (h:Nat):Int:=sumI ((t.take h).map fun n=>eatI n p)
theorem eaten_succ {t:List Int} {h:Nat} (hh:h < t.length) (p:Int):eaten t p (h + 1) = eaten t p h + eatI (t.getD h 0) p:= by
 unfold eaten
 rw [List.take_add_one,List.map_append,sumI_append,List.getD_eq_getElem?_getD]
 simp [hh,sumI]
theorem eaten_mono {t u:List Int} {p:Int} (hp:0 <= p):∀ h,h <= t.length -> h <= u.length -> (∀ i,i < h -> 0 <= t.getD i 0 /\ t.getD i 0 <= u.getD i 0) -> eaten t p h <= eaten u p h
 | 0,_,_,_=>by simp [eaten]
 | h + 1,h1,h2,hi=>by
  have ih:=eaten_mono hp h (by omega) (by omega) (fun i hh=>hi i (by omega))
  have:=hi h (by omega)
  have:=eat_mono this.1 this.2 hp
  rw [eaten_succ (by omega),eaten_succ (by omega)]
  omega
theorem state_def (b:Batch) (t:List Int) (h:Nat):stateI b t h = ⟨max 0 (b.rough - eaten t b.polish h),max 0 (b.thick - eaten t b.eat h)⟩:=rfl
theorem state_mono {b:Batch} (hb:BatchP3 b) {t u:List Int} {h:Nat} (h1:h <= t.length) (h2:h <= u.length) (hi:∀ i,i < h -> 0 <= t.getD i 0 /\ t.getD i 0 <= u.getD i 0):(stateI b u h).rough <= (stateI b t h).rough /\ (stateI b u h).thick <= (stateI b t h).thick:= by
 have:=eaten_mono hb.p0 h h1 h2 hi
 have:=eaten_mono hb.e0 h h1 h2 hi
 simp only [state_def]; omega
theorem state_later {b:Batch} (hb:BatchP3 b) {t:List Int} {h:Nat} (h1:h < t.length) (h0:0 <= t.getD h 0):(stateI b t (h + 1)).rough <= (stateI b t h).rough /\ (stateI b t (h + 1)).thick <= (stateI b t h).thick:= by
 have:=eat_nonneg h0 hb.p0
 have:=eat_nonneg h0 hb.e0
 simp only [state_def,eaten_succ h1]; omega
section
variable {d:Drum}
theorem filled_mem {p:Acid × Nat}:p ∈ filledL d ↔ d.acids[p.2]? = some p.1 /\ hasI d.known p.2 = true /\ mayB d p.1 = true:= by
 obtain ⟨a,k⟩:=p
 simp only [filledL,List.mem_filter,Bool.and_eq_true,List.mem_zipIdx_iff_getElem?]
theorem filled_acid (hd:DrumP d) {p:Acid × Nat} (hp:p ∈ filledL d):AcidP p.1:=hd.acid _ (List.mem_of_getElem? (filled_mem.1 hp).1)
theorem ends_len (a:Acid) (high:Bool):(endsL (strongL d a) high).length = d.hours.toNat:=by simp [endsL,strongL_len]
theorem ends_nonneg (hd:DrumP d) {p:Acid × Nat} (hp:p ∈ filledL d) (high:Bool) {i:Nat} (hi:i < d.hours.toNat):0 <= (endsL (strongL d p.1) high).getD i 0:= by
 have:=strong_bd hd (filled_acid hd hp) (filled_mem.1 hp).2.2 hi
 rw [ends_get hi]
 cases high <;> simp only [if_true,Bool.false_eq_true,if_false] <;> omega
theorem state_bounds (hd:DrumP d) {b:Batch} (hb:BatchP3 b) {p:Acid × Nat} (hp:p ∈ filledL d) {t:List Int} (hl:t.length = d.hours.toNat) (ht:truesB d p.1 t = true) {h:Nat} (hh:h <= d.hours.toNat) :
  (boundsI d b h).rough.low <= (stateI b t h).rough /\ (stateI b t h).rough <= (boundsI d b h).rough.high /\ (boundsI d b h).thick.low <= (stateI b t h).thick /\ (stateI b t h).thick <= (boundsI d b h).thick.high:= by
 have ha:=filled_acid hd hp
 have hm:=(filled_mem.1 hp).2.2
 have h1:=hull_in (List.mem_map_of_mem (f:=fun p:Acid × Nat=>(⟨(hardS d b h p).rough,(weakS d b h p).rough⟩:Span)) hp)
 have h2:=hull_in (List.mem_map_of_mem (f:=fun p:Acid × Nat=>(⟨(hardS d b h p).thick,(weakS d b h p).thick⟩:Span)) hp)
 have g1:(stateI b t h).rough <= (weakS d b h p).rough /\ (stateI b t h).thick <= (weakS d b h p).thick:= by
  refine state_mono hb (by rw [ends_len]; exact hh) (by omega) fun i hi=>?_
  have:=true_strong' hd ha ht (i:=i) (by omega)
  have:=strong_bd hd ha hm (i:=i) (by omega)
  rw [ends_get (by omega)]
  simp only [Bool.false_eq_true,if_false]; omega
 have g2:(hardS d b h p).rough <= (stateI b t h).rough /\ (hardS d b h p).thick <= (stateI b t h).thick:= by
  refine state_mono hb (by omega) (by rw [ends_len]; exact hh) fun i hi=>?_
  have:=true_strong' hd ha ht (i:=i) (by omega)
  have:=strong_bd hd ha hm (i:=i) (by omega)
  rw [ends_get (by omega)]
  simp only [if_true]; omega
 dsimp only at h1 h2
 simp only [boundsI]
 omega
theorem bounds_later (hd:DrumP d) (hne:filledL d ≠ []) {b:Batch} (hb:BatchP3 b) {h:Nat} (hh:h < d.hours.toNat):(boundsI d b (h + 1)).rough.high <= (boundsI d b h).rough.high /\ (boundsI d b (h + 1)).thick.low <= (boundsI d b h).thick.low:= by
 have hne1:(filledL d).map (fun p:Acid × Nat=>(⟨(hardS d b (h + 1) p).rough,(weakS d b (h + 1) p).rough⟩:Span)) ≠ []:=by simpa using hne
 have hne2:(filledL d).map (fun p:Acid × Nat=>(⟨(hardS d b h p).thick,(weakS d b h p).thick⟩:Span)) ≠ []:=by simpa using hne
 obtain ⟨s,hs,e1⟩:=hull_high hne1
 obtain ⟨x,hx,rfl⟩:=List.mem_map.1 hs
 obtain ⟨t,ht,e2⟩:=hull_low hne2
 obtain ⟨y,hy,rfl⟩:=List.mem_map.1 ht
 have h1:=hull_in (List.mem_map_of_mem (f:=fun p:Acid × Nat=>(⟨(hardS d b h p).rough,(weakS d b h p).rough⟩:Span)) hx)
 have h2:=hull_in (List.mem_map_of_mem (f:=fun p:Acid × Nat=>(⟨(hardS d b (h + 1) p).thick,(weakS d b (h + 1) p).thick⟩:Span)) hy)
 have g1:=(state_later hb (t:=endsL (strongL d x.1) false) (h:=h) (by rw [ends_len]; exact hh) (ends_nonneg hd hx false hh)).1
 have g2:=(state_later hb (t:=endsL (strongL d y.1) true) (h:=h) (by rw [ends_len]; exact hh) (ends_nonneg hd hy true hh)).2
 dsimp only at h1 h2 e1 e2
 simp only [boundsI]
 simp only [weakS,hardS] at h1 h2 e1 e2 g1 g2 ⊢
 omega
theorem bounds_until (hd:DrumP d) (hne:filledL d ≠ []) {b:Batch} (hb:BatchP3 b) {h:Nat}:∀ k,h + k <= d.hours.toNat -> (boundsI d b (h + k)).rough.high <= (boundsI d b h).rough.high /\ (boundsI d b (h + k)).thick.low <= (boundsI d b h).thick.low
 | 0,_=>⟨Int.le_refl _,Int.le_refl _⟩
 | k + 1,hk=>by
  have h1:=bounds_until hd hne hb (h:=h) k (by omega)
  have h2:=bounds_later hd hne hb (h:=h + k) (by omega)
  rw [show h + (k + 1) = h + k + 1 by omega]; omega
theorem smooth_spec (hd:DrumP d) (hne:filledL d ≠ []) {b:Batch} (hb:BatchP3 b) {h:Nat} (hh:h <= d.hours.toNat):(boundsI d b h).rough.high <= b.goal ↔ 0 <= smoothI d b /\ smoothI d b <= h:= by
 unfold smoothI
 rcases firstI_spec (fun h=>decide ((boundsI d b h).rough.high <= b.goal)) (d.hours.toNat + 1) 0 with ⟨h1,h2⟩|⟨n,h1,h2,h3,h4,h5⟩
 ·rw [h1]
  have:=h2 h (by omega) (by omega)
  simp only [decide_eq_false_iff_not] at this
  exact ⟨fun h=>absurd h this,fun h=>by omega⟩
 ·rw [h1]
  simp only [decide_eq_true_eq] at h4
  constructor
  ·intro hg
   refine ⟨by omega,?_⟩
   by_cases hn:h < n
   ·have:=h5 h (by omega) hn
    simp only [decide_eq_false_iff_not] at this
    exact absurd hg this
   ·omega
  ·rintro ⟨_,hg⟩
   have:=(bounds_until hd hne hb (h:=n) (h - n) (by omega)).1
   rw [show n + (h - n) = h by omega] at this
   omega
theorem thin_spec (hd:DrumP d) (hne:filledL d ≠ []) {b:Batch} (hb:BatchP3 b) {h:Nat} (hh:h <= d.hours.toNat):(boundsI d b h).thick.low >= b.least ↔ (h:Int) <= thinI d b:= by
 unfold thinI
 rcases lastI_spec (fun h=>decide ((boundsI d b h).thick.low >= b.least)) (d.hours.toNat + 1) with ⟨h1,h2⟩|⟨n,h1,h2,h3,h4⟩
 ·rw [h1]
  have:=h2 h (by omega)
  simp only [decide_eq_false_iff_not] at this
  exact ⟨fun h=>absurd h this,fun h=>by omega⟩
 ·rw [h1]
  simp only [decide_eq_true_eq] at h3
  constructor
  ·intro hg
   by_cases hn:n < h
   ·have:=h4 h hn (by omega)
    simp only [decide_eq_false_iff_not] at this
    exact absurd hg this
   ·omega
  ·intro hg
   have:=(bounds_until hd hne hb (h:=h) (n - h) (by omega)).2
   rw [show h + (n - h) = n by omega] at this
   omega
end
end Go.Abs
