/- Abstract values (pure data read out of a world), what it means that a value of the model reads as one, and that this stays so while the blocks that it lies in stay as they are. -/
import Derived.Calls
import Derived.Tactics
import Derived.Below
import Derived.Laws.AppendOwn
set_option linter.unusedVariables false
set_option linter.unusedSimpArgs false
namespace Go.Abs
open Go.RowKit
inductive PV where
 | bool (b:Bool)
 | int (k:IntKind) (n:Int)
 | str (s:ByteArray)
 | sl (es:List (List PV))
 | ptr (cs:List PV)
 | agg (cs:List PV)
 | fn (f:FuncId) (caps:List PV)
 | meth (f:FuncId) (first:List PV)
 | iface (t:TypeId) (v:PV)
 | imap (ks:List Int)
 | nilFunc
 | nilIface
 | nilMap
 | nilPtr
 | raw (v:Value)
def PV.leaf:PV -> Bool
 | .agg _=>false
 | _=>true
inductive Rep (w:World) (D:Nat -> Prop):Value -> PV -> Prop
 | bool (b:Bool):Rep w D (.bool b) (.bool b)
 | int (k:IntKind) (n:Int):Rep w D (.int k n) (.int k n)
 | str (s:ByteArray):Rep w D (.string s) (.str s)
 | sl (a:Option Addr) (n c sz:Nat) (es:List (List PV)) (us:Nat -> Nat -> Value) (hn:n = es.length) (hcap:n <= c) (hmax:c <= maxLen)
   (hsz:∀ (i:Nat) (e:List PV),es[i]? = some e -> e.length = sz)
   (ha:∀ i j,i < n -> j < sz -> ∃ b,a = some b /\ D b.block /\ w.cell? (b.add (i * sz + j)) = some (us i j))
   (hlf:∀ (i j:Nat) (e:List PV) (p:PV),es[i]? = some e -> e[j]? = some p -> p.leaf = true)
   (hr:∀ (i j:Nat) (e:List PV) (p:PV),es[i]? = some e -> e[j]? = some p -> Rep w D (us i j) p):Rep w D (.slice a n c) (.sl es)
 | ptr (b:Addr) (cs:List PV) (us:Nat -> Value) (hD:D b.block) (hc:∀ j,j < cs.length -> w.cell? (b.add j) = some (us j))
   (hlf:∀ (j:Nat) (p:PV),cs[j]? = some p -> p.leaf = true) (hr:∀ (j:Nat) (p:PV),cs[j]? = some p -> Rep w D (us j) p):Rep w D (.pointer (some b)) (.ptr cs)
 | agg (vs:Array Value) (cs:List PV) (hl:vs.size = cs.length) (hr:∀ (j:Nat) (v:Value) (p:PV),vs[j]? = some v -> cs[j]? = some p -> Rep w D v p):Rep w D (.agg vs) (.agg cs)
 | fn (f:FuncId) (vs:Array Value) (cs:List PV) (hl:vs.size = cs.length) (hr:∀ (j:Nat) (v:Value) (p:PV),vs[j]? = some v -> cs[j]? = some p -> Rep w D v p) :
   Rep w D (.func (.func f) #[] vs) (.fn f cs)
 | meth (f:FuncId) (vs:Array Value) (cs:List PV) (hl:vs.size = cs.length) (hr:∀ (j:Nat) (v:Value) (p:PV),vs[j]? = some v -> cs[j]? = some p -> Rep w D v p) :
   Rep w D (.func (.func f) vs #[]) (.meth f cs)
 | iface (t:TypeId) (v:Value) (p:PV) (hr:Rep w D v p):Rep w D (.iface t v) (.iface t p)
 | imap (r:Nat) (es:Array MapEntry) (clock:Nat) (ks:List Int) (hD:D r) (hm:w.heap[r]? = some (.map es clock))
   (hk:es.toList.map (fun e=>(e.key,e.val)) = ks.map (fun k=>(.int .i64 k,.bool true))) (hc:∀ e ∈ es,e.born < clock)
   (hb:(es.toList.map (·.born)).Nodup) (hd:ks.Nodup):Rep w D (.map (some r)) (.imap ks)
 | nilFunc:Rep w D .nilFunc .nilFunc
 | nilIface:Rep w D .nilIface .nilIface
 | nilMap:Rep w D (.map none) .nilMap
 | nilPtr:Rep w D (.pointer none) .nilPtr
 | raw (v:Value) (h:v.oneCell' = true):Rep w D v (.raw v)
theorem Rep.mono {w w':World} {D D':Nat -> Prop} {v:Value} {p:PV} (h:Rep w D v p) (hw:∀ b,D b -> w'.heap[b]? = w.heap[b]?) (hD:∀ b,D b -> D' b):Rep w' D' v p:= by
 induction h with
 | bool b=>exact .bool b
 | int k n=>exact .int k n
 | str s=>exact .str s
 | sl a n c sz es us hn hcap hmax hsz ha hlf hr ih =>
  refine .sl a n c sz es us hn hcap hmax hsz ?_ hlf ih
  intro i j hi hj
  obtain ⟨b,hb,hDb,hc⟩:=ha i j hi hj
  refine ⟨b,hb,hD _ hDb,?_⟩
  have hblk:(b.add (i * sz + j)).block = b.block:=by unfold Addr.add; split <;> rfl
  rw [World.cell?_of_block (w:=w) (by rw [hblk]; exact hw _ hDb)]
  exact hc
 | ptr b cs us hDb hc hlf hr ih =>
  refine .ptr b cs us (hD _ hDb) ?_ hlf ih
  intro j hj
  have hblk:(b.add j).block = b.block:=by unfold Addr.add; split <;> rfl
  rw [World.cell?_of_block (w:=w) (by rw [hblk]; exact hw _ hDb)]
  exact hc j hj
 | agg vs cs hl hr ih=>exact .agg vs cs hl ih
 | fn f vs cs hl hr ih=>exact .fn f vs cs hl ih
 | meth f vs cs hl hr ih=>exact .meth f vs cs hl ih
 | iface t v p hr ih=>exact .iface t v p ih
 | imap r es clock ks hDr hm hk hc hb hd=>exact .imap r es clock ks (hD _ hDr) (by rw [hw _ hDr]; exact hm) hk hc hb hd
 | nilFunc=>exact .nilFunc
 | nilIface=>exact .nilIface
 | nilMap=>exact .nilMap
 | nilPtr=>exact .nilPtr
 | raw v h=>exact .raw v h
mutual
def PV.flat:PV -> Bool
 | .bool _|.int _ _|.str _|.nilFunc|.nilIface|.nilMap|.nilPtr=>true
 | .agg cs=>PV.flatL cs
 | _=>false
def PV.flatL:List PV -> Bool
 | []=>true
 | p :: ps=>p.flat && PV.flatL ps
end
theorem PV.flatL_mem:∀ {cs:List PV} {p:PV},PV.flatL cs = true -> p ∈ cs -> p.flat = true
 | [],_,_,hp=>by cases hp
 | _ :: _,_,h,hp=>by
  simp only [PV.flatL,Bool.and_eq_true] at h
  cases hp with
  | head=>exact h.1
  | tail _ hp=>exact PV.flatL_mem h.2 hp
theorem Rep.flat_any {w:World} {D:Nat -> Prop} {v:Value} {p:PV} (h:Rep w D v p):p.flat = true -> ∀ w' D',Rep w' D' v p:= by
 induction h with
 | bool b=>exact fun _ _ _=>.bool b
 | int k n=>exact fun _ _ _=>.int k n
 | str s=>exact fun _ _ _=>.str s
 | sl=>intro h; simp [PV.flat] at h
 | ptr=>intro h; simp [PV.flat] at h
 | agg vs cs hl hr ih =>
  intro h w' D'
  unfold PV.flat at h
  refine .agg vs cs hl fun j v p hv hp=>ih j v p hv hp ?_ w' D'
  exact PV.flatL_mem h (List.mem_of_getElem? hp)
 | fn=>intro h; simp [PV.flat] at h
 | meth=>intro h; simp [PV.flat] at h
 | iface=>intro h; simp [PV.flat] at h
 | imap=>intro h; simp [PV.flat] at h
 | nilFunc=>exact fun _ _ _=>.nilFunc
 | nilIface=>exact fun _ _ _=>.nilIface
 | nilMap=>exact fun _ _ _=>.nilMap
 | nilPtr=>exact fun _ _ _=>.nilPtr
 | raw=>intro h; simp [PV.flat] at h
inductive FV where
 | pv (p:PV)
 | nils
 | box (id off:Nat)
 | arr (id:Nat)
 | aptr (id sz i off:Nat)
 | mp (id:Nat)
 | yld (id:Nat)
 | sub (id sz lo n:Nat)
 | fn (f:FuncId) (caps:List FV)
 | agg (cs:List FV)
 | tup (cs:List FV)
inductive FRep (w:World) (D:Nat -> Prop) (φ:Nat -> Value):Value -> FV -> Prop
 | pv (v:Value) (p:PV) (h:Rep w D v p):FRep w D φ v (.pv p)
 | box (id off b:Nat) (h:φ id = .pointer (some ⟨b,0,none⟩)):FRep w D φ (.pointer (some ⟨b,off,none⟩)) (.box id off)
 | nils:FRep w D φ (.slice none 0 0) .nils
 | arr (id n c:Nat) (a:Option Addr) (h:φ id = .slice a n c):FRep w D φ (.slice a n c) (.arr id)
 | aptr (id sz i off g n c:Nat) (h:φ id = .slice (some ⟨g,0,none⟩) n c):FRep w D φ (.pointer (some ⟨g,i * sz + off,none⟩)) (.aptr id sz i off)
 | mp (id:Nat) (r:Option Nat) (h:φ id = .map r):FRep w D φ (.map r) (.mp id)
 | yld (id l:Nat) (h:φ id = .map (some l)):FRep w D φ (.func (.yield l) #[] #[]) (.yld id)
 | sub (id sz lo n g m c:Nat) (h:φ id = .slice (some ⟨g,0,none⟩) m c) (hc:lo + n <= c):FRep w D φ (.slice (some ⟨g,lo * sz,none⟩) n (c - lo)) (.sub id sz lo n)
 | fn (f:FuncId) (vs:Array Value) (cs:List FV) (hl:vs.size = cs.length) (hr:∀ (j:Nat) (v:Value) (p:FV),vs[j]? = some v -> cs[j]? = some p -> FRep w D φ v p) :
   FRep w D φ (.func (.func f) #[] vs) (.fn f cs)
 | agg (vs:Array Value) (cs:List FV) (hl:vs.size = cs.length) (hr:∀ (j:Nat) (v:Value) (p:FV),vs[j]? = some v -> cs[j]? = some p -> FRep w D φ v p):FRep w D φ (.agg vs) (.agg cs)
 | tup (vs:Array Value) (cs:List FV) (hl:vs.size = cs.length) (hr:∀ (j:Nat) (v:Value) (p:FV),vs[j]? = some v -> cs[j]? = some p -> FRep w D φ v p):FRep w D φ (.tuple vs) (.tup cs)
mutual
def FV.lt (n:Nat):FV -> Bool
 | .pv _=>true
 | .nils=>true
 | .box id _=>Nat.blt id n
 | .arr id=>Nat.blt id n
 | .aptr id _ _ _=>Nat.blt id n
 | .mp id=>Nat.blt id n
 | .yld id=>Nat.blt id n
 | .sub id _ _ _=>Nat.blt id n
 | .fn _ cs=>FV.ltL n cs
 | .agg cs=>FV.ltL n cs
 | .tup cs=>FV.ltL n cs
def FV.ltL (n:Nat):List FV -> Bool
 | []=>true
 | x :: xs=>x.lt n && FV.ltL n xs
end
theorem FV.lt_mem {n:Nat}:∀ {cs:List FV} {x:FV},FV.ltL n cs = true -> x ∈ cs -> x.lt n = true
 | [],_,_,hp=>by cases hp
 | _ :: _,_,h,hp=>by
  simp only [FV.ltL,Bool.and_eq_true] at h
  cases hp with
  | head=>exact h.1
  | tail _ hp=>exact FV.lt_mem h.2 hp
theorem FRep.mono {w w':World} {D D':Nat -> Prop} {φ φ':Nat -> Value} {n:Nat} {v:Value} {x:FV} (h:FRep w D φ v x) (hw:∀ b,D b -> w'.heap[b]? = w.heap[b]?) (hD:∀ b,D b -> D' b)
  (hφ:∀ id,id < n -> φ' id = φ id):x.lt n = true -> FRep w' D' φ' v x:= by
 induction h with
 | pv v p h=>exact fun _=>.pv v p (h.mono hw hD)
 | box id off b h=>intro hl; simp [FV.lt] at hl; exact .box id off b (by rw [hφ _ hl]; exact h)
 | nils=>exact fun _=>.nils
 | arr id n c a h=>intro hl; simp [FV.lt] at hl; exact .arr id n c a (by rw [hφ _ hl]; exact h)
 | aptr id sz i off g n c h=>intro hl; simp [FV.lt] at hl; exact .aptr id sz i off g n c (by rw [hφ _ hl]; exact h)
 | mp id r h=>intro hl; simp [FV.lt] at hl; exact .mp id r (by rw [hφ _ hl]; exact h)
 | yld id l h=>intro hl; simp [FV.lt] at hl; exact .yld id l (by rw [hφ _ hl]; exact h)
 | sub id sz lo n g m c h hc=>intro hl; simp [FV.lt] at hl; exact .sub id sz lo n g m c (by rw [hφ _ hl]; exact h) hc
 | fn f vs cs hl hr ih=>intro h; unfold FV.lt at h; exact .fn f vs cs hl fun j v p hv hp=>ih j v p hv hp (FV.lt_mem h (List.mem_of_getElem? hp))
 | agg vs cs hl hr ih=>intro h; unfold FV.lt at h; exact .agg vs cs hl fun j v p hv hp=>ih j v p hv hp (FV.lt_mem h (List.mem_of_getElem? hp))
 | tup vs cs hl hr ih=>intro h; unfold FV.lt at h; exact .tup vs cs hl fun j v p hv hp=>ih j v p hv hp (FV.lt_mem h (List.mem_of_getElem? hp))
mutual
theorem FV.lt_mono {n m:Nat} (hnm:n <= m):∀ (x:FV),x.lt n = true -> x.lt m = true
 | .pv _,_=>by simp [FV.lt]
 | .nils,_=>by simp [FV.lt]
 | .box id _,h=>by simp [FV.lt] at *; omega
 | .arr id,h=>by simp [FV.lt] at *; omega
 | .aptr id _ _ _,h=>by simp [FV.lt] at *; omega
 | .mp id,h=>by simp [FV.lt] at *; omega
 | .yld id,h=>by simp [FV.lt] at *; omega
 | .sub id _ _ _,h=>by simp [FV.lt] at *; omega
 | .fn _ cs,h=>by simp only [FV.lt] at *; exact FV.ltL_mono hnm cs h
 | .agg cs,h=>by simp only [FV.lt] at *; exact FV.ltL_mono hnm cs h
 | .tup cs,h=>by simp only [FV.lt] at *; exact FV.ltL_mono hnm cs h
theorem FV.ltL_mono {n m:Nat} (hnm:n <= m):∀ (xs:List FV),FV.ltL n xs = true -> FV.ltL m xs = true
 | [],_=>rfl
 | x :: xs,h=>by
  simp only [FV.ltL,Bool.and_eq_true] at *
  exact ⟨FV.lt_mono hnm x h.1,FV.ltL_mono hnm xs h.2⟩
end
end Go.Abs
