/- The numbers of a line. -/
import Derived.Test.YtmplfjolcdlipaaGreatDoorJDrO
import Derived.Test.YtmplfjolcdlipaaGreatDoorJDrP
import Derived.Test.YtmplfjolcdlipaaGreatDoorJNcK
set_option linter.unusedVariables false
set_option linter.unusedSimpArgs false
namespace Go.Abs
open Go.Proofs
set_option linter.unusedVariables false
set_option linter.unusedSimpArgs false
set_option maxRecDepth 100000
def toldL : List (List UInt8) -> List (List UInt8) -> List Int
 | x :: xs,w :: ws => if w = [] then numV x :: toldL xs ws else toldL xs ws
 | _,_ => []
theorem told_snoc : ∀ (xs ws : List (List UInt8)) (x w : List UInt8),xs.length = ws.length -> toldL (xs ++ [x]) (ws ++ [w]) = toldL xs ws ++ if w = [] then [numV x] else []
 | [],[],x,w,_ => by simp [toldL]
 | a :: xs,b :: ws,x,w,h => by
  have ih := told_snoc xs ws x w (by simpa using h)
  simp only [List.cons_append,toldL]
  rw [ih]
  split <;> simp
 | [],_ :: _,_,_,h => by simp at h
 | _ :: _,[],_,_,h => by simp at h
theorem told_len : ∀ (xs ws : List (List UInt8)),(toldL xs ws).length <= xs.length
 | [],_ => by simp [toldL]
 | _ :: _,[] => by simp [toldL]
 | a :: xs,b :: ws => by
  have := told_len xs ws
  simp only [toldL]
  split <;> simp <;> omega
structure NumW (x : List UInt8) : Prop where
 dig : ∀ b ∈ x,digB b = true
 l1 : 1 <= x.length
 l4 : x.length <= 4
 itoa : ACalls Tryz.prog 156 [vi (numV x)] (fun r => r = .pv (.str (itoaB (numV x))))
 same : itoaB (numV x) = bytesOf x
def FormP (xs ws : List (List UInt8)) : Prop := xs.length = ws.length /\ ∀ (i : Nat) (x w : List UInt8),xs[i]? = some x -> ws[i]? = some w -> (w = [] -> NumW x) /\ (w ≠ [] -> x = w)
set_option maxHeartbeats 4000000 in
theorem f161 (l : List UInt8) (ws : List (List UInt8)) (hl : l.length <= 100000) (hw : ws.length <= 1000) (hF : FormP (splitL 32 l) ws) : ACalls Tryz.prog 161 [.str (bytesOf l),.sl (ws.map eStrL)] (fun r => r = .own 3 1 ((toldL (splitL 32 l) ws).map eInt)):= by
 have k159 := f159 l 32 hl
 have k160 := f160t (bytesOf l)
 generalize splitL 32 l = xs at *
 obtain ⟨hlen,hF⟩ := hF
 refine ACalls.of_body hT Tryz.func161 rfl (by kernel_rfl) rfl ?_
 (repeat (refine stq ?_))
 refine AL_do2 rfl ⟨_,op_call1 rfl rfl rfl rfl k159,?_⟩
 refine AL_pure (t := 11) rfl rfl ?_
 (repeat (refine stq ?_))
 rw [show decide (((xs.length : Nat) : Int) = ((ws.length : Nat) : Int)) = true from decide_eq_true (by omega)]
 (repeat' (first | refine stq ?_ | (refine AL_do2 rfl ?_; first | refine ⟨_,op_call1 rfl rfl rfl rfl (k160),nrmA rfl ?_⟩) | (with_reducible refine AL_id ?_); (fail_if_success (refine AL_glit rfl rfl rfl (by first | exact .inl (by with_reducible rfl) | exact .inr (by with_reducible rfl)) ?_)); first | refine AL_gdec rfl rfl rfl (fun hg => ?_) (fun hg => ?_) | refine AL_gnot rfl rfl rfl (fun hg => ?_) (fun hg => ?_) | refine AL_gcases rfl rfl rfl (fun hg => ?_) (fun hg => ?_)))
 refine AW_own_nil (e := 3) (sz := 1) (t := 6) rfl rfl ?_
 (repeat (refine stq ?_))
 refine AW_loopC (fun k : Nat => k <= xs.length) (fun k => mkSt [(0,.pv (.str (bytesOf l))),(1,.pv (.sl (ws.map eStrL))),(6,.arr 0),(19,.pv (.sl (xs.map eStrL))),(20,.pv (vi xs.length)),(21,.pv (vi k))] [(0,.arr 3 1 ((toldL (xs.take k) (ws.take k)).map eInt))] 1) (fun k => xs.length - k) 0 (Nat.zero_le _) ?_ ?_
 ·(refine Le.mkR [(0,1)] ?_ ?_ rfl; all_goals (repeat' (first | exact trivial | refine sle ?_ | refine ⟨?_,rfl,?_⟩ | refine ⟨?_,by decide,rfl,?_⟩ | fail)))
 ·intro k hk
  (repeat (refine stq ?_))
  refine AW_if rfl (fun hc => ?_) (fun hc => ?_)
  ·have hk' : k < xs.length := by omega
   obtain ⟨x,hx⟩ : ∃ x,xs[k]? = some x := ⟨xs[k],by simp [hk']⟩
   obtain ⟨w,hwk⟩ : ∃ w,ws[k]? = some w := ⟨ws[k]'(by omega),by simp⟩
   have e1 := get_map eStrL hx
   have e2 := get_map eStrL hwk
   obtain ⟨c1,c2⟩ := hF k x w hx hwk
   have hsn : toldL (xs.take (k + 1)) (ws.take (k + 1)) = toldL (xs.take k) (ws.take k) ++ if w = [] then [numV x] else []:= by
    rw [List.take_add_one,List.take_add_one,hx,hwk]
    exact told_snoc _ _ _ _ (by simp [hlen])
   have htl : (toldL (xs.take k) (ws.take k)).length <= 1000 := by have := told_len (xs.take k) (ws.take k); simp at this; omega
   generalize toldL (xs.take k) (ws.take k) = A at *
   by_cases hwe : w = []
   ·obtain ⟨n1,n2,n3,n4,n5⟩ := c1 hwe
    have k181 := f181 x n1 n2 n3 n4 n5
    rw [if_pos hwe] at hsn
    (repeat (refine stq ?_))
    refine AL_do2 rfl ⟨_,op_strneB (b := false) (by rw [hwe]; rfl) rfl rfl rfl rfl,?_⟩
    (repeat' (first | refine stq ?_ | (refine AL_do2 rfl ?_; first | refine ⟨_,op_call1 rfl rfl rfl rfl (k181),nrmA rfl ?_⟩) | (with_reducible refine AL_id ?_); (fail_if_success (refine AL_glit rfl rfl rfl (by first | exact .inl (by with_reducible rfl) | exact .inr (by with_reducible rfl)) ?_)); first | refine AL_gdec rfl rfl rfl (fun hg => ?_) (fun hg => ?_) | refine AL_gnot rfl rfl rfl (fun hg => ?_) (fun hg => ?_) | refine AL_gcases rfl rfl rfl (fun hg => ?_) (fun hg => ?_)))
    refine ⟨k + 1,hk',by omega,?_⟩
    rw [hsn]
    (refine Le.mkR [(0,2)] ?_ ?_ rfl; all_goals (repeat' (first | exact trivial | refine sle ?_ | refine ⟨?_,rfl,?_⟩ | refine ⟨?_,by decide,rfl,?_⟩ | fail)))
    show some (AObj.arr 3 1 (A.map eInt ++ [eInt (numV x)])) = some (AObj.arr 3 1 ((A ++ [numV x]).map eInt))
    rw [List.map_append]; rfl
   ·have hxw := c2 hwe
    subst hxw
    rw [if_neg hwe,List.append_nil] at hsn
    (repeat (refine stq ?_))
    refine AL_do2 rfl ⟨_,op_strneB (b := true) (by
     show (!(x == [])) = true
     cases x with
     | nil => exact absurd rfl hwe
     | cons => rfl) rfl rfl rfl rfl,?_⟩
    (repeat (refine stq ?_))
    refine AL_do2 rfl ⟨_,op_streqB (b := true) (by simp) rfl rfl rfl rfl,?_⟩
    (repeat' (first | refine stq ?_ | (refine AL_do2 rfl ?_; first | refine ⟨_,op_call1 rfl rfl rfl rfl (k160),nrmA rfl ?_⟩) | (with_reducible refine AL_id ?_); (fail_if_success (refine AL_glit rfl rfl rfl (by first | exact .inl (by with_reducible rfl) | exact .inr (by with_reducible rfl)) ?_)); first | refine AL_gdec rfl rfl rfl (fun hg => ?_) (fun hg => ?_) | refine AL_gnot rfl rfl rfl (fun hg => ?_) (fun hg => ?_) | refine AL_gcases rfl rfl rfl (fun hg => ?_) (fun hg => ?_)))
    refine ⟨k + 1,hk',by omega,?_⟩
    rw [hsn]
    (refine Le.mk ?_ ?_; all_goals (repeat' (first | exact trivial | refine sle ?_ | refine ⟨?_,rfl,?_⟩ | refine ⟨?_,by decide,rfl,?_⟩ | fail)))
  ·have hk' : k = xs.length := by omega
   rw [hk',List.take_length,hlen,List.take_length]
   (repeat (refine stq ?_))
   exact ⟨_,_,rfl,rfl,rfl⟩
end Go.Abs
namespace Go.Abs
open Go.Proofs
set_option linter.unusedVariables false
set_option linter.unusedSimpArgs false
set_option maxRecDepth 100000
theorem dec_one {n : Nat} (h : n < 10) : Lib.decDigits n = [UInt8.ofNat (48 + n)]:= by
 unfold Lib.decDigits; simp [h]
theorem numW_one (b : UInt8) (h : digB b = true) : NumW [b]:= by
 have h' := h
 simp only [digB,Bool.and_eq_true,decide_eq_true_eq] at h'
 have hv : numV [b] = ((b.toNat - 48 : Nat) : Int) := by simp only [numV,List.foldl_cons,List.foldl_nil]; omega
 refine ⟨fun x hx => by simp only [List.mem_singleton] at hx; rw [hx]; exact h,by simp,by simp,?_,?_⟩
 ·have := f156 (b.toNat - 48) (by omega)
  rw [hv]
  exact this
 ·rw [hv]
  show bytesOf (Lib.decDigits (b.toNat - 48)) = _
  rw [dec_one (by omega),show 48 + (b.toNat - 48) = b.toNat by omega]
  simp
def oneB (x : List UInt8) : Bool := match x with | [b] => digB b | _ => false
theorem numW_of {x : List UInt8} (h : oneB x = true) : NumW x:= by
 match x,h with
 | [b],h => exact numW_one b h
def formB (xs ws : List (List UInt8)) : Bool := decide (xs.length = ws.length) && (xs.zip ws).all fun p => if p.2 = [] then oneB p.1 else decide (p.1 = p.2)
theorem formP_of {xs ws : List (List UInt8)} (h : formB xs ws = true) : FormP xs ws:= by
 simp only [formB,Bool.and_eq_true,decide_eq_true_eq,List.all_eq_true] at h
 refine ⟨h.1,fun i x w hx hw => ?_⟩
 have hm : (x,w) ∈ xs.zip ws := List.mem_of_getElem? (i := i) (by rw [List.getElem?_zip_eq_some]; exact ⟨hx,hw⟩)
 have := h.2 _ hm
 simp only at this
 constructor
 ·intro e
  rw [if_pos e] at this
  exact numW_of this
 ·intro e
  rw [if_neg e] at this
  simpa using this
def txL : List UInt8 := [100,114,117,109,32,49,32,107,110,111,119,110,32,49,10,97,99,105,100,32,53,32,53,32,102,97,108,108,32,48,32,48,10,97,100,100,32,48,10,98,97,116,99,104,32,48,32,48,32,48,32,48,32,48,32,48,10,101,110,100,32,48,49,49,10]
def ln0 : List UInt8 := [100,114,117,109,32,49,32,107,110,111,119,110,32,49]
def ln1 : List UInt8 := [97,99,105,100,32,53,32,53,32,102,97,108,108,32,48,32,48]
def ln2 : List UInt8 := [97,100,100,32,48]
def ln3 : List UInt8 := [98,97,116,99,104,32,48,32,48,32,48,32,48,32,48,32,48]
def ln4 : List UInt8 := [101,110,100,32,48,49,49]
def ln5 : List UInt8 := []
def cDr : Drum := ⟨[⟨⟨5,5⟩,⟨0,0⟩⟩],1,1,[0],[],[⟨0,0,0,0,0,0⟩]⟩
theorem tx_split : splitL 10 txL = [ln0,ln1,ln2,ln3,ln4,ln5] := by decide +kernel
def fDrum : List (List UInt8) := [[100,114,117,109],[],[107,110,111,119,110],[]]
def fAcid : List (List UInt8) := [[97,99,105,100],[],[],[102,97,108,108],[],[]]
def fAdd : List (List UInt8) := [[97,100,100],[]]
def fBatch : List (List UInt8) := [[98,97,116,99,104],[],[],[],[],[],[]]
theorem fm0 : formB (splitL 32 ln0) fDrum = true := by decide +kernel
theorem fm1 : formB (splitL 32 ln1) fAcid = true := by decide +kernel
theorem fm2 : formB (splitL 32 ln2) fAdd = true := by decide +kernel
theorem fm3 : formB (splitL 32 ln3) fBatch = true := by decide +kernel
theorem tl0 : toldL (splitL 32 ln0) fDrum = [1,1] := by decide +kernel
theorem tl1 : toldL (splitL 32 ln1) fAcid = [5,5,0,0] := by decide +kernel
theorem tl2 : toldL (splitL 32 ln2) fAdd = [0] := by decide +kernel
theorem tl3 : toldL (splitL 32 ln3) fBatch = [0,0,0,0,0,0] := by decide +kernel
theorem k161_0 : ACalls Tryz.prog 161 [.str (bytesOf ln0),.sl (fDrum.map eStrL)] (fun r => r = .own 3 1 ([1,1].map eInt)):= by
 have := f161 ln0 fDrum (by decide) (by decide) (formP_of fm0); rwa [tl0] at this
theorem k161_1 : ACalls Tryz.prog 161 [.str (bytesOf ln1),.sl (fAcid.map eStrL)] (fun r => r = .own 3 1 ([5,5,0,0].map eInt)):= by
 have := f161 ln1 fAcid (by decide) (by decide) (formP_of fm1); rwa [tl1] at this
theorem k161_2 : ACalls Tryz.prog 161 [.str (bytesOf ln2),.sl (fAdd.map eStrL)] (fun r => r = .own 3 1 ([0].map eInt)):= by
 have := f161 ln2 fAdd (by decide) (by decide) (formP_of fm2); rwa [tl2] at this
theorem k161_3 : ACalls Tryz.prog 161 [.str (bytesOf ln3),.sl (fBatch.map eStrL)] (fun r => r = .own 3 1 ([0,0,0,0,0,0].map eInt)):= by
 have := f161 ln3 fBatch (by decide) (by decide) (formP_of fm3); rwa [tl3] at this
theorem ct1 : cutL 32 ln1 = ([97,99,105,100],ln1.drop 5,true) := by decide +kernel
theorem ct2 : cutL 32 ln2 = ([97,100,100],ln2.drop 4,true) := by decide +kernel
theorem ct3 : cutL 32 ln3 = ([98,97,116,99,104],ln3.drop 6,true) := by decide +kernel
theorem it0 : itoaB 0 = bytesOf [48] := by show bytesOf (Lib.decDigits 0) = _; rw [dec_one (by decide)]; rfl
theorem it1 : itoaB 1 = bytesOf [49] := by show bytesOf (Lib.decDigits 1) = _; rw [dec_one (by decide)]; rfl
theorem it5 : itoaB 5 = bytesOf [53] := by show bytesOf (Lib.decDigits 5) = _; rw [dec_one (by decide)]; rfl
theorem lines_c : linesD cDr = [bytesOf ln0,bytesOf ln1,bytesOf ln2,bytesOf ln3]:= by
 simp only [linesD,L3,L2,L1,hdL,acL,cDr,acN,faN,stN,baN,lineB,List.map_cons,List.map_nil,List.foldl_cons,List.foldl_nil,it0,it1,it5,List.cons_append,List.nil_append,List.append_nil]
 decide +kernel
theorem chk_c : checkI [bytesOf ln0,bytesOf ln1,bytesOf ln2,bytesOf ln3] % 103 = 11 := by decide +kernel
theorem text_c : textD cDr = bytesOf txL:= by
 unfold textD
 rw [lines_c]
 unfold textOf
 rw [chk_c]
 unfold endL
 rw [show (11 : Int) / 100 = 0 from rfl,show (11 : Int) / 10 % 10 = 1 from rfl,show (11 : Int) % 10 = 1 from rfl,it0,it1]
 decide +kernel
end Go.Abs
