/- DrumSpoilt: the contract of the statement's function. -/
import Derived.Test.YtmplfjolcdlipaaGreatDoorJDrKRQ8
import Derived.Test.YtmplfjolcdlipaaGreatDoorJDrKSQ8
import Derived.Test.YtmplfjolcdlipaaGreatDoorJXQ8
set_option linter.unusedVariables false
set_option linter.unusedSimpArgs false
namespace Go.Abs
open Go.Proofs Go.RowKit
set_option linter.unusedVariables false
set_option linter.unusedSimpArgs false
set_option maxRecDepth 100000
theorem f42o : ACalls Tryz.prog 42 [eDrum zeroD,eDrum zeroD] (fun r => r = .pv (.bool true)) := f42s zeroD ⟨by decide,by decide,by decide,by decide⟩
theorem f40o {s : List UInt8} (hs : s.length <= 600) (h : readM s = none) : ACalls Tryz.prog 40 [.str (bytesOf s)] (fun r => r = .tup [eDrum zeroD,vi 4]):= by
 have k := f40 s
 rw [show readE s = (zeroD,4) by unfold readE; rw [if_neg (by omega),h]] at k
 exact k
theorem wrapd {b : UInt8} (h : 48 <= b.toNat /\ b.toNat <= 57) : IntKind.i64.wrap (IntKind.u8.wrap ((b.toNat : Int) - 48)) = (b.toNat : Int) - 48:= by
 unfold IntKind.wrap; simp [IntKind.signed,IntKind.bits]; omega
set_option maxHeartbeats 8000000 in
theorem f8y {d : Drum} (hd : drumOK d) (hP : DrumP d) (hs : shortB d = true) (hb : drumB d = true) {n g : Int} (hg9 : 0 <= g /\ g <= 9) {b : UInt8} (hn : 0 <= n) (hnb : (textD d).data.toList[n.toNat]? = some b) (hbd : 48 <= b.toNat /\ b.toNat <= 57) (hne : (b.toNat : Int) - 48 ≠ g) :
  ACalls Tryz.prog 8 [eDrum d,vi n,vi g] (fun r => r = .pv (.bool true)):= by
 have k23 := f23' d
 rw [hs] at k23
 have k39 := f39 d hd
 rw [hb] at k39
 have k38 := f38y hd hP
 have kz := f42o
 have hl6 := text_len hP
 obtain ⟨b',hb'⟩ : ∃ b' : UInt8,(b'.toNat : Int) = 48 + g := ⟨UInt8.ofNat (48 + g).toNat,by simp only [UInt8.toNat_ofNat',Nat.reducePow]; omega⟩
 have hsp := spoilt hP hnb hbd (by omega : 48 <= b'.toNat /\ b'.toNat <= 57) (fun e => hne (by subst e; omega))
 have hte : textD d = bytesOf (textD d).data.toList := bytes_ext rfl
 rw [hte] at k38
 generalize (textD d).data.toList = xs at *
 have hnl : n.toNat < xs.length := (List.getElem?_eq_some_iff.1 hnb).1
 have k40 := f40o (s := xs.set n.toNat b') (by rw [List.length_set]; exact hl6) hsp
 have hsz := bytesOf_size xs
 have hbx : (bytesOf xs)[n.toNat]? = some b:= by
  rw [getElem?_pos (bytesOf xs) n.toNat (by rw [hsz]; exact hnl)]
  have := (List.getElem?_eq_some_iff.1 hnb).2
  exact congrArg some ((rfl : (bytesOf xs)[n.toNat]'(by rw [hsz]; exact hnl) = xs[n.toNat]'hnl).trans this)
 have hw := wrapd hbd
 have hwb : IntKind.u8.wrap (48 + g) = (b'.toNat : Int):= by
  rw [hb']; unfold IntKind.wrap; simp [IntKind.signed,IntKind.bits]; omega
 refine ACalls.of_body hT Tryz.func8 rfl (by kernel_rfl) rfl ?_
 (repeat' (first | refine AL_skip rfl rfl ?_ | refine stq ?_ | (refine AL_do2 rfl ?_; first | refine ⟨_,op_call1 rfl rfl rfl rfl (k23),nrmA rfl ?_⟩ | refine ⟨_,op_call1 rfl rfl rfl rfl (k39),nrmA rfl ?_⟩ | refine ⟨_,op_call1 rfl rfl rfl rfl (k38),nrmA rfl ?_⟩ | refine ⟨_,op_len_str hT rfl rfl rfl rfl rfl,?_⟩ | refine ⟨_,op_index_str hT rfl rfl rfl rfl rfl rfl (by omega) hbx,?_⟩ | refine ⟨_,op_bin (k := .u8) (op := .sub) rfl rfl rfl rfl rfl,?_⟩) | ((first | (with_reducible refine AL_id ?_); (fail_if_success (refine AL_glit rfl rfl rfl (by first | exact .inl (by with_reducible rfl) | exact .inr (by with_reducible rfl)) ?_)); first | refine AL_gdec rfl rfl rfl (fun hg => ?_) (fun hg => ?_) | refine AL_gnot rfl rfl rfl (fun hg => ?_) (fun hg => ?_) | refine AL_gcases rfl rfl rfl (fun hg => ?_) (fun hg => ?_)) <;> (try (exfalso; omega))) | refine AW_if rfl (fun hc => absurd hc (by omega)) (fun _ => ?_) | refine AW_if rfl (fun _ => ?_) (fun hc => absurd (by omega) hc)))
 refine AL_doS rfl (op_strBytes (xs := xs) hT rfl rfl rfl rfl rfl rfl rfl rfl rfl) ?_
 rintro s' ⟨l,c,rfl⟩
 (repeat (refine stq ?_))
 rw [hwb]
 refine AL_do2 rfl ⟨_,op_byteAddr hT rfl rfl rfl rfl rfl rfl rfl rfl rfl (by omega) hnl,?_⟩
 (repeat (refine stq ?_))
 refine AL_do2 rfl ⟨_,op_byteStore (id1 := 1) (b := b') hT rfl rfl rfl rfl rfl rfl rfl hnl rfl,?_⟩
 (repeat (refine stq ?_))
 refine AL_do2 rfl ⟨_,op_bytesBack (id1 := 1) hT rfl rfl rfl rfl rfl rfl rfl rfl rfl rfl (by rw [List.length_set]) rfl,?_⟩
 (repeat' (first | refine AL_skip rfl rfl ?_ | refine stq ?_ | (refine AL_do2 rfl ?_; first | refine ⟨_,op_call1 rfl rfl rfl rfl (k40),nrmA rfl ?_⟩ | refine ⟨_,op_call1 rfl rfl rfl rfl (kz),nrmA rfl ?_⟩ | refine ⟨_,op_call1 rfl rfl rfl rfl (f24),nrmA rfl ?_⟩) | ((first | (with_reducible refine AL_id ?_); (fail_if_success (refine AL_glit rfl rfl rfl (by first | exact .inl (by with_reducible rfl) | exact .inr (by with_reducible rfl)) ?_)); first | refine AL_gdec rfl rfl rfl (fun hg => ?_) (fun hg => ?_) | refine AL_gnot rfl rfl rfl (fun hg => ?_) (fun hg => ?_) | refine AL_gcases rfl rfl rfl (fun hg => ?_) (fun hg => ?_)) <;> (try (exfalso; omega))) | refine AW_if rfl (fun hc => absurd hc (by omega)) (fun _ => ?_) | refine AW_if rfl (fun _ => ?_) (fun hc => absurd (by omega) hc)))
 all_goals first | exact ⟨_,_,rfl,rfl,rfl⟩ | (exfalso; omega)
set_option maxHeartbeats 8000000 in
theorem f8 (d : Drum) (n g : Int) : ACalls Tryz.prog 8 [eDrum d,vi n,vi g] (fun r => r = .pv (.bool true)):= by
 have k23 := f23' d
 cases hs : shortB d with
 | false =>
  rw [hs] at k23
  refine ACalls.of_body hT Tryz.func8 rfl (by kernel_rfl) rfl ?_
  (repeat' (first | refine AL_skip rfl rfl ?_ | refine stq ?_ | (refine AL_do2 rfl ?_; first | refine ⟨_,op_call1 rfl rfl rfl rfl (k23),nrmA rfl ?_⟩ | refine ⟨_,op_call1 rfl rfl rfl rfl (f24),nrmA rfl ?_⟩) | ((first | (with_reducible refine AL_id ?_); (fail_if_success (refine AL_glit rfl rfl rfl (by first | exact .inl (by with_reducible rfl) | exact .inr (by with_reducible rfl)) ?_)); first | refine AL_gdec rfl rfl rfl (fun hg => ?_) (fun hg => ?_) | refine AL_gnot rfl rfl rfl (fun hg => ?_) (fun hg => ?_) | refine AL_gcases rfl rfl rfl (fun hg => ?_) (fun hg => ?_)) <;> (try (exfalso; omega))) | refine AW_if rfl (fun hc => absurd hc (by omega)) (fun _ => ?_) | refine AW_if rfl (fun _ => ?_) (fun hc => absurd (by omega) hc)))
  all_goals first | exact ⟨_,_,rfl,rfl,rfl⟩ | (exfalso; omega)
 | true =>
  have hd := short_ok hs
  have k39 := f39 d hd
  cases hb : drumB d with
  | false =>
   rw [hs] at k23
   rw [hb] at k39
   refine ACalls.of_body hT Tryz.func8 rfl (by kernel_rfl) rfl ?_
   (repeat' (first | refine AL_skip rfl rfl ?_ | refine stq ?_ | (refine AL_do2 rfl ?_; first | refine ⟨_,op_call1 rfl rfl rfl rfl (k23),nrmA rfl ?_⟩ | refine ⟨_,op_call1 rfl rfl rfl rfl (k39),nrmA rfl ?_⟩ | refine ⟨_,op_call1 rfl rfl rfl rfl (f24),nrmA rfl ?_⟩) | ((first | (with_reducible refine AL_id ?_); (fail_if_success (refine AL_glit rfl rfl rfl (by first | exact .inl (by with_reducible rfl) | exact .inr (by with_reducible rfl)) ?_)); first | refine AL_gdec rfl rfl rfl (fun hg => ?_) (fun hg => ?_) | refine AL_gnot rfl rfl rfl (fun hg => ?_) (fun hg => ?_) | refine AL_gcases rfl rfl rfl (fun hg => ?_) (fun hg => ?_)) <;> (try (exfalso; omega))) | refine AW_if rfl (fun hc => absurd hc (by omega)) (fun _ => ?_) | refine AW_if rfl (fun _ => ?_) (fun hc => absurd (by omega) hc)))
   all_goals first | exact ⟨_,_,rfl,rfl,rfl⟩ | (exfalso; omega)
  | true =>
   have hP := drumP_of.1 hb
   by_cases hg9 : 0 <= g /\ g <= 9
   ·have k38 := f38y hd hP
    have hte : textD d = bytesOf (textD d).data.toList := bytes_ext rfl
    by_cases hn : 0 <= n /\ n < (textD d).data.toList.length
    ·obtain ⟨b,hnb⟩ : ∃ b,(textD d).data.toList[n.toNat]? = some b := ⟨(textD d).data.toList[n.toNat]'(by omega),by simp⟩
     by_cases hbd : (48 <= b.toNat /\ b.toNat <= 57) /\ (b.toNat : Int) - 48 ≠ g
     ·exact f8y hd hP hs hb hg9 hn.1 hnb hbd.1 hbd.2
     ·rw [hs] at k23
      rw [hb] at k39
      rw [hte] at k38
      generalize (textD d).data.toList = xs at *
      have hnl : n.toNat < xs.length := (List.getElem?_eq_some_iff.1 hnb).1
      have hsz := bytesOf_size xs
      have hbx : (bytesOf xs)[n.toNat]? = some b:= by
       rw [getElem?_pos (bytesOf xs) n.toNat (by rw [hsz]; exact hnl)]
       have := (List.getElem?_eq_some_iff.1 hnb).2
       exact congrArg some ((rfl : (bytesOf xs)[n.toNat]'(by rw [hsz]; exact hnl) = xs[n.toNat]'hnl).trans this)
      have hb255 := b.toNat_lt
      by_cases hdg : 48 <= b.toNat /\ b.toNat <= 57
      ·have hw := wrapd hdg
       refine ACalls.of_body hT Tryz.func8 rfl (by kernel_rfl) rfl ?_
       (repeat' (first | refine AL_skip rfl rfl ?_ | refine stq ?_ | (refine AL_do2 rfl ?_; first | refine ⟨_,op_call1 rfl rfl rfl rfl (k23),nrmA rfl ?_⟩ | refine ⟨_,op_call1 rfl rfl rfl rfl (k39),nrmA rfl ?_⟩ | refine ⟨_,op_call1 rfl rfl rfl rfl (k38),nrmA rfl ?_⟩ | refine ⟨_,op_call1 rfl rfl rfl rfl (f24),nrmA rfl ?_⟩ | refine ⟨_,op_len_str hT rfl rfl rfl rfl rfl,?_⟩ | refine ⟨_,op_index_str hT rfl rfl rfl rfl rfl rfl (by omega) hbx,?_⟩ | refine ⟨_,op_bin (k := .u8) (op := .sub) rfl rfl rfl rfl rfl,?_⟩) | ((first | (with_reducible refine AL_id ?_); (fail_if_success (refine AL_glit rfl rfl rfl (by first | exact .inl (by with_reducible rfl) | exact .inr (by with_reducible rfl)) ?_)); first | refine AL_gdec rfl rfl rfl (fun hg => ?_) (fun hg => ?_) | refine AL_gnot rfl rfl rfl (fun hg => ?_) (fun hg => ?_) | refine AL_gcases rfl rfl rfl (fun hg => ?_) (fun hg => ?_)) <;> (try (exfalso; omega))) | refine AW_if rfl (fun hc => absurd hc (by omega)) (fun _ => ?_) | refine AW_if rfl (fun _ => ?_) (fun hc => absurd (by omega) hc)))
       all_goals first | exact ⟨_,_,rfl,rfl,rfl⟩ | (exfalso; omega)
      ·refine ACalls.of_body hT Tryz.func8 rfl (by kernel_rfl) rfl ?_
       (repeat' (first | refine AL_skip rfl rfl ?_ | refine stq ?_ | (refine AL_do2 rfl ?_; first | refine ⟨_,op_call1 rfl rfl rfl rfl (k23),nrmA rfl ?_⟩ | refine ⟨_,op_call1 rfl rfl rfl rfl (k39),nrmA rfl ?_⟩ | refine ⟨_,op_call1 rfl rfl rfl rfl (k38),nrmA rfl ?_⟩ | refine ⟨_,op_call1 rfl rfl rfl rfl (f24),nrmA rfl ?_⟩ | refine ⟨_,op_len_str hT rfl rfl rfl rfl rfl,?_⟩ | refine ⟨_,op_index_str hT rfl rfl rfl rfl rfl rfl (by omega) hbx,?_⟩ | refine ⟨_,op_bin (k := .u8) (op := .sub) rfl rfl rfl rfl rfl,?_⟩) | ((first | (with_reducible refine AL_id ?_); (fail_if_success (refine AL_glit rfl rfl rfl (by first | exact .inl (by with_reducible rfl) | exact .inr (by with_reducible rfl)) ?_)); first | refine AL_gdec rfl rfl rfl (fun hg => ?_) (fun hg => ?_) | refine AL_gnot rfl rfl rfl (fun hg => ?_) (fun hg => ?_) | refine AL_gcases rfl rfl rfl (fun hg => ?_) (fun hg => ?_)) <;> (try (exfalso; omega))) | refine AW_if rfl (fun hc => absurd hc (by omega)) (fun _ => ?_) | refine AW_if rfl (fun _ => ?_) (fun hc => absurd (by omega) hc)))
       all_goals first | exact ⟨_,_,rfl,rfl,rfl⟩ | (exfalso; omega)
    ·rw [hs] at k23
     rw [hb] at k39
     rw [hte] at k38
     generalize (textD d).data.toList = xs at *
     have hsz := bytesOf_size xs
     refine ACalls.of_body hT Tryz.func8 rfl (by kernel_rfl) rfl ?_
     (repeat' (first | refine AL_skip rfl rfl ?_ | refine stq ?_ | (refine AL_do2 rfl ?_; first | refine ⟨_,op_call1 rfl rfl rfl rfl (k23),nrmA rfl ?_⟩ | refine ⟨_,op_call1 rfl rfl rfl rfl (k39),nrmA rfl ?_⟩ | refine ⟨_,op_call1 rfl rfl rfl rfl (k38),nrmA rfl ?_⟩ | refine ⟨_,op_call1 rfl rfl rfl rfl (f24),nrmA rfl ?_⟩ | refine ⟨_,op_len_str hT rfl rfl rfl rfl rfl,?_⟩) | ((first | (with_reducible refine AL_id ?_); (fail_if_success (refine AL_glit rfl rfl rfl (by first | exact .inl (by with_reducible rfl) | exact .inr (by with_reducible rfl)) ?_)); first | refine AL_gdec rfl rfl rfl (fun hg => ?_) (fun hg => ?_) | refine AL_gnot rfl rfl rfl (fun hg => ?_) (fun hg => ?_) | refine AL_gcases rfl rfl rfl (fun hg => ?_) (fun hg => ?_)) <;> (try (exfalso; omega))) | refine AW_if rfl (fun hc => absurd hc (by omega)) (fun _ => ?_) | refine AW_if rfl (fun _ => ?_) (fun hc => absurd (by omega) hc)))
     all_goals first | exact ⟨_,_,rfl,rfl,rfl⟩ | (exfalso; omega)
   ·rw [hs] at k23
    rw [hb] at k39
    refine ACalls.of_body hT Tryz.func8 rfl (by kernel_rfl) rfl ?_
    (repeat' (first | refine AL_skip rfl rfl ?_ | refine stq ?_ | (refine AL_do2 rfl ?_; first | refine ⟨_,op_call1 rfl rfl rfl rfl (k23),nrmA rfl ?_⟩ | refine ⟨_,op_call1 rfl rfl rfl rfl (k39),nrmA rfl ?_⟩ | refine ⟨_,op_call1 rfl rfl rfl rfl (f24),nrmA rfl ?_⟩) | ((first | (with_reducible refine AL_id ?_); (fail_if_success (refine AL_glit rfl rfl rfl (by first | exact .inl (by with_reducible rfl) | exact .inr (by with_reducible rfl)) ?_)); first | refine AL_gdec rfl rfl rfl (fun hg => ?_) (fun hg => ?_) | refine AL_gnot rfl rfl rfl (fun hg => ?_) (fun hg => ?_) | refine AL_gcases rfl rfl rfl (fun hg => ?_) (fun hg => ?_)) <;> (try (exfalso; omega))) | refine AW_if rfl (fun hc => absurd hc (by omega)) (fun _ => ?_) | refine AW_if rfl (fun _ => ?_) (fun hc => absurd (by omega) hc)))
    all_goals first | exact ⟨_,_,rfl,rfl,rfl⟩ | (exfalso; omega)
end Go.Abs
