/- The statements' arguments of layer 4, read. -/
import Derived.Test.YtkmclnjmabljdaaGreatDoorKNcH
import Derived.Test.YtkmclnjmabljdaaGreatDoorKNdA
import Derived.Test.YtkmclnjmabljdaaGreatDoorRows
import Derived.LaidMore
import Derived.Lay
import Derived.Lib.LaidTab
import Derived.Stop.LaidErr
set_option linter.unusedVariables false
set_option linter.unusedSimpArgs false
namespace Go.Abs
open Go.Proofs Go.RowKit
set_option linter.unusedVariables false
set_option maxRecDepth 100000
section
variable {H : Type} {enc : TypeId × Value -> H} {W : World}
theorem rd3 : RdC enc Tryz.prog W 3 (fun n : Int => [vi n]) := RdC.int (by kernel_rfl)
theorem rd37 : RdC enc Tryz.prog W 37 eSpan :=
 RdC.map (t := 37) (fun x : Int × Int × Unit => ⟨x.1,x.2.1⟩) (fun x => by rfl) (RdC.strct (fs := [(3,0),(3,1)]) (by kernel_rfl) (by kernel_rfl) (RdF.cons 1 rd3 (by kernel_rfl) (by decide +kernel) (RdF.cons 1 rd3 (by kernel_rfl) (by decide +kernel) (RdF.nil (by kernel_rfl)))))
theorem rd28 : RdC enc Tryz.prog W 28 (fun l : List Span => [eSpans l]) := RdC.sl (by kernel_rfl) (fun x => by rw [show Tryz.prog.cellsOf 37 = 2 by kernel_rfl]; rfl) rd37
theorem rd90 : RdC enc Tryz.prog W 90 eDye :=
 RdC.map (t := 90) (fun x : List Span × Int × Unit => ⟨x.1,x.2.1⟩) (fun x => by rfl) (RdC.strct (fs := [(28,0),(3,1)]) (by kernel_rfl) (by kernel_rfl) (RdF.cons 1 rd28 (by kernel_rfl) (by decide +kernel) (RdF.cons 1 rd3 (by kernel_rfl) (by decide +kernel) (RdF.nil (by kernel_rfl)))))
theorem rd22 : RdC enc Tryz.prog W 22 (fun l : List Dye => [.sl (l.map eDye)]) := RdC.sl (by kernel_rfl) (fun x => by rw [show Tryz.prog.cellsOf 90 = 2 by kernel_rfl]; rfl) rd90
theorem rd24 : RdC enc Tryz.prog W 24 (fun h : List Dye => [.sl (h.map eDye)]) :=
 RdC.map (t := 24) (fun x : List Dye × Unit => x.1) (fun x => by rfl) (RdC.strct (fs := [(22,0)]) (by kernel_rfl) (by kernel_rfl) (RdF.cons 1 rd22 (by kernel_rfl) (by decide +kernel) (RdF.nil (by kernel_rfl))))
theorem rd154 : RdC enc Tryz.prog W 154 eBath :=
 RdC.map (t := 154) (fun x : Int × Int × Span × Unit => ⟨x.1,x.2.1,x.2.2.1⟩) (fun x => by rfl) (RdC.strct (fs := [(3,0),(3,1),(37,2)]) (by kernel_rfl) (by kernel_rfl) (RdF.cons 1 rd3 (by kernel_rfl) (by decide +kernel) (RdF.cons 1 rd3 (by kernel_rfl) (by decide +kernel) (RdF.cons 2 rd37 (by kernel_rfl) (by decide +kernel) (RdF.nil (by kernel_rfl))))))
theorem rd25 : RdC enc Tryz.prog W 25 (fun l : List Bath => [eBaths l]) := RdC.sl (by kernel_rfl) (fun x => by rw [show Tryz.prog.cellsOf 154 = 4 by kernel_rfl]; rfl) rd154
theorem rd95 : RdC enc Tryz.prog W 95 eStock :=
 RdC.map (t := 95) (fun x : List Bath × Int × Int × Unit => ⟨x.1,x.2.1,x.2.2.1⟩) (fun x => by rfl) (RdC.strct (fs := [(25,0),(3,1),(3,2)]) (by kernel_rfl) (by kernel_rfl) (RdF.cons 1 rd25 (by kernel_rfl) (by decide +kernel) (RdF.cons 1 rd3 (by kernel_rfl) (by decide +kernel) (RdF.cons 1 rd3 (by kernel_rfl) (by decide +kernel) (RdF.nil (by kernel_rfl))))))
theorem rd59 : RdC enc Tryz.prog W 59 (fun l : List Stock => [eStocks l]) := RdC.sl (by kernel_rfl) (fun x => by rw [show Tryz.prog.cellsOf 95 = 3 by kernel_rfl]; rfl) rd95
end
end Go.Abs
namespace Go.Abs
open Go.Proofs Go.RowKit Go.ChangeShapes Go.Proofs.YtkmclnjmabljdaaGreatDoor
set_option linter.unusedVariables false
set_option maxRecDepth 100000
def laid5 : List (String × DataW Unit) := [("math/bits.deBruijn32tab", Rows.laid_math_bits_deBruijn32tab), ("math/bits.deBruijn64tab", Rows.laid_math_bits_deBruijn64tab), ("internal/strconv.uint64pow10", Rows.laid_internal_strconv_uint64pow10), ("unicode/utf8.acceptRanges", Rows.laid_unicode_utf8_acceptRanges), ("unicode/utf8.first", Rows.laid_unicode_utf8_first)]
theorem ownT : ownKnob Tryz.prog.godebug = none := by kernel_rfl
theorem laidOutT : laidOutB Tryz.prog = true := by kernel_rfl
theorem bool4 : Tryz.prog.underlying 4 = some .bool := by kernel_rfl
theorem door_met (os : Os) (args : Array Value) : laidMetH Tryz.prog laid5 ((World.laidAll Tryz.prog os laid5).forCall (fun _ _ => 0) ⟨#[],args,[]⟩).memory :=
 by rw [MakeChecks.laidMetH_plain _ _ _ (by kernel_rfl)]; exact laidMet_laidAll _ (by kernel_rfl) (by kernel_rfl)
theorem door_shaped (os : Os) (args : Array Value) : ((World.laidAll Tryz.prog os laid5).forCall (fun _ _ => 0) ⟨#[],args,[]⟩).Shaped Tryz.prog :=
 World.shaped_of_ZipB (by kernel_rfl) (by kernel_rfl)
def tabChk (P : Program) : Bool := match P.globalNamed "internal/strconv.uint64pow10" with
 | some g => (match (P.globals[g]?).map (·.type) with
  | some t => (match P.underlying t with
   | some (.array n e) => (match P.underlying e with
    | some (.int .u64) => decide (P.cellsOf e = 1) && decide (P.cellsOf t = n)
    | _ => false)
   | _ => false)
  | none => false)
 | none => false
theorem tabChk_t : tabChk Tryz.prog = true := by kernel_rfl
theorem pow_same : (Rows.laid_internal_strconv_uint64pow10 : DataW Unit) = Lib.tabData .u64 Lib.pow10Tab := by kernel_rfl
theorem kok_of {W : World} (h : laidMetH Tryz.prog laid5 W) : KOK Tryz.prog W (fun b => b < W.heap.size) (fun _ => False):= by
 rw [MakeChecks.laidMetH_plain _ _ _ (by kernel_rfl)] at h
 have h3 : laidMet Tryz.prog [("internal/strconv.uint64pow10", Rows.laid_internal_strconv_uint64pow10), ("unicode/utf8.acceptRanges", Rows.laid_unicode_utf8_acceptRanges), ("unicode/utf8.first", Rows.laid_unicode_utf8_first)] W := h.tail.tail
 rw [pow_same] at h3
 have hc := tabChk_t
 unfold tabChk at hc
 split at hc
 ·rename_i g hg
  split at hc
  ·rename_i t hty
   split at hc
   ·rename_i n e ht
    split at hc
    ·rename_i he
     simp only [Bool.and_eq_true,decide_eq_true_eq] at hc
     have htab : Lib.TabIs Tryz.prog W "internal/strconv.uint64pow10" .u64 Lib.pow10Tab := Lib.tabIs_of_head hg hty ht he hc.1 hc.2 h3
     have hlt : g < W.heap.size:= by
      have h5 := htab
      unfold Lib.TabIs World.var? at h5
      rw [hg] at h5
      simp only [Option.bind_some] at h5
      by_cases hlt : g < W.heap.size
      ·exact hlt
      ·rw [Array.getElem?_eq_none (by omega)] at h5
       simp at h5
     exact ⟨g,hg,hlt,id,hlt,htab⟩
    ·cases hc
   ·cases hc
  ·cases hc
 ·cases hc
theorem law_lifted {f : FuncId} {fn : Func} {s : ChangeSpec} (os : Os) (started : os.Started) {H : Type} (enc : TypeId × Value -> H) (hno : Tryz.prog.inits.idxOf? f = none) (hfn : Tryz.prog.funcs[f]? = some fn) (hs : s.vars = [])
  (hres : fn.resultTypes = #[4]) (hts : ∀ t ∈ fn.params.toList,Tryz.prog.readableRec t = true /\ t < Tryz.prog.types.size)
  (args : Array Value) (hok : Input.okWideB Tryz.prog ((World.laidAll Tryz.prog os laid5).forCall (fun _ _ => 0) ⟨#[],args,[]⟩) f ⟨#[],args,[]⟩ = true)
  (hpre : s.preB enc Tryz.prog fn [] false ((World.laidAll Tryz.prog os laid5).forCall (fun _ _ => 0) ⟨#[],args,[]⟩).memory args 8 = true)
  (hsz : s.sizedB enc Tryz.prog fn false ((World.laidAll Tryz.prog os laid5).forCall (fun _ _ => 0) ⟨#[],args,[]⟩).memory args 8 = true)
  (contract : ∀ (W : World) (base : Nat) (args : Array Value) (ds : List (DataW H)) (p : List MemPlace),(∀ (j : Nat) t v,fn.params[j]? = some t -> args[j]? = some v -> Value.okWide Tryz.prog W .any base t v) →
   DataW.TrodAll enc Tryz.prog W 0 (fun _ => true) true fn.params.toList args.toList ds p →
   s.fn H ds = { results := [.lit (.bool true)],args := ds } /\ ∃ ps,RepL W (fun b => b < W.heap.size) args ps /\ ACalls Tryz.prog f ps (fun r => r = .pv (.bool true))) :
  ReturnsInHanded {} Tryz.checked os f .any (fun w args => (s.pre enc Tryz.prog fn [] false w args /\ laidMetH Tryz.prog laid5 w) /\ sizedMet enc Tryz.prog fn (OpenSpec.ofChange s) false w args)
   (s.post enc Tryz.prog fn false true false false):= by
 refine returnsInHanded_of_change_and (C := Tryz.checked) (X := fun w _ => laidMetH Tryz.prog laid5 w) (fun _ _ _ hh h => h.of_heap hh) ownT started hno hfn
  (ChangeSpec.witness_shaped (enc := enc) (C := Tryz.checked) (os := os) (X := fun w _ => laidMetH Tryz.prog laid5 w) false (World.laidAll Tryz.prog os laid5) args 8 (World.laidAll_os _ _ _) (door_shaped os args) hok hpre hsz (door_met os _)) ?_
 intro W base args ds gs before hval hW _ _ hL _
 obtain ⟨p,q,hA,hV,_⟩ := id hW
 obtain ⟨hfn',ps,hR,hC⟩ := contract W base args ds p hval hA
 refine (hC.2 W (fun b => b < W.heap.size) args (kok_of hL) (fun _ h => h) hR).mono ?_
 rintro e w' ⟨v,r,D',rfl,hb,_,_,_,hr,rfl⟩
 have hv : v = .bool true := Rep.inv_bool hr
 subst hv
 exact ⟨_,rfl,law_post hs hfn' hres bool4 laidOutT hts hW hb⟩
end Go.Abs
