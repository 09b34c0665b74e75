/- DrumRuns: the contract of the statement's function. -/
import Derived.Test.YtmplfjolcdlipaaGreatDoorLaQ21
import Derived.Test.YtmplfjolcdlipaaGreatDoorXQ21
set_option linter.unusedVariables false
set_option linter.unusedSimpArgs false
namespace Go.Abs
open Go.Proofs
set_option linter.unusedVariables false
set_option linter.unusedSimpArgs false
set_option maxRecDepth 100000
theorem f70y {d : Drum} {acid : Int} {t : List Int} {hours : Int} (hd : drumOK d) (ht : t.length ≤ 1000) (h : runOK d acid t hours = true) : ACalls Tryz.prog 70 [eDrum d, eTruth acid t, vi hours] (fun r => r = .tup [eStates (d.batches.map fun b => stateI b t hours.toNat), vi 0]) := by
  have k := f70 d acid t hours hd ht
  rw [runE, if_pos h] at k
  exact k
theorem f71y {d : Drum} {hours : Int} (hd : drumOK d) (h : errE d (inB hours 0 d.hours) = 0) : ACalls Tryz.prog 71 [eDrum d, vi hours] (fun r => r = .tup [eBoundsL (d.batches.map fun b => boundsI d b hours.toNat), vi 0]) := by
  have k := f71 d hours hd
  rw [knownE, if_pos h] at k
  exact k
end Go.Abs
namespace Go.Abs
open Go.Proofs
set_option linter.unusedVariables false
set_option linter.unusedSimpArgs false
set_option maxRecDepth 100000
theorem fits_mem {d : Drum} {acid : Int} {t : List Int} (hP : DrumP d) (hz : sizedB d acid t = true) (hq : fitsB d acid t = true) :
    (d.acids.getD acid.toNat ⟨⟨0, 0⟩, ⟨0, 0⟩⟩, acid.toNat) ∈ filledL d ∧ truesB d (d.acids.getD acid.toNat ⟨⟨0, 0⟩, ⟨0, 0⟩⟩) t = true ∧ t.length = d.hours.toNat := by
  obtain ⟨h0, hac, hl⟩ := sized_of hz
  simp only [fitsB, Bool.and_eq_true] at hq
  have ha := hP.acid _ (List.mem_of_getElem? hac)
  have hkb := known_bd hP
  have hn := (List.getElem?_eq_some_iff.1 hac).1
  have ha4 := hP.a1
  refine ⟨filled_mem.2 ⟨hac, ?_, true_may hP ha hq.2⟩, hq.2, by omega⟩
  rw [← bit_has hkb.1 hkb.2 (by omega)]
  exact hq.1
theorem err_cases {d : Drum} (h : drumB d = true) : (filledL d = [] ∧ errE d true = 7) ∨ (filledL d ≠ [] ∧ errE d true = 0) := by
  unfold errE askedE
  rw [h, Bool.and_true, if_pos rfl]
  by_cases h0 : (filledL d).length = 0
  · rw [if_pos h0]; exact .inl ⟨List.length_eq_zero_iff.1 h0, rfl⟩
  · rw [if_neg h0]; exact .inr ⟨fun e => h0 (by rw [e]; rfl), rfl⟩
end Go.Abs
namespace Go.Abs
open Go.Proofs
set_option linter.unusedVariables false
set_option linter.unusedSimpArgs false
set_option maxRecDepth 100000
end Go.Abs
