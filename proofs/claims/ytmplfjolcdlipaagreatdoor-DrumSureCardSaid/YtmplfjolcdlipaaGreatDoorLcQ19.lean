/- DrumSure: small contracts. -/
import Derived.Test.YtmplfjolcdlipaaGreatDoorLbQ19
import Derived.Test.YtmplfjolcdlipaaGreatDoorXQ19
set_option linter.unusedVariables false
set_option linter.unusedSimpArgs false
namespace Go.Abs
open Go.Proofs
set_option linter.unusedVariables false
set_option linter.unusedSimpArgs false
set_option maxRecDepth 100000
theorem f77 {d : Drum} {acid : Int} {t : List Int} (hd : drumOK d) (hP : DrumP d) (ht : t.length ≤ 1000) (hz : sizedB d acid t = true) (hq : fitsB d acid t = true) {n h : Nat} {b : Batch} (hb : d.batches[n]? = some b) (hh : (h : Int) ≤ d.hours) :
    ACalls Tryz.prog 77 [eDrum d, eTruth acid t, vi n, vi h] (fun r => r = .tup [.agg (eState (stateI b t h)), .bool true]) := by
  have k70 := f70y (acid := acid) (t := t) (hours := h) hd ht (by simp [runOK, drumP_of.2 hP, hz, hq, inB, hh])
  rw [Int.toNat_natCast] at k70
  have hl : (d.batches.map fun b => stateI b t h).length = d.batches.length := by simp
  have hn : n < d.batches.length := (List.getElem?_eq_some_iff.1 hb).1
  have hbl := hP.b1
  have hx : (d.batches.map fun b => stateI b t h)[n]? = some (stateI b t h) := by rw [List.getElem?_map, hb]; rfl
  have e1 := get_map eState hx
  generalize (d.batches.map fun b => stateI b t h) = L at *
  generalize stateI b t h = S at *
  refine ACalls.of_body hT Tryz.func77 rfl (by kernel_rfl) rfl ?_
  (repeat' (first | refine stq ?_ | (refine AL_do2 rfl ?_; first | refine ⟨_, op_call1 rfl rfl rfl rfl (k70), nrmA rfl ?_⟩) | ((first | (with_reducible refine AL_id ?_); (fail_if_success (refine AL_glit rfl rfl rfl (by first | exact .inl (by with_reducible rfl) | exact .inr (by with_reducible rfl)) ?_)); first | refine AL_gdec rfl rfl rfl (fun hg => ?_) (fun hg => ?_) | refine AL_gnot rfl rfl rfl (fun hg => ?_) (fun hg => ?_) | refine AL_gcases rfl rfl rfl (fun hg => ?_) (fun hg => ?_)) <;> (try (exfalso; omega))) | refine AW_if rfl (fun hc => absurd hc (by omega)) (fun _ => ?_) | refine AW_if rfl (fun _ => ?_) (fun hc => absurd (by omega) hc)))
  all_goals (try (exfalso; omega))
  exact ⟨_, _, rfl, rfl, rfl⟩
theorem err_fits {d : Drum} {acid : Int} {t : List Int} (q : drumB d = true) (hz : sizedB d acid t = true) (hq : fitsB d acid t = true) : errE d true = 0 := by
  obtain ⟨hm, _, _⟩ := fits_mem (drumP_of.1 q) hz hq
  rcases err_cases q with ⟨hn, _⟩ | ⟨_, he⟩
  · rw [hn] at hm; simp at hm
  · exact he
end Go.Abs
