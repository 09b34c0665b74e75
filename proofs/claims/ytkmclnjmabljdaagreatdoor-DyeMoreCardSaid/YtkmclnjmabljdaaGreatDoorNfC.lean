/- The closed facts of a row, put together. -/
import Derived.JoinedOf
import Derived.SevenTiedAt
set_option linter.unusedVariables false
set_option linter.unusedSimpArgs false
namespace Go.Abs
set_option linter.unusedVariables false

theorem joined_abs {P : Program} {f : FuncId} {fn : Func} {s : ChangeSpec} {c : OpenClaim} (g1 : laidOutB P = true) (g2 : mapsRowed P = true) (g3 : P.stopsHeard = true) (g4 : P.mayEnter = true) (g5 : (c.lifted == P.liftsFinal) = true) (g6 : (P.make == some c.make) = true)
    (g7 : (c.plainKeys == P.plainKeys) = true) (g8 : (P.stops == []) = true) (g9 : (P.stopKnobs == []) = true)
    (h1 : c.wf (OpenSpec.ofChange s) = true) (h2 : (fn.params.all (P.readableRec ·) && namedTie P c.named s.vars) = true) (h2b : ((c.stops == []) && (c.knobs == [])) = true)
    (h3 : (c.inPlace == P.inPlace f) = true) (h4 : (c.unfollowed == P.unfollowed f) = true) (h5 : (c.recurses == P.recurses f) = true) (h6 : (c.named == P.varsNamed f) = true)
    (h7 : ((c.maps == (fn.params.toList ++ s.plain.varTypes P).any (P.mapsRec ·)) && (c.ifaces == (fn.params.toList ++ s.plain.varTypes P).any (P.ifacesRec ·)) && (c.mapsOut == P.mapsAmong fn.resultTypes.toList) &&
      (c.loops == (fn.params.toList ++ s.plain.varTypes P).any (P.loopsFrom ·)) && (c.wideKeys == (fn.params.toList ++ s.plain.varTypes P ++ fn.resultTypes.toList).any (P.wideKeysFrom ·))) = true)
    (h8 : (s.vars.all (P.varReadable ·) && fn.resultTypes.all (fun t => P.readableRec t && decide (t < P.types.size)) && (c.ifacesOut == fn.resultTypes.toList.any (P.ifacesRec ·)) && (c.loopsOut == fn.resultTypes.toList.any (P.loopsFrom ·))) = true)
    (h10 : c.shortTexts.isNone = true)
    (hdom : c.domain.isEmpty = true) (d1 : (c.kinds == []) = true) (d2 : (c.pinned == c.pinnedBy) = true)
    (h14 : ((c.veiled == (fn.params.toList ++ s.plain.varTypes P ++ fn.resultTypes.toList).any (P.veiledRec ·)) && c.veiledFits P fn.params.toList (fn.params.toList ++ s.plain.varTypes P ++ fn.resultTypes.toList)) = true) :
    joinedFacts P f fn s c = true := by
  simp only [Bool.and_eq_true] at h2 h2b h7 h8 h14
  obtain ⟨a1, a2⟩ := h2
  obtain ⟨a3, a4⟩ := h2b
  obtain ⟨⟨⟨⟨b1, b2⟩, b3⟩, b4⟩, b5⟩ := h7
  obtain ⟨⟨⟨c1, c2⟩, c3⟩, c4⟩ := h8
  obtain ⟨e1, e2⟩ := h14
  unfold joinedFacts
  rw [h1, g1, g2, a1, a2, a3, g8, a4, g9, h3, h4, h5, h6, b1, b2, b3, b4, b5, c1, c2, c3, c4, g7, h10, g3, g4, g5, g6, if_pos hdom, d1, d2, e1, e2]
  rfl
end Go.Abs
