/-
  DERIVED. GIVEN WITH THE SEED: THE CARDS: each row of YtkmclnjmabljdaaGreatDoorRows.lean that lists a variable, with what it lists TIED to the program's text (the seventh form; the later family's looks); each row that meets fmt, with fmt's text TOLD by the authors' own Lean function (tested against real Go, not proved from fmt's source: count such statements apart). THE CARD IS WHAT COUNTS. Prove the row's statement (the work); the ties are given (YtkmclnjmabljdaaGreatDoorTie.lean); close each card by the builder's one call (the guide's Derived/Test/ToyasCard.lean, 'card_holds'). Laid BY PROGRAM, IN A SANDBOX (cutbox-door.mjs). By AI agents, Wed Nov 11 2026. No macro, syntax, notation, axiom, sorry.
-/
import Derived.Test.YtkmclnjmabljdaaGreatDoorRows
import GoSem.ClaimSeven
namespace Go.Proofs.YtkmclnjmabljdaaGreatDoor
namespace Rows

/-- THE TIED CARD OF 'nacrelaw04.DyeKnowns'. -/
def dyeKnownsCard : Claim7 := { stood := { row := dyeKnownsRow, standIns := [], harness := (true, "2d786f4c48be527342a5a148c4ad2cb82cdd4fa7b6be3b273fbea74be73c3c94"), looks := true }, kinds := [], alts := [], laidByText := true, laidKinds := [.data, .data, .data], laidTests := true, laidLooks := .later }
def DyeKnownsCardSaid : Prop := Claim7.holds Tryz.pinned (.plain (OpenSpec.ofChange dyeKnownsSpec)) dyeKnownsCard

/-- THE TIED CARD OF 'nacrelaw04.DyeWords'. -/
def dyeWordsCard : Claim7 := { stood := { row := dyeWordsRow, standIns := [], harness := (true, "2d786f4c48be527342a5a148c4ad2cb82cdd4fa7b6be3b273fbea74be73c3c94"), looks := true }, kinds := [], alts := [], laidByText := true, laidKinds := [.data, .data, .data], laidTests := true, laidLooks := .later }
def DyeWordsCardSaid : Prop := Claim7.holds Tryz.pinned (.plain (OpenSpec.ofChange dyeWordsSpec)) dyeWordsCard

/-- THE TIED CARD OF 'nacrelaw04.DyeRipes'. -/
def dyeRipesCard : Claim7 := { stood := { row := dyeRipesRow, standIns := [], harness := (true, "2d786f4c48be527342a5a148c4ad2cb82cdd4fa7b6be3b273fbea74be73c3c94"), looks := true }, kinds := [], alts := [], laidByText := true, laidKinds := [.data, .data, .data], laidTests := true, laidLooks := .later }
def DyeRipesCardSaid : Prop := Claim7.holds Tryz.pinned (.plain (OpenSpec.ofChange dyeRipesSpec)) dyeRipesCard

/-- THE TIED CARD OF 'nacrelaw04.DyeCoats'. -/
def dyeCoatsCard : Claim7 := { stood := { row := dyeCoatsRow, standIns := [], harness := (true, "2d786f4c48be527342a5a148c4ad2cb82cdd4fa7b6be3b273fbea74be73c3c94"), looks := true }, kinds := [], alts := [], laidByText := true, laidKinds := [.data, .data, .data], laidTests := true, laidLooks := .later }
def DyeCoatsCardSaid : Prop := Claim7.holds Tryz.pinned (.plain (OpenSpec.ofChange dyeCoatsSpec)) dyeCoatsCard

/-- THE TIED CARD OF 'nacrelaw04.DyeLaid'. -/
def dyeLaidCard : Claim7 := { stood := { row := dyeLaidRow, standIns := [], harness := (true, "2d786f4c48be527342a5a148c4ad2cb82cdd4fa7b6be3b273fbea74be73c3c94"), looks := true }, kinds := [], alts := [], laidByText := true, laidKinds := [.data, .data, .data], laidTests := true, laidLooks := .later }
def DyeLaidCardSaid : Prop := Claim7.holds Tryz.pinned (.plain (OpenSpec.ofChange dyeLaidSpec)) dyeLaidCard

/-- THE TIED CARD OF 'nacrelaw04.DyeProves'. -/
def dyeProvesCard : Claim7 := { stood := { row := dyeProvesRow, standIns := [], harness := (true, "2d786f4c48be527342a5a148c4ad2cb82cdd4fa7b6be3b273fbea74be73c3c94"), looks := true }, kinds := [], alts := [], laidByText := true, laidKinds := [.data, .data, .data], laidTests := true, laidLooks := .later }
def DyeProvesCardSaid : Prop := Claim7.holds Tryz.pinned (.plain (OpenSpec.ofChange dyeProvesSpec)) dyeProvesCard

/-- THE TIED CARD OF 'nacrelaw04.DyeProven'. -/
def dyeProvenCard : Claim7 := { stood := { row := dyeProvenRow, standIns := [], harness := (true, "2d786f4c48be527342a5a148c4ad2cb82cdd4fa7b6be3b273fbea74be73c3c94"), looks := true }, kinds := [], alts := [], laidByText := true, laidKinds := [.data, .data, .data], laidTests := true, laidLooks := .later }
def DyeProvenCardSaid : Prop := Claim7.holds Tryz.pinned (.plain (OpenSpec.ofChange dyeProvenSpec)) dyeProvenCard

/-- THE TIED CARD OF 'nacrelaw04.DyeReached'. -/
def dyeReachedCard : Claim7 := { stood := { row := dyeReachedRow, standIns := [], harness := (true, "2d786f4c48be527342a5a148c4ad2cb82cdd4fa7b6be3b273fbea74be73c3c94"), looks := true }, kinds := [], alts := [], laidByText := true, laidKinds := [.data, .data, .data], laidTests := true, laidLooks := .later }
def DyeReachedCardSaid : Prop := Claim7.holds Tryz.pinned (.plain (OpenSpec.ofChange dyeReachedSpec)) dyeReachedCard

/-- THE TIED CARD OF 'nacrelaw04.DyeTogethers'. -/
def dyeTogethersCard : Claim7 := { stood := { row := dyeTogethersRow, standIns := [], harness := (true, "2d786f4c48be527342a5a148c4ad2cb82cdd4fa7b6be3b273fbea74be73c3c94"), looks := true }, kinds := [], alts := [], laidByText := true, laidKinds := [.data, .data, .data], laidTests := true, laidLooks := .later }
def DyeTogethersCardSaid : Prop := Claim7.holds Tryz.pinned (.plain (OpenSpec.ofChange dyeTogethersSpec)) dyeTogethersCard

/-- THE TIED CARD OF 'nacrelaw04.DyeMore'. -/
def dyeMoreCard : Claim7 := { stood := { row := dyeMoreRow, standIns := [], harness := (true, "2d786f4c48be527342a5a148c4ad2cb82cdd4fa7b6be3b273fbea74be73c3c94"), looks := true }, kinds := [], alts := [], laidByText := true, laidKinds := [.data, .data, .data], laidTests := true, laidLooks := .later }
def DyeMoreCardSaid : Prop := Claim7.holds Tryz.pinned (.plain (OpenSpec.ofChange dyeMoreSpec)) dyeMoreCard

/-- THE TIED CARD OF 'nacrelaw04.DyeAparts'. -/
def dyeApartsCard : Claim7 := { stood := { row := dyeApartsRow, standIns := [], harness := (true, "2d786f4c48be527342a5a148c4ad2cb82cdd4fa7b6be3b273fbea74be73c3c94"), looks := true }, kinds := [], alts := [], laidByText := true, laidKinds := [.data, .data, .data], laidTests := true, laidLooks := .later }
def DyeApartsCardSaid : Prop := Claim7.holds Tryz.pinned (.plain (OpenSpec.ofChange dyeApartsSpec)) dyeApartsCard

/-- THE TIED CARD OF 'nacrelaw04.DyeTurned'. -/
def dyeTurnedCard : Claim7 := { stood := { row := dyeTurnedRow, standIns := [], harness := (true, "2d786f4c48be527342a5a148c4ad2cb82cdd4fa7b6be3b273fbea74be73c3c94"), looks := true }, kinds := [], alts := [], laidByText := true, laidKinds := [.data, .data, .data], laidTests := true, laidLooks := .later }
def DyeTurnedCardSaid : Prop := Claim7.holds Tryz.pinned (.plain (OpenSpec.ofChange dyeTurnedSpec)) dyeTurnedCard

/-- THE TIED CARD OF 'nacrelaw04.DyeSuits'. -/
def dyeSuitsCard : Claim7 := { stood := { row := dyeSuitsRow, standIns := [], harness := (true, "2d786f4c48be527342a5a148c4ad2cb82cdd4fa7b6be3b273fbea74be73c3c94"), looks := true }, kinds := [], alts := [], laidByText := true, laidKinds := [.data, .data, .data], laidTests := true, laidLooks := .later }
def DyeSuitsCardSaid : Prop := Claim7.holds Tryz.pinned (.plain (OpenSpec.ofChange dyeSuitsSpec)) dyeSuitsCard

/-- THE TIED CARD OF 'nacrelaw04.DyeRivals'. -/
def dyeRivalsCard : Claim7 := { stood := { row := dyeRivalsRow, standIns := [], harness := (true, "2d786f4c48be527342a5a148c4ad2cb82cdd4fa7b6be3b273fbea74be73c3c94"), looks := true }, kinds := [], alts := [], laidByText := true, laidKinds := [.data, .data, .data], laidTests := true, laidLooks := .later }
def DyeRivalsCardSaid : Prop := Claim7.holds Tryz.pinned (.plain (OpenSpec.ofChange dyeRivalsSpec)) dyeRivalsCard

/-- THE TIED CARD OF 'nacrelaw04.DyeLays'. -/
def dyeLaysCard : Claim7 := { stood := { row := dyeLaysRow, standIns := [], harness := (true, "2d786f4c48be527342a5a148c4ad2cb82cdd4fa7b6be3b273fbea74be73c3c94"), looks := true }, kinds := [], alts := [], laidByText := true, laidKinds := [.data, .data, .data], laidTests := true, laidLooks := .later }
def DyeLaysCardSaid : Prop := Claim7.holds Tryz.pinned (.plain (OpenSpec.ofChange dyeLaysSpec)) dyeLaysCard

/-- THE TIED CARD OF 'nacrelaw04.DyeEnds'. -/
def dyeEndsCard : Claim7 := { stood := { row := dyeEndsRow, standIns := [], harness := (true, "2d786f4c48be527342a5a148c4ad2cb82cdd4fa7b6be3b273fbea74be73c3c94"), looks := true }, kinds := [], alts := [], laidByText := true, laidKinds := [.data, .data, .data], laidTests := true, laidLooks := .later }
def DyeEndsCardSaid : Prop := Claim7.holds Tryz.pinned (.plain (OpenSpec.ofChange dyeEndsSpec)) dyeEndsCard

/-- THE TIED CARD OF 'nacrelaw04.DyeDiffer'. -/
def dyeDifferCard : Claim7 := { stood := { row := dyeDifferRow, standIns := [], harness := (true, "2d786f4c48be527342a5a148c4ad2cb82cdd4fa7b6be3b273fbea74be73c3c94"), looks := true }, kinds := [], alts := [], laidByText := true, laidKinds := [.data, .data, .data], laidTests := true, laidLooks := .later }
def DyeDifferCardSaid : Prop := Claim7.holds Tryz.pinned (.plain (OpenSpec.ofChange dyeDifferSpec)) dyeDifferCard

/-- THE TIED CARD OF 'nacrelaw04.DyeRuns'. -/
def dyeRunsCard : Claim7 := { stood := { row := dyeRunsRow, standIns := [], harness := (true, "2d786f4c48be527342a5a148c4ad2cb82cdd4fa7b6be3b273fbea74be73c3c94"), looks := true }, kinds := [], alts := [], laidByText := true, laidKinds := [.data, .data, .data], laidTests := true, laidLooks := .later }
def DyeRunsCardSaid : Prop := Claim7.holds Tryz.pinned (.plain (OpenSpec.ofChange dyeRunsSpec)) dyeRunsCard

/-- THE TIED CARD OF 'nacrelaw04.DyeTrue'. -/
def dyeTrueCard : Claim7 := { stood := { row := dyeTrueRow, standIns := [], harness := (true, "2d786f4c48be527342a5a148c4ad2cb82cdd4fa7b6be3b273fbea74be73c3c94"), looks := true }, kinds := [], alts := [], laidByText := true, laidKinds := [.data, .data, .data], laidTests := true, laidLooks := .later }
def DyeTrueCardSaid : Prop := Claim7.holds Tryz.pinned (.plain (OpenSpec.ofChange dyeTrueSpec)) dyeTrueCard

/-- THE TIED CARD OF 'nacrelaw04.DyeReady'. -/
def dyeReadyCard : Claim7 := { stood := { row := dyeReadyRow, standIns := [], harness := (true, "2d786f4c48be527342a5a148c4ad2cb82cdd4fa7b6be3b273fbea74be73c3c94"), looks := true }, kinds := [], alts := [], laidByText := true, laidKinds := [.data, .data, .data], laidTests := true, laidLooks := .later }
def DyeReadyCardSaid : Prop := Claim7.holds Tryz.pinned (.plain (OpenSpec.ofChange dyeReadySpec)) dyeReadyCard

/-- THE TIED CARD OF 'nacrelaw04.DyeMatched'. -/
def dyeMatchedCard : Claim7 := { stood := { row := dyeMatchedRow, standIns := [], harness := (true, "2d786f4c48be527342a5a148c4ad2cb82cdd4fa7b6be3b273fbea74be73c3c94"), looks := true }, kinds := [], alts := [], laidByText := true, laidKinds := [.data, .data, .data], laidTests := true, laidLooks := .later }
def DyeMatchedCardSaid : Prop := Claim7.holds Tryz.pinned (.plain (OpenSpec.ofChange dyeMatchedSpec)) dyeMatchedCard

/-- THE TIED CARD OF 'nacrelaw04.DyePrints'. -/
def dyePrintsCard : Claim7 := { stood := { row := dyePrintsRow, standIns := [], harness := (true, "2d786f4c48be527342a5a148c4ad2cb82cdd4fa7b6be3b273fbea74be73c3c94"), looks := true }, kinds := [], alts := [], laidByText := true, laidKinds := [.data, .data, .data, .data, .pinned], laidTests := true, laidLooks := .later }
def DyePrintsCardSaid : Prop := Claim7.holds Tryz.pinned (.plain (OpenSpec.ofChange dyePrintsSpec)) dyePrintsCard

/-- THE TIED CARD OF 'nacrelaw04.DyeReads'. -/
def dyeReadsCard : Claim7 := { stood := { row := dyeReadsRow, standIns := [], harness := (true, "2d786f4c48be527342a5a148c4ad2cb82cdd4fa7b6be3b273fbea74be73c3c94"), looks := true }, kinds := [], alts := [], laidByText := true, laidKinds := [.data, .data, .data, .data, .pinned], laidTests := true, laidLooks := .later }
def DyeReadsCardSaid : Prop := Claim7.holds Tryz.pinned (.plain (OpenSpec.ofChange dyeReadsSpec)) dyeReadsCard

/-- THE TIED CARD OF 'nacrelaw04.DyeSpoilt'. -/
def dyeSpoiltCard : Claim7 := { stood := { row := dyeSpoiltRow, standIns := [], harness := (true, "2d786f4c48be527342a5a148c4ad2cb82cdd4fa7b6be3b273fbea74be73c3c94"), looks := true }, kinds := [], alts := [], laidByText := true, laidKinds := [.data, .data, .data, .data, .pinned], laidTests := true, laidLooks := .later }
def DyeSpoiltCardSaid : Prop := Claim7.holds Tryz.pinned (.plain (OpenSpec.ofChange dyeSpoiltSpec)) dyeSpoiltCard

/-- THE SECOND FORM's CARD OF 'nacrelaw04.DyeKnowns'. -/
def dyeKnownsUptoCard : Claim7 := { stood := { row := dyeKnownsUptoRow, standIns := [], harness := (true, "2d786f4c48be527342a5a148c4ad2cb82cdd4fa7b6be3b273fbea74be73c3c94"), looks := true }, kinds := [], alts := [], laidByText := true, laidKinds := [.data, .data, .data], laidTests := true, laidLooks := .later }
def DyeKnownsUptoCardSaid : Prop := Claim7.holds Tryz.pinned (.plain (OpenSpec.upto dyeKnownsSpec)) dyeKnownsUptoCard

/-- THE SECOND FORM's CARD OF 'nacrelaw04.DyeWords'. -/
def dyeWordsUptoCard : Claim7 := { stood := { row := dyeWordsUptoRow, standIns := [], harness := (true, "2d786f4c48be527342a5a148c4ad2cb82cdd4fa7b6be3b273fbea74be73c3c94"), looks := true }, kinds := [], alts := [], laidByText := true, laidKinds := [.data, .data, .data], laidTests := true, laidLooks := .later }
def DyeWordsUptoCardSaid : Prop := Claim7.holds Tryz.pinned (.plain (OpenSpec.upto dyeWordsSpec)) dyeWordsUptoCard

/-- THE SECOND FORM's CARD OF 'nacrelaw04.DyeRipes'. -/
def dyeRipesUptoCard : Claim7 := { stood := { row := dyeRipesUptoRow, standIns := [], harness := (true, "2d786f4c48be527342a5a148c4ad2cb82cdd4fa7b6be3b273fbea74be73c3c94"), looks := true }, kinds := [], alts := [], laidByText := true, laidKinds := [.data, .data, .data], laidTests := true, laidLooks := .later }
def DyeRipesUptoCardSaid : Prop := Claim7.holds Tryz.pinned (.plain (OpenSpec.upto dyeRipesSpec)) dyeRipesUptoCard

/-- THE SECOND FORM's CARD OF 'nacrelaw04.DyeCoats'. -/
def dyeCoatsUptoCard : Claim7 := { stood := { row := dyeCoatsUptoRow, standIns := [], harness := (true, "2d786f4c48be527342a5a148c4ad2cb82cdd4fa7b6be3b273fbea74be73c3c94"), looks := true }, kinds := [], alts := [], laidByText := true, laidKinds := [.data, .data, .data], laidTests := true, laidLooks := .later }
def DyeCoatsUptoCardSaid : Prop := Claim7.holds Tryz.pinned (.plain (OpenSpec.upto dyeCoatsSpec)) dyeCoatsUptoCard

/-- THE SECOND FORM's CARD OF 'nacrelaw04.DyeLaid'. -/
def dyeLaidUptoCard : Claim7 := { stood := { row := dyeLaidUptoRow, standIns := [], harness := (true, "2d786f4c48be527342a5a148c4ad2cb82cdd4fa7b6be3b273fbea74be73c3c94"), looks := true }, kinds := [], alts := [], laidByText := true, laidKinds := [.data, .data, .data], laidTests := true, laidLooks := .later }
def DyeLaidUptoCardSaid : Prop := Claim7.holds Tryz.pinned (.plain (OpenSpec.upto dyeLaidSpec)) dyeLaidUptoCard

/-- THE SECOND FORM's CARD OF 'nacrelaw04.DyeProves'. -/
def dyeProvesUptoCard : Claim7 := { stood := { row := dyeProvesUptoRow, standIns := [], harness := (true, "2d786f4c48be527342a5a148c4ad2cb82cdd4fa7b6be3b273fbea74be73c3c94"), looks := true }, kinds := [], alts := [], laidByText := true, laidKinds := [.data, .data, .data], laidTests := true, laidLooks := .later }
def DyeProvesUptoCardSaid : Prop := Claim7.holds Tryz.pinned (.plain (OpenSpec.upto dyeProvesSpec)) dyeProvesUptoCard

/-- THE SECOND FORM's CARD OF 'nacrelaw04.DyeProven'. -/
def dyeProvenUptoCard : Claim7 := { stood := { row := dyeProvenUptoRow, standIns := [], harness := (true, "2d786f4c48be527342a5a148c4ad2cb82cdd4fa7b6be3b273fbea74be73c3c94"), looks := true }, kinds := [], alts := [], laidByText := true, laidKinds := [.data, .data, .data], laidTests := true, laidLooks := .later }
def DyeProvenUptoCardSaid : Prop := Claim7.holds Tryz.pinned (.plain (OpenSpec.upto dyeProvenSpec)) dyeProvenUptoCard

/-- THE SECOND FORM's CARD OF 'nacrelaw04.DyeReached'. -/
def dyeReachedUptoCard : Claim7 := { stood := { row := dyeReachedUptoRow, standIns := [], harness := (true, "2d786f4c48be527342a5a148c4ad2cb82cdd4fa7b6be3b273fbea74be73c3c94"), looks := true }, kinds := [], alts := [], laidByText := true, laidKinds := [.data, .data, .data], laidTests := true, laidLooks := .later }
def DyeReachedUptoCardSaid : Prop := Claim7.holds Tryz.pinned (.plain (OpenSpec.upto dyeReachedSpec)) dyeReachedUptoCard

/-- THE SECOND FORM's CARD OF 'nacrelaw04.DyeTogethers'. -/
def dyeTogethersUptoCard : Claim7 := { stood := { row := dyeTogethersUptoRow, standIns := [], harness := (true, "2d786f4c48be527342a5a148c4ad2cb82cdd4fa7b6be3b273fbea74be73c3c94"), looks := true }, kinds := [], alts := [], laidByText := true, laidKinds := [.data, .data, .data], laidTests := true, laidLooks := .later }
def DyeTogethersUptoCardSaid : Prop := Claim7.holds Tryz.pinned (.plain (OpenSpec.upto dyeTogethersSpec)) dyeTogethersUptoCard

/-- THE SECOND FORM's CARD OF 'nacrelaw04.DyeMore'. -/
def dyeMoreUptoCard : Claim7 := { stood := { row := dyeMoreUptoRow, standIns := [], harness := (true, "2d786f4c48be527342a5a148c4ad2cb82cdd4fa7b6be3b273fbea74be73c3c94"), looks := true }, kinds := [], alts := [], laidByText := true, laidKinds := [.data, .data, .data], laidTests := true, laidLooks := .later }
def DyeMoreUptoCardSaid : Prop := Claim7.holds Tryz.pinned (.plain (OpenSpec.upto dyeMoreSpec)) dyeMoreUptoCard

/-- THE SECOND FORM's CARD OF 'nacrelaw04.DyeAparts'. -/
def dyeApartsUptoCard : Claim7 := { stood := { row := dyeApartsUptoRow, standIns := [], harness := (true, "2d786f4c48be527342a5a148c4ad2cb82cdd4fa7b6be3b273fbea74be73c3c94"), looks := true }, kinds := [], alts := [], laidByText := true, laidKinds := [.data, .data, .data], laidTests := true, laidLooks := .later }
def DyeApartsUptoCardSaid : Prop := Claim7.holds Tryz.pinned (.plain (OpenSpec.upto dyeApartsSpec)) dyeApartsUptoCard

/-- THE SECOND FORM's CARD OF 'nacrelaw04.DyeTurned'. -/
def dyeTurnedUptoCard : Claim7 := { stood := { row := dyeTurnedUptoRow, standIns := [], harness := (true, "2d786f4c48be527342a5a148c4ad2cb82cdd4fa7b6be3b273fbea74be73c3c94"), looks := true }, kinds := [], alts := [], laidByText := true, laidKinds := [.data, .data, .data], laidTests := true, laidLooks := .later }
def DyeTurnedUptoCardSaid : Prop := Claim7.holds Tryz.pinned (.plain (OpenSpec.upto dyeTurnedSpec)) dyeTurnedUptoCard

/-- THE SECOND FORM's CARD OF 'nacrelaw04.DyeSuits'. -/
def dyeSuitsUptoCard : Claim7 := { stood := { row := dyeSuitsUptoRow, standIns := [], harness := (true, "2d786f4c48be527342a5a148c4ad2cb82cdd4fa7b6be3b273fbea74be73c3c94"), looks := true }, kinds := [], alts := [], laidByText := true, laidKinds := [.data, .data, .data], laidTests := true, laidLooks := .later }
def DyeSuitsUptoCardSaid : Prop := Claim7.holds Tryz.pinned (.plain (OpenSpec.upto dyeSuitsSpec)) dyeSuitsUptoCard

/-- THE SECOND FORM's CARD OF 'nacrelaw04.DyeRivals'. -/
def dyeRivalsUptoCard : Claim7 := { stood := { row := dyeRivalsUptoRow, standIns := [], harness := (true, "2d786f4c48be527342a5a148c4ad2cb82cdd4fa7b6be3b273fbea74be73c3c94"), looks := true }, kinds := [], alts := [], laidByText := true, laidKinds := [.data, .data, .data], laidTests := true, laidLooks := .later }
def DyeRivalsUptoCardSaid : Prop := Claim7.holds Tryz.pinned (.plain (OpenSpec.upto dyeRivalsSpec)) dyeRivalsUptoCard

/-- THE SECOND FORM's CARD OF 'nacrelaw04.DyeLays'. -/
def dyeLaysUptoCard : Claim7 := { stood := { row := dyeLaysUptoRow, standIns := [], harness := (true, "2d786f4c48be527342a5a148c4ad2cb82cdd4fa7b6be3b273fbea74be73c3c94"), looks := true }, kinds := [], alts := [], laidByText := true, laidKinds := [.data, .data, .data], laidTests := true, laidLooks := .later }
def DyeLaysUptoCardSaid : Prop := Claim7.holds Tryz.pinned (.plain (OpenSpec.upto dyeLaysSpec)) dyeLaysUptoCard

/-- THE SECOND FORM's CARD OF 'nacrelaw04.DyeEnds'. -/
def dyeEndsUptoCard : Claim7 := { stood := { row := dyeEndsUptoRow, standIns := [], harness := (true, "2d786f4c48be527342a5a148c4ad2cb82cdd4fa7b6be3b273fbea74be73c3c94"), looks := true }, kinds := [], alts := [], laidByText := true, laidKinds := [.data, .data, .data], laidTests := true, laidLooks := .later }
def DyeEndsUptoCardSaid : Prop := Claim7.holds Tryz.pinned (.plain (OpenSpec.upto dyeEndsSpec)) dyeEndsUptoCard

/-- THE SECOND FORM's CARD OF 'nacrelaw04.DyeDiffer'. -/
def dyeDifferUptoCard : Claim7 := { stood := { row := dyeDifferUptoRow, standIns := [], harness := (true, "2d786f4c48be527342a5a148c4ad2cb82cdd4fa7b6be3b273fbea74be73c3c94"), looks := true }, kinds := [], alts := [], laidByText := true, laidKinds := [.data, .data, .data], laidTests := true, laidLooks := .later }
def DyeDifferUptoCardSaid : Prop := Claim7.holds Tryz.pinned (.plain (OpenSpec.upto dyeDifferSpec)) dyeDifferUptoCard

/-- THE SECOND FORM's CARD OF 'nacrelaw04.DyeRuns'. -/
def dyeRunsUptoCard : Claim7 := { stood := { row := dyeRunsUptoRow, standIns := [], harness := (true, "2d786f4c48be527342a5a148c4ad2cb82cdd4fa7b6be3b273fbea74be73c3c94"), looks := true }, kinds := [], alts := [], laidByText := true, laidKinds := [.data, .data, .data], laidTests := true, laidLooks := .later }
def DyeRunsUptoCardSaid : Prop := Claim7.holds Tryz.pinned (.plain (OpenSpec.upto dyeRunsSpec)) dyeRunsUptoCard

/-- THE SECOND FORM's CARD OF 'nacrelaw04.DyeTrue'. -/
def dyeTrueUptoCard : Claim7 := { stood := { row := dyeTrueUptoRow, standIns := [], harness := (true, "2d786f4c48be527342a5a148c4ad2cb82cdd4fa7b6be3b273fbea74be73c3c94"), looks := true }, kinds := [], alts := [], laidByText := true, laidKinds := [.data, .data, .data], laidTests := true, laidLooks := .later }
def DyeTrueUptoCardSaid : Prop := Claim7.holds Tryz.pinned (.plain (OpenSpec.upto dyeTrueSpec)) dyeTrueUptoCard

/-- THE SECOND FORM's CARD OF 'nacrelaw04.DyeReady'. -/
def dyeReadyUptoCard : Claim7 := { stood := { row := dyeReadyUptoRow, standIns := [], harness := (true, "2d786f4c48be527342a5a148c4ad2cb82cdd4fa7b6be3b273fbea74be73c3c94"), looks := true }, kinds := [], alts := [], laidByText := true, laidKinds := [.data, .data, .data], laidTests := true, laidLooks := .later }
def DyeReadyUptoCardSaid : Prop := Claim7.holds Tryz.pinned (.plain (OpenSpec.upto dyeReadySpec)) dyeReadyUptoCard

/-- THE SECOND FORM's CARD OF 'nacrelaw04.DyeMatched'. -/
def dyeMatchedUptoCard : Claim7 := { stood := { row := dyeMatchedUptoRow, standIns := [], harness := (true, "2d786f4c48be527342a5a148c4ad2cb82cdd4fa7b6be3b273fbea74be73c3c94"), looks := true }, kinds := [], alts := [], laidByText := true, laidKinds := [.data, .data, .data], laidTests := true, laidLooks := .later }
def DyeMatchedUptoCardSaid : Prop := Claim7.holds Tryz.pinned (.plain (OpenSpec.upto dyeMatchedSpec)) dyeMatchedUptoCard

/-- THE SECOND FORM's CARD OF 'nacrelaw04.DyePrints'. -/
def dyePrintsUptoCard : Claim7 := { stood := { row := dyePrintsUptoRow, standIns := [], harness := (true, "2d786f4c48be527342a5a148c4ad2cb82cdd4fa7b6be3b273fbea74be73c3c94"), looks := true }, kinds := [], alts := [], laidByText := true, laidKinds := [.data, .data, .data, .data, .pinned], laidTests := true, laidLooks := .later }
def DyePrintsUptoCardSaid : Prop := Claim7.holds Tryz.pinned (.plain (OpenSpec.upto dyePrintsSpec)) dyePrintsUptoCard

/-- THE SECOND FORM's CARD OF 'nacrelaw04.DyeReads'. -/
def dyeReadsUptoCard : Claim7 := { stood := { row := dyeReadsUptoRow, standIns := [], harness := (true, "2d786f4c48be527342a5a148c4ad2cb82cdd4fa7b6be3b273fbea74be73c3c94"), looks := true }, kinds := [], alts := [], laidByText := true, laidKinds := [.data, .data, .data, .data, .pinned], laidTests := true, laidLooks := .later }
def DyeReadsUptoCardSaid : Prop := Claim7.holds Tryz.pinned (.plain (OpenSpec.upto dyeReadsSpec)) dyeReadsUptoCard

/-- THE SECOND FORM's CARD OF 'nacrelaw04.DyeSpoilt'. -/
def dyeSpoiltUptoCard : Claim7 := { stood := { row := dyeSpoiltUptoRow, standIns := [], harness := (true, "2d786f4c48be527342a5a148c4ad2cb82cdd4fa7b6be3b273fbea74be73c3c94"), looks := true }, kinds := [], alts := [], laidByText := true, laidKinds := [.data, .data, .data, .data, .pinned], laidTests := true, laidLooks := .later }
def DyeSpoiltUptoCardSaid : Prop := Claim7.holds Tryz.pinned (.plain (OpenSpec.upto dyeSpoiltSpec)) dyeSpoiltUptoCard
end Rows
end Go.Proofs.YtkmclnjmabljdaaGreatDoor
