/-
  DERIVED. GIVEN WITH THE SEED: THE CARDS: each row of YtmplfjolcdlipaaGreatDoorRows.lean that lists a variable, with what it lists TIED to the program's text (the seventh form; the later family's looks); each row that meets fmt, with fmt's text TOLD by the authors' own Lean function (tested against real Go, not proved from fmt's source: count such statements apart). THE CARD IS WHAT COUNTS. Prove the row's statement (the work); the ties are given (YtmplfjolcdlipaaGreatDoorTie.lean); close each card by the builder's one call (the guide's Derived/Test/ToyasCard.lean, 'card_holds'). Laid BY PROGRAM, IN A SANDBOX (cutbox-door.mjs). By AI agents, Wed Nov 11 2026. No macro, syntax, notation, axiom, sorry.
-/
import Derived.Test.YtmplfjolcdlipaaGreatDoorRows
import GoSem.ClaimSeven
namespace Go.Proofs.YtmplfjolcdlipaaGreatDoor
namespace Rows

/-- THE TIED CARD OF 'nacrelaw03.DrumStrengths'. -/
def drumStrengthsCard : Claim7 := { stood := { row := drumStrengthsRow, standIns := [], harness := (true, "762f071884d5ced12558a666d0624c047b32b12b6407ccf63fd9aae0ad2441ae"), looks := true }, kinds := [], alts := [], laidByText := true, laidKinds := [.data, .data, .data, .data, .pinned], laidTests := true, laidLooks := .later }
def DrumStrengthsCardSaid : Prop := Claim7.holds Tryz.pinned (.plain (OpenSpec.ofChange drumStrengthsSpec)) drumStrengthsCard

/-- THE TIED CARD OF 'nacrelaw03.DrumHours'. -/
def drumHoursCard : Claim7 := { stood := { row := drumHoursRow, standIns := [], harness := (true, "762f071884d5ced12558a666d0624c047b32b12b6407ccf63fd9aae0ad2441ae"), looks := true }, kinds := [], alts := [], laidByText := true, laidKinds := [.data, .data, .data, .data, .pinned], laidTests := true, laidLooks := .later }
def DrumHoursCardSaid : Prop := Claim7.holds Tryz.pinned (.plain (OpenSpec.ofChange drumHoursSpec)) drumHoursCard

/-- THE TIED CARD OF 'nacrelaw03.DrumTops'. -/
def drumTopsCard : Claim7 := { stood := { row := drumTopsRow, standIns := [], harness := (true, "762f071884d5ced12558a666d0624c047b32b12b6407ccf63fd9aae0ad2441ae"), looks := true }, kinds := [], alts := [], laidByText := true, laidKinds := [.data, .data, .data, .data, .pinned], laidTests := true, laidLooks := .later }
def DrumTopsCardSaid : Prop := Claim7.holds Tryz.pinned (.plain (OpenSpec.ofChange drumTopsSpec)) drumTopsCard

/-- THE TIED CARD OF 'nacrelaw03.DrumPrints'. -/
def drumPrintsCard : Claim7 := { stood := { row := drumPrintsRow, standIns := [], harness := (true, "762f071884d5ced12558a666d0624c047b32b12b6407ccf63fd9aae0ad2441ae"), looks := true }, kinds := [], alts := [], laidByText := true, laidKinds := [.data, .data, .data, .data, .pinned], laidTests := true, laidLooks := .later }
def DrumPrintsCardSaid : Prop := Claim7.holds Tryz.pinned (.plain (OpenSpec.ofChange drumPrintsSpec)) drumPrintsCard

/-- THE TIED CARD OF 'nacrelaw03.DrumReads'. -/
def drumReadsCard : Claim7 := { stood := { row := drumReadsRow, standIns := [], harness := (true, "762f071884d5ced12558a666d0624c047b32b12b6407ccf63fd9aae0ad2441ae"), looks := true }, kinds := [], alts := [], laidByText := true, laidKinds := [.data, .data, .data, .data, .pinned], laidTests := true, laidLooks := .later }
def DrumReadsCardSaid : Prop := Claim7.holds Tryz.pinned (.plain (OpenSpec.ofChange drumReadsSpec)) drumReadsCard

/-- THE TIED CARD OF 'nacrelaw03.DrumSpoilt'. -/
def drumSpoiltCard : Claim7 := { stood := { row := drumSpoiltRow, standIns := [], harness := (true, "762f071884d5ced12558a666d0624c047b32b12b6407ccf63fd9aae0ad2441ae"), looks := true }, kinds := [], alts := [], laidByText := true, laidKinds := [.data, .data, .data, .data, .pinned], laidTests := true, laidLooks := .later }
def DrumSpoiltCardSaid : Prop := Claim7.holds Tryz.pinned (.plain (OpenSpec.ofChange drumSpoiltSpec)) drumSpoiltCard

/-- THE TIED CARD OF 'nacrelaw03.DrumSorts'. -/
def drumSortsCard : Claim7 := { stood := { row := drumSortsRow, standIns := [], harness := (true, "762f071884d5ced12558a666d0624c047b32b12b6407ccf63fd9aae0ad2441ae"), looks := true }, kinds := [], alts := [], laidByText := true, laidKinds := [.data, .data, .data, .data, .pinned], laidTests := true, laidLooks := .later }
def DrumSortsCardSaid : Prop := Claim7.holds Tryz.pinned (.plain (OpenSpec.ofChange drumSortsSpec)) drumSortsCard

/-- THE TIED CARD OF 'nacrelaw03.DrumWindows'. -/
def drumWindowsCard : Claim7 := { stood := { row := drumWindowsRow, standIns := [], harness := (true, "762f071884d5ced12558a666d0624c047b32b12b6407ccf63fd9aae0ad2441ae"), looks := true }, kinds := [], alts := [], laidByText := true, laidKinds := [.data, .data, .data, .data, .pinned], laidTests := true, laidLooks := .later }
def DrumWindowsCardSaid : Prop := Claim7.holds Tryz.pinned (.plain (OpenSpec.ofChange drumWindowsSpec)) drumWindowsCard

/-- THE TIED CARD OF 'nacrelaw03.DrumNamed'. -/
def drumNamedCard : Claim7 := { stood := { row := drumNamedRow, standIns := [], harness := (true, "762f071884d5ced12558a666d0624c047b32b12b6407ccf63fd9aae0ad2441ae"), looks := true }, kinds := [], alts := [], laidByText := true, laidKinds := [.data, .data, .data, .data, .pinned], laidTests := true, laidLooks := .later }
def DrumNamedCardSaid : Prop := Claim7.holds Tryz.pinned (.plain (OpenSpec.ofChange drumNamedSpec)) drumNamedCard

/-- THE TIED CARD OF 'nacrelaw03.DrumMore'. -/
def drumMoreCard : Claim7 := { stood := { row := drumMoreRow, standIns := [], harness := (true, "762f071884d5ced12558a666d0624c047b32b12b6407ccf63fd9aae0ad2441ae"), looks := true }, kinds := [], alts := [], laidByText := true, laidKinds := [.data, .data, .data, .data, .pinned], laidTests := true, laidLooks := .later }
def DrumMoreCardSaid : Prop := Claim7.holds Tryz.pinned (.plain (OpenSpec.ofChange drumMoreSpec)) drumMoreCard

/-- THE TIED CARD OF 'nacrelaw03.DrumTurned'. -/
def drumTurnedCard : Claim7 := { stood := { row := drumTurnedRow, standIns := [], harness := (true, "762f071884d5ced12558a666d0624c047b32b12b6407ccf63fd9aae0ad2441ae"), looks := true }, kinds := [], alts := [], laidByText := true, laidKinds := [.data, .data, .data, .data, .pinned], laidTests := true, laidLooks := .later }
def DrumTurnedCardSaid : Prop := Claim7.holds Tryz.pinned (.plain (OpenSpec.ofChange drumTurnedSpec)) drumTurnedCard

/-- THE TIED CARD OF 'nacrelaw03.DrumDual'. -/
def drumDualCard : Claim7 := { stood := { row := drumDualRow, standIns := [], harness := (true, "762f071884d5ced12558a666d0624c047b32b12b6407ccf63fd9aae0ad2441ae"), looks := true }, kinds := [], alts := [], laidByText := true, laidKinds := [.data, .data, .data, .data, .pinned], laidTests := true, laidLooks := .later }
def DrumDualCardSaid : Prop := Claim7.holds Tryz.pinned (.plain (OpenSpec.ofChange drumDualSpec)) drumDualCard

/-- THE TIED CARD OF 'nacrelaw03.DrumTrue'. -/
def drumTrueCard : Claim7 := { stood := { row := drumTrueRow, standIns := [], harness := (true, "762f071884d5ced12558a666d0624c047b32b12b6407ccf63fd9aae0ad2441ae"), looks := true }, kinds := [], alts := [], laidByText := true, laidKinds := [.data, .data, .data, .data, .pinned], laidTests := true, laidLooks := .later }
def DrumTrueCardSaid : Prop := Claim7.holds Tryz.pinned (.plain (OpenSpec.ofChange drumTrueSpec)) drumTrueCard

/-- THE TIED CARD OF 'nacrelaw03.DrumTells'. -/
def drumTellsCard : Claim7 := { stood := { row := drumTellsRow, standIns := [], harness := (true, "762f071884d5ced12558a666d0624c047b32b12b6407ccf63fd9aae0ad2441ae"), looks := true }, kinds := [], alts := [], laidByText := true, laidKinds := [.data, .data, .data, .data, .pinned], laidTests := true, laidLooks := .later }
def DrumTellsCardSaid : Prop := Claim7.holds Tryz.pinned (.plain (OpenSpec.ofChange drumTellsSpec)) drumTellsCard

/-- THE TIED CARD OF 'nacrelaw03.DrumRuns'. -/
def drumRunsCard : Claim7 := { stood := { row := drumRunsRow, standIns := [], harness := (true, "762f071884d5ced12558a666d0624c047b32b12b6407ccf63fd9aae0ad2441ae"), looks := true }, kinds := [], alts := [], laidByText := true, laidKinds := [.data, .data, .data, .data, .pinned], laidTests := true, laidLooks := .later }
def DrumRunsCardSaid : Prop := Claim7.holds Tryz.pinned (.plain (OpenSpec.ofChange drumRunsSpec)) drumRunsCard

/-- THE TIED CARD OF 'nacrelaw03.DrumBounds'. -/
def drumBoundsCard : Claim7 := { stood := { row := drumBoundsRow, standIns := [], harness := (true, "762f071884d5ced12558a666d0624c047b32b12b6407ccf63fd9aae0ad2441ae"), looks := true }, kinds := [], alts := [], laidByText := true, laidKinds := [.data, .data, .data, .data, .pinned], laidTests := true, laidLooks := .later }
def DrumBoundsCardSaid : Prop := Claim7.holds Tryz.pinned (.plain (OpenSpec.ofChange drumBoundsSpec)) drumBoundsCard

/-- THE TIED CARD OF 'nacrelaw03.DrumSure'. -/
def drumSureCard : Claim7 := { stood := { row := drumSureRow, standIns := [], harness := (true, "762f071884d5ced12558a666d0624c047b32b12b6407ccf63fd9aae0ad2441ae"), looks := true }, kinds := [], alts := [], laidByText := true, laidKinds := [.data, .data, .data, .data, .pinned], laidTests := true, laidLooks := .later }
def DrumSureCardSaid : Prop := Claim7.holds Tryz.pinned (.plain (OpenSpec.ofChange drumSureSpec)) drumSureCard

/-- THE TIED CARD OF 'nacrelaw03.DrumCoulds'. -/
def drumCouldsCard : Claim7 := { stood := { row := drumCouldsRow, standIns := [], harness := (true, "762f071884d5ced12558a666d0624c047b32b12b6407ccf63fd9aae0ad2441ae"), looks := true }, kinds := [], alts := [], laidByText := true, laidKinds := [.data, .data, .data, .data, .pinned], laidTests := true, laidLooks := .later }
def DrumCouldsCardSaid : Prop := Claim7.holds Tryz.pinned (.plain (OpenSpec.ofChange drumCouldsSpec)) drumCouldsCard

/-- THE TIED CARD OF 'nacrelaw03.DrumEmptied'. -/
def drumEmptiedCard : Claim7 := { stood := { row := drumEmptiedRow, standIns := [], harness := (true, "762f071884d5ced12558a666d0624c047b32b12b6407ccf63fd9aae0ad2441ae"), looks := true }, kinds := [], alts := [], laidByText := true, laidKinds := [.data, .data, .data, .data, .pinned], laidTests := true, laidLooks := .later }
def DrumEmptiedCardSaid : Prop := Claim7.holds Tryz.pinned (.plain (OpenSpec.ofChange drumEmptiedSpec)) drumEmptiedCard

/-- THE TIED CARD OF 'nacrelaw03.DrumPut'. -/
def drumPutCard : Claim7 := { stood := { row := drumPutRow, standIns := [], harness := (true, "762f071884d5ced12558a666d0624c047b32b12b6407ccf63fd9aae0ad2441ae"), looks := true }, kinds := [], alts := [], laidByText := true, laidKinds := [.data, .data, .data, .data, .pinned], laidTests := true, laidLooks := .later }
def DrumPutCardSaid : Prop := Claim7.holds Tryz.pinned (.plain (OpenSpec.ofChange drumPutSpec)) drumPutCard

/-- THE SECOND FORM's CARD OF 'nacrelaw03.DrumStrengths'. -/
def drumStrengthsUptoCard : Claim7 := { stood := { row := drumStrengthsUptoRow, standIns := [], harness := (true, "762f071884d5ced12558a666d0624c047b32b12b6407ccf63fd9aae0ad2441ae"), looks := true }, kinds := [], alts := [], laidByText := true, laidKinds := [.data, .data, .data, .data, .pinned], laidTests := true, laidLooks := .later }
def DrumStrengthsUptoCardSaid : Prop := Claim7.holds Tryz.pinned (.plain (OpenSpec.upto drumStrengthsSpec)) drumStrengthsUptoCard

/-- THE SECOND FORM's CARD OF 'nacrelaw03.DrumHours'. -/
def drumHoursUptoCard : Claim7 := { stood := { row := drumHoursUptoRow, standIns := [], harness := (true, "762f071884d5ced12558a666d0624c047b32b12b6407ccf63fd9aae0ad2441ae"), looks := true }, kinds := [], alts := [], laidByText := true, laidKinds := [.data, .data, .data, .data, .pinned], laidTests := true, laidLooks := .later }
def DrumHoursUptoCardSaid : Prop := Claim7.holds Tryz.pinned (.plain (OpenSpec.upto drumHoursSpec)) drumHoursUptoCard

/-- THE SECOND FORM's CARD OF 'nacrelaw03.DrumTops'. -/
def drumTopsUptoCard : Claim7 := { stood := { row := drumTopsUptoRow, standIns := [], harness := (true, "762f071884d5ced12558a666d0624c047b32b12b6407ccf63fd9aae0ad2441ae"), looks := true }, kinds := [], alts := [], laidByText := true, laidKinds := [.data, .data, .data, .data, .pinned], laidTests := true, laidLooks := .later }
def DrumTopsUptoCardSaid : Prop := Claim7.holds Tryz.pinned (.plain (OpenSpec.upto drumTopsSpec)) drumTopsUptoCard

/-- THE SECOND FORM's CARD OF 'nacrelaw03.DrumPrints'. -/
def drumPrintsUptoCard : Claim7 := { stood := { row := drumPrintsUptoRow, standIns := [], harness := (true, "762f071884d5ced12558a666d0624c047b32b12b6407ccf63fd9aae0ad2441ae"), looks := true }, kinds := [], alts := [], laidByText := true, laidKinds := [.data, .data, .data, .data, .pinned], laidTests := true, laidLooks := .later }
def DrumPrintsUptoCardSaid : Prop := Claim7.holds Tryz.pinned (.plain (OpenSpec.upto drumPrintsSpec)) drumPrintsUptoCard

/-- THE SECOND FORM's CARD OF 'nacrelaw03.DrumReads'. -/
def drumReadsUptoCard : Claim7 := { stood := { row := drumReadsUptoRow, standIns := [], harness := (true, "762f071884d5ced12558a666d0624c047b32b12b6407ccf63fd9aae0ad2441ae"), looks := true }, kinds := [], alts := [], laidByText := true, laidKinds := [.data, .data, .data, .data, .pinned], laidTests := true, laidLooks := .later }
def DrumReadsUptoCardSaid : Prop := Claim7.holds Tryz.pinned (.plain (OpenSpec.upto drumReadsSpec)) drumReadsUptoCard

/-- THE SECOND FORM's CARD OF 'nacrelaw03.DrumSpoilt'. -/
def drumSpoiltUptoCard : Claim7 := { stood := { row := drumSpoiltUptoRow, standIns := [], harness := (true, "762f071884d5ced12558a666d0624c047b32b12b6407ccf63fd9aae0ad2441ae"), looks := true }, kinds := [], alts := [], laidByText := true, laidKinds := [.data, .data, .data, .data, .pinned], laidTests := true, laidLooks := .later }
def DrumSpoiltUptoCardSaid : Prop := Claim7.holds Tryz.pinned (.plain (OpenSpec.upto drumSpoiltSpec)) drumSpoiltUptoCard

/-- THE SECOND FORM's CARD OF 'nacrelaw03.DrumSorts'. -/
def drumSortsUptoCard : Claim7 := { stood := { row := drumSortsUptoRow, standIns := [], harness := (true, "762f071884d5ced12558a666d0624c047b32b12b6407ccf63fd9aae0ad2441ae"), looks := true }, kinds := [], alts := [], laidByText := true, laidKinds := [.data, .data, .data, .data, .pinned], laidTests := true, laidLooks := .later }
def DrumSortsUptoCardSaid : Prop := Claim7.holds Tryz.pinned (.plain (OpenSpec.upto drumSortsSpec)) drumSortsUptoCard

/-- THE SECOND FORM's CARD OF 'nacrelaw03.DrumWindows'. -/
def drumWindowsUptoCard : Claim7 := { stood := { row := drumWindowsUptoRow, standIns := [], harness := (true, "762f071884d5ced12558a666d0624c047b32b12b6407ccf63fd9aae0ad2441ae"), looks := true }, kinds := [], alts := [], laidByText := true, laidKinds := [.data, .data, .data, .data, .pinned], laidTests := true, laidLooks := .later }
def DrumWindowsUptoCardSaid : Prop := Claim7.holds Tryz.pinned (.plain (OpenSpec.upto drumWindowsSpec)) drumWindowsUptoCard

/-- THE SECOND FORM's CARD OF 'nacrelaw03.DrumNamed'. -/
def drumNamedUptoCard : Claim7 := { stood := { row := drumNamedUptoRow, standIns := [], harness := (true, "762f071884d5ced12558a666d0624c047b32b12b6407ccf63fd9aae0ad2441ae"), looks := true }, kinds := [], alts := [], laidByText := true, laidKinds := [.data, .data, .data, .data, .pinned], laidTests := true, laidLooks := .later }
def DrumNamedUptoCardSaid : Prop := Claim7.holds Tryz.pinned (.plain (OpenSpec.upto drumNamedSpec)) drumNamedUptoCard

/-- THE SECOND FORM's CARD OF 'nacrelaw03.DrumMore'. -/
def drumMoreUptoCard : Claim7 := { stood := { row := drumMoreUptoRow, standIns := [], harness := (true, "762f071884d5ced12558a666d0624c047b32b12b6407ccf63fd9aae0ad2441ae"), looks := true }, kinds := [], alts := [], laidByText := true, laidKinds := [.data, .data, .data, .data, .pinned], laidTests := true, laidLooks := .later }
def DrumMoreUptoCardSaid : Prop := Claim7.holds Tryz.pinned (.plain (OpenSpec.upto drumMoreSpec)) drumMoreUptoCard

/-- THE SECOND FORM's CARD OF 'nacrelaw03.DrumTurned'. -/
def drumTurnedUptoCard : Claim7 := { stood := { row := drumTurnedUptoRow, standIns := [], harness := (true, "762f071884d5ced12558a666d0624c047b32b12b6407ccf63fd9aae0ad2441ae"), looks := true }, kinds := [], alts := [], laidByText := true, laidKinds := [.data, .data, .data, .data, .pinned], laidTests := true, laidLooks := .later }
def DrumTurnedUptoCardSaid : Prop := Claim7.holds Tryz.pinned (.plain (OpenSpec.upto drumTurnedSpec)) drumTurnedUptoCard

/-- THE SECOND FORM's CARD OF 'nacrelaw03.DrumDual'. -/
def drumDualUptoCard : Claim7 := { stood := { row := drumDualUptoRow, standIns := [], harness := (true, "762f071884d5ced12558a666d0624c047b32b12b6407ccf63fd9aae0ad2441ae"), looks := true }, kinds := [], alts := [], laidByText := true, laidKinds := [.data, .data, .data, .data, .pinned], laidTests := true, laidLooks := .later }
def DrumDualUptoCardSaid : Prop := Claim7.holds Tryz.pinned (.plain (OpenSpec.upto drumDualSpec)) drumDualUptoCard

/-- THE SECOND FORM's CARD OF 'nacrelaw03.DrumTrue'. -/
def drumTrueUptoCard : Claim7 := { stood := { row := drumTrueUptoRow, standIns := [], harness := (true, "762f071884d5ced12558a666d0624c047b32b12b6407ccf63fd9aae0ad2441ae"), looks := true }, kinds := [], alts := [], laidByText := true, laidKinds := [.data, .data, .data, .data, .pinned], laidTests := true, laidLooks := .later }
def DrumTrueUptoCardSaid : Prop := Claim7.holds Tryz.pinned (.plain (OpenSpec.upto drumTrueSpec)) drumTrueUptoCard

/-- THE SECOND FORM's CARD OF 'nacrelaw03.DrumTells'. -/
def drumTellsUptoCard : Claim7 := { stood := { row := drumTellsUptoRow, standIns := [], harness := (true, "762f071884d5ced12558a666d0624c047b32b12b6407ccf63fd9aae0ad2441ae"), looks := true }, kinds := [], alts := [], laidByText := true, laidKinds := [.data, .data, .data, .data, .pinned], laidTests := true, laidLooks := .later }
def DrumTellsUptoCardSaid : Prop := Claim7.holds Tryz.pinned (.plain (OpenSpec.upto drumTellsSpec)) drumTellsUptoCard

/-- THE SECOND FORM's CARD OF 'nacrelaw03.DrumRuns'. -/
def drumRunsUptoCard : Claim7 := { stood := { row := drumRunsUptoRow, standIns := [], harness := (true, "762f071884d5ced12558a666d0624c047b32b12b6407ccf63fd9aae0ad2441ae"), looks := true }, kinds := [], alts := [], laidByText := true, laidKinds := [.data, .data, .data, .data, .pinned], laidTests := true, laidLooks := .later }
def DrumRunsUptoCardSaid : Prop := Claim7.holds Tryz.pinned (.plain (OpenSpec.upto drumRunsSpec)) drumRunsUptoCard

/-- THE SECOND FORM's CARD OF 'nacrelaw03.DrumBounds'. -/
def drumBoundsUptoCard : Claim7 := { stood := { row := drumBoundsUptoRow, standIns := [], harness := (true, "762f071884d5ced12558a666d0624c047b32b12b6407ccf63fd9aae0ad2441ae"), looks := true }, kinds := [], alts := [], laidByText := true, laidKinds := [.data, .data, .data, .data, .pinned], laidTests := true, laidLooks := .later }
def DrumBoundsUptoCardSaid : Prop := Claim7.holds Tryz.pinned (.plain (OpenSpec.upto drumBoundsSpec)) drumBoundsUptoCard

/-- THE SECOND FORM's CARD OF 'nacrelaw03.DrumSure'. -/
def drumSureUptoCard : Claim7 := { stood := { row := drumSureUptoRow, standIns := [], harness := (true, "762f071884d5ced12558a666d0624c047b32b12b6407ccf63fd9aae0ad2441ae"), looks := true }, kinds := [], alts := [], laidByText := true, laidKinds := [.data, .data, .data, .data, .pinned], laidTests := true, laidLooks := .later }
def DrumSureUptoCardSaid : Prop := Claim7.holds Tryz.pinned (.plain (OpenSpec.upto drumSureSpec)) drumSureUptoCard

/-- THE SECOND FORM's CARD OF 'nacrelaw03.DrumCoulds'. -/
def drumCouldsUptoCard : Claim7 := { stood := { row := drumCouldsUptoRow, standIns := [], harness := (true, "762f071884d5ced12558a666d0624c047b32b12b6407ccf63fd9aae0ad2441ae"), looks := true }, kinds := [], alts := [], laidByText := true, laidKinds := [.data, .data, .data, .data, .pinned], laidTests := true, laidLooks := .later }
def DrumCouldsUptoCardSaid : Prop := Claim7.holds Tryz.pinned (.plain (OpenSpec.upto drumCouldsSpec)) drumCouldsUptoCard

/-- THE SECOND FORM's CARD OF 'nacrelaw03.DrumEmptied'. -/
def drumEmptiedUptoCard : Claim7 := { stood := { row := drumEmptiedUptoRow, standIns := [], harness := (true, "762f071884d5ced12558a666d0624c047b32b12b6407ccf63fd9aae0ad2441ae"), looks := true }, kinds := [], alts := [], laidByText := true, laidKinds := [.data, .data, .data, .data, .pinned], laidTests := true, laidLooks := .later }
def DrumEmptiedUptoCardSaid : Prop := Claim7.holds Tryz.pinned (.plain (OpenSpec.upto drumEmptiedSpec)) drumEmptiedUptoCard

/-- THE SECOND FORM's CARD OF 'nacrelaw03.DrumPut'. -/
def drumPutUptoCard : Claim7 := { stood := { row := drumPutUptoRow, standIns := [], harness := (true, "762f071884d5ced12558a666d0624c047b32b12b6407ccf63fd9aae0ad2441ae"), looks := true }, kinds := [], alts := [], laidByText := true, laidKinds := [.data, .data, .data, .data, .pinned], laidTests := true, laidLooks := .later }
def DrumPutUptoCardSaid : Prop := Claim7.holds Tryz.pinned (.plain (OpenSpec.upto drumPutSpec)) drumPutUptoCard
end Rows
end Go.Proofs.YtmplfjolcdlipaaGreatDoor
