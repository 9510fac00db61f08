/-
  DERIVED. GIVEN WITH THE SEED: THE CARDS: each row of YtkjjacbfogpegaaGreatDoorRows.lean that lists a variable, with what it lists TIED to the program's text (the seventh form; the later family's looks); each row that meets fmt, with fmt's text TOLD by the authors' own Lean function (tested against real Go, not proved from fmt's source: count such statements apart). THE CARD IS WHAT COUNTS. Prove the row's statement (the work); the ties are given (YtkjjacbfogpegaaGreatDoorTie.lean); close each card by the builder's one call (the guide's Derived/Test/ToyasCard.lean, 'card_holds'). Laid BY PROGRAM, IN A SANDBOX (cutbox-door.mjs). By AI agents, Wed Nov 11 2026. No macro, syntax, notation, axiom, sorry.
-/
import Derived.Test.YtkjjacbfogpegaaGreatDoorRows
import GoSem.ClaimSeven
namespace Go.Proofs.YtkjjacbfogpegaaGreatDoor
namespace Rows

/-- THE TIED CARD OF 'laws.FnExactFormulasIn'. -/
def fnExactFormulasInCard : Claim7 := { stood := { row := fnExactFormulasInRow, standIns := [], harness := (true, "6a6e4417bd047ac54baf11d24874e3a95303e73804c08f0242966ebb002402fe"), looks := true }, kinds := [], alts := [], laidByText := true, laidKinds := [.data, .pinned], laidTests := true, laidLooks := .later }
def FnExactFormulasInCardSaid : Prop := Claim7.holds Tryz.pinned (.plain (OpenSpec.ofChange fnExactFormulasInSpec)) fnExactFormulasInCard

/-- THE TIED CARD OF 'laws.FnExactLearnFormula'. -/
def fnExactLearnFormulaCard : Claim7 := { stood := { row := fnExactLearnFormulaRow, standIns := [], harness := (true, "6a6e4417bd047ac54baf11d24874e3a95303e73804c08f0242966ebb002402fe"), looks := true }, kinds := [], alts := [], laidByText := true, laidKinds := [.data, .pinned], laidTests := true, laidLooks := .later }
def FnExactLearnFormulaCardSaid : Prop := Claim7.holds Tryz.pinned (.plain (OpenSpec.ofChange fnExactLearnFormulaSpec)) fnExactLearnFormulaCard

/-- THE TIED CARD OF 'laws.FnExactStrangeFormulas'. -/
def fnExactStrangeFormulasCard : Claim7 := { stood := { row := fnExactStrangeFormulasRow, standIns := [], harness := (true, "6a6e4417bd047ac54baf11d24874e3a95303e73804c08f0242966ebb002402fe"), looks := true }, kinds := [], alts := [], laidByText := true, laidKinds := [.data, .pinned], laidTests := true, laidLooks := .later }
def FnExactStrangeFormulasCardSaid : Prop := Claim7.holds Tryz.pinned (.plain (OpenSpec.ofChange fnExactStrangeFormulasSpec)) fnExactStrangeFormulasCard

/-- THE TIED CARD OF 'laws.FnExactPhraseDays'. -/
def fnExactPhraseDaysCard : Claim7 := { stood := { row := fnExactPhraseDaysRow, standIns := [], harness := (true, "6a6e4417bd047ac54baf11d24874e3a95303e73804c08f0242966ebb002402fe"), looks := true }, kinds := [], alts := [], laidByText := true, laidKinds := [.data, .pinned], laidTests := true, laidLooks := .later }
def FnExactPhraseDaysCardSaid : Prop := Claim7.holds Tryz.pinned (.plain (OpenSpec.ofChange fnExactPhraseDaysSpec)) fnExactPhraseDaysCard

/-- THE TIED CARD OF 'laws.FnBorrowed'. -/
def fnBorrowedCard : Claim7 := { stood := { row := fnBorrowedRow, standIns := [], harness := (true, "6a6e4417bd047ac54baf11d24874e3a95303e73804c08f0242966ebb002402fe"), looks := true }, kinds := [], alts := [], laidByText := true, laidKinds := [.data, .pinned], laidTests := true, laidLooks := .later }
def FnBorrowedCardSaid : Prop := Claim7.holds Tryz.pinned (.plain (OpenSpec.ofChange fnBorrowedSpec)) fnBorrowedCard

/-- THE TIED CARD OF 'laws.FnFormulas'. -/
def fnFormulasCard : Claim7 := { stood := { row := fnFormulasRow, standIns := [], harness := (true, "6a6e4417bd047ac54baf11d24874e3a95303e73804c08f0242966ebb002402fe"), looks := true }, kinds := [], alts := [], laidByText := true, laidKinds := [.data, .pinned], laidTests := true, laidLooks := .later }
def FnFormulasCardSaid : Prop := Claim7.holds Tryz.pinned (.plain (OpenSpec.ofChange fnFormulasSpec)) fnFormulasCard

/-- THE SECOND FORM's CARD OF 'laws.FnExactFormulasIn'. -/
def fnExactFormulasInUptoCard : Claim7 := { stood := { row := fnExactFormulasInUptoRow, standIns := [], harness := (true, "6a6e4417bd047ac54baf11d24874e3a95303e73804c08f0242966ebb002402fe"), looks := true }, kinds := [], alts := [], laidByText := true, laidKinds := [.data, .pinned], laidTests := true, laidLooks := .later }
def FnExactFormulasInUptoCardSaid : Prop := Claim7.holds Tryz.pinned (.plain (OpenSpec.upto fnExactFormulasInSpec)) fnExactFormulasInUptoCard

/-- THE SECOND FORM's CARD OF 'laws.FnExactLearnFormula'. -/
def fnExactLearnFormulaUptoCard : Claim7 := { stood := { row := fnExactLearnFormulaUptoRow, standIns := [], harness := (true, "6a6e4417bd047ac54baf11d24874e3a95303e73804c08f0242966ebb002402fe"), looks := true }, kinds := [], alts := [], laidByText := true, laidKinds := [.data, .pinned], laidTests := true, laidLooks := .later }
def FnExactLearnFormulaUptoCardSaid : Prop := Claim7.holds Tryz.pinned (.plain (OpenSpec.upto fnExactLearnFormulaSpec)) fnExactLearnFormulaUptoCard

/-- THE SECOND FORM's CARD OF 'laws.FnExactStrangeFormulas'. -/
def fnExactStrangeFormulasUptoCard : Claim7 := { stood := { row := fnExactStrangeFormulasUptoRow, standIns := [], harness := (true, "6a6e4417bd047ac54baf11d24874e3a95303e73804c08f0242966ebb002402fe"), looks := true }, kinds := [], alts := [], laidByText := true, laidKinds := [.data, .pinned], laidTests := true, laidLooks := .later }
def FnExactStrangeFormulasUptoCardSaid : Prop := Claim7.holds Tryz.pinned (.plain (OpenSpec.upto fnExactStrangeFormulasSpec)) fnExactStrangeFormulasUptoCard

/-- THE SECOND FORM's CARD OF 'laws.FnExactPhraseDays'. -/
def fnExactPhraseDaysUptoCard : Claim7 := { stood := { row := fnExactPhraseDaysUptoRow, standIns := [], harness := (true, "6a6e4417bd047ac54baf11d24874e3a95303e73804c08f0242966ebb002402fe"), looks := true }, kinds := [], alts := [], laidByText := true, laidKinds := [.data, .pinned], laidTests := true, laidLooks := .later }
def FnExactPhraseDaysUptoCardSaid : Prop := Claim7.holds Tryz.pinned (.plain (OpenSpec.upto fnExactPhraseDaysSpec)) fnExactPhraseDaysUptoCard

/-- THE SECOND FORM's CARD OF 'laws.FnBorrowed'. -/
def fnBorrowedUptoCard : Claim7 := { stood := { row := fnBorrowedUptoRow, standIns := [], harness := (true, "6a6e4417bd047ac54baf11d24874e3a95303e73804c08f0242966ebb002402fe"), looks := true }, kinds := [], alts := [], laidByText := true, laidKinds := [.data, .pinned], laidTests := true, laidLooks := .later }
def FnBorrowedUptoCardSaid : Prop := Claim7.holds Tryz.pinned (.plain (OpenSpec.upto fnBorrowedSpec)) fnBorrowedUptoCard

/-- THE SECOND FORM's CARD OF 'laws.FnFormulas'. -/
def fnFormulasUptoCard : Claim7 := { stood := { row := fnFormulasUptoRow, standIns := [], harness := (true, "6a6e4417bd047ac54baf11d24874e3a95303e73804c08f0242966ebb002402fe"), looks := true }, kinds := [], alts := [], laidByText := true, laidKinds := [.data, .pinned], laidTests := true, laidLooks := .later }
def FnFormulasUptoCardSaid : Prop := Claim7.holds Tryz.pinned (.plain (OpenSpec.upto fnFormulasSpec)) fnFormulasUptoCard
end Rows
end Go.Proofs.YtkjjacbfogpegaaGreatDoor
