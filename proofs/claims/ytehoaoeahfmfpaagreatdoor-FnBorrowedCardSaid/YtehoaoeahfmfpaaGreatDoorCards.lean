/-
  DERIVED. GIVEN WITH THE SEED: THE CARDS: each row of YtehoaoeahfmfpaaGreatDoorRows.lean that lists a variable, with what it lists TIED to the program's text (the seventh form; the later family's looks); each row that meets fmt, with fmt's text TOLD by the authors' own Lean function (tested against real Go, not proved from fmt's source: count such statements apart). THE CARD IS WHAT COUNTS. Prove the row's statement (the work); the ties are given (YtehoaoeahfmfpaaGreatDoorTie.lean); close each card by the builder's one call (the guide's Derived/Test/ToyasCard.lean, 'card_holds'). Laid BY PROGRAM, IN A SANDBOX (cutbox-door.mjs). By AI agents, Wed Nov 11 2026. No macro, syntax, notation, axiom, sorry.
-/
import Derived.Test.YtehoaoeahfmfpaaGreatDoorRows
import GoSem.ClaimSeven
namespace Go.Proofs.YtehoaoeahfmfpaaGreatDoor
namespace Rows

/-- THE TIED CARD OF 'laws.FnExactLearnFormula'. -/
def fnExactLearnFormulaCard : Claim7 := { stood := { row := fnExactLearnFormulaRow, standIns := [], harness := (true, "9ee33ad89e608ba690b906b23be0c838566cddcfd02b087832a53230256d0671"), looks := true }, kinds := [], alts := [], laidByText := true, laidKinds := [.data, .pinned], laidTests := true, laidLooks := .later }
def FnExactLearnFormulaCardSaid : Prop := Claim7.holds Tryz.pinned (.plain (OpenSpec.ofChange fnExactLearnFormulaSpec)) fnExactLearnFormulaCard

/-- THE TIED CARD OF 'laws.FnBorrowed'. -/
def fnBorrowedCard : Claim7 := { stood := { row := fnBorrowedRow, standIns := [], harness := (true, "9ee33ad89e608ba690b906b23be0c838566cddcfd02b087832a53230256d0671"), looks := true }, kinds := [], alts := [], laidByText := true, laidKinds := [.data, .pinned], laidTests := true, laidLooks := .later }
def FnBorrowedCardSaid : Prop := Claim7.holds Tryz.pinned (.plain (OpenSpec.ofChange fnBorrowedSpec)) fnBorrowedCard

/-- THE TIED CARD OF 'laws.FnFormulas'. -/
def fnFormulasCard : Claim7 := { stood := { row := fnFormulasRow, standIns := [], harness := (true, "9ee33ad89e608ba690b906b23be0c838566cddcfd02b087832a53230256d0671"), looks := true }, kinds := [], alts := [], laidByText := true, laidKinds := [.data, .pinned], laidTests := true, laidLooks := .later }
def FnFormulasCardSaid : Prop := Claim7.holds Tryz.pinned (.plain (OpenSpec.ofChange fnFormulasSpec)) fnFormulasCard

/-- THE SECOND FORM's CARD OF 'laws.FnExactLearnFormula'. -/
def fnExactLearnFormulaUptoCard : Claim7 := { stood := { row := fnExactLearnFormulaUptoRow, standIns := [], harness := (true, "9ee33ad89e608ba690b906b23be0c838566cddcfd02b087832a53230256d0671"), looks := true }, kinds := [], alts := [], laidByText := true, laidKinds := [.data, .pinned], laidTests := true, laidLooks := .later }
def FnExactLearnFormulaUptoCardSaid : Prop := Claim7.holds Tryz.pinned (.plain (OpenSpec.upto fnExactLearnFormulaSpec)) fnExactLearnFormulaUptoCard

/-- THE SECOND FORM's CARD OF 'laws.FnBorrowed'. -/
def fnBorrowedUptoCard : Claim7 := { stood := { row := fnBorrowedUptoRow, standIns := [], harness := (true, "9ee33ad89e608ba690b906b23be0c838566cddcfd02b087832a53230256d0671"), looks := true }, kinds := [], alts := [], laidByText := true, laidKinds := [.data, .pinned], laidTests := true, laidLooks := .later }
def FnBorrowedUptoCardSaid : Prop := Claim7.holds Tryz.pinned (.plain (OpenSpec.upto fnBorrowedSpec)) fnBorrowedUptoCard

/-- THE SECOND FORM's CARD OF 'laws.FnFormulas'. -/
def fnFormulasUptoCard : Claim7 := { stood := { row := fnFormulasUptoRow, standIns := [], harness := (true, "9ee33ad89e608ba690b906b23be0c838566cddcfd02b087832a53230256d0671"), looks := true }, kinds := [], alts := [], laidByText := true, laidKinds := [.data, .pinned], laidTests := true, laidLooks := .later }
def FnFormulasUptoCardSaid : Prop := Claim7.holds Tryz.pinned (.plain (OpenSpec.upto fnFormulasSpec)) fnFormulasUptoCard
end Rows
end Go.Proofs.YtehoaoeahfmfpaaGreatDoor
