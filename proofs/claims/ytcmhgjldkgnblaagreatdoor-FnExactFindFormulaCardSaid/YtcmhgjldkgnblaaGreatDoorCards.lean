/-
  DERIVED. GIVEN WITH THE SEED: THE CARDS: each row of YtcmhgjldkgnblaaGreatDoorRows.lean that lists a variable, with what it lists TIED to the program's text (the seventh form; the later family's looks); each row that meets fmt, with fmt's text TOLD by the authors' own Lean function (tested against real Go, not proved from fmt's source: count such statements apart). THE CARD IS WHAT COUNTS. Prove the row's statement (the work); the ties are given (YtcmhgjldkgnblaaGreatDoorTie.lean); close each card by the builder's one call (the guide's Derived/Test/ToyasCard.lean, 'card_holds'). Laid BY PROGRAM, IN A SANDBOX (cutbox-door.mjs). By AI agents, Wed Nov 11 2026. No macro, syntax, notation, axiom, sorry.
-/
import Derived.Test.YtcmhgjldkgnblaaGreatDoorRows
import GoSem.ClaimSeven
namespace Go.Proofs.YtcmhgjldkgnblaaGreatDoor
namespace Rows

/-- THE TIED CARD OF 'laws.FnExactBorrowedPassage'. -/
def fnExactBorrowedPassageCard : Claim7 := { stood := { row := fnExactBorrowedPassageRow, standIns := [], harness := (true, "de7cbf8cf1a86d1f1050bd8864a7bf994e28217681869d2ffcf71259c6529b10"), looks := true }, kinds := [], alts := [], laidByText := true, laidKinds := [.data, .pinned], laidTests := true, laidLooks := .later }
def FnExactBorrowedPassageCardSaid : Prop := Claim7.holds Tryz.pinned (.plain (OpenSpec.ofChange fnExactBorrowedPassageSpec)) fnExactBorrowedPassageCard

/-- THE TIED CARD OF 'laws.FnExactFindFormula'. -/
def fnExactFindFormulaCard : Claim7 := { stood := { row := fnExactFindFormulaRow, standIns := [], harness := (true, "de7cbf8cf1a86d1f1050bd8864a7bf994e28217681869d2ffcf71259c6529b10"), looks := true }, kinds := [], alts := [], laidByText := true, laidKinds := [.data, .pinned], laidTests := true, laidLooks := .later }
def FnExactFindFormulaCardSaid : Prop := Claim7.holds Tryz.pinned (.plain (OpenSpec.ofChange fnExactFindFormulaSpec)) fnExactFindFormulaCard

/-- THE SECOND FORM's CARD OF 'laws.FnExactBorrowedPassage'. -/
def fnExactBorrowedPassageUptoCard : Claim7 := { stood := { row := fnExactBorrowedPassageUptoRow, standIns := [], harness := (true, "de7cbf8cf1a86d1f1050bd8864a7bf994e28217681869d2ffcf71259c6529b10"), looks := true }, kinds := [], alts := [], laidByText := true, laidKinds := [.data, .pinned], laidTests := true, laidLooks := .later }
def FnExactBorrowedPassageUptoCardSaid : Prop := Claim7.holds Tryz.pinned (.plain (OpenSpec.upto fnExactBorrowedPassageSpec)) fnExactBorrowedPassageUptoCard

/-- THE SECOND FORM's CARD OF 'laws.FnExactFindFormula'. -/
def fnExactFindFormulaUptoCard : Claim7 := { stood := { row := fnExactFindFormulaUptoRow, standIns := [], harness := (true, "de7cbf8cf1a86d1f1050bd8864a7bf994e28217681869d2ffcf71259c6529b10"), looks := true }, kinds := [], alts := [], laidByText := true, laidKinds := [.data, .pinned], laidTests := true, laidLooks := .later }
def FnExactFindFormulaUptoCardSaid : Prop := Claim7.holds Tryz.pinned (.plain (OpenSpec.upto fnExactFindFormulaSpec)) fnExactFindFormulaUptoCard
end Rows
end Go.Proofs.YtcmhgjldkgnblaaGreatDoor
