/-
  DERIVED. GIVEN WITH THE SEED: THE CARDS: each row of YtaoplcclemckjaaGreatDoorRows.lean that lists a variable, with what it lists TIED to the program's text (the seventh form; the later family's looks); each row that meets fmt, with fmt's text TOLD by the authors' own Lean function (tested against real Go, not proved from fmt's source: count such statements apart). THE CARD IS WHAT COUNTS. Prove the row's statement (the work); the ties are given (YtaoplcclemckjaaGreatDoorTie.lean); close each card by the builder's one call (the guide's Derived/Test/ToyasCard.lean, 'card_holds'). Laid BY PROGRAM, IN A SANDBOX (cutbox-door.mjs). By AI agents, Wed Nov 11 2026. No macro, syntax, notation, axiom, sorry.
-/
import Derived.Test.YtaoplcclemckjaaGreatDoorRows
import GoSem.ClaimSeven
namespace Go.Proofs.YtaoplcclemckjaaGreatDoor
namespace Rows

/-- THE TIED CARD OF 'laws.FnExactGoodDays'. -/
def fnExactGoodDaysCard : Claim7 := { stood := { row := fnExactGoodDaysRow, standIns := [], harness := (true, "a5f31edcff81dacf18758d7616c80494ef3a33cd38a7e6475e904f1fac4d57d3"), looks := true }, kinds := [], alts := [], laidByText := true, laidKinds := [.data, .pinned], laidTests := true, laidLooks := .later }
def FnExactGoodDaysCardSaid : Prop := Claim7.holds Tryz.pinned (.plain (OpenSpec.ofChange fnExactGoodDaysSpec)) fnExactGoodDaysCard

/-- THE SECOND FORM's CARD OF 'laws.FnExactGoodDays'. -/
def fnExactGoodDaysUptoCard : Claim7 := { stood := { row := fnExactGoodDaysUptoRow, standIns := [], harness := (true, "a5f31edcff81dacf18758d7616c80494ef3a33cd38a7e6475e904f1fac4d57d3"), looks := true }, kinds := [], alts := [], laidByText := true, laidKinds := [.data, .pinned], laidTests := true, laidLooks := .later }
def FnExactGoodDaysUptoCardSaid : Prop := Claim7.holds Tryz.pinned (.plain (OpenSpec.upto fnExactGoodDaysSpec)) fnExactGoodDaysUptoCard
end Rows
end Go.Proofs.YtaoplcclemckjaaGreatDoor
