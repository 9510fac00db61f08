/-
  DERIVED. GIVEN WITH THE SEED: THE CARDS: each row of YtihcmhmanfobcaaGreatDoorRows.lean that lists a variable, with what it lists TIED to the program's text (the seventh form; the later family's looks); each row that meets fmt, with fmt's text TOLD by the authors' own Lean function (tested against real Go, not proved from fmt's source: count such statements apart). THE CARD IS WHAT COUNTS. Prove the row's statement (the work); the ties are given (YtihcmhmanfobcaaGreatDoorTie.lean); close each card by the builder's one call (the guide's Derived/Test/ToyasCard.lean, 'card_holds'). Laid BY PROGRAM, IN A SANDBOX (cutbox-door.mjs). By AI agents, Wed Nov 11 2026. No macro, syntax, notation, axiom, sorry.
-/
import Derived.Test.YtihcmhmanfobcaaGreatDoorRows
import GoSem.ClaimSeven
namespace Go.Proofs.YtihcmhmanfobcaaGreatDoor
namespace Rows

/-- THE TIED CARD OF 'laws.FnExactFewestDoubts'. -/
def fnExactFewestDoubtsCard : Claim7 := { stood := { row := fnExactFewestDoubtsRow, standIns := [], harness := (true, "3e764bbad09c365276a13888b0bb35b7957c7aa9d41e87307497687081c383a2"), looks := false }, kinds := [], alts := [], laidByText := true, laidKinds := [.data, .pinned], laidTests := true, laidLooks := .later }
def FnExactFewestDoubtsCardSaid : Prop := Claim7.holds Tryz.pinned (.plain (OpenSpec.ofChange fnExactFewestDoubtsSpec)) fnExactFewestDoubtsCard

/-- THE SECOND FORM's CARD OF 'laws.FnExactFewestDoubts'. -/
def fnExactFewestDoubtsUptoCard : Claim7 := { stood := { row := fnExactFewestDoubtsUptoRow, standIns := [], harness := (true, "3e764bbad09c365276a13888b0bb35b7957c7aa9d41e87307497687081c383a2"), looks := false }, kinds := [], alts := [], laidByText := true, laidKinds := [.data, .pinned], laidTests := true, laidLooks := .later }
def FnExactFewestDoubtsUptoCardSaid : Prop := Claim7.holds Tryz.pinned (.plain (OpenSpec.upto fnExactFewestDoubtsSpec)) fnExactFewestDoubtsUptoCard
end Rows
end Go.Proofs.YtihcmhmanfobcaaGreatDoor
