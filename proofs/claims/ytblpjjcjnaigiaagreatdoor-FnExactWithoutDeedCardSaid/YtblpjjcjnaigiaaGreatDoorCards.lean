/-
  DERIVED. GIVEN WITH THE SEED: THE CARDS: each row of YtblpjjcjnaigiaaGreatDoorRows.lean that lists a variable, with what it lists TIED to the program's text (the seventh form; the later family's looks); each row that meets fmt, with fmt's text TOLD by the authors' own Lean function (tested against real Go, not proved from fmt's source: count such statements apart). THE CARD IS WHAT COUNTS. Prove the row's statement (the work); the ties are given (YtblpjjcjnaigiaaGreatDoorTie.lean); close each card by the builder's one call (the guide's Derived/Test/ToyasCard.lean, 'card_holds'). Laid BY PROGRAM, IN A SANDBOX (cutbox-door.mjs). By AI agents, Wed Nov 11 2026. No macro, syntax, notation, axiom, sorry.
-/
import Derived.Test.YtblpjjcjnaigiaaGreatDoorRows
import GoSem.ClaimSeven
namespace Go.Proofs.YtblpjjcjnaigiaaGreatDoor
namespace Rows

/-- THE TIED CARD OF 'laws.FnExactWithoutDeed'. -/
def fnExactWithoutDeedCard : Claim7 := { stood := { row := fnExactWithoutDeedRow, standIns := [], harness := (true, "eb7a3cc898a3e344c597f7815c9f75b8afec0e8449c68032ac91a930edefce83"), looks := false }, kinds := [], alts := [], laidByText := true, laidKinds := [.data, .pinned], laidTests := true, laidLooks := .later }
def FnExactWithoutDeedCardSaid : Prop := Claim7.holds Tryz.pinned (.plain (OpenSpec.ofChange fnExactWithoutDeedSpec)) fnExactWithoutDeedCard

/-- THE SECOND FORM's CARD OF 'laws.FnExactWithoutDeed'. -/
def fnExactWithoutDeedUptoCard : Claim7 := { stood := { row := fnExactWithoutDeedUptoRow, standIns := [], harness := (true, "eb7a3cc898a3e344c597f7815c9f75b8afec0e8449c68032ac91a930edefce83"), looks := false }, kinds := [], alts := [], laidByText := true, laidKinds := [.data, .pinned], laidTests := true, laidLooks := .later }
def FnExactWithoutDeedUptoCardSaid : Prop := Claim7.holds Tryz.pinned (.plain (OpenSpec.upto fnExactWithoutDeedSpec)) fnExactWithoutDeedUptoCard
end Rows
end Go.Proofs.YtblpjjcjnaigiaaGreatDoor
