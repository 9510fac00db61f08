/-
  DERIVED. GIVEN WITH THE SEED: THE CARDS: each row of YtehoaoeahfmfpaaDoorRows.lean that lists a variable, with what it lists TIED to the program's text (the seventh form; the later family's looks); each row that meets fmt, with fmt's text TOLD by the authors' own Lean function (tested against real Go, not proved from fmt's source: count such statements apart). THE CARD IS WHAT COUNTS. Prove the row's statement (the work); the ties are given (YtehoaoeahfmfpaaDoorTie.lean); close each card by the builder's one call (the guide's Derived/Test/ToyasCard.lean, 'card_holds'). Laid BY PROGRAM, IN A SANDBOX (cutbox-door.mjs). By AI agents, Wed Nov 11 2026. No macro, syntax, notation, axiom, sorry.
-/
import Derived.Test.YtehoaoeahfmfpaaDoorRows
import GoSem.ClaimSeven
namespace Go.Proofs.YtehoaoeahfmfpaaDoor
namespace Rows

/-- THE TIED CARD OF 'laws.FnExactIsCommand'. -/
def fnExactIsCommandCard : Claim7 := { stood := { row := fnExactIsCommandRow, standIns := [], harness := (true, "818058af600c3b1ed2359664077a090bd280ec2f7cc7a6174029f4a82c085252"), looks := true }, kinds := [], alts := [], laidByText := true, laidKinds := [.data, .data, .data, .data, .sentinel, .sentinel, .pinned], laidTests := true, laidLooks := .later }
def FnExactIsCommandCardSaid : Prop := Claim7.holds Tryd.pinned (.plain (OpenSpec.ofChange fnExactIsCommandSpec)) fnExactIsCommandCard

/-- THE SECOND FORM's CARD OF 'laws.FnExactIsCommand'. -/
def fnExactIsCommandUptoCard : Claim7 := { stood := { row := fnExactIsCommandUptoRow, standIns := [], harness := (true, "818058af600c3b1ed2359664077a090bd280ec2f7cc7a6174029f4a82c085252"), looks := true }, kinds := [], alts := [], laidByText := true, laidKinds := [.data, .data, .data, .data, .sentinel, .sentinel, .pinned], laidTests := true, laidLooks := .later }
def FnExactIsCommandUptoCardSaid : Prop := Claim7.holds Tryd.pinned (.plain (OpenSpec.upto fnExactIsCommandSpec)) fnExactIsCommandUptoCard
end Rows
end Go.Proofs.YtehoaoeahfmfpaaDoor
