/-
  DERIVED. GIVEN WITH THE SEED: THE CARDS: each row of YtblndbblcoghpaaGreatDoorRows.lean that lists a variable, with what it lists TIED to the program's text (the seventh form; the later family's looks); each row that meets fmt, with fmt's text TOLD by the authors' own Lean function (tested against real Go, not proved from fmt's source: count such statements apart). THE CARD IS WHAT COUNTS. Prove the row's statement (the work); the ties are given (YtblndbblcoghpaaGreatDoorTie.lean); close each card by the builder's one call (the guide's Derived/Test/ToyasCard.lean, 'card_holds'). Laid BY PROGRAM, IN A SANDBOX (cutbox-door.mjs). By AI agents, Wed Nov 11 2026. No macro, syntax, notation, axiom, sorry.
-/
import Derived.Test.YtblndbblcoghpaaGreatDoorRows
import GoSem.ClaimSeven
namespace Go.Proofs.YtblndbblcoghpaaGreatDoor
namespace Rows

/-- THE TIED CARD OF 'laws.FnExactIsDesk'. -/
def fnExactIsDeskCard : Claim7 := { stood := { row := fnExactIsDeskRow, standIns := [], harness := (true, "83ba07067069066d2fcc1922d6945feb379850b3fef16d190a11f544f725d8f2"), looks := false }, kinds := [], alts := [], laidByText := true, laidKinds := [.data, .pinned], laidTests := true, laidLooks := .later }
def FnExactIsDeskCardSaid : Prop := Claim7.holds Tryz.pinned (.plain (OpenSpec.ofChange fnExactIsDeskSpec)) fnExactIsDeskCard

/-- THE TIED CARD OF 'laws.FnExactIsEvidence'. -/
def fnExactIsEvidenceCard : Claim7 := { stood := { row := fnExactIsEvidenceRow, standIns := [], harness := (true, "83ba07067069066d2fcc1922d6945feb379850b3fef16d190a11f544f725d8f2"), looks := false }, kinds := [], alts := [], laidByText := true, laidKinds := [.data, .pinned], laidTests := true, laidLooks := .later }
def FnExactIsEvidenceCardSaid : Prop := Claim7.holds Tryz.pinned (.plain (OpenSpec.ofChange fnExactIsEvidenceSpec)) fnExactIsEvidenceCard

/-- THE SECOND FORM's CARD OF 'laws.FnExactIsDesk'. -/
def fnExactIsDeskUptoCard : Claim7 := { stood := { row := fnExactIsDeskUptoRow, standIns := [], harness := (true, "83ba07067069066d2fcc1922d6945feb379850b3fef16d190a11f544f725d8f2"), looks := false }, kinds := [], alts := [], laidByText := true, laidKinds := [.data, .pinned], laidTests := true, laidLooks := .later }
def FnExactIsDeskUptoCardSaid : Prop := Claim7.holds Tryz.pinned (.plain (OpenSpec.upto fnExactIsDeskSpec)) fnExactIsDeskUptoCard

/-- THE SECOND FORM's CARD OF 'laws.FnExactIsEvidence'. -/
def fnExactIsEvidenceUptoCard : Claim7 := { stood := { row := fnExactIsEvidenceUptoRow, standIns := [], harness := (true, "83ba07067069066d2fcc1922d6945feb379850b3fef16d190a11f544f725d8f2"), looks := false }, kinds := [], alts := [], laidByText := true, laidKinds := [.data, .pinned], laidTests := true, laidLooks := .later }
def FnExactIsEvidenceUptoCardSaid : Prop := Claim7.holds Tryz.pinned (.plain (OpenSpec.upto fnExactIsEvidenceSpec)) fnExactIsEvidenceUptoCard
end Rows
end Go.Proofs.YtblndbblcoghpaaGreatDoor
