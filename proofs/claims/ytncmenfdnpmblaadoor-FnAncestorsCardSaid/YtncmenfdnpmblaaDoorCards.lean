/-
  DERIVED. GIVEN WITH THE SEED: THE CARDS: each row of YtncmenfdnpmblaaDoorRows.lean that lists a variable, with what it lists TIED to the program's text (the seventh form; the later family's looks); each row that meets fmt, with fmt's text TOLD by the authors' own Lean function (tested against real Go, not proved from fmt's source: count such statements apart). THE CARD IS WHAT COUNTS. Prove the row's statement (the work); the ties are given (YtncmenfdnpmblaaDoorTie.lean); close each card by the builder's one call (the guide's Derived/Test/ToyasCard.lean, 'card_holds'). Laid BY PROGRAM, IN A SANDBOX (cutbox-door.mjs). By AI agents, Wed Nov 11 2026. No macro, syntax, notation, axiom, sorry.
-/
import Derived.Test.YtncmenfdnpmblaaDoorRows
import GoSem.ClaimSeven
namespace Go.Proofs.YtncmenfdnpmblaaDoor
namespace Rows

/-- THE TIED CARD OF 'laws.FnAncestors'. -/
def fnAncestorsCard : Claim7 := { stood := { row := fnAncestorsRow, standIns := [], harness := (true, "7d76c069f5bca8726b23742867b9d72b3c1f9003a23a23bf6c52ce24ebee7492"), looks := false }, kinds := [], alts := [], laidByText := true, laidKinds := [.data, .pinned], laidTests := true, laidLooks := .later }
def FnAncestorsCardSaid : Prop := Claim7.holds Tryd.pinned (.plain (OpenSpec.ofChange fnAncestorsSpec)) fnAncestorsCard

/-- THE TIED CARD OF 'laws.FnStemmas'. -/
def fnStemmasCard : Claim7 := { stood := { row := fnStemmasRow, standIns := [], harness := (true, "7d76c069f5bca8726b23742867b9d72b3c1f9003a23a23bf6c52ce24ebee7492"), looks := false }, kinds := [], alts := [], laidByText := true, laidKinds := [.data, .pinned], laidTests := true, laidLooks := .later }
def FnStemmasCardSaid : Prop := Claim7.holds Tryd.pinned (.plain (OpenSpec.ofChange fnStemmasSpec)) fnStemmasCard

/-- THE TIED CARD OF 'laws.FnCopyTexts'. -/
def fnCopyTextsCard : Claim7 := { stood := { row := fnCopyTextsRow, standIns := [], harness := (true, "7d76c069f5bca8726b23742867b9d72b3c1f9003a23a23bf6c52ce24ebee7492"), looks := false }, kinds := [], alts := [], laidByText := true, laidKinds := [.data, .data, .data, .data, .pinned], laidTests := true, laidLooks := .later }
def FnCopyTextsCardSaid : Prop := Claim7.holds Tryd.pinned (.plain (OpenSpec.ofChange fnCopyTextsSpec)) fnCopyTextsCard

/-- THE SECOND FORM's CARD OF 'laws.FnAncestors'. -/
def fnAncestorsUptoCard : Claim7 := { stood := { row := fnAncestorsUptoRow, standIns := [], harness := (true, "7d76c069f5bca8726b23742867b9d72b3c1f9003a23a23bf6c52ce24ebee7492"), looks := false }, kinds := [], alts := [], laidByText := true, laidKinds := [.data, .pinned], laidTests := true, laidLooks := .later }
def FnAncestorsUptoCardSaid : Prop := Claim7.holds Tryd.pinned (.plain (OpenSpec.upto fnAncestorsSpec)) fnAncestorsUptoCard

/-- THE SECOND FORM's CARD OF 'laws.FnStemmas'. -/
def fnStemmasUptoCard : Claim7 := { stood := { row := fnStemmasUptoRow, standIns := [], harness := (true, "7d76c069f5bca8726b23742867b9d72b3c1f9003a23a23bf6c52ce24ebee7492"), looks := false }, kinds := [], alts := [], laidByText := true, laidKinds := [.data, .pinned], laidTests := true, laidLooks := .later }
def FnStemmasUptoCardSaid : Prop := Claim7.holds Tryd.pinned (.plain (OpenSpec.upto fnStemmasSpec)) fnStemmasUptoCard

/-- THE SECOND FORM's CARD OF 'laws.FnCopyTexts'. -/
def fnCopyTextsUptoCard : Claim7 := { stood := { row := fnCopyTextsUptoRow, standIns := [], harness := (true, "7d76c069f5bca8726b23742867b9d72b3c1f9003a23a23bf6c52ce24ebee7492"), looks := false }, kinds := [], alts := [], laidByText := true, laidKinds := [.data, .data, .data, .data, .pinned], laidTests := true, laidLooks := .later }
def FnCopyTextsUptoCardSaid : Prop := Claim7.holds Tryd.pinned (.plain (OpenSpec.upto fnCopyTextsSpec)) fnCopyTextsUptoCard
end Rows
end Go.Proofs.YtncmenfdnpmblaaDoor
