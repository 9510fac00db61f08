/-
  DERIVED. GIVEN WITH THE SEED: THE CARDS: each row of YtcmhgjldkgnblaaDoorRows.lean that lists a variable, with what it lists TIED to the program's text (the seventh form; the later family's looks); each row that meets fmt, with fmt's text TOLD by the authors' own Lean function (tested against real Go, not proved from fmt's source: count such statements apart). THE CARD IS WHAT COUNTS. Prove the row's statement (the work); the ties are given (YtcmhgjldkgnblaaDoorTie.lean); close each card by the builder's one call (the guide's Derived/Test/ToyasCard.lean, 'card_holds'). Laid BY PROGRAM, IN A SANDBOX (cutbox-door.mjs). By AI agents, Wed Nov 11 2026. No macro, syntax, notation, axiom, sorry.
-/
import Derived.Test.YtcmhgjldkgnblaaDoorRows
import GoSem.ClaimSeven
namespace Go.Proofs.YtcmhgjldkgnblaaDoor
namespace Rows

/-- THE TIED CARD OF 'laws.FnExactStemmaDepth'. -/
def fnExactStemmaDepthCard : Claim7 := { stood := { row := fnExactStemmaDepthRow, standIns := [], harness := (true, "67df1c70e320a2addca22b4ab039952b5e26f31c0d63e168b56b15201fd49c5c"), looks := false }, kinds := [], alts := [], laidByText := true, laidKinds := [.data, .pinned], laidTests := true, laidLooks := .later }
def FnExactStemmaDepthCardSaid : Prop := Claim7.holds Tryd.pinned (.plain (OpenSpec.ofChange fnExactStemmaDepthSpec)) fnExactStemmaDepthCard

/-- THE TIED CARD OF 'laws.FnExactCommonAncestor'. -/
def fnExactCommonAncestorCard : Claim7 := { stood := { row := fnExactCommonAncestorRow, standIns := [], harness := (true, "67df1c70e320a2addca22b4ab039952b5e26f31c0d63e168b56b15201fd49c5c"), looks := false }, kinds := [], alts := [], laidByText := true, laidKinds := [.data, .pinned], laidTests := true, laidLooks := .later }
def FnExactCommonAncestorCardSaid : Prop := Claim7.holds Tryd.pinned (.plain (OpenSpec.ofChange fnExactCommonAncestorSpec)) fnExactCommonAncestorCard

/-- THE TIED CARD OF 'laws.FnExactStemmaCost'. -/
def fnExactStemmaCostCard : Claim7 := { stood := { row := fnExactStemmaCostRow, standIns := [], harness := (true, "67df1c70e320a2addca22b4ab039952b5e26f31c0d63e168b56b15201fd49c5c"), looks := false }, kinds := [], alts := [], laidByText := true, laidKinds := [.data, .pinned], laidTests := true, laidLooks := .later }
def FnExactStemmaCostCardSaid : Prop := Claim7.holds Tryd.pinned (.plain (OpenSpec.ofChange fnExactStemmaCostSpec)) fnExactStemmaCostCard

/-- THE TIED CARD OF 'laws.FnExactAncestorsOf'. -/
def fnExactAncestorsOfCard : Claim7 := { stood := { row := fnExactAncestorsOfRow, standIns := [], harness := (true, "67df1c70e320a2addca22b4ab039952b5e26f31c0d63e168b56b15201fd49c5c"), looks := false }, kinds := [], alts := [], laidByText := true, laidKinds := [.data, .pinned], laidTests := true, laidLooks := .later }
def FnExactAncestorsOfCardSaid : Prop := Claim7.holds Tryd.pinned (.plain (OpenSpec.ofChange fnExactAncestorsOfSpec)) fnExactAncestorsOfCard

/-- THE TIED CARD OF 'laws.FnExactBestStemma'. -/
def fnExactBestStemmaCard : Claim7 := { stood := { row := fnExactBestStemmaRow, standIns := [], harness := (true, "67df1c70e320a2addca22b4ab039952b5e26f31c0d63e168b56b15201fd49c5c"), looks := false }, kinds := [], alts := [], laidByText := true, laidKinds := [.data, .pinned], laidTests := true, laidLooks := .later }
def FnExactBestStemmaCardSaid : Prop := Claim7.holds Tryd.pinned (.plain (OpenSpec.ofChange fnExactBestStemmaSpec)) fnExactBestStemmaCard

/-- THE TIED CARD OF 'laws.FnExactStemmaText'. -/
def fnExactStemmaTextCard : Claim7 := { stood := { row := fnExactStemmaTextRow, standIns := [], harness := (true, "67df1c70e320a2addca22b4ab039952b5e26f31c0d63e168b56b15201fd49c5c"), looks := false }, kinds := [], alts := [], laidByText := true, laidKinds := [.data, .pinned], laidTests := true, laidLooks := .later }
def FnExactStemmaTextCardSaid : Prop := Claim7.holds Tryd.pinned (.plain (OpenSpec.ofChange fnExactStemmaTextSpec)) fnExactStemmaTextCard

/-- THE TIED CARD OF 'laws.FnExactChangesOn'. -/
def fnExactChangesOnCard : Claim7 := { stood := { row := fnExactChangesOnRow, standIns := [], harness := (true, "67df1c70e320a2addca22b4ab039952b5e26f31c0d63e168b56b15201fd49c5c"), looks := false }, kinds := [], alts := [], laidByText := true, laidKinds := [.data, .pinned], laidTests := true, laidLooks := .later }
def FnExactChangesOnCardSaid : Prop := Claim7.holds Tryd.pinned (.plain (OpenSpec.ofChange fnExactChangesOnSpec)) fnExactChangesOnCard

/-- THE TIED CARD OF 'laws.FnAncestors'. -/
def fnAncestorsCard : Claim7 := { stood := { row := fnAncestorsRow, standIns := [], harness := (true, "67df1c70e320a2addca22b4ab039952b5e26f31c0d63e168b56b15201fd49c5c"), looks := false }, kinds := [], alts := [], laidByText := true, laidKinds := [.data, .pinned], laidTests := true, laidLooks := .later }
def FnAncestorsCardSaid : Prop := Claim7.holds Tryd.pinned (.plain (OpenSpec.ofChange fnAncestorsSpec)) fnAncestorsCard

/-- THE TIED CARD OF 'laws.FnStemmas'. -/
def fnStemmasCard : Claim7 := { stood := { row := fnStemmasRow, standIns := [], harness := (true, "67df1c70e320a2addca22b4ab039952b5e26f31c0d63e168b56b15201fd49c5c"), looks := false }, kinds := [], alts := [], laidByText := true, laidKinds := [.data, .pinned], laidTests := true, laidLooks := .later }
def FnStemmasCardSaid : Prop := Claim7.holds Tryd.pinned (.plain (OpenSpec.ofChange fnStemmasSpec)) fnStemmasCard

/-- THE TIED CARD OF 'laws.FnExactAreFormulas'. -/
def fnExactAreFormulasCard : Claim7 := { stood := { row := fnExactAreFormulasRow, standIns := [], harness := (true, "67df1c70e320a2addca22b4ab039952b5e26f31c0d63e168b56b15201fd49c5c"), looks := false }, kinds := [], alts := [], laidByText := true, laidKinds := [.data, .pinned], laidTests := true, laidLooks := .later }
def FnExactAreFormulasCardSaid : Prop := Claim7.holds Tryd.pinned (.plain (OpenSpec.ofChange fnExactAreFormulasSpec)) fnExactAreFormulasCard

/-- THE SECOND FORM's CARD OF 'laws.FnExactStemmaDepth'. -/
def fnExactStemmaDepthUptoCard : Claim7 := { stood := { row := fnExactStemmaDepthUptoRow, standIns := [], harness := (true, "67df1c70e320a2addca22b4ab039952b5e26f31c0d63e168b56b15201fd49c5c"), looks := false }, kinds := [], alts := [], laidByText := true, laidKinds := [.data, .pinned], laidTests := true, laidLooks := .later }
def FnExactStemmaDepthUptoCardSaid : Prop := Claim7.holds Tryd.pinned (.plain (OpenSpec.upto fnExactStemmaDepthSpec)) fnExactStemmaDepthUptoCard

/-- THE SECOND FORM's CARD OF 'laws.FnExactCommonAncestor'. -/
def fnExactCommonAncestorUptoCard : Claim7 := { stood := { row := fnExactCommonAncestorUptoRow, standIns := [], harness := (true, "67df1c70e320a2addca22b4ab039952b5e26f31c0d63e168b56b15201fd49c5c"), looks := false }, kinds := [], alts := [], laidByText := true, laidKinds := [.data, .pinned], laidTests := true, laidLooks := .later }
def FnExactCommonAncestorUptoCardSaid : Prop := Claim7.holds Tryd.pinned (.plain (OpenSpec.upto fnExactCommonAncestorSpec)) fnExactCommonAncestorUptoCard

/-- THE SECOND FORM's CARD OF 'laws.FnExactStemmaCost'. -/
def fnExactStemmaCostUptoCard : Claim7 := { stood := { row := fnExactStemmaCostUptoRow, standIns := [], harness := (true, "67df1c70e320a2addca22b4ab039952b5e26f31c0d63e168b56b15201fd49c5c"), looks := false }, kinds := [], alts := [], laidByText := true, laidKinds := [.data, .pinned], laidTests := true, laidLooks := .later }
def FnExactStemmaCostUptoCardSaid : Prop := Claim7.holds Tryd.pinned (.plain (OpenSpec.upto fnExactStemmaCostSpec)) fnExactStemmaCostUptoCard

/-- THE SECOND FORM's CARD OF 'laws.FnExactAncestorsOf'. -/
def fnExactAncestorsOfUptoCard : Claim7 := { stood := { row := fnExactAncestorsOfUptoRow, standIns := [], harness := (true, "67df1c70e320a2addca22b4ab039952b5e26f31c0d63e168b56b15201fd49c5c"), looks := false }, kinds := [], alts := [], laidByText := true, laidKinds := [.data, .pinned], laidTests := true, laidLooks := .later }
def FnExactAncestorsOfUptoCardSaid : Prop := Claim7.holds Tryd.pinned (.plain (OpenSpec.upto fnExactAncestorsOfSpec)) fnExactAncestorsOfUptoCard

/-- THE SECOND FORM's CARD OF 'laws.FnExactBestStemma'. -/
def fnExactBestStemmaUptoCard : Claim7 := { stood := { row := fnExactBestStemmaUptoRow, standIns := [], harness := (true, "67df1c70e320a2addca22b4ab039952b5e26f31c0d63e168b56b15201fd49c5c"), looks := false }, kinds := [], alts := [], laidByText := true, laidKinds := [.data, .pinned], laidTests := true, laidLooks := .later }
def FnExactBestStemmaUptoCardSaid : Prop := Claim7.holds Tryd.pinned (.plain (OpenSpec.upto fnExactBestStemmaSpec)) fnExactBestStemmaUptoCard

/-- THE SECOND FORM's CARD OF 'laws.FnExactStemmaText'. -/
def fnExactStemmaTextUptoCard : Claim7 := { stood := { row := fnExactStemmaTextUptoRow, standIns := [], harness := (true, "67df1c70e320a2addca22b4ab039952b5e26f31c0d63e168b56b15201fd49c5c"), looks := false }, kinds := [], alts := [], laidByText := true, laidKinds := [.data, .pinned], laidTests := true, laidLooks := .later }
def FnExactStemmaTextUptoCardSaid : Prop := Claim7.holds Tryd.pinned (.plain (OpenSpec.upto fnExactStemmaTextSpec)) fnExactStemmaTextUptoCard

/-- THE SECOND FORM's CARD OF 'laws.FnExactChangesOn'. -/
def fnExactChangesOnUptoCard : Claim7 := { stood := { row := fnExactChangesOnUptoRow, standIns := [], harness := (true, "67df1c70e320a2addca22b4ab039952b5e26f31c0d63e168b56b15201fd49c5c"), looks := false }, kinds := [], alts := [], laidByText := true, laidKinds := [.data, .pinned], laidTests := true, laidLooks := .later }
def FnExactChangesOnUptoCardSaid : Prop := Claim7.holds Tryd.pinned (.plain (OpenSpec.upto fnExactChangesOnSpec)) fnExactChangesOnUptoCard

/-- THE SECOND FORM's CARD OF 'laws.FnAncestors'. -/
def fnAncestorsUptoCard : Claim7 := { stood := { row := fnAncestorsUptoRow, standIns := [], harness := (true, "67df1c70e320a2addca22b4ab039952b5e26f31c0d63e168b56b15201fd49c5c"), looks := false }, kinds := [], alts := [], laidByText := true, laidKinds := [.data, .pinned], laidTests := true, laidLooks := .later }
def FnAncestorsUptoCardSaid : Prop := Claim7.holds Tryd.pinned (.plain (OpenSpec.upto fnAncestorsSpec)) fnAncestorsUptoCard

/-- THE SECOND FORM's CARD OF 'laws.FnStemmas'. -/
def fnStemmasUptoCard : Claim7 := { stood := { row := fnStemmasUptoRow, standIns := [], harness := (true, "67df1c70e320a2addca22b4ab039952b5e26f31c0d63e168b56b15201fd49c5c"), looks := false }, kinds := [], alts := [], laidByText := true, laidKinds := [.data, .pinned], laidTests := true, laidLooks := .later }
def FnStemmasUptoCardSaid : Prop := Claim7.holds Tryd.pinned (.plain (OpenSpec.upto fnStemmasSpec)) fnStemmasUptoCard

/-- THE SECOND FORM's CARD OF 'laws.FnExactAreFormulas'. -/
def fnExactAreFormulasUptoCard : Claim7 := { stood := { row := fnExactAreFormulasUptoRow, standIns := [], harness := (true, "67df1c70e320a2addca22b4ab039952b5e26f31c0d63e168b56b15201fd49c5c"), looks := false }, kinds := [], alts := [], laidByText := true, laidKinds := [.data, .pinned], laidTests := true, laidLooks := .later }
def FnExactAreFormulasUptoCardSaid : Prop := Claim7.holds Tryd.pinned (.plain (OpenSpec.upto fnExactAreFormulasSpec)) fnExactAreFormulasUptoCard
end Rows
end Go.Proofs.YtcmhgjldkgnblaaDoor
