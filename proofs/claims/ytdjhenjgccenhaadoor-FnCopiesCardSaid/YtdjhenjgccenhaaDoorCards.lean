/-
  DERIVED. GIVEN WITH THE SEED: THE CARDS: each row of YtdjhenjgccenhaaDoorRows.lean that lists a variable, with what it lists TIED to the program's text (the seventh form; the later family's looks); each row that meets fmt, with fmt's text TOLD by the authors' own Lean function (tested against real Go, not proved from fmt's source: count such statements apart). THE CARD IS WHAT COUNTS. Prove the row's statement (the work); the ties are given (YtdjhenjgccenhaaDoorTie.lean); close each card by the builder's one call (the guide's Derived/Test/ToyasCard.lean, 'card_holds'). Laid BY PROGRAM, IN A SANDBOX (cutbox-door.mjs). By AI agents, Wed Nov 11 2026. No macro, syntax, notation, axiom, sorry.
-/
import Derived.Test.YtdjhenjgccenhaaDoorRows
import GoSem.ClaimSeven
namespace Go.Proofs.YtdjhenjgccenhaaDoor
namespace Rows

/-- THE TIED CARD OF 'laws.FnExactAreCopies'. -/
def fnExactAreCopiesCard : Claim7 := { stood := { row := fnExactAreCopiesRow, standIns := [], harness := (true, "23f83fc83f7eafb7e6da0551880eb8031a8c25e41a6049ab300679528591d38b"), looks := false }, kinds := [], alts := [], laidByText := true, laidKinds := [.data, .pinned], laidTests := true, laidLooks := .later }
def FnExactAreCopiesCardSaid : Prop := Claim7.holds Tryd.pinned (.plain (OpenSpec.ofChange fnExactAreCopiesSpec)) fnExactAreCopiesCard

/-- THE TIED CARD OF 'laws.FnExactCountDifferences'. -/
def fnExactCountDifferencesCard : Claim7 := { stood := { row := fnExactCountDifferencesRow, standIns := [], harness := (true, "23f83fc83f7eafb7e6da0551880eb8031a8c25e41a6049ab300679528591d38b"), looks := false }, kinds := [], alts := [], laidByText := true, laidKinds := [.data, .pinned], laidTests := true, laidLooks := .later }
def FnExactCountDifferencesCardSaid : Prop := Claim7.holds Tryd.pinned (.plain (OpenSpec.ofChange fnExactCountDifferencesSpec)) fnExactCountDifferencesCard

/-- THE TIED CARD OF 'laws.FnExactMajorityText'. -/
def fnExactMajorityTextCard : Claim7 := { stood := { row := fnExactMajorityTextRow, standIns := [], harness := (true, "23f83fc83f7eafb7e6da0551880eb8031a8c25e41a6049ab300679528591d38b"), looks := false }, kinds := [], alts := [], laidByText := true, laidKinds := [.data, .pinned], laidTests := true, laidLooks := .later }
def FnExactMajorityTextCardSaid : Prop := Claim7.holds Tryd.pinned (.plain (OpenSpec.ofChange fnExactMajorityTextSpec)) fnExactMajorityTextCard

/-- THE TIED CARD OF 'laws.FnExactMayDerive'. -/
def fnExactMayDeriveCard : Claim7 := { stood := { row := fnExactMayDeriveRow, standIns := [], harness := (true, "23f83fc83f7eafb7e6da0551880eb8031a8c25e41a6049ab300679528591d38b"), looks := false }, kinds := [], alts := [], laidByText := true, laidKinds := [.data, .pinned], laidTests := true, laidLooks := .later }
def FnExactMayDeriveCardSaid : Prop := Claim7.holds Tryd.pinned (.plain (OpenSpec.ofChange fnExactMayDeriveSpec)) fnExactMayDeriveCard

/-- THE TIED CARD OF 'laws.FnExactReadCopy'. -/
def fnExactReadCopyCard : Claim7 := { stood := { row := fnExactReadCopyRow, standIns := [], harness := (true, "23f83fc83f7eafb7e6da0551880eb8031a8c25e41a6049ab300679528591d38b"), looks := false }, kinds := [], alts := [], laidByText := true, laidKinds := [.data, .pinned], laidTests := true, laidLooks := .later }
def FnExactReadCopyCardSaid : Prop := Claim7.holds Tryd.pinned (.plain (OpenSpec.ofChange fnExactReadCopySpec)) fnExactReadCopyCard

/-- THE TIED CARD OF 'laws.FnExactErrorsOf'. -/
def fnExactErrorsOfCard : Claim7 := { stood := { row := fnExactErrorsOfRow, standIns := [], harness := (true, "23f83fc83f7eafb7e6da0551880eb8031a8c25e41a6049ab300679528591d38b"), looks := false }, kinds := [], alts := [], laidByText := true, laidKinds := [.data, .pinned], laidTests := true, laidLooks := .later }
def FnExactErrorsOfCardSaid : Prop := Claim7.holds Tryd.pinned (.plain (OpenSpec.ofChange fnExactErrorsOfSpec)) fnExactErrorsOfCard

/-- THE TIED CARD OF 'laws.FnExactCommonErrors'. -/
def fnExactCommonErrorsCard : Claim7 := { stood := { row := fnExactCommonErrorsRow, standIns := [], harness := (true, "23f83fc83f7eafb7e6da0551880eb8031a8c25e41a6049ab300679528591d38b"), looks := false }, kinds := [], alts := [], laidByText := true, laidKinds := [.data, .pinned], laidTests := true, laidLooks := .later }
def FnExactCommonErrorsCardSaid : Prop := Claim7.holds Tryd.pinned (.plain (OpenSpec.ofChange fnExactCommonErrorsSpec)) fnExactCommonErrorsCard

/-- THE TIED CARD OF 'laws.FnExactUselessCopies'. -/
def fnExactUselessCopiesCard : Claim7 := { stood := { row := fnExactUselessCopiesRow, standIns := [], harness := (true, "23f83fc83f7eafb7e6da0551880eb8031a8c25e41a6049ab300679528591d38b"), looks := false }, kinds := [], alts := [], laidByText := true, laidKinds := [.data, .pinned], laidTests := true, laidLooks := .later }
def FnExactUselessCopiesCardSaid : Prop := Claim7.holds Tryd.pinned (.plain (OpenSpec.ofChange fnExactUselessCopiesSpec)) fnExactUselessCopiesCard

/-- THE TIED CARD OF 'laws.FnCopies'. -/
def fnCopiesCard : Claim7 := { stood := { row := fnCopiesRow, standIns := [], harness := (true, "23f83fc83f7eafb7e6da0551880eb8031a8c25e41a6049ab300679528591d38b"), looks := false }, kinds := [], alts := [], laidByText := true, laidKinds := [.data, .pinned], laidTests := true, laidLooks := .later }
def FnCopiesCardSaid : Prop := Claim7.holds Tryd.pinned (.plain (OpenSpec.ofChange fnCopiesSpec)) fnCopiesCard

/-- THE TIED CARD OF 'laws.FnExactCopyText'. -/
def fnExactCopyTextCard : Claim7 := { stood := { row := fnExactCopyTextRow, standIns := [], harness := (true, "23f83fc83f7eafb7e6da0551880eb8031a8c25e41a6049ab300679528591d38b"), looks := false }, kinds := [], alts := [], laidByText := true, laidKinds := [.data, .data, .data, .data, .pinned], laidTests := true, laidLooks := .later }
def FnExactCopyTextCardSaid : Prop := Claim7.holds Tryd.pinned (.plain (OpenSpec.ofChange fnExactCopyTextSpec)) fnExactCopyTextCard

/-- THE TIED CARD OF 'laws.FnCopyTexts'. -/
def fnCopyTextsCard : Claim7 := { stood := { row := fnCopyTextsRow, standIns := [], harness := (true, "23f83fc83f7eafb7e6da0551880eb8031a8c25e41a6049ab300679528591d38b"), looks := false }, kinds := [], alts := [], laidByText := true, laidKinds := [.data, .data, .data, .data, .pinned], laidTests := true, laidLooks := .later }
def FnCopyTextsCardSaid : Prop := Claim7.holds Tryd.pinned (.plain (OpenSpec.ofChange fnCopyTextsSpec)) fnCopyTextsCard

/-- THE TIED CARD OF 'laws.FnExactIsStemma'. -/
def fnExactIsStemmaCard : Claim7 := { stood := { row := fnExactIsStemmaRow, standIns := [], harness := (true, "23f83fc83f7eafb7e6da0551880eb8031a8c25e41a6049ab300679528591d38b"), looks := false }, kinds := [], alts := [], laidByText := true, laidKinds := [.data, .pinned], laidTests := true, laidLooks := .later }
def FnExactIsStemmaCardSaid : Prop := Claim7.holds Tryd.pinned (.plain (OpenSpec.ofChange fnExactIsStemmaSpec)) fnExactIsStemmaCard

/-- THE SECOND FORM's CARD OF 'laws.FnExactAreCopies'. -/
def fnExactAreCopiesUptoCard : Claim7 := { stood := { row := fnExactAreCopiesUptoRow, standIns := [], harness := (true, "23f83fc83f7eafb7e6da0551880eb8031a8c25e41a6049ab300679528591d38b"), looks := false }, kinds := [], alts := [], laidByText := true, laidKinds := [.data, .pinned], laidTests := true, laidLooks := .later }
def FnExactAreCopiesUptoCardSaid : Prop := Claim7.holds Tryd.pinned (.plain (OpenSpec.upto fnExactAreCopiesSpec)) fnExactAreCopiesUptoCard

/-- THE SECOND FORM's CARD OF 'laws.FnExactCountDifferences'. -/
def fnExactCountDifferencesUptoCard : Claim7 := { stood := { row := fnExactCountDifferencesUptoRow, standIns := [], harness := (true, "23f83fc83f7eafb7e6da0551880eb8031a8c25e41a6049ab300679528591d38b"), looks := false }, kinds := [], alts := [], laidByText := true, laidKinds := [.data, .pinned], laidTests := true, laidLooks := .later }
def FnExactCountDifferencesUptoCardSaid : Prop := Claim7.holds Tryd.pinned (.plain (OpenSpec.upto fnExactCountDifferencesSpec)) fnExactCountDifferencesUptoCard

/-- THE SECOND FORM's CARD OF 'laws.FnExactMajorityText'. -/
def fnExactMajorityTextUptoCard : Claim7 := { stood := { row := fnExactMajorityTextUptoRow, standIns := [], harness := (true, "23f83fc83f7eafb7e6da0551880eb8031a8c25e41a6049ab300679528591d38b"), looks := false }, kinds := [], alts := [], laidByText := true, laidKinds := [.data, .pinned], laidTests := true, laidLooks := .later }
def FnExactMajorityTextUptoCardSaid : Prop := Claim7.holds Tryd.pinned (.plain (OpenSpec.upto fnExactMajorityTextSpec)) fnExactMajorityTextUptoCard

/-- THE SECOND FORM's CARD OF 'laws.FnExactMayDerive'. -/
def fnExactMayDeriveUptoCard : Claim7 := { stood := { row := fnExactMayDeriveUptoRow, standIns := [], harness := (true, "23f83fc83f7eafb7e6da0551880eb8031a8c25e41a6049ab300679528591d38b"), looks := false }, kinds := [], alts := [], laidByText := true, laidKinds := [.data, .pinned], laidTests := true, laidLooks := .later }
def FnExactMayDeriveUptoCardSaid : Prop := Claim7.holds Tryd.pinned (.plain (OpenSpec.upto fnExactMayDeriveSpec)) fnExactMayDeriveUptoCard

/-- THE SECOND FORM's CARD OF 'laws.FnExactReadCopy'. -/
def fnExactReadCopyUptoCard : Claim7 := { stood := { row := fnExactReadCopyUptoRow, standIns := [], harness := (true, "23f83fc83f7eafb7e6da0551880eb8031a8c25e41a6049ab300679528591d38b"), looks := false }, kinds := [], alts := [], laidByText := true, laidKinds := [.data, .pinned], laidTests := true, laidLooks := .later }
def FnExactReadCopyUptoCardSaid : Prop := Claim7.holds Tryd.pinned (.plain (OpenSpec.upto fnExactReadCopySpec)) fnExactReadCopyUptoCard

/-- THE SECOND FORM's CARD OF 'laws.FnExactErrorsOf'. -/
def fnExactErrorsOfUptoCard : Claim7 := { stood := { row := fnExactErrorsOfUptoRow, standIns := [], harness := (true, "23f83fc83f7eafb7e6da0551880eb8031a8c25e41a6049ab300679528591d38b"), looks := false }, kinds := [], alts := [], laidByText := true, laidKinds := [.data, .pinned], laidTests := true, laidLooks := .later }
def FnExactErrorsOfUptoCardSaid : Prop := Claim7.holds Tryd.pinned (.plain (OpenSpec.upto fnExactErrorsOfSpec)) fnExactErrorsOfUptoCard

/-- THE SECOND FORM's CARD OF 'laws.FnExactCommonErrors'. -/
def fnExactCommonErrorsUptoCard : Claim7 := { stood := { row := fnExactCommonErrorsUptoRow, standIns := [], harness := (true, "23f83fc83f7eafb7e6da0551880eb8031a8c25e41a6049ab300679528591d38b"), looks := false }, kinds := [], alts := [], laidByText := true, laidKinds := [.data, .pinned], laidTests := true, laidLooks := .later }
def FnExactCommonErrorsUptoCardSaid : Prop := Claim7.holds Tryd.pinned (.plain (OpenSpec.upto fnExactCommonErrorsSpec)) fnExactCommonErrorsUptoCard

/-- THE SECOND FORM's CARD OF 'laws.FnExactUselessCopies'. -/
def fnExactUselessCopiesUptoCard : Claim7 := { stood := { row := fnExactUselessCopiesUptoRow, standIns := [], harness := (true, "23f83fc83f7eafb7e6da0551880eb8031a8c25e41a6049ab300679528591d38b"), looks := false }, kinds := [], alts := [], laidByText := true, laidKinds := [.data, .pinned], laidTests := true, laidLooks := .later }
def FnExactUselessCopiesUptoCardSaid : Prop := Claim7.holds Tryd.pinned (.plain (OpenSpec.upto fnExactUselessCopiesSpec)) fnExactUselessCopiesUptoCard

/-- THE SECOND FORM's CARD OF 'laws.FnCopies'. -/
def fnCopiesUptoCard : Claim7 := { stood := { row := fnCopiesUptoRow, standIns := [], harness := (true, "23f83fc83f7eafb7e6da0551880eb8031a8c25e41a6049ab300679528591d38b"), looks := false }, kinds := [], alts := [], laidByText := true, laidKinds := [.data, .pinned], laidTests := true, laidLooks := .later }
def FnCopiesUptoCardSaid : Prop := Claim7.holds Tryd.pinned (.plain (OpenSpec.upto fnCopiesSpec)) fnCopiesUptoCard

/-- THE SECOND FORM's CARD OF 'laws.FnExactCopyText'. -/
def fnExactCopyTextUptoCard : Claim7 := { stood := { row := fnExactCopyTextUptoRow, standIns := [], harness := (true, "23f83fc83f7eafb7e6da0551880eb8031a8c25e41a6049ab300679528591d38b"), looks := false }, kinds := [], alts := [], laidByText := true, laidKinds := [.data, .data, .data, .data, .pinned], laidTests := true, laidLooks := .later }
def FnExactCopyTextUptoCardSaid : Prop := Claim7.holds Tryd.pinned (.plain (OpenSpec.upto fnExactCopyTextSpec)) fnExactCopyTextUptoCard

/-- THE SECOND FORM's CARD OF 'laws.FnCopyTexts'. -/
def fnCopyTextsUptoCard : Claim7 := { stood := { row := fnCopyTextsUptoRow, standIns := [], harness := (true, "23f83fc83f7eafb7e6da0551880eb8031a8c25e41a6049ab300679528591d38b"), looks := false }, kinds := [], alts := [], laidByText := true, laidKinds := [.data, .data, .data, .data, .pinned], laidTests := true, laidLooks := .later }
def FnCopyTextsUptoCardSaid : Prop := Claim7.holds Tryd.pinned (.plain (OpenSpec.upto fnCopyTextsSpec)) fnCopyTextsUptoCard

/-- THE SECOND FORM's CARD OF 'laws.FnExactIsStemma'. -/
def fnExactIsStemmaUptoCard : Claim7 := { stood := { row := fnExactIsStemmaUptoRow, standIns := [], harness := (true, "23f83fc83f7eafb7e6da0551880eb8031a8c25e41a6049ab300679528591d38b"), looks := false }, kinds := [], alts := [], laidByText := true, laidKinds := [.data, .pinned], laidTests := true, laidLooks := .later }
def FnExactIsStemmaUptoCardSaid : Prop := Claim7.holds Tryd.pinned (.plain (OpenSpec.upto fnExactIsStemmaSpec)) fnExactIsStemmaUptoCard
end Rows
end Go.Proofs.YtdjhenjgccenhaaDoor
