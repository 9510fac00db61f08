/-
  DERIVED. GIVEN WITH THE SEED: THE CARDS: each row of YtngananoidplmaaDoorRows.lean that lists a variable, with what it lists TIED to the program's text (the seventh form; the later family's looks); each row that meets fmt, with fmt's text TOLD by the authors' own Lean function (tested against real Go, not proved from fmt's source: count such statements apart). THE CARD IS WHAT COUNTS. Prove the row's statement (the work); the ties are given (YtngananoidplmaaDoorTie.lean); close each card by the builder's one call (the guide's Derived/Test/ToyasCard.lean, 'card_holds'). Laid BY PROGRAM, IN A SANDBOX (cutbox-door.mjs). By AI agents, Wed Nov 11 2026. No macro, syntax, notation, axiom, sorry.
-/
import Derived.Test.YtngananoidplmaaDoorRows
import GoSem.ClaimSeven
namespace Go.Proofs.YtngananoidplmaaDoor
namespace Rows

/-- THE TIED CARD OF 'laws.FnExactIsLog'. -/
def fnExactIsLogCard : Claim7 := { stood := { row := fnExactIsLogRow, standIns := [], harness := (true, "8ec5efb1f9144b747b06297fdff2dcb96cdf9b240f6cbe39b47fc271f76fa054"), looks := false }, kinds := [], alts := [], laidByText := true, laidKinds := [.data, .pinned], laidTests := true, laidLooks := .later }
def FnExactIsLogCardSaid : Prop := Claim7.holds Tryd.pinned (.plain (OpenSpec.ofChange fnExactIsLogSpec)) fnExactIsLogCard

/-- THE TIED CARD OF 'laws.FnExactStateOf'. -/
def fnExactStateOfCard : Claim7 := { stood := { row := fnExactStateOfRow, standIns := [], harness := (true, "8ec5efb1f9144b747b06297fdff2dcb96cdf9b240f6cbe39b47fc271f76fa054"), looks := false }, kinds := [], alts := [], laidByText := true, laidKinds := [.data, .pinned], laidTests := true, laidLooks := .later }
def FnExactStateOfCardSaid : Prop := Claim7.holds Tryd.pinned (.plain (OpenSpec.ofChange fnExactStateOfSpec)) fnExactStateOfCard

/-- THE TIED CARD OF 'laws.FnExactDayOf'. -/
def fnExactDayOfCard : Claim7 := { stood := { row := fnExactDayOfRow, standIns := [], harness := (true, "8ec5efb1f9144b747b06297fdff2dcb96cdf9b240f6cbe39b47fc271f76fa054"), looks := false }, kinds := [], alts := [], laidByText := true, laidKinds := [.data, .pinned], laidTests := true, laidLooks := .later }
def FnExactDayOfCardSaid : Prop := Claim7.holds Tryd.pinned (.plain (OpenSpec.ofChange fnExactDayOfSpec)) fnExactDayOfCard

/-- THE TIED CARD OF 'laws.FnExactCountBy'. -/
def fnExactCountByCard : Claim7 := { stood := { row := fnExactCountByRow, standIns := [], harness := (true, "8ec5efb1f9144b747b06297fdff2dcb96cdf9b240f6cbe39b47fc271f76fa054"), looks := false }, kinds := [], alts := [], laidByText := true, laidKinds := [.data, .pinned], laidTests := true, laidLooks := .later }
def FnExactCountByCardSaid : Prop := Claim7.holds Tryd.pinned (.plain (OpenSpec.ofChange fnExactCountBySpec)) fnExactCountByCard

/-- THE TIED CARD OF 'laws.FnExactDecideDeed'. -/
def fnExactDecideDeedCard : Claim7 := { stood := { row := fnExactDecideDeedRow, standIns := [], harness := (true, "8ec5efb1f9144b747b06297fdff2dcb96cdf9b240f6cbe39b47fc271f76fa054"), looks := false }, kinds := [], alts := [], laidByText := true, laidKinds := [.data, .pinned], laidTests := true, laidLooks := .later }
def FnExactDecideDeedCardSaid : Prop := Claim7.holds Tryd.pinned (.plain (OpenSpec.ofChange fnExactDecideDeedSpec)) fnExactDecideDeedCard

/-- THE TIED CARD OF 'laws.FnExactOpenSuspicions'. -/
def fnExactOpenSuspicionsCard : Claim7 := { stood := { row := fnExactOpenSuspicionsRow, standIns := [], harness := (true, "8ec5efb1f9144b747b06297fdff2dcb96cdf9b240f6cbe39b47fc271f76fa054"), looks := false }, kinds := [], alts := [], laidByText := true, laidKinds := [.data, .pinned], laidTests := true, laidLooks := .later }
def FnExactOpenSuspicionsCardSaid : Prop := Claim7.holds Tryd.pinned (.plain (OpenSpec.ofChange fnExactOpenSuspicionsSpec)) fnExactOpenSuspicionsCard

/-- THE TIED CARD OF 'laws.FnDecisions'. -/
def fnDecisionsCard : Claim7 := { stood := { row := fnDecisionsRow, standIns := [], harness := (true, "8ec5efb1f9144b747b06297fdff2dcb96cdf9b240f6cbe39b47fc271f76fa054"), looks := false }, kinds := [], alts := [], laidByText := true, laidKinds := [.data, .pinned], laidTests := true, laidLooks := .later }
def FnDecisionsCardSaid : Prop := Claim7.holds Tryd.pinned (.plain (OpenSpec.ofChange fnDecisionsSpec)) fnDecisionsCard

/-- THE TIED CARD OF 'laws.FnExactLogText'. -/
def fnExactLogTextCard : Claim7 := { stood := { row := fnExactLogTextRow, standIns := [], harness := (true, "8ec5efb1f9144b747b06297fdff2dcb96cdf9b240f6cbe39b47fc271f76fa054"), looks := false }, kinds := [], alts := [], laidByText := true, laidKinds := [.data, .data, .data, .data, .pinned], laidTests := true, laidLooks := .later }
def FnExactLogTextCardSaid : Prop := Claim7.holds Tryd.pinned (.plain (OpenSpec.ofChange fnExactLogTextSpec)) fnExactLogTextCard

/-- THE SECOND FORM's CARD OF 'laws.FnExactIsLog'. -/
def fnExactIsLogUptoCard : Claim7 := { stood := { row := fnExactIsLogUptoRow, standIns := [], harness := (true, "8ec5efb1f9144b747b06297fdff2dcb96cdf9b240f6cbe39b47fc271f76fa054"), looks := false }, kinds := [], alts := [], laidByText := true, laidKinds := [.data, .pinned], laidTests := true, laidLooks := .later }
def FnExactIsLogUptoCardSaid : Prop := Claim7.holds Tryd.pinned (.plain (OpenSpec.upto fnExactIsLogSpec)) fnExactIsLogUptoCard

/-- THE SECOND FORM's CARD OF 'laws.FnExactStateOf'. -/
def fnExactStateOfUptoCard : Claim7 := { stood := { row := fnExactStateOfUptoRow, standIns := [], harness := (true, "8ec5efb1f9144b747b06297fdff2dcb96cdf9b240f6cbe39b47fc271f76fa054"), looks := false }, kinds := [], alts := [], laidByText := true, laidKinds := [.data, .pinned], laidTests := true, laidLooks := .later }
def FnExactStateOfUptoCardSaid : Prop := Claim7.holds Tryd.pinned (.plain (OpenSpec.upto fnExactStateOfSpec)) fnExactStateOfUptoCard

/-- THE SECOND FORM's CARD OF 'laws.FnExactDayOf'. -/
def fnExactDayOfUptoCard : Claim7 := { stood := { row := fnExactDayOfUptoRow, standIns := [], harness := (true, "8ec5efb1f9144b747b06297fdff2dcb96cdf9b240f6cbe39b47fc271f76fa054"), looks := false }, kinds := [], alts := [], laidByText := true, laidKinds := [.data, .pinned], laidTests := true, laidLooks := .later }
def FnExactDayOfUptoCardSaid : Prop := Claim7.holds Tryd.pinned (.plain (OpenSpec.upto fnExactDayOfSpec)) fnExactDayOfUptoCard

/-- THE SECOND FORM's CARD OF 'laws.FnExactCountBy'. -/
def fnExactCountByUptoCard : Claim7 := { stood := { row := fnExactCountByUptoRow, standIns := [], harness := (true, "8ec5efb1f9144b747b06297fdff2dcb96cdf9b240f6cbe39b47fc271f76fa054"), looks := false }, kinds := [], alts := [], laidByText := true, laidKinds := [.data, .pinned], laidTests := true, laidLooks := .later }
def FnExactCountByUptoCardSaid : Prop := Claim7.holds Tryd.pinned (.plain (OpenSpec.upto fnExactCountBySpec)) fnExactCountByUptoCard

/-- THE SECOND FORM's CARD OF 'laws.FnExactDecideDeed'. -/
def fnExactDecideDeedUptoCard : Claim7 := { stood := { row := fnExactDecideDeedUptoRow, standIns := [], harness := (true, "8ec5efb1f9144b747b06297fdff2dcb96cdf9b240f6cbe39b47fc271f76fa054"), looks := false }, kinds := [], alts := [], laidByText := true, laidKinds := [.data, .pinned], laidTests := true, laidLooks := .later }
def FnExactDecideDeedUptoCardSaid : Prop := Claim7.holds Tryd.pinned (.plain (OpenSpec.upto fnExactDecideDeedSpec)) fnExactDecideDeedUptoCard

/-- THE SECOND FORM's CARD OF 'laws.FnExactOpenSuspicions'. -/
def fnExactOpenSuspicionsUptoCard : Claim7 := { stood := { row := fnExactOpenSuspicionsUptoRow, standIns := [], harness := (true, "8ec5efb1f9144b747b06297fdff2dcb96cdf9b240f6cbe39b47fc271f76fa054"), looks := false }, kinds := [], alts := [], laidByText := true, laidKinds := [.data, .pinned], laidTests := true, laidLooks := .later }
def FnExactOpenSuspicionsUptoCardSaid : Prop := Claim7.holds Tryd.pinned (.plain (OpenSpec.upto fnExactOpenSuspicionsSpec)) fnExactOpenSuspicionsUptoCard

/-- THE SECOND FORM's CARD OF 'laws.FnDecisions'. -/
def fnDecisionsUptoCard : Claim7 := { stood := { row := fnDecisionsUptoRow, standIns := [], harness := (true, "8ec5efb1f9144b747b06297fdff2dcb96cdf9b240f6cbe39b47fc271f76fa054"), looks := false }, kinds := [], alts := [], laidByText := true, laidKinds := [.data, .pinned], laidTests := true, laidLooks := .later }
def FnDecisionsUptoCardSaid : Prop := Claim7.holds Tryd.pinned (.plain (OpenSpec.upto fnDecisionsSpec)) fnDecisionsUptoCard

/-- THE SECOND FORM's CARD OF 'laws.FnExactLogText'. -/
def fnExactLogTextUptoCard : Claim7 := { stood := { row := fnExactLogTextUptoRow, standIns := [], harness := (true, "8ec5efb1f9144b747b06297fdff2dcb96cdf9b240f6cbe39b47fc271f76fa054"), looks := false }, kinds := [], alts := [], laidByText := true, laidKinds := [.data, .data, .data, .data, .pinned], laidTests := true, laidLooks := .later }
def FnExactLogTextUptoCardSaid : Prop := Claim7.holds Tryd.pinned (.plain (OpenSpec.upto fnExactLogTextSpec)) fnExactLogTextUptoCard
end Rows
end Go.Proofs.YtngananoidplmaaDoor
