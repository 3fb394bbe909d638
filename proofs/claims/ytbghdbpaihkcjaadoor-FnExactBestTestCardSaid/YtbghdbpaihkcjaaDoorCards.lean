/-
  DERIVED. GIVEN WITH THE SEED: THE CARDS: each row of YtbghdbpaihkcjaaDoorRows.lean that lists a variable, with what it lists TIED to the program's text (the seventh form; the later family's looks); each row that meets fmt, with fmt's text TOLD by the authors' own Lean function (tested against real Go, not proved from fmt's source: count such statements apart). THE CARD IS WHAT COUNTS. Prove the row's statement (the work); the ties are given (YtbghdbpaihkcjaaDoorTie.lean); close each card by the builder's one call (the guide's Derived/Test/ToyasCard.lean, 'card_holds'). Laid BY PROGRAM, IN A SANDBOX (cutbox-door.mjs). By AI agents, Wed Nov 11 2026. No macro, syntax, notation, axiom, sorry.
-/
import Derived.Test.YtbghdbpaihkcjaaDoorRows
import GoSem.ClaimSeven
namespace Go.Proofs.YtbghdbpaihkcjaaDoor
namespace Rows

/-- THE TIED CARD OF 'laws.FnExactSuspectsOf'. -/
def fnExactSuspectsOfCard : Claim7 := { stood := { row := fnExactSuspectsOfRow, standIns := [], harness := (true, "82b3926e025745ca4f1b2a6e36d8832d581210dd2fcab0f1b7cc1c18c846633d"), looks := false }, kinds := [], alts := [], laidByText := true, laidKinds := [.data, .pinned], laidTests := true, laidLooks := .later }
def FnExactSuspectsOfCardSaid : Prop := Claim7.holds Tryd.pinned (.plain (OpenSpec.ofChange fnExactSuspectsOfSpec)) fnExactSuspectsOfCard

/-- THE TIED CARD OF 'laws.FnExactCountFitting'. -/
def fnExactCountFittingCard : Claim7 := { stood := { row := fnExactCountFittingRow, standIns := [], harness := (true, "82b3926e025745ca4f1b2a6e36d8832d581210dd2fcab0f1b7cc1c18c846633d"), looks := false }, kinds := [], alts := [], laidByText := true, laidKinds := [.data, .pinned], laidTests := true, laidLooks := .later }
def FnExactCountFittingCardSaid : Prop := Claim7.holds Tryd.pinned (.plain (OpenSpec.ofChange fnExactCountFittingSpec)) fnExactCountFittingCard

/-- THE TIED CARD OF 'laws.FnExactFittingSets'. -/
def fnExactFittingSetsCard : Claim7 := { stood := { row := fnExactFittingSetsRow, standIns := [], harness := (true, "82b3926e025745ca4f1b2a6e36d8832d581210dd2fcab0f1b7cc1c18c846633d"), looks := false }, kinds := [], alts := [], laidByText := true, laidKinds := [.data, .pinned], laidTests := true, laidLooks := .later }
def FnExactFittingSetsCardSaid : Prop := Claim7.holds Tryd.pinned (.plain (OpenSpec.ofChange fnExactFittingSetsSpec)) fnExactFittingSetsCard

/-- THE TIED CARD OF 'laws.FnExactSureWires'. -/
def fnExactSureWiresCard : Claim7 := { stood := { row := fnExactSureWiresRow, standIns := [], harness := (true, "82b3926e025745ca4f1b2a6e36d8832d581210dd2fcab0f1b7cc1c18c846633d"), looks := false }, kinds := [], alts := [], laidByText := true, laidKinds := [.data, .pinned], laidTests := true, laidLooks := .later }
def FnExactSureWiresCardSaid : Prop := Claim7.holds Tryd.pinned (.plain (OpenSpec.ofChange fnExactSureWiresSpec)) fnExactSureWiresCard

/-- THE TIED CARD OF 'laws.FnExactBestTest'. -/
def fnExactBestTestCard : Claim7 := { stood := { row := fnExactBestTestRow, standIns := [], harness := (true, "82b3926e025745ca4f1b2a6e36d8832d581210dd2fcab0f1b7cc1c18c846633d"), looks := false }, kinds := [], alts := [], laidByText := true, laidKinds := [.data, .pinned], laidTests := true, laidLooks := .later }
def FnExactBestTestCardSaid : Prop := Claim7.holds Tryd.pinned (.plain (OpenSpec.ofChange fnExactBestTestSpec)) fnExactBestTestCard

/-- THE SECOND FORM's CARD OF 'laws.FnExactSuspectsOf'. -/
def fnExactSuspectsOfUptoCard : Claim7 := { stood := { row := fnExactSuspectsOfUptoRow, standIns := [], harness := (true, "82b3926e025745ca4f1b2a6e36d8832d581210dd2fcab0f1b7cc1c18c846633d"), looks := false }, kinds := [], alts := [], laidByText := true, laidKinds := [.data, .pinned], laidTests := true, laidLooks := .later }
def FnExactSuspectsOfUptoCardSaid : Prop := Claim7.holds Tryd.pinned (.plain (OpenSpec.upto fnExactSuspectsOfSpec)) fnExactSuspectsOfUptoCard

/-- THE SECOND FORM's CARD OF 'laws.FnExactCountFitting'. -/
def fnExactCountFittingUptoCard : Claim7 := { stood := { row := fnExactCountFittingUptoRow, standIns := [], harness := (true, "82b3926e025745ca4f1b2a6e36d8832d581210dd2fcab0f1b7cc1c18c846633d"), looks := false }, kinds := [], alts := [], laidByText := true, laidKinds := [.data, .pinned], laidTests := true, laidLooks := .later }
def FnExactCountFittingUptoCardSaid : Prop := Claim7.holds Tryd.pinned (.plain (OpenSpec.upto fnExactCountFittingSpec)) fnExactCountFittingUptoCard

/-- THE SECOND FORM's CARD OF 'laws.FnExactFittingSets'. -/
def fnExactFittingSetsUptoCard : Claim7 := { stood := { row := fnExactFittingSetsUptoRow, standIns := [], harness := (true, "82b3926e025745ca4f1b2a6e36d8832d581210dd2fcab0f1b7cc1c18c846633d"), looks := false }, kinds := [], alts := [], laidByText := true, laidKinds := [.data, .pinned], laidTests := true, laidLooks := .later }
def FnExactFittingSetsUptoCardSaid : Prop := Claim7.holds Tryd.pinned (.plain (OpenSpec.upto fnExactFittingSetsSpec)) fnExactFittingSetsUptoCard

/-- THE SECOND FORM's CARD OF 'laws.FnExactSureWires'. -/
def fnExactSureWiresUptoCard : Claim7 := { stood := { row := fnExactSureWiresUptoRow, standIns := [], harness := (true, "82b3926e025745ca4f1b2a6e36d8832d581210dd2fcab0f1b7cc1c18c846633d"), looks := false }, kinds := [], alts := [], laidByText := true, laidKinds := [.data, .pinned], laidTests := true, laidLooks := .later }
def FnExactSureWiresUptoCardSaid : Prop := Claim7.holds Tryd.pinned (.plain (OpenSpec.upto fnExactSureWiresSpec)) fnExactSureWiresUptoCard

/-- THE SECOND FORM's CARD OF 'laws.FnExactBestTest'. -/
def fnExactBestTestUptoCard : Claim7 := { stood := { row := fnExactBestTestUptoRow, standIns := [], harness := (true, "82b3926e025745ca4f1b2a6e36d8832d581210dd2fcab0f1b7cc1c18c846633d"), looks := false }, kinds := [], alts := [], laidByText := true, laidKinds := [.data, .pinned], laidTests := true, laidLooks := .later }
def FnExactBestTestUptoCardSaid : Prop := Claim7.holds Tryd.pinned (.plain (OpenSpec.upto fnExactBestTestSpec)) fnExactBestTestUptoCard
end Rows
end Go.Proofs.YtbghdbpaihkcjaaDoor
