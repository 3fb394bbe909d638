/-
  DERIVED. GIVEN WITH THE SEED: THE CARDS: each row of YtbghdbpaihkcjabDoorRows.lean that lists a variable, with what it lists TIED to the program's text (the seventh form; the later family's looks); each row that meets fmt, with fmt's text TOLD by the authors' own Lean function (tested against real Go, not proved from fmt's source: count such statements apart). THE CARD IS WHAT COUNTS. Prove the row's statement (the work); the ties are given (YtbghdbpaihkcjabDoorTie.lean); close each card by the builder's one call (the guide's Derived/Test/ToyasCard.lean, 'card_holds'). Laid BY PROGRAM, IN A SANDBOX (cutbox-door.mjs). By AI agents, Wed Nov 11 2026. No macro, syntax, notation, axiom, sorry.
-/
import Derived.Test.YtbghdbpaihkcjabDoorRows
import GoSem.ClaimSeven
namespace Go.Proofs.YtbghdbpaihkcjabDoor
namespace Rows

/-- THE TIED CARD OF 'laws.FnExactTestsText'. -/
def fnExactTestsTextCard : Claim7 := { stood := { row := fnExactTestsTextRow, standIns := [], harness := (true, "73b6f82121618423738c10c46d8b7baaa21761fa99cca2b83dcb1945aadfe9ea"), looks := true }, kinds := [], alts := [], laidByText := true, laidKinds := [.data, .data, .data], laidTests := true, laidLooks := .later }
def FnExactTestsTextCardSaid : Prop := Claim7.holds Tryd.pinned (.plain (OpenSpec.ofChange fnExactTestsTextSpec)) fnExactTestsTextCard

/-- THE TIED CARD OF 'laws.FnExactSendsText'. -/
def fnExactSendsTextCard : Claim7 := { stood := { row := fnExactSendsTextRow, standIns := [], harness := (true, "73b6f82121618423738c10c46d8b7baaa21761fa99cca2b83dcb1945aadfe9ea"), looks := true }, kinds := [], alts := [], laidByText := true, laidKinds := [.data, .data, .data], laidTests := true, laidLooks := .later }
def FnExactSendsTextCardSaid : Prop := Claim7.holds Tryd.pinned (.plain (OpenSpec.ofChange fnExactSendsTextSpec)) fnExactSendsTextCard

/-- THE TIED CARD OF 'laws.FnExactParseTests'. -/
def fnExactParseTestsCard : Claim7 := { stood := { row := fnExactParseTestsRow, standIns := [], harness := (true, "73b6f82121618423738c10c46d8b7baaa21761fa99cca2b83dcb1945aadfe9ea"), looks := true }, kinds := [], alts := [], laidByText := true, laidKinds := [.data, .data, .data, .data, .sentinel, .sentinel, .pinned], laidTests := true, laidLooks := .later }
def FnExactParseTestsCardSaid : Prop := Claim7.holds Tryd.pinned (.plain (OpenSpec.ofChange fnExactParseTestsSpec)) fnExactParseTestsCard

/-- THE TIED CARD OF 'laws.FnExactParseSends'. -/
def fnExactParseSendsCard : Claim7 := { stood := { row := fnExactParseSendsRow, standIns := [], harness := (true, "73b6f82121618423738c10c46d8b7baaa21761fa99cca2b83dcb1945aadfe9ea"), looks := true }, kinds := [], alts := [], laidByText := true, laidKinds := [.data, .data, .data, .sentinel, .sentinel], laidTests := true, laidLooks := .later }
def FnExactParseSendsCardSaid : Prop := Claim7.holds Tryd.pinned (.plain (OpenSpec.ofChange fnExactParseSendsSpec)) fnExactParseSendsCard

/-- THE SECOND FORM's CARD OF 'laws.FnExactTestsText'. -/
def fnExactTestsTextUptoCard : Claim7 := { stood := { row := fnExactTestsTextUptoRow, standIns := [], harness := (true, "73b6f82121618423738c10c46d8b7baaa21761fa99cca2b83dcb1945aadfe9ea"), looks := true }, kinds := [], alts := [], laidByText := true, laidKinds := [.data, .data, .data], laidTests := true, laidLooks := .later }
def FnExactTestsTextUptoCardSaid : Prop := Claim7.holds Tryd.pinned (.plain (OpenSpec.upto fnExactTestsTextSpec)) fnExactTestsTextUptoCard

/-- THE SECOND FORM's CARD OF 'laws.FnExactSendsText'. -/
def fnExactSendsTextUptoCard : Claim7 := { stood := { row := fnExactSendsTextUptoRow, standIns := [], harness := (true, "73b6f82121618423738c10c46d8b7baaa21761fa99cca2b83dcb1945aadfe9ea"), looks := true }, kinds := [], alts := [], laidByText := true, laidKinds := [.data, .data, .data], laidTests := true, laidLooks := .later }
def FnExactSendsTextUptoCardSaid : Prop := Claim7.holds Tryd.pinned (.plain (OpenSpec.upto fnExactSendsTextSpec)) fnExactSendsTextUptoCard

/-- THE SECOND FORM's CARD OF 'laws.FnExactParseTests'. -/
def fnExactParseTestsUptoCard : Claim7 := { stood := { row := fnExactParseTestsUptoRow, standIns := [], harness := (true, "73b6f82121618423738c10c46d8b7baaa21761fa99cca2b83dcb1945aadfe9ea"), looks := true }, kinds := [], alts := [], laidByText := true, laidKinds := [.data, .data, .data, .data, .sentinel, .sentinel, .pinned], laidTests := true, laidLooks := .later }
def FnExactParseTestsUptoCardSaid : Prop := Claim7.holds Tryd.pinned (.plain (OpenSpec.upto fnExactParseTestsSpec)) fnExactParseTestsUptoCard

/-- THE SECOND FORM's CARD OF 'laws.FnExactParseSends'. -/
def fnExactParseSendsUptoCard : Claim7 := { stood := { row := fnExactParseSendsUptoRow, standIns := [], harness := (true, "73b6f82121618423738c10c46d8b7baaa21761fa99cca2b83dcb1945aadfe9ea"), looks := true }, kinds := [], alts := [], laidByText := true, laidKinds := [.data, .data, .data, .sentinel, .sentinel], laidTests := true, laidLooks := .later }
def FnExactParseSendsUptoCardSaid : Prop := Claim7.holds Tryd.pinned (.plain (OpenSpec.upto fnExactParseSendsSpec)) fnExactParseSendsUptoCard
end Rows
end Go.Proofs.YtbghdbpaihkcjabDoor
