/-
  NARROWER THAN 'FOR EVERY INPUT', by the rows' own cells (each row's printed sentence says how): FnExactSuspectsOf: laid · FnExactCountFitting: laid · FnExactFittingSets: laid · FnExactSureWires: laid · FnExactBestTest: laid.
  DERIVED. THE GIVEN ROWS OF THIS SEAT. 5 by the template 'for every input the law returns true; each argument reads behind the call as it read before'; 0 by the template 'total and deterministic' (their statements: YtbghdbpaihkcjaaDoorTotals.lean).
  GIVEN WITH THE SEED: the statements are not yours to turn. If you find one false, say at which input.
  Laid BY PROGRAM, IN A SANDBOX (cutbox-rows.mjs): the forced cells as the released guide's own fill.sh prints them over the translation 5d4b5b0a0e291a8a… (all of the seat's roots in one cut). By AI agents, Wed Nov 11 2026. No macro, syntax, notation, axiom, sorry.
-/
import Derived.Test.YtbghdbpaihkcjaaDoorChecked
import GoSem.PinnedTables
import GoSem.Claim
import GoSem.ClaimJoined
import GoSem.ClaimMapViews
import Derived.JoinedTies
import Derived.KernelRfl
namespace Go.Proofs.YtbghdbpaihkcjaaDoor
/- THE CELL 'sum', in the pinned program and in every row, IS THE sha256 OF THE DUMP (.gsa) THAT YtbghdbpaihkcjaaDoorProg.lean LOADS. Nothing in Lean hashes anything: it is a label: what it is worth is what the hold of that sum in a sandbox is worth. -/
noncomputable def Tryd.pinned : Pinned := { name := "ytbghdbpaihkcjaadoor", sum := "5d4b5b0a0e291a8adb380e1715aae887bbb7e3255a2712c26ed913c05749e761", checked := Tryd.checked }
namespace Rows
def none {H : Type} : Left H := { results := [], args := [] }

/- WHAT THE LISTED PACKAGE-LEVEL VARIABLES READ AS WHEN THE CALL BEGINS. Each datum BY PROGRAM (the guide's laid-datum.mjs) off the statement by which the dump's own 'gosem.cut.vars' lays the variable. In a bare row this is a premise. The card (YtbghdbpaihkcjaaDoorCards.lean) ties it to the program's text. -/
def laid_unicode_utf8_acceptRanges {H : Type} : DataW H := .agg [.agg [.lit (.int .u8 128), .lit (.int .u8 191)], .agg [.lit (.int .u8 160), .lit (.int .u8 191)], .agg [.lit (.int .u8 128), .lit (.int .u8 159)], .agg [.lit (.int .u8 144), .lit (.int .u8 191)], .agg [.lit (.int .u8 128), .lit (.int .u8 143)], .agg [.lit (.int .u8 0), .lit (.int .u8 0)], .agg [.lit (.int .u8 0), .lit (.int .u8 0)], .agg [.lit (.int .u8 0), .lit (.int .u8 0)], .agg [.lit (.int .u8 0), .lit (.int .u8 0)], .agg [.lit (.int .u8 0), .lit (.int .u8 0)], .agg [.lit (.int .u8 0), .lit (.int .u8 0)], .agg [.lit (.int .u8 0), .lit (.int .u8 0)], .agg [.lit (.int .u8 0), .lit (.int .u8 0)], .agg [.lit (.int .u8 0), .lit (.int .u8 0)], .agg [.lit (.int .u8 0), .lit (.int .u8 0)], .agg [.lit (.int .u8 0), .lit (.int .u8 0)]]
/-- One of Go's own tables, pinned by name: the form's constant. -/
def laid_unicode_utf8_first : DataW Unit := Go.Pinned.utf8First

/-- 'laws.FnExactSuspectsOf': WHATEVER THE INPUT: true; the input reads as it did. -/
def fnExactSuspectsOfSpec : ChangeSpec := { name := "fnExactSuspectsOf", fn := fun _ => fun
  | [d1, d2, d3] => { results := [.lit (.bool true)], args := [d1, d2, d3] }
  | _ => none }
def fnExactSuspectsOfRow : OpenClaim := { program := "ytbghdbpaihkcjaadoor", sum := "5d4b5b0a0e291a8adb380e1715aae887bbb7e3255a2712c26ed913c05749e761", func := "loop.example/g01316/laws.FnExactSuspectsOf", spec := "fnExactSuspectsOf", inPlace := ["internal/bytealg.IndexByteString", "internal/bytealg.IndexString"], unfollowed := true, recurses := true, named := ["unicode/utf8.first", "unicode/utf8.acceptRanges", "internal/bytealg.MaxLen"], apart := false, laid := [("unicode/utf8.acceptRanges", laid_unicode_utf8_acceptRanges), ("unicode/utf8.first", laid_unicode_utf8_first)] }
def FnExactSuspectsOfSaid : Prop := fnExactSuspectsOfRow.holds Tryd.pinned (OpenSpec.ofChange fnExactSuspectsOfSpec)

/-- ITS FALSE NEIGHBOUR: 'it returns false'. Refute it at one input. -/
def fnExactSuspectsOfWrong : ChangeSpec := { name := "fnExactSuspectsOf", fn := fun _ => fun
  | [d1, d2, d3] => { results := [.lit (.bool false)], args := [d1, d2, d3] }
  | _ => none }
def FnExactSuspectsOfWrongFalsely : Prop := fnExactSuspectsOfRow.holds Tryd.pinned (OpenSpec.ofChange fnExactSuspectsOfWrong)

/-- 'laws.FnExactCountFitting': WHATEVER THE INPUT: true; the input reads as it did. -/
def fnExactCountFittingSpec : ChangeSpec := { name := "fnExactCountFitting", fn := fun _ => fun
  | [d1, d2, d3, d4] => { results := [.lit (.bool true)], args := [d1, d2, d3, d4] }
  | _ => none }
def fnExactCountFittingRow : OpenClaim := { program := "ytbghdbpaihkcjaadoor", sum := "5d4b5b0a0e291a8adb380e1715aae887bbb7e3255a2712c26ed913c05749e761", func := "loop.example/g01316/laws.FnExactCountFitting", spec := "fnExactCountFitting", inPlace := ["internal/bytealg.IndexByteString", "internal/bytealg.IndexString"], unfollowed := true, recurses := true, named := ["unicode/utf8.first", "unicode/utf8.acceptRanges", "internal/bytealg.MaxLen"], apart := false, laid := [("unicode/utf8.acceptRanges", laid_unicode_utf8_acceptRanges), ("unicode/utf8.first", laid_unicode_utf8_first)] }
def FnExactCountFittingSaid : Prop := fnExactCountFittingRow.holds Tryd.pinned (OpenSpec.ofChange fnExactCountFittingSpec)

/-- ITS FALSE NEIGHBOUR: 'it returns false'. Refute it at one input. -/
def fnExactCountFittingWrong : ChangeSpec := { name := "fnExactCountFitting", fn := fun _ => fun
  | [d1, d2, d3, d4] => { results := [.lit (.bool false)], args := [d1, d2, d3, d4] }
  | _ => none }
def FnExactCountFittingWrongFalsely : Prop := fnExactCountFittingRow.holds Tryd.pinned (OpenSpec.ofChange fnExactCountFittingWrong)

/-- 'laws.FnExactFittingSets': WHATEVER THE INPUT: true; the input reads as it did. -/
def fnExactFittingSetsSpec : ChangeSpec := { name := "fnExactFittingSets", fn := fun _ => fun
  | [d1, d2, d3, d4] => { results := [.lit (.bool true)], args := [d1, d2, d3, d4] }
  | _ => none }
def fnExactFittingSetsRow : OpenClaim := { program := "ytbghdbpaihkcjaadoor", sum := "5d4b5b0a0e291a8adb380e1715aae887bbb7e3255a2712c26ed913c05749e761", func := "loop.example/g01316/laws.FnExactFittingSets", spec := "fnExactFittingSets", inPlace := ["internal/bytealg.IndexByteString", "internal/bytealg.IndexString"], unfollowed := true, recurses := true, named := ["unicode/utf8.first", "unicode/utf8.acceptRanges", "internal/bytealg.MaxLen"], apart := false, laid := [("unicode/utf8.acceptRanges", laid_unicode_utf8_acceptRanges), ("unicode/utf8.first", laid_unicode_utf8_first)] }
def FnExactFittingSetsSaid : Prop := fnExactFittingSetsRow.holds Tryd.pinned (OpenSpec.ofChange fnExactFittingSetsSpec)

/-- ITS FALSE NEIGHBOUR: 'it returns false'. Refute it at one input. -/
def fnExactFittingSetsWrong : ChangeSpec := { name := "fnExactFittingSets", fn := fun _ => fun
  | [d1, d2, d3, d4] => { results := [.lit (.bool false)], args := [d1, d2, d3, d4] }
  | _ => none }
def FnExactFittingSetsWrongFalsely : Prop := fnExactFittingSetsRow.holds Tryd.pinned (OpenSpec.ofChange fnExactFittingSetsWrong)

/-- 'laws.FnExactSureWires': WHATEVER THE INPUT: true; the input reads as it did. -/
def fnExactSureWiresSpec : ChangeSpec := { name := "fnExactSureWires", fn := fun _ => fun
  | [d1, d2, d3, d4] => { results := [.lit (.bool true)], args := [d1, d2, d3, d4] }
  | _ => none }
def fnExactSureWiresRow : OpenClaim := { program := "ytbghdbpaihkcjaadoor", sum := "5d4b5b0a0e291a8adb380e1715aae887bbb7e3255a2712c26ed913c05749e761", func := "loop.example/g01316/laws.FnExactSureWires", spec := "fnExactSureWires", inPlace := ["internal/bytealg.IndexByteString", "internal/bytealg.IndexString"], unfollowed := true, recurses := true, named := ["unicode/utf8.first", "unicode/utf8.acceptRanges", "internal/bytealg.MaxLen"], apart := false, laid := [("unicode/utf8.acceptRanges", laid_unicode_utf8_acceptRanges), ("unicode/utf8.first", laid_unicode_utf8_first)] }
def FnExactSureWiresSaid : Prop := fnExactSureWiresRow.holds Tryd.pinned (OpenSpec.ofChange fnExactSureWiresSpec)

/-- ITS FALSE NEIGHBOUR: 'it returns false'. Refute it at one input. -/
def fnExactSureWiresWrong : ChangeSpec := { name := "fnExactSureWires", fn := fun _ => fun
  | [d1, d2, d3, d4] => { results := [.lit (.bool false)], args := [d1, d2, d3, d4] }
  | _ => none }
def FnExactSureWiresWrongFalsely : Prop := fnExactSureWiresRow.holds Tryd.pinned (OpenSpec.ofChange fnExactSureWiresWrong)

/-- 'laws.FnExactBestTest': WHATEVER THE INPUT: true; the input reads as it did. -/
def fnExactBestTestSpec : ChangeSpec := { name := "fnExactBestTest", fn := fun _ => fun
  | [d1, d2, d3, d4] => { results := [.lit (.bool true)], args := [d1, d2, d3, d4] }
  | _ => none }
def fnExactBestTestRow : OpenClaim := { program := "ytbghdbpaihkcjaadoor", sum := "5d4b5b0a0e291a8adb380e1715aae887bbb7e3255a2712c26ed913c05749e761", func := "loop.example/g01316/laws.FnExactBestTest", spec := "fnExactBestTest", inPlace := ["internal/bytealg.IndexByteString", "internal/bytealg.IndexString"], unfollowed := true, recurses := true, named := ["unicode/utf8.first", "unicode/utf8.acceptRanges", "internal/bytealg.MaxLen"], apart := false, laid := [("unicode/utf8.acceptRanges", laid_unicode_utf8_acceptRanges), ("unicode/utf8.first", laid_unicode_utf8_first)] }
def FnExactBestTestSaid : Prop := fnExactBestTestRow.holds Tryd.pinned (OpenSpec.ofChange fnExactBestTestSpec)

/-- ITS FALSE NEIGHBOUR: 'it returns false'. Refute it at one input. -/
def fnExactBestTestWrong : ChangeSpec := { name := "fnExactBestTest", fn := fun _ => fun
  | [d1, d2, d3, d4] => { results := [.lit (.bool false)], args := [d1, d2, d3, d4] }
  | _ => none }
def FnExactBestTestWrongFalsely : Prop := fnExactBestTestRow.holds Tryd.pinned (OpenSpec.ofChange fnExactBestTestWrong)

/- THE SECOND FORM. 'bulk': how many values and letters a reading holds, each counted each time it is reached (what is shared counts as often as it is met; a slice's spare places count too). A statement '..UptoSaid' is the law's where the arguments, and the package variables that the reading takes, are together of bulk at most 1048576: NARROWER than '..Said'. Prove '..Said' where nothing that the law and all that it calls make is longer than what came in: it says more and counts as full. Else prove '..UptoSaid'. A law counts once. -/
mutual
def uptoBulk {H : Type} : DataW H → Nat
  | .lit (.string bytes) => bytes.length + 1
  | .lit _ => 1
  | .nil => 1
  | .ptr d => uptoBulk d + 1
  | .slice elems spare => uptoBulkAll elems + uptoBulkAll spare + 1
  | .agg parts => uptoBulkAll parts + 1
  | .iface _ d => uptoBulk d + 1
  | .map entries => uptoBulkEntries entries + 1
  | .held _ => 1
def uptoBulkAll {H : Type} : List (DataW H) → Nat
  | [] => 0
  | d :: r => uptoBulk d + uptoBulkAll r
def uptoBulkEntries {H : Type} : List (Lit × DataW H) → Nat
  | [] => 0
  | x :: r => uptoBulkEntry x + uptoBulkEntries r
def uptoBulkEntry {H : Type} : Lit × DataW H → Nat
  | (.string bytes, d) => bytes.length + uptoBulk d + 1
  | (_, d) => uptoBulk d + 1
 end
def uptoSmall : (H : Type) → List (DataW H) → Bool := fun _ ds => decide (uptoBulkAll ds ≤ 1048576)
def OpenSpec.upto (s : _root_.Go.ChangeSpec) : _root_.Go.OpenSpec := { _root_.Go.OpenSpec.ofChange s with cond := some uptoSmall }

/-- 'laws.FnExactSuspectsOf', WHERE WHAT IT READS IS OF BULK AT MOST 1048576: true; the input reads as it did. -/
def fnExactSuspectsOfUptoRow : OpenClaim := { program := "ytbghdbpaihkcjaadoor", sum := "5d4b5b0a0e291a8adb380e1715aae887bbb7e3255a2712c26ed913c05749e761", func := "loop.example/g01316/laws.FnExactSuspectsOf", spec := "fnExactSuspectsOf", inPlace := ["internal/bytealg.IndexByteString", "internal/bytealg.IndexString"], unfollowed := true, recurses := true, named := ["unicode/utf8.first", "unicode/utf8.acceptRanges", "internal/bytealg.MaxLen"], apart := false, laid := [("unicode/utf8.acceptRanges", laid_unicode_utf8_acceptRanges), ("unicode/utf8.first", laid_unicode_utf8_first)], narrowed := true }
def FnExactSuspectsOfUptoSaid : Prop := fnExactSuspectsOfUptoRow.holds Tryd.pinned (OpenSpec.upto fnExactSuspectsOfSpec)

/-- 'laws.FnExactCountFitting', WHERE WHAT IT READS IS OF BULK AT MOST 1048576: true; the input reads as it did. -/
def fnExactCountFittingUptoRow : OpenClaim := { program := "ytbghdbpaihkcjaadoor", sum := "5d4b5b0a0e291a8adb380e1715aae887bbb7e3255a2712c26ed913c05749e761", func := "loop.example/g01316/laws.FnExactCountFitting", spec := "fnExactCountFitting", inPlace := ["internal/bytealg.IndexByteString", "internal/bytealg.IndexString"], unfollowed := true, recurses := true, named := ["unicode/utf8.first", "unicode/utf8.acceptRanges", "internal/bytealg.MaxLen"], apart := false, laid := [("unicode/utf8.acceptRanges", laid_unicode_utf8_acceptRanges), ("unicode/utf8.first", laid_unicode_utf8_first)], narrowed := true }
def FnExactCountFittingUptoSaid : Prop := fnExactCountFittingUptoRow.holds Tryd.pinned (OpenSpec.upto fnExactCountFittingSpec)

/-- 'laws.FnExactFittingSets', WHERE WHAT IT READS IS OF BULK AT MOST 1048576: true; the input reads as it did. -/
def fnExactFittingSetsUptoRow : OpenClaim := { program := "ytbghdbpaihkcjaadoor", sum := "5d4b5b0a0e291a8adb380e1715aae887bbb7e3255a2712c26ed913c05749e761", func := "loop.example/g01316/laws.FnExactFittingSets", spec := "fnExactFittingSets", inPlace := ["internal/bytealg.IndexByteString", "internal/bytealg.IndexString"], unfollowed := true, recurses := true, named := ["unicode/utf8.first", "unicode/utf8.acceptRanges", "internal/bytealg.MaxLen"], apart := false, laid := [("unicode/utf8.acceptRanges", laid_unicode_utf8_acceptRanges), ("unicode/utf8.first", laid_unicode_utf8_first)], narrowed := true }
def FnExactFittingSetsUptoSaid : Prop := fnExactFittingSetsUptoRow.holds Tryd.pinned (OpenSpec.upto fnExactFittingSetsSpec)

/-- 'laws.FnExactSureWires', WHERE WHAT IT READS IS OF BULK AT MOST 1048576: true; the input reads as it did. -/
def fnExactSureWiresUptoRow : OpenClaim := { program := "ytbghdbpaihkcjaadoor", sum := "5d4b5b0a0e291a8adb380e1715aae887bbb7e3255a2712c26ed913c05749e761", func := "loop.example/g01316/laws.FnExactSureWires", spec := "fnExactSureWires", inPlace := ["internal/bytealg.IndexByteString", "internal/bytealg.IndexString"], unfollowed := true, recurses := true, named := ["unicode/utf8.first", "unicode/utf8.acceptRanges", "internal/bytealg.MaxLen"], apart := false, laid := [("unicode/utf8.acceptRanges", laid_unicode_utf8_acceptRanges), ("unicode/utf8.first", laid_unicode_utf8_first)], narrowed := true }
def FnExactSureWiresUptoSaid : Prop := fnExactSureWiresUptoRow.holds Tryd.pinned (OpenSpec.upto fnExactSureWiresSpec)

/-- 'laws.FnExactBestTest', WHERE WHAT IT READS IS OF BULK AT MOST 1048576: true; the input reads as it did. -/
def fnExactBestTestUptoRow : OpenClaim := { program := "ytbghdbpaihkcjaadoor", sum := "5d4b5b0a0e291a8adb380e1715aae887bbb7e3255a2712c26ed913c05749e761", func := "loop.example/g01316/laws.FnExactBestTest", spec := "fnExactBestTest", inPlace := ["internal/bytealg.IndexByteString", "internal/bytealg.IndexString"], unfollowed := true, recurses := true, named := ["unicode/utf8.first", "unicode/utf8.acceptRanges", "internal/bytealg.MaxLen"], apart := false, laid := [("unicode/utf8.acceptRanges", laid_unicode_utf8_acceptRanges), ("unicode/utf8.first", laid_unicode_utf8_first)], narrowed := true }
def FnExactBestTestUptoSaid : Prop := fnExactBestTestUptoRow.holds Tryd.pinned (OpenSpec.upto fnExactBestTestSpec)

end Rows
end Go.Proofs.YtbghdbpaihkcjaaDoor
