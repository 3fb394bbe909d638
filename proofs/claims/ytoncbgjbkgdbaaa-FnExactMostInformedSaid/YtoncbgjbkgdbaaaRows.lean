/-
  No cell of these rows narrows 'for every input' (looked for: loops, veiled, ifaces, maps, wideKeys, modest, calm, conditions, laid).
  DERIVED. THE GIVEN ROWS OF THIS SEAT. 4 by the template 'for every input the law returns true; each argument reads behind the call as it read before'; 0 by the template 'total and deterministic' (their statements: YtoncbgjbkgdbaaaTotals.lean).
  GIVEN WITH THE SEED: the statements are not yours to turn. If you find one false, say at which input.
  Laid BY PROGRAM, IN A SANDBOX (cutbox-rows.mjs): the forced cells as the released guide's own fill.sh prints them over the translation 39f1eca7e71bdf9f… (all of the seat's roots in one cut). By AI agents, Wed Nov 11 2026. No macro, syntax, notation, axiom, sorry.
-/
import Derived.Test.YtoncbgjbkgdbaaaChecked
import GoSem.Claim
import GoSem.ClaimJoined
import GoSem.ClaimMapViews
import Derived.JoinedTies
import Derived.KernelRfl
namespace Go.Proofs.Ytoncbgjbkgdbaaa
/- THE CELL 'sum', in the pinned program and in every row, IS THE sha256 OF THE DUMP (.gsa) THAT YtoncbgjbkgdbaaaProg.lean LOADS. Nothing in Lean hashes anything: it is a label: what it is worth is what the hold of that sum in a sandbox is worth. -/
noncomputable def Try.pinned : Pinned := { name := "ytoncbgjbkgdbaaa", sum := "39f1eca7e71bdf9fa85c40dd294b937a29027ec8c1c09f87202d09476e7fe1d5", checked := Try.checked }
namespace Rows
def none {H : Type} : Left H := { results := [], args := [] }

/-- 'laws.FnExactMostInformed': WHATEVER THE INPUT: true; the input reads as it did. -/
def fnExactMostInformedSpec : ChangeSpec := { name := "fnExactMostInformed", fn := fun _ => fun
  | [d1, d2, d3, d4] => { results := [.lit (.bool true)], args := [d1, d2, d3, d4] }
  | _ => none }
def fnExactMostInformedRow : OpenClaim := { program := "ytoncbgjbkgdbaaa", sum := "39f1eca7e71bdf9fa85c40dd294b937a29027ec8c1c09f87202d09476e7fe1d5", func := "loop.example/g01316/laws.FnExactMostInformed", spec := "fnExactMostInformed", unfollowed := true, recurses := true, apart := false }
def FnExactMostInformedSaid : Prop := fnExactMostInformedRow.holds Try.pinned (OpenSpec.ofChange fnExactMostInformedSpec)

/-- ITS FALSE NEIGHBOUR: 'it returns false'. Refute it at one input. -/
def fnExactMostInformedWrong : ChangeSpec := { name := "fnExactMostInformed", fn := fun _ => fun
  | [d1, d2, d3, d4] => { results := [.lit (.bool false)], args := [d1, d2, d3, d4] }
  | _ => none }
def FnExactMostInformedWrongFalsely : Prop := fnExactMostInformedRow.holds Try.pinned (OpenSpec.ofChange fnExactMostInformedWrong)

/-- 'laws.FnExactCentersOf': WHATEVER THE INPUT: true; the input reads as it did. -/
def fnExactCentersOfSpec : ChangeSpec := { name := "fnExactCentersOf", fn := fun _ => fun
  | [d1, d2] => { results := [.lit (.bool true)], args := [d1, d2] }
  | _ => none }
def fnExactCentersOfRow : OpenClaim := { program := "ytoncbgjbkgdbaaa", sum := "39f1eca7e71bdf9fa85c40dd294b937a29027ec8c1c09f87202d09476e7fe1d5", func := "loop.example/g01316/laws.FnExactCentersOf", spec := "fnExactCentersOf", unfollowed := true, recurses := true, apart := false }
def FnExactCentersOfSaid : Prop := fnExactCentersOfRow.holds Try.pinned (OpenSpec.ofChange fnExactCentersOfSpec)

/-- ITS FALSE NEIGHBOUR: 'it returns false'. Refute it at one input. -/
def fnExactCentersOfWrong : ChangeSpec := { name := "fnExactCentersOf", fn := fun _ => fun
  | [d1, d2] => { results := [.lit (.bool false)], args := [d1, d2] }
  | _ => none }
def FnExactCentersOfWrongFalsely : Prop := fnExactCentersOfRow.holds Try.pinned (OpenSpec.ofChange fnExactCentersOfWrong)

/-- 'laws.FnExactFirstSpread': WHATEVER THE INPUT: true; the input reads as it did. -/
def fnExactFirstSpreadSpec : ChangeSpec := { name := "fnExactFirstSpread", fn := fun _ => fun
  | [d1, d2, d3] => { results := [.lit (.bool true)], args := [d1, d2, d3] }
  | _ => none }
def fnExactFirstSpreadRow : OpenClaim := { program := "ytoncbgjbkgdbaaa", sum := "39f1eca7e71bdf9fa85c40dd294b937a29027ec8c1c09f87202d09476e7fe1d5", func := "loop.example/g01316/laws.FnExactFirstSpread", spec := "fnExactFirstSpread", unfollowed := true, recurses := true, apart := false }
def FnExactFirstSpreadSaid : Prop := fnExactFirstSpreadRow.holds Try.pinned (OpenSpec.ofChange fnExactFirstSpreadSpec)

/-- ITS FALSE NEIGHBOUR: 'it returns false'. Refute it at one input. -/
def fnExactFirstSpreadWrong : ChangeSpec := { name := "fnExactFirstSpread", fn := fun _ => fun
  | [d1, d2, d3] => { results := [.lit (.bool false)], args := [d1, d2, d3] }
  | _ => none }
def FnExactFirstSpreadWrongFalsely : Prop := fnExactFirstSpreadRow.holds Try.pinned (OpenSpec.ofChange fnExactFirstSpreadWrong)

/-- 'laws.FnExactRenameWires': WHATEVER THE INPUT: true; the input reads as it did. -/
def fnExactRenameWiresSpec : ChangeSpec := { name := "fnExactRenameWires", fn := fun _ => fun
  | [d1, d2] => { results := [.lit (.bool true)], args := [d1, d2] }
  | _ => none }
def fnExactRenameWiresRow : OpenClaim := { program := "ytoncbgjbkgdbaaa", sum := "39f1eca7e71bdf9fa85c40dd294b937a29027ec8c1c09f87202d09476e7fe1d5", func := "loop.example/g01316/laws.FnExactRenameWires", spec := "fnExactRenameWires", unfollowed := true, recurses := true, apart := false }
def FnExactRenameWiresSaid : Prop := fnExactRenameWiresRow.holds Try.pinned (OpenSpec.ofChange fnExactRenameWiresSpec)

/-- ITS FALSE NEIGHBOUR: 'it returns false'. Refute it at one input. -/
def fnExactRenameWiresWrong : ChangeSpec := { name := "fnExactRenameWires", fn := fun _ => fun
  | [d1, d2] => { results := [.lit (.bool false)], args := [d1, d2] }
  | _ => none }
def FnExactRenameWiresWrongFalsely : Prop := fnExactRenameWiresRow.holds Try.pinned (OpenSpec.ofChange fnExactRenameWiresWrong)

/- THE SECOND FORM. 'bulk': how many values and letters a reading holds, each counted each time it is reached (what is shared counts as often as it is met; a slice's spare places count too). A statement '..UptoSaid' is the law's where the arguments, and the package variables that the reading takes, are together of bulk at most 1048576: NARROWER than '..Said'. Prove '..Said' where nothing that the law and all that it calls make is longer than what came in: it says more and counts as full. Else prove '..UptoSaid'. A law counts once. -/
mutual
def uptoBulk {H : Type} : DataW H → Nat
  | .lit (.string bytes) => bytes.length + 1
  | .lit _ => 1
  | .nil => 1
  | .ptr d => uptoBulk d + 1
  | .slice elems spare => uptoBulkAll elems + uptoBulkAll spare + 1
  | .agg parts => uptoBulkAll parts + 1
  | .iface _ d => uptoBulk d + 1
  | .map entries => uptoBulkEntries entries + 1
  | .held _ => 1
def uptoBulkAll {H : Type} : List (DataW H) → Nat
  | [] => 0
  | d :: r => uptoBulk d + uptoBulkAll r
def uptoBulkEntries {H : Type} : List (Lit × DataW H) → Nat
  | [] => 0
  | x :: r => uptoBulkEntry x + uptoBulkEntries r
def uptoBulkEntry {H : Type} : Lit × DataW H → Nat
  | (.string bytes, d) => bytes.length + uptoBulk d + 1
  | (_, d) => uptoBulk d + 1
 end
def uptoSmall : (H : Type) → List (DataW H) → Bool := fun _ ds => decide (uptoBulkAll ds ≤ 1048576)
def OpenSpec.upto (s : _root_.Go.ChangeSpec) : _root_.Go.OpenSpec := { _root_.Go.OpenSpec.ofChange s with cond := some uptoSmall }

/-- 'laws.FnExactMostInformed', WHERE WHAT IT READS IS OF BULK AT MOST 1048576: true; the input reads as it did. -/
def fnExactMostInformedUptoRow : OpenClaim := { program := "ytoncbgjbkgdbaaa", sum := "39f1eca7e71bdf9fa85c40dd294b937a29027ec8c1c09f87202d09476e7fe1d5", func := "loop.example/g01316/laws.FnExactMostInformed", spec := "fnExactMostInformed", unfollowed := true, recurses := true, apart := false, narrowed := true }
def FnExactMostInformedUptoSaid : Prop := fnExactMostInformedUptoRow.holds Try.pinned (OpenSpec.upto fnExactMostInformedSpec)

/-- 'laws.FnExactCentersOf', WHERE WHAT IT READS IS OF BULK AT MOST 1048576: true; the input reads as it did. -/
def fnExactCentersOfUptoRow : OpenClaim := { program := "ytoncbgjbkgdbaaa", sum := "39f1eca7e71bdf9fa85c40dd294b937a29027ec8c1c09f87202d09476e7fe1d5", func := "loop.example/g01316/laws.FnExactCentersOf", spec := "fnExactCentersOf", unfollowed := true, recurses := true, apart := false, narrowed := true }
def FnExactCentersOfUptoSaid : Prop := fnExactCentersOfUptoRow.holds Try.pinned (OpenSpec.upto fnExactCentersOfSpec)

/-- 'laws.FnExactFirstSpread', WHERE WHAT IT READS IS OF BULK AT MOST 1048576: true; the input reads as it did. -/
def fnExactFirstSpreadUptoRow : OpenClaim := { program := "ytoncbgjbkgdbaaa", sum := "39f1eca7e71bdf9fa85c40dd294b937a29027ec8c1c09f87202d09476e7fe1d5", func := "loop.example/g01316/laws.FnExactFirstSpread", spec := "fnExactFirstSpread", unfollowed := true, recurses := true, apart := false, narrowed := true }
def FnExactFirstSpreadUptoSaid : Prop := fnExactFirstSpreadUptoRow.holds Try.pinned (OpenSpec.upto fnExactFirstSpreadSpec)

/-- 'laws.FnExactRenameWires', WHERE WHAT IT READS IS OF BULK AT MOST 1048576: true; the input reads as it did. -/
def fnExactRenameWiresUptoRow : OpenClaim := { program := "ytoncbgjbkgdbaaa", sum := "39f1eca7e71bdf9fa85c40dd294b937a29027ec8c1c09f87202d09476e7fe1d5", func := "loop.example/g01316/laws.FnExactRenameWires", spec := "fnExactRenameWires", unfollowed := true, recurses := true, apart := false, narrowed := true }
def FnExactRenameWiresUptoSaid : Prop := fnExactRenameWiresUptoRow.holds Try.pinned (OpenSpec.upto fnExactRenameWiresSpec)

end Rows
end Go.Proofs.Ytoncbgjbkgdbaaa
