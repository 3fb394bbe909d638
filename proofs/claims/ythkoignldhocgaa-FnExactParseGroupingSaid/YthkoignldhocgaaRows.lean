/-
  No cell of these rows narrows 'for every input' (looked for: loops, veiled, ifaces, maps, wideKeys, modest, calm, conditions, laid).
  DERIVED. THE GIVEN ROWS OF THIS SEAT. 6 by the template 'for every input the law returns true; each argument reads behind the call as it read before'; 0 by the template 'total and deterministic' (their statements: YthkoignldhocgaaTotals.lean).
  GIVEN WITH THE SEED: the statements are not yours to turn. If you find one false, say at which input.
  Laid BY PROGRAM, IN A SANDBOX (cutbox-rows.mjs): the forced cells as the released guide's own fill.sh prints them over the translation f63117128be329bf… (all of the seat's roots in one cut). By AI agents, Wed Nov 11 2026. No macro, syntax, notation, axiom, sorry.
-/
import Derived.Test.YthkoignldhocgaaChecked
import GoSem.Claim
import GoSem.ClaimJoined
import GoSem.ClaimMapViews
import Derived.JoinedTies
import Derived.KernelRfl
namespace Go.Proofs.Ythkoignldhocgaa
/- THE CELL 'sum', in the pinned program and in every row, IS THE sha256 OF THE DUMP (.gsa) THAT YthkoignldhocgaaProg.lean LOADS. Nothing in Lean hashes anything: it is a label: what it is worth is what the hold of that sum in a sandbox is worth. -/
noncomputable def Try.pinned : Pinned := { name := "ythkoignldhocgaa", sum := "f63117128be329bf630842e3b314bc3071dd2ed94524a6b19a5c3c086d5c82d5", checked := Try.checked }
namespace Rows
def none {H : Type} : Left H := { results := [], args := [] }

/-- 'laws.FnExactParseGrouping': WHATEVER THE INPUT: true; the input reads as it did. -/
def fnExactParseGroupingSpec : ChangeSpec := { name := "fnExactParseGrouping", fn := fun _ => fun
  | [d] => { results := [.lit (.bool true)], args := [d] }
  | _ => none }
def fnExactParseGroupingRow : OpenClaim := { program := "ythkoignldhocgaa", sum := "f63117128be329bf630842e3b314bc3071dd2ed94524a6b19a5c3c086d5c82d5", func := "loop.example/g01316/laws.FnExactParseGrouping", spec := "fnExactParseGrouping", apart := false }
def FnExactParseGroupingSaid : Prop := fnExactParseGroupingRow.holds Try.pinned (OpenSpec.ofChange fnExactParseGroupingSpec)

/-- ITS FALSE NEIGHBOUR: 'it returns false'. Refute it at one input. -/
def fnExactParseGroupingWrong : ChangeSpec := { name := "fnExactParseGrouping", fn := fun _ => fun
  | [d] => { results := [.lit (.bool false)], args := [d] }
  | _ => none }
def FnExactParseGroupingWrongFalsely : Prop := fnExactParseGroupingRow.holds Try.pinned (OpenSpec.ofChange fnExactParseGroupingWrong)

/-- 'laws.FnExactFirstBySizes': WHATEVER THE INPUT: true; the input reads as it did. -/
def fnExactFirstBySizesSpec : ChangeSpec := { name := "fnExactFirstBySizes", fn := fun _ => fun
  | [d] => { results := [.lit (.bool true)], args := [d] }
  | _ => none }
def fnExactFirstBySizesRow : OpenClaim := { program := "ythkoignldhocgaa", sum := "f63117128be329bf630842e3b314bc3071dd2ed94524a6b19a5c3c086d5c82d5", func := "loop.example/g01316/laws.FnExactFirstBySizes", spec := "fnExactFirstBySizes", apart := false }
def FnExactFirstBySizesSaid : Prop := fnExactFirstBySizesRow.holds Try.pinned (OpenSpec.ofChange fnExactFirstBySizesSpec)

/-- ITS FALSE NEIGHBOUR: 'it returns false'. Refute it at one input. -/
def fnExactFirstBySizesWrong : ChangeSpec := { name := "fnExactFirstBySizes", fn := fun _ => fun
  | [d] => { results := [.lit (.bool false)], args := [d] }
  | _ => none }
def FnExactFirstBySizesWrongFalsely : Prop := fnExactFirstBySizesRow.holds Try.pinned (OpenSpec.ofChange fnExactFirstBySizesWrong)

/-- 'laws.FnExactGroupsOf': WHATEVER THE INPUT: true; the input reads as it did. -/
def fnExactGroupsOfSpec : ChangeSpec := { name := "fnExactGroupsOf", fn := fun _ => fun
  | [d] => { results := [.lit (.bool true)], args := [d] }
  | _ => none }
def fnExactGroupsOfRow : OpenClaim := { program := "ythkoignldhocgaa", sum := "f63117128be329bf630842e3b314bc3071dd2ed94524a6b19a5c3c086d5c82d5", func := "loop.example/g01316/laws.FnExactGroupsOf", spec := "fnExactGroupsOf", apart := false }
def FnExactGroupsOfSaid : Prop := fnExactGroupsOfRow.holds Try.pinned (OpenSpec.ofChange fnExactGroupsOfSpec)

/-- ITS FALSE NEIGHBOUR: 'it returns false'. Refute it at one input. -/
def fnExactGroupsOfWrong : ChangeSpec := { name := "fnExactGroupsOf", fn := fun _ => fun
  | [d] => { results := [.lit (.bool false)], args := [d] }
  | _ => none }
def FnExactGroupsOfWrongFalsely : Prop := fnExactGroupsOfRow.holds Try.pinned (OpenSpec.ofChange fnExactGroupsOfWrong)

/-- 'laws.FnExactTellsWires': WHATEVER THE INPUT: true; the input reads as it did. -/
def fnExactTellsWiresSpec : ChangeSpec := { name := "fnExactTellsWires", fn := fun _ => fun
  | [d1, d2] => { results := [.lit (.bool true)], args := [d1, d2] }
  | _ => none }
def fnExactTellsWiresRow : OpenClaim := { program := "ythkoignldhocgaa", sum := "f63117128be329bf630842e3b314bc3071dd2ed94524a6b19a5c3c086d5c82d5", func := "loop.example/g01316/laws.FnExactTellsWires", spec := "fnExactTellsWires", apart := false }
def FnExactTellsWiresSaid : Prop := fnExactTellsWiresRow.holds Try.pinned (OpenSpec.ofChange fnExactTellsWiresSpec)

/-- ITS FALSE NEIGHBOUR: 'it returns false'. Refute it at one input. -/
def fnExactTellsWiresWrong : ChangeSpec := { name := "fnExactTellsWires", fn := fun _ => fun
  | [d1, d2] => { results := [.lit (.bool false)], args := [d1, d2] }
  | _ => none }
def FnExactTellsWiresWrongFalsely : Prop := fnExactTellsWiresRow.holds Try.pinned (OpenSpec.ofChange fnExactTellsWiresWrong)

/-- 'laws.FnExactLabelsOf': WHATEVER THE INPUT: true; the input reads as it did. -/
def fnExactLabelsOfSpec : ChangeSpec := { name := "fnExactLabelsOf", fn := fun _ => fun
  | [d1, d2] => { results := [.lit (.bool true)], args := [d1, d2] }
  | _ => none }
def fnExactLabelsOfRow : OpenClaim := { program := "ythkoignldhocgaa", sum := "f63117128be329bf630842e3b314bc3071dd2ed94524a6b19a5c3c086d5c82d5", func := "loop.example/g01316/laws.FnExactLabelsOf", spec := "fnExactLabelsOf", apart := false }
def FnExactLabelsOfSaid : Prop := fnExactLabelsOfRow.holds Try.pinned (OpenSpec.ofChange fnExactLabelsOfSpec)

/-- ITS FALSE NEIGHBOUR: 'it returns false'. Refute it at one input. -/
def fnExactLabelsOfWrong : ChangeSpec := { name := "fnExactLabelsOf", fn := fun _ => fun
  | [d1, d2] => { results := [.lit (.bool false)], args := [d1, d2] }
  | _ => none }
def FnExactLabelsOfWrongFalsely : Prop := fnExactLabelsOfRow.holds Try.pinned (OpenSpec.ofChange fnExactLabelsOfWrong)

/-- 'laws.FnExactLikeWires': WHATEVER THE INPUT: true; the input reads as it did. -/
def fnExactLikeWiresSpec : ChangeSpec := { name := "fnExactLikeWires", fn := fun _ => fun
  | [d1, d2] => { results := [.lit (.bool true)], args := [d1, d2] }
  | _ => none }
def fnExactLikeWiresRow : OpenClaim := { program := "ythkoignldhocgaa", sum := "f63117128be329bf630842e3b314bc3071dd2ed94524a6b19a5c3c086d5c82d5", func := "loop.example/g01316/laws.FnExactLikeWires", spec := "fnExactLikeWires", unfollowed := true, recurses := true, apart := false }
def FnExactLikeWiresSaid : Prop := fnExactLikeWiresRow.holds Try.pinned (OpenSpec.ofChange fnExactLikeWiresSpec)

/-- ITS FALSE NEIGHBOUR: 'it returns false'. Refute it at one input. -/
def fnExactLikeWiresWrong : ChangeSpec := { name := "fnExactLikeWires", fn := fun _ => fun
  | [d1, d2] => { results := [.lit (.bool false)], args := [d1, d2] }
  | _ => none }
def FnExactLikeWiresWrongFalsely : Prop := fnExactLikeWiresRow.holds Try.pinned (OpenSpec.ofChange fnExactLikeWiresWrong)

/- THE SECOND FORM. 'bulk': how many values and letters a reading holds, each counted each time it is reached (what is shared counts as often as it is met; a slice's spare places count too). A statement '..UptoSaid' is the law's where the arguments, and the package variables that the reading takes, are together of bulk at most 1048576: NARROWER than '..Said'. Prove '..Said' where nothing that the law and all that it calls make is longer than what came in: it says more and counts as full. Else prove '..UptoSaid'. A law counts once. -/
mutual
def uptoBulk {H : Type} : DataW H → Nat
  | .lit (.string bytes) => bytes.length + 1
  | .lit _ => 1
  | .nil => 1
  | .ptr d => uptoBulk d + 1
  | .slice elems spare => uptoBulkAll elems + uptoBulkAll spare + 1
  | .agg parts => uptoBulkAll parts + 1
  | .iface _ d => uptoBulk d + 1
  | .map entries => uptoBulkEntries entries + 1
  | .held _ => 1
def uptoBulkAll {H : Type} : List (DataW H) → Nat
  | [] => 0
  | d :: r => uptoBulk d + uptoBulkAll r
def uptoBulkEntries {H : Type} : List (Lit × DataW H) → Nat
  | [] => 0
  | x :: r => uptoBulkEntry x + uptoBulkEntries r
def uptoBulkEntry {H : Type} : Lit × DataW H → Nat
  | (.string bytes, d) => bytes.length + uptoBulk d + 1
  | (_, d) => uptoBulk d + 1
 end
def uptoSmall : (H : Type) → List (DataW H) → Bool := fun _ ds => decide (uptoBulkAll ds ≤ 1048576)
def OpenSpec.upto (s : _root_.Go.ChangeSpec) : _root_.Go.OpenSpec := { _root_.Go.OpenSpec.ofChange s with cond := some uptoSmall }

/-- 'laws.FnExactParseGrouping', WHERE WHAT IT READS IS OF BULK AT MOST 1048576: true; the input reads as it did. -/
def fnExactParseGroupingUptoRow : OpenClaim := { program := "ythkoignldhocgaa", sum := "f63117128be329bf630842e3b314bc3071dd2ed94524a6b19a5c3c086d5c82d5", func := "loop.example/g01316/laws.FnExactParseGrouping", spec := "fnExactParseGrouping", apart := false, narrowed := true }
def FnExactParseGroupingUptoSaid : Prop := fnExactParseGroupingUptoRow.holds Try.pinned (OpenSpec.upto fnExactParseGroupingSpec)

/-- 'laws.FnExactFirstBySizes', WHERE WHAT IT READS IS OF BULK AT MOST 1048576: true; the input reads as it did. -/
def fnExactFirstBySizesUptoRow : OpenClaim := { program := "ythkoignldhocgaa", sum := "f63117128be329bf630842e3b314bc3071dd2ed94524a6b19a5c3c086d5c82d5", func := "loop.example/g01316/laws.FnExactFirstBySizes", spec := "fnExactFirstBySizes", apart := false, narrowed := true }
def FnExactFirstBySizesUptoSaid : Prop := fnExactFirstBySizesUptoRow.holds Try.pinned (OpenSpec.upto fnExactFirstBySizesSpec)

/-- 'laws.FnExactGroupsOf', WHERE WHAT IT READS IS OF BULK AT MOST 1048576: true; the input reads as it did. -/
def fnExactGroupsOfUptoRow : OpenClaim := { program := "ythkoignldhocgaa", sum := "f63117128be329bf630842e3b314bc3071dd2ed94524a6b19a5c3c086d5c82d5", func := "loop.example/g01316/laws.FnExactGroupsOf", spec := "fnExactGroupsOf", apart := false, narrowed := true }
def FnExactGroupsOfUptoSaid : Prop := fnExactGroupsOfUptoRow.holds Try.pinned (OpenSpec.upto fnExactGroupsOfSpec)

/-- 'laws.FnExactTellsWires', WHERE WHAT IT READS IS OF BULK AT MOST 1048576: true; the input reads as it did. -/
def fnExactTellsWiresUptoRow : OpenClaim := { program := "ythkoignldhocgaa", sum := "f63117128be329bf630842e3b314bc3071dd2ed94524a6b19a5c3c086d5c82d5", func := "loop.example/g01316/laws.FnExactTellsWires", spec := "fnExactTellsWires", apart := false, narrowed := true }
def FnExactTellsWiresUptoSaid : Prop := fnExactTellsWiresUptoRow.holds Try.pinned (OpenSpec.upto fnExactTellsWiresSpec)

/-- 'laws.FnExactLabelsOf', WHERE WHAT IT READS IS OF BULK AT MOST 1048576: true; the input reads as it did. -/
def fnExactLabelsOfUptoRow : OpenClaim := { program := "ythkoignldhocgaa", sum := "f63117128be329bf630842e3b314bc3071dd2ed94524a6b19a5c3c086d5c82d5", func := "loop.example/g01316/laws.FnExactLabelsOf", spec := "fnExactLabelsOf", apart := false, narrowed := true }
def FnExactLabelsOfUptoSaid : Prop := fnExactLabelsOfUptoRow.holds Try.pinned (OpenSpec.upto fnExactLabelsOfSpec)

/-- 'laws.FnExactLikeWires', WHERE WHAT IT READS IS OF BULK AT MOST 1048576: true; the input reads as it did. -/
def fnExactLikeWiresUptoRow : OpenClaim := { program := "ythkoignldhocgaa", sum := "f63117128be329bf630842e3b314bc3071dd2ed94524a6b19a5c3c086d5c82d5", func := "loop.example/g01316/laws.FnExactLikeWires", spec := "fnExactLikeWires", unfollowed := true, recurses := true, apart := false, narrowed := true }
def FnExactLikeWiresUptoSaid : Prop := fnExactLikeWiresUptoRow.holds Try.pinned (OpenSpec.upto fnExactLikeWiresSpec)

end Rows
end Go.Proofs.Ythkoignldhocgaa
