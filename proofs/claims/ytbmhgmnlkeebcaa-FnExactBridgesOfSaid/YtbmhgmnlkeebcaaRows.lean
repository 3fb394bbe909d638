/-
  No cell of these rows narrows 'for every input' (looked for: loops, veiled, ifaces, maps, wideKeys, modest, calm, conditions, laid).
  DERIVED. THE GIVEN ROWS OF THIS SEAT. 6 by the template 'for every input the law returns true; each argument reads behind the call as it read before'; 0 by the template 'total and deterministic' (their statements: YtbmhgmnlkeebcaaTotals.lean).
  GIVEN WITH THE SEED: the statements are not yours to turn. If you find one false, say at which input.
  Laid BY PROGRAM, IN A SANDBOX (cutbox-rows.mjs): the forced cells as the released guide's own fill.sh prints them over the translation 2e6116be4ebd00e1… (all of the seat's roots in one cut). By AI agents, Wed Nov 11 2026. No macro, syntax, notation, axiom, sorry.
-/
import Derived.Test.YtbmhgmnlkeebcaaChecked
import GoSem.Claim
import GoSem.ClaimJoined
import GoSem.ClaimMapViews
import Derived.JoinedTies
import Derived.KernelRfl
namespace Go.Proofs.Ytbmhgmnlkeebcaa
/- THE CELL 'sum', in the pinned program and in every row, IS THE sha256 OF THE DUMP (.gsa) THAT YtbmhgmnlkeebcaaProg.lean LOADS. Nothing in Lean hashes anything: it is a label: what it is worth is what the hold of that sum in a sandbox is worth. -/
noncomputable def Try.pinned : Pinned := { name := "ytbmhgmnlkeebcaa", sum := "2e6116be4ebd00e14de5f22b345ac8bbe9dd519365e8ea04238b494a052aea9a", checked := Try.checked }
namespace Rows
def none {H : Type} : Left H := { results := [], args := [] }

/-- 'laws.FnExactTreePlan': WHATEVER THE INPUT: true; the input reads as it did. -/
def fnExactTreePlanSpec : ChangeSpec := { name := "fnExactTreePlan", fn := fun _ => fun
  | [d1, d2] => { results := [.lit (.bool true)], args := [d1, d2] }
  | _ => none }
def fnExactTreePlanRow : OpenClaim := { program := "ytbmhgmnlkeebcaa", sum := "2e6116be4ebd00e14de5f22b345ac8bbe9dd519365e8ea04238b494a052aea9a", func := "loop.example/g01316/laws.FnExactTreePlan", spec := "fnExactTreePlan", apart := false }
def FnExactTreePlanSaid : Prop := fnExactTreePlanRow.holds Try.pinned (OpenSpec.ofChange fnExactTreePlanSpec)

/-- ITS FALSE NEIGHBOUR: 'it returns false'. Refute it at one input. -/
def fnExactTreePlanWrong : ChangeSpec := { name := "fnExactTreePlan", fn := fun _ => fun
  | [d1, d2] => { results := [.lit (.bool false)], args := [d1, d2] }
  | _ => none }
def FnExactTreePlanWrongFalsely : Prop := fnExactTreePlanRow.holds Try.pinned (OpenSpec.ofChange fnExactTreePlanWrong)

/-- 'laws.FnExactSquarePlan': WHATEVER THE INPUT: true; the input reads as it did. -/
def fnExactSquarePlanSpec : ChangeSpec := { name := "fnExactSquarePlan", fn := fun _ => fun
  | [d1, d2] => { results := [.lit (.bool true)], args := [d1, d2] }
  | _ => none }
def fnExactSquarePlanRow : OpenClaim := { program := "ytbmhgmnlkeebcaa", sum := "2e6116be4ebd00e14de5f22b345ac8bbe9dd519365e8ea04238b494a052aea9a", func := "loop.example/g01316/laws.FnExactSquarePlan", spec := "fnExactSquarePlan", apart := false }
def FnExactSquarePlanSaid : Prop := fnExactSquarePlanRow.holds Try.pinned (OpenSpec.ofChange fnExactSquarePlanSpec)

/-- ITS FALSE NEIGHBOUR: 'it returns false'. Refute it at one input. -/
def fnExactSquarePlanWrong : ChangeSpec := { name := "fnExactSquarePlan", fn := fun _ => fun
  | [d1, d2] => { results := [.lit (.bool false)], args := [d1, d2] }
  | _ => none }
def FnExactSquarePlanWrongFalsely : Prop := fnExactSquarePlanRow.holds Try.pinned (OpenSpec.ofChange fnExactSquarePlanWrong)

/-- 'laws.FnExactBridgesOf': WHATEVER THE INPUT: true; the input reads as it did. -/
def fnExactBridgesOfSpec : ChangeSpec := { name := "fnExactBridgesOf", fn := fun _ => fun
  | [d1, d2] => { results := [.lit (.bool true)], args := [d1, d2] }
  | _ => none }
def fnExactBridgesOfRow : OpenClaim := { program := "ytbmhgmnlkeebcaa", sum := "2e6116be4ebd00e14de5f22b345ac8bbe9dd519365e8ea04238b494a052aea9a", func := "loop.example/g01316/laws.FnExactBridgesOf", spec := "fnExactBridgesOf", apart := false }
def FnExactBridgesOfSaid : Prop := fnExactBridgesOfRow.holds Try.pinned (OpenSpec.ofChange fnExactBridgesOfSpec)

/-- ITS FALSE NEIGHBOUR: 'it returns false'. Refute it at one input. -/
def fnExactBridgesOfWrong : ChangeSpec := { name := "fnExactBridgesOf", fn := fun _ => fun
  | [d1, d2] => { results := [.lit (.bool false)], args := [d1, d2] }
  | _ => none }
def FnExactBridgesOfWrongFalsely : Prop := fnExactBridgesOfRow.holds Try.pinned (OpenSpec.ofChange fnExactBridgesOfWrong)

/-- 'laws.FnExactRenameWires': WHATEVER THE INPUT: true; the input reads as it did. -/
def fnExactRenameWiresSpec : ChangeSpec := { name := "fnExactRenameWires", fn := fun _ => fun
  | [d1, d2] => { results := [.lit (.bool true)], args := [d1, d2] }
  | _ => none }
def fnExactRenameWiresRow : OpenClaim := { program := "ytbmhgmnlkeebcaa", sum := "2e6116be4ebd00e14de5f22b345ac8bbe9dd519365e8ea04238b494a052aea9a", func := "loop.example/g01316/laws.FnExactRenameWires", spec := "fnExactRenameWires", unfollowed := true, recurses := true, apart := false }
def FnExactRenameWiresSaid : Prop := fnExactRenameWiresRow.holds Try.pinned (OpenSpec.ofChange fnExactRenameWiresSpec)

/-- ITS FALSE NEIGHBOUR: 'it returns false'. Refute it at one input. -/
def fnExactRenameWiresWrong : ChangeSpec := { name := "fnExactRenameWires", fn := fun _ => fun
  | [d1, d2] => { results := [.lit (.bool false)], args := [d1, d2] }
  | _ => none }
def FnExactRenameWiresWrongFalsely : Prop := fnExactRenameWiresRow.holds Try.pinned (OpenSpec.ofChange fnExactRenameWiresWrong)

/-- 'laws.FnExactAddPair': WHATEVER THE INPUT: true; the input reads as it did. -/
def fnExactAddPairSpec : ChangeSpec := { name := "fnExactAddPair", fn := fun _ => fun
  | [d1, d2, d3] => { results := [.lit (.bool true)], args := [d1, d2, d3] }
  | _ => none }
def fnExactAddPairRow : OpenClaim := { program := "ytbmhgmnlkeebcaa", sum := "2e6116be4ebd00e14de5f22b345ac8bbe9dd519365e8ea04238b494a052aea9a", func := "loop.example/g01316/laws.FnExactAddPair", spec := "fnExactAddPair", unfollowed := true, recurses := true, apart := false }
def FnExactAddPairSaid : Prop := fnExactAddPairRow.holds Try.pinned (OpenSpec.ofChange fnExactAddPairSpec)

/-- ITS FALSE NEIGHBOUR: 'it returns false'. Refute it at one input. -/
def fnExactAddPairWrong : ChangeSpec := { name := "fnExactAddPair", fn := fun _ => fun
  | [d1, d2, d3] => { results := [.lit (.bool false)], args := [d1, d2, d3] }
  | _ => none }
def FnExactAddPairWrongFalsely : Prop := fnExactAddPairRow.holds Try.pinned (OpenSpec.ofChange fnExactAddPairWrong)

/-- 'laws.FnExactInOrder': WHATEVER THE INPUT: true; the input reads as it did. -/
def fnExactInOrderSpec : ChangeSpec := { name := "fnExactInOrder", fn := fun _ => fun
  | [d1, d2, d3] => { results := [.lit (.bool true)], args := [d1, d2, d3] }
  | _ => none }
def fnExactInOrderRow : OpenClaim := { program := "ytbmhgmnlkeebcaa", sum := "2e6116be4ebd00e14de5f22b345ac8bbe9dd519365e8ea04238b494a052aea9a", func := "loop.example/g01316/laws.FnExactInOrder", spec := "fnExactInOrder", unfollowed := true, recurses := true, apart := false }
def FnExactInOrderSaid : Prop := fnExactInOrderRow.holds Try.pinned (OpenSpec.ofChange fnExactInOrderSpec)

/-- ITS FALSE NEIGHBOUR: 'it returns false'. Refute it at one input. -/
def fnExactInOrderWrong : ChangeSpec := { name := "fnExactInOrder", fn := fun _ => fun
  | [d1, d2, d3] => { results := [.lit (.bool false)], args := [d1, d2, d3] }
  | _ => none }
def FnExactInOrderWrongFalsely : Prop := fnExactInOrderRow.holds Try.pinned (OpenSpec.ofChange fnExactInOrderWrong)

/- THE SECOND FORM. 'bulk': how many values and letters a reading holds, each counted each time it is reached (what is shared counts as often as it is met; a slice's spare places count too). A statement '..UptoSaid' is the law's where the arguments, and the package variables that the reading takes, are together of bulk at most 1048576: NARROWER than '..Said'. Prove '..Said' where nothing that the law and all that it calls make is longer than what came in: it says more and counts as full. Else prove '..UptoSaid'. A law counts once. -/
mutual
def uptoBulk {H : Type} : DataW H → Nat
  | .lit (.string bytes) => bytes.length + 1
  | .lit _ => 1
  | .nil => 1
  | .ptr d => uptoBulk d + 1
  | .slice elems spare => uptoBulkAll elems + uptoBulkAll spare + 1
  | .agg parts => uptoBulkAll parts + 1
  | .iface _ d => uptoBulk d + 1
  | .map entries => uptoBulkEntries entries + 1
  | .held _ => 1
def uptoBulkAll {H : Type} : List (DataW H) → Nat
  | [] => 0
  | d :: r => uptoBulk d + uptoBulkAll r
def uptoBulkEntries {H : Type} : List (Lit × DataW H) → Nat
  | [] => 0
  | x :: r => uptoBulkEntry x + uptoBulkEntries r
def uptoBulkEntry {H : Type} : Lit × DataW H → Nat
  | (.string bytes, d) => bytes.length + uptoBulk d + 1
  | (_, d) => uptoBulk d + 1
 end
def uptoSmall : (H : Type) → List (DataW H) → Bool := fun _ ds => decide (uptoBulkAll ds ≤ 1048576)
def OpenSpec.upto (s : _root_.Go.ChangeSpec) : _root_.Go.OpenSpec := { _root_.Go.OpenSpec.ofChange s with cond := some uptoSmall }

/-- 'laws.FnExactTreePlan', WHERE WHAT IT READS IS OF BULK AT MOST 1048576: true; the input reads as it did. -/
def fnExactTreePlanUptoRow : OpenClaim := { program := "ytbmhgmnlkeebcaa", sum := "2e6116be4ebd00e14de5f22b345ac8bbe9dd519365e8ea04238b494a052aea9a", func := "loop.example/g01316/laws.FnExactTreePlan", spec := "fnExactTreePlan", apart := false, narrowed := true }
def FnExactTreePlanUptoSaid : Prop := fnExactTreePlanUptoRow.holds Try.pinned (OpenSpec.upto fnExactTreePlanSpec)

/-- 'laws.FnExactSquarePlan', WHERE WHAT IT READS IS OF BULK AT MOST 1048576: true; the input reads as it did. -/
def fnExactSquarePlanUptoRow : OpenClaim := { program := "ytbmhgmnlkeebcaa", sum := "2e6116be4ebd00e14de5f22b345ac8bbe9dd519365e8ea04238b494a052aea9a", func := "loop.example/g01316/laws.FnExactSquarePlan", spec := "fnExactSquarePlan", apart := false, narrowed := true }
def FnExactSquarePlanUptoSaid : Prop := fnExactSquarePlanUptoRow.holds Try.pinned (OpenSpec.upto fnExactSquarePlanSpec)

/-- 'laws.FnExactBridgesOf', WHERE WHAT IT READS IS OF BULK AT MOST 1048576: true; the input reads as it did. -/
def fnExactBridgesOfUptoRow : OpenClaim := { program := "ytbmhgmnlkeebcaa", sum := "2e6116be4ebd00e14de5f22b345ac8bbe9dd519365e8ea04238b494a052aea9a", func := "loop.example/g01316/laws.FnExactBridgesOf", spec := "fnExactBridgesOf", apart := false, narrowed := true }
def FnExactBridgesOfUptoSaid : Prop := fnExactBridgesOfUptoRow.holds Try.pinned (OpenSpec.upto fnExactBridgesOfSpec)

/-- 'laws.FnExactRenameWires', WHERE WHAT IT READS IS OF BULK AT MOST 1048576: true; the input reads as it did. -/
def fnExactRenameWiresUptoRow : OpenClaim := { program := "ytbmhgmnlkeebcaa", sum := "2e6116be4ebd00e14de5f22b345ac8bbe9dd519365e8ea04238b494a052aea9a", func := "loop.example/g01316/laws.FnExactRenameWires", spec := "fnExactRenameWires", unfollowed := true, recurses := true, apart := false, narrowed := true }
def FnExactRenameWiresUptoSaid : Prop := fnExactRenameWiresUptoRow.holds Try.pinned (OpenSpec.upto fnExactRenameWiresSpec)

/-- 'laws.FnExactAddPair', WHERE WHAT IT READS IS OF BULK AT MOST 1048576: true; the input reads as it did. -/
def fnExactAddPairUptoRow : OpenClaim := { program := "ytbmhgmnlkeebcaa", sum := "2e6116be4ebd00e14de5f22b345ac8bbe9dd519365e8ea04238b494a052aea9a", func := "loop.example/g01316/laws.FnExactAddPair", spec := "fnExactAddPair", unfollowed := true, recurses := true, apart := false, narrowed := true }
def FnExactAddPairUptoSaid : Prop := fnExactAddPairUptoRow.holds Try.pinned (OpenSpec.upto fnExactAddPairSpec)

/-- 'laws.FnExactInOrder', WHERE WHAT IT READS IS OF BULK AT MOST 1048576: true; the input reads as it did. -/
def fnExactInOrderUptoRow : OpenClaim := { program := "ytbmhgmnlkeebcaa", sum := "2e6116be4ebd00e14de5f22b345ac8bbe9dd519365e8ea04238b494a052aea9a", func := "loop.example/g01316/laws.FnExactInOrder", spec := "fnExactInOrder", unfollowed := true, recurses := true, apart := false, narrowed := true }
def FnExactInOrderUptoSaid : Prop := fnExactInOrderUptoRow.holds Try.pinned (OpenSpec.upto fnExactInOrderSpec)

end Rows
end Go.Proofs.Ytbmhgmnlkeebcaa
