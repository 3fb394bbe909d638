/-
  No cell of these rows narrows 'for every input' (looked for: loops, veiled, ifaces, maps, wideKeys, modest, calm, conditions, laid).
  DERIVED. THE GIVEN ROWS OF THIS SEAT. 6 by the template 'for every input the law returns true; each argument reads behind the call as it read before'; 0 by the template 'total and deterministic' (their statements: YthkoignldhocgacTotals.lean).
  GIVEN WITH THE SEED: the statements are not yours to turn. If you find one false, say at which input.
  Laid BY PROGRAM, IN A SANDBOX (cutbox-rows.mjs): the forced cells as the released guide's own fill.sh prints them over the translation 847e38983802277a… (all of the seat's roots in one cut). By AI agents, Wed Nov 11 2026. No macro, syntax, notation, axiom, sorry.
-/
import Derived.Test.YthkoignldhocgacChecked
import GoSem.Claim
import GoSem.ClaimJoined
import GoSem.ClaimMapViews
import Derived.JoinedTies
import Derived.KernelRfl
namespace Go.Proofs.Ythkoignldhocgac
/- THE CELL 'sum', in the pinned program and in every row, IS THE sha256 OF THE DUMP (.gsa) THAT YthkoignldhocgacProg.lean LOADS. Nothing in Lean hashes anything: it is a label: what it is worth is what the hold of that sum in a sandbox is worth. -/
noncomputable def Try.pinned : Pinned := { name := "ythkoignldhocgac", sum := "847e38983802277a0eae4e29f6eadd3d101f706cf02487aae2b23571b1ee160c", checked := Try.checked }
namespace Rows
def none {H : Type} : Left H := { results := [], args := [] }

/-- 'laws.FnExactAreSends': WHATEVER THE INPUT: true; the input reads as it did. -/
def fnExactAreSendsSpec : ChangeSpec := { name := "fnExactAreSends", fn := fun _ => fun
  | [d1, d2, d3] => { results := [.lit (.bool true)], args := [d1, d2, d3] }
  | _ => none }
def fnExactAreSendsRow : OpenClaim := { program := "ythkoignldhocgac", sum := "847e38983802277a0eae4e29f6eadd3d101f706cf02487aae2b23571b1ee160c", func := "loop.example/g01316/laws.FnExactAreSends", spec := "fnExactAreSends", unfollowed := true, recurses := true, apart := false }
def FnExactAreSendsSaid : Prop := fnExactAreSendsRow.holds Try.pinned (OpenSpec.ofChange fnExactAreSendsSpec)

/-- ITS FALSE NEIGHBOUR: 'it returns false'. Refute it at one input. -/
def fnExactAreSendsWrong : ChangeSpec := { name := "fnExactAreSends", fn := fun _ => fun
  | [d1, d2, d3] => { results := [.lit (.bool false)], args := [d1, d2, d3] }
  | _ => none }
def FnExactAreSendsWrongFalsely : Prop := fnExactAreSendsRow.holds Try.pinned (OpenSpec.ofChange fnExactAreSendsWrong)

/-- 'laws.FnExactStepsTo': WHATEVER THE INPUT: true; the input reads as it did. -/
def fnExactStepsToSpec : ChangeSpec := { name := "fnExactStepsTo", fn := fun _ => fun
  | [d1, d2, d3, d4] => { results := [.lit (.bool true)], args := [d1, d2, d3, d4] }
  | _ => none }
def fnExactStepsToRow : OpenClaim := { program := "ythkoignldhocgac", sum := "847e38983802277a0eae4e29f6eadd3d101f706cf02487aae2b23571b1ee160c", func := "loop.example/g01316/laws.FnExactStepsTo", spec := "fnExactStepsTo", unfollowed := true, recurses := true, apart := false }
def FnExactStepsToSaid : Prop := fnExactStepsToRow.holds Try.pinned (OpenSpec.ofChange fnExactStepsToSpec)

/-- ITS FALSE NEIGHBOUR: 'it returns false'. Refute it at one input. -/
def fnExactStepsToWrong : ChangeSpec := { name := "fnExactStepsTo", fn := fun _ => fun
  | [d1, d2, d3, d4] => { results := [.lit (.bool false)], args := [d1, d2, d3, d4] }
  | _ => none }
def FnExactStepsToWrongFalsely : Prop := fnExactStepsToRow.holds Try.pinned (OpenSpec.ofChange fnExactStepsToWrong)

/-- 'laws.FnExactArrivalsOf': WHATEVER THE INPUT: true; the input reads as it did. -/
def fnExactArrivalsOfSpec : ChangeSpec := { name := "fnExactArrivalsOf", fn := fun _ => fun
  | [d1, d2, d3] => { results := [.lit (.bool true)], args := [d1, d2, d3] }
  | _ => none }
def fnExactArrivalsOfRow : OpenClaim := { program := "ythkoignldhocgac", sum := "847e38983802277a0eae4e29f6eadd3d101f706cf02487aae2b23571b1ee160c", func := "loop.example/g01316/laws.FnExactArrivalsOf", spec := "fnExactArrivalsOf", unfollowed := true, recurses := true, apart := false }
def FnExactArrivalsOfSaid : Prop := fnExactArrivalsOfRow.holds Try.pinned (OpenSpec.ofChange fnExactArrivalsOfSpec)

/-- ITS FALSE NEIGHBOUR: 'it returns false'. Refute it at one input. -/
def fnExactArrivalsOfWrong : ChangeSpec := { name := "fnExactArrivalsOf", fn := fun _ => fun
  | [d1, d2, d3] => { results := [.lit (.bool false)], args := [d1, d2, d3] }
  | _ => none }
def FnExactArrivalsOfWrongFalsely : Prop := fnExactArrivalsOfRow.holds Try.pinned (OpenSpec.ofChange fnExactArrivalsOfWrong)

/-- 'laws.FnExactLastArrival': WHATEVER THE INPUT: true; the input reads as it did. -/
def fnExactLastArrivalSpec : ChangeSpec := { name := "fnExactLastArrival", fn := fun _ => fun
  | [d1, d2, d3] => { results := [.lit (.bool true)], args := [d1, d2, d3] }
  | _ => none }
def fnExactLastArrivalRow : OpenClaim := { program := "ythkoignldhocgac", sum := "847e38983802277a0eae4e29f6eadd3d101f706cf02487aae2b23571b1ee160c", func := "loop.example/g01316/laws.FnExactLastArrival", spec := "fnExactLastArrival", unfollowed := true, recurses := true, apart := false }
def FnExactLastArrivalSaid : Prop := fnExactLastArrivalRow.holds Try.pinned (OpenSpec.ofChange fnExactLastArrivalSpec)

/-- ITS FALSE NEIGHBOUR: 'it returns false'. Refute it at one input. -/
def fnExactLastArrivalWrong : ChangeSpec := { name := "fnExactLastArrival", fn := fun _ => fun
  | [d1, d2, d3] => { results := [.lit (.bool false)], args := [d1, d2, d3] }
  | _ => none }
def FnExactLastArrivalWrongFalsely : Prop := fnExactLastArrivalRow.holds Try.pinned (OpenSpec.ofChange fnExactLastArrivalWrong)

/-- 'laws.FnExactIdleMinutes': WHATEVER THE INPUT: true; the input reads as it did. -/
def fnExactIdleMinutesSpec : ChangeSpec := { name := "fnExactIdleMinutes", fn := fun _ => fun
  | [d1, d2, d3] => { results := [.lit (.bool true)], args := [d1, d2, d3] }
  | _ => none }
def fnExactIdleMinutesRow : OpenClaim := { program := "ythkoignldhocgac", sum := "847e38983802277a0eae4e29f6eadd3d101f706cf02487aae2b23571b1ee160c", func := "loop.example/g01316/laws.FnExactIdleMinutes", spec := "fnExactIdleMinutes", unfollowed := true, recurses := true, apart := false }
def FnExactIdleMinutesSaid : Prop := fnExactIdleMinutesRow.holds Try.pinned (OpenSpec.ofChange fnExactIdleMinutesSpec)

/-- ITS FALSE NEIGHBOUR: 'it returns false'. Refute it at one input. -/
def fnExactIdleMinutesWrong : ChangeSpec := { name := "fnExactIdleMinutes", fn := fun _ => fun
  | [d1, d2, d3] => { results := [.lit (.bool false)], args := [d1, d2, d3] }
  | _ => none }
def FnExactIdleMinutesWrongFalsely : Prop := fnExactIdleMinutesRow.holds Try.pinned (OpenSpec.ofChange fnExactIdleMinutesWrong)

/-- 'laws.FnExactLateBy': WHATEVER THE INPUT: true; the input reads as it did. -/
def fnExactLateBySpec : ChangeSpec := { name := "fnExactLateBy", fn := fun _ => fun
  | [d1, d2, d3] => { results := [.lit (.bool true)], args := [d1, d2, d3] }
  | _ => none }
def fnExactLateByRow : OpenClaim := { program := "ythkoignldhocgac", sum := "847e38983802277a0eae4e29f6eadd3d101f706cf02487aae2b23571b1ee160c", func := "loop.example/g01316/laws.FnExactLateBy", spec := "fnExactLateBy", unfollowed := true, recurses := true, apart := false }
def FnExactLateBySaid : Prop := fnExactLateByRow.holds Try.pinned (OpenSpec.ofChange fnExactLateBySpec)

/-- ITS FALSE NEIGHBOUR: 'it returns false'. Refute it at one input. -/
def fnExactLateByWrong : ChangeSpec := { name := "fnExactLateBy", fn := fun _ => fun
  | [d1, d2, d3] => { results := [.lit (.bool false)], args := [d1, d2, d3] }
  | _ => none }
def FnExactLateByWrongFalsely : Prop := fnExactLateByRow.holds Try.pinned (OpenSpec.ofChange fnExactLateByWrong)

/- THE SECOND FORM. 'bulk': how many values and letters a reading holds, each counted each time it is reached (what is shared counts as often as it is met; a slice's spare places count too). A statement '..UptoSaid' is the law's where the arguments, and the package variables that the reading takes, are together of bulk at most 1048576: NARROWER than '..Said'. Prove '..Said' where nothing that the law and all that it calls make is longer than what came in: it says more and counts as full. Else prove '..UptoSaid'. A law counts once. -/
mutual
def uptoBulk {H : Type} : DataW H → Nat
  | .lit (.string bytes) => bytes.length + 1
  | .lit _ => 1
  | .nil => 1
  | .ptr d => uptoBulk d + 1
  | .slice elems spare => uptoBulkAll elems + uptoBulkAll spare + 1
  | .agg parts => uptoBulkAll parts + 1
  | .iface _ d => uptoBulk d + 1
  | .map entries => uptoBulkEntries entries + 1
  | .held _ => 1
def uptoBulkAll {H : Type} : List (DataW H) → Nat
  | [] => 0
  | d :: r => uptoBulk d + uptoBulkAll r
def uptoBulkEntries {H : Type} : List (Lit × DataW H) → Nat
  | [] => 0
  | x :: r => uptoBulkEntry x + uptoBulkEntries r
def uptoBulkEntry {H : Type} : Lit × DataW H → Nat
  | (.string bytes, d) => bytes.length + uptoBulk d + 1
  | (_, d) => uptoBulk d + 1
 end
def uptoSmall : (H : Type) → List (DataW H) → Bool := fun _ ds => decide (uptoBulkAll ds ≤ 1048576)
def OpenSpec.upto (s : _root_.Go.ChangeSpec) : _root_.Go.OpenSpec := { _root_.Go.OpenSpec.ofChange s with cond := some uptoSmall }

/-- 'laws.FnExactAreSends', WHERE WHAT IT READS IS OF BULK AT MOST 1048576: true; the input reads as it did. -/
def fnExactAreSendsUptoRow : OpenClaim := { program := "ythkoignldhocgac", sum := "847e38983802277a0eae4e29f6eadd3d101f706cf02487aae2b23571b1ee160c", func := "loop.example/g01316/laws.FnExactAreSends", spec := "fnExactAreSends", unfollowed := true, recurses := true, apart := false, narrowed := true }
def FnExactAreSendsUptoSaid : Prop := fnExactAreSendsUptoRow.holds Try.pinned (OpenSpec.upto fnExactAreSendsSpec)

/-- 'laws.FnExactStepsTo', WHERE WHAT IT READS IS OF BULK AT MOST 1048576: true; the input reads as it did. -/
def fnExactStepsToUptoRow : OpenClaim := { program := "ythkoignldhocgac", sum := "847e38983802277a0eae4e29f6eadd3d101f706cf02487aae2b23571b1ee160c", func := "loop.example/g01316/laws.FnExactStepsTo", spec := "fnExactStepsTo", unfollowed := true, recurses := true, apart := false, narrowed := true }
def FnExactStepsToUptoSaid : Prop := fnExactStepsToUptoRow.holds Try.pinned (OpenSpec.upto fnExactStepsToSpec)

/-- 'laws.FnExactArrivalsOf', WHERE WHAT IT READS IS OF BULK AT MOST 1048576: true; the input reads as it did. -/
def fnExactArrivalsOfUptoRow : OpenClaim := { program := "ythkoignldhocgac", sum := "847e38983802277a0eae4e29f6eadd3d101f706cf02487aae2b23571b1ee160c", func := "loop.example/g01316/laws.FnExactArrivalsOf", spec := "fnExactArrivalsOf", unfollowed := true, recurses := true, apart := false, narrowed := true }
def FnExactArrivalsOfUptoSaid : Prop := fnExactArrivalsOfUptoRow.holds Try.pinned (OpenSpec.upto fnExactArrivalsOfSpec)

/-- 'laws.FnExactLastArrival', WHERE WHAT IT READS IS OF BULK AT MOST 1048576: true; the input reads as it did. -/
def fnExactLastArrivalUptoRow : OpenClaim := { program := "ythkoignldhocgac", sum := "847e38983802277a0eae4e29f6eadd3d101f706cf02487aae2b23571b1ee160c", func := "loop.example/g01316/laws.FnExactLastArrival", spec := "fnExactLastArrival", unfollowed := true, recurses := true, apart := false, narrowed := true }
def FnExactLastArrivalUptoSaid : Prop := fnExactLastArrivalUptoRow.holds Try.pinned (OpenSpec.upto fnExactLastArrivalSpec)

/-- 'laws.FnExactIdleMinutes', WHERE WHAT IT READS IS OF BULK AT MOST 1048576: true; the input reads as it did. -/
def fnExactIdleMinutesUptoRow : OpenClaim := { program := "ythkoignldhocgac", sum := "847e38983802277a0eae4e29f6eadd3d101f706cf02487aae2b23571b1ee160c", func := "loop.example/g01316/laws.FnExactIdleMinutes", spec := "fnExactIdleMinutes", unfollowed := true, recurses := true, apart := false, narrowed := true }
def FnExactIdleMinutesUptoSaid : Prop := fnExactIdleMinutesUptoRow.holds Try.pinned (OpenSpec.upto fnExactIdleMinutesSpec)

/-- 'laws.FnExactLateBy', WHERE WHAT IT READS IS OF BULK AT MOST 1048576: true; the input reads as it did. -/
def fnExactLateByUptoRow : OpenClaim := { program := "ythkoignldhocgac", sum := "847e38983802277a0eae4e29f6eadd3d101f706cf02487aae2b23571b1ee160c", func := "loop.example/g01316/laws.FnExactLateBy", spec := "fnExactLateBy", unfollowed := true, recurses := true, apart := false, narrowed := true }
def FnExactLateByUptoSaid : Prop := fnExactLateByUptoRow.holds Try.pinned (OpenSpec.upto fnExactLateBySpec)

end Rows
end Go.Proofs.Ythkoignldhocgac
