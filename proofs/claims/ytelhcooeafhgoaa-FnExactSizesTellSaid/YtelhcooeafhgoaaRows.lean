/-
  No cell of these rows narrows 'for every input' (looked for: loops, veiled, ifaces, maps, wideKeys, modest, calm, conditions, laid).
  DERIVED. THE GIVEN ROWS OF THIS SEAT. 6 by the template 'for every input the law returns true; each argument reads behind the call as it read before'; 0 by the template 'total and deterministic' (their statements: YtelhcooeafhgoaaTotals.lean).
  GIVEN WITH THE SEED: the statements are not yours to turn. If you find one false, say at which input.
  Laid BY PROGRAM, IN A SANDBOX (cutbox-rows.mjs): the forced cells as the released guide's own fill.sh prints them over the translation 7bb23296a7c7ca1f… (all of the seat's roots in one cut). By AI agents, Wed Nov 11 2026. No macro, syntax, notation, axiom, sorry.
-/
import Derived.Test.YtelhcooeafhgoaaChecked
import GoSem.Claim
import GoSem.ClaimJoined
import GoSem.ClaimMapViews
import Derived.JoinedTies
import Derived.KernelRfl
namespace Go.Proofs.Ytelhcooeafhgoaa
/- THE CELL 'sum', in the pinned program and in every row, IS THE sha256 OF THE DUMP (.gsa) THAT YtelhcooeafhgoaaProg.lean LOADS. Nothing in Lean hashes anything: it is a label: what it is worth is what the hold of that sum in a sandbox is worth. -/
noncomputable def Try.pinned : Pinned := { name := "ytelhcooeafhgoaa", sum := "7bb23296a7c7ca1f70082f6d7b57daf068f635c143a9b1a4a7c1b93cbbdceb71", checked := Try.checked }
namespace Rows
def none {H : Type} : Left H := { results := [], args := [] }

/-- 'laws.FnExactFirstPartner': WHATEVER THE INPUT: true; the input reads as it did. -/
def fnExactFirstPartnerSpec : ChangeSpec := { name := "fnExactFirstPartner", fn := fun _ => fun
  | [d] => { results := [.lit (.bool true)], args := [d] }
  | _ => none }
def fnExactFirstPartnerRow : OpenClaim := { program := "ytelhcooeafhgoaa", sum := "7bb23296a7c7ca1f70082f6d7b57daf068f635c143a9b1a4a7c1b93cbbdceb71", func := "loop.example/g01316/laws.FnExactFirstPartner", spec := "fnExactFirstPartner", unfollowed := true, recurses := true, apart := false }
def FnExactFirstPartnerSaid : Prop := fnExactFirstPartnerRow.holds Try.pinned (OpenSpec.ofChange fnExactFirstPartnerSpec)

/-- ITS FALSE NEIGHBOUR: 'it returns false'. Refute it at one input. -/
def fnExactFirstPartnerWrong : ChangeSpec := { name := "fnExactFirstPartner", fn := fun _ => fun
  | [d] => { results := [.lit (.bool false)], args := [d] }
  | _ => none }
def FnExactFirstPartnerWrongFalsely : Prop := fnExactFirstPartnerRow.holds Try.pinned (OpenSpec.ofChange fnExactFirstPartnerWrong)

/-- 'laws.FnExactSizesTell': WHATEVER THE INPUT: true; the input reads as it did. -/
def fnExactSizesTellSpec : ChangeSpec := { name := "fnExactSizesTell", fn := fun _ => fun
  | [d1, d2, d3] => { results := [.lit (.bool true)], args := [d1, d2, d3] }
  | _ => none }
def fnExactSizesTellRow : OpenClaim := { program := "ytelhcooeafhgoaa", sum := "7bb23296a7c7ca1f70082f6d7b57daf068f635c143a9b1a4a7c1b93cbbdceb71", func := "loop.example/g01316/laws.FnExactSizesTell", spec := "fnExactSizesTell", unfollowed := true, recurses := true, apart := false }
def FnExactSizesTellSaid : Prop := fnExactSizesTellRow.holds Try.pinned (OpenSpec.ofChange fnExactSizesTellSpec)

/-- ITS FALSE NEIGHBOUR: 'it returns false'. Refute it at one input. -/
def fnExactSizesTellWrong : ChangeSpec := { name := "fnExactSizesTell", fn := fun _ => fun
  | [d1, d2, d3] => { results := [.lit (.bool false)], args := [d1, d2, d3] }
  | _ => none }
def FnExactSizesTellWrongFalsely : Prop := fnExactSizesTellRow.holds Try.pinned (OpenSpec.ofChange fnExactSizesTellWrong)

/-- 'laws.FnExactSentBy': WHATEVER THE INPUT: true; the input reads as it did. -/
def fnExactSentBySpec : ChangeSpec := { name := "fnExactSentBy", fn := fun _ => fun
  | [d1, d2, d3, d4] => { results := [.lit (.bool true)], args := [d1, d2, d3, d4] }
  | _ => none }
def fnExactSentByRow : OpenClaim := { program := "ytelhcooeafhgoaa", sum := "7bb23296a7c7ca1f70082f6d7b57daf068f635c143a9b1a4a7c1b93cbbdceb71", func := "loop.example/g01316/laws.FnExactSentBy", spec := "fnExactSentBy", unfollowed := true, recurses := true, apart := false }
def FnExactSentBySaid : Prop := fnExactSentByRow.holds Try.pinned (OpenSpec.ofChange fnExactSentBySpec)

/-- ITS FALSE NEIGHBOUR: 'it returns false'. Refute it at one input. -/
def fnExactSentByWrong : ChangeSpec := { name := "fnExactSentBy", fn := fun _ => fun
  | [d1, d2, d3, d4] => { results := [.lit (.bool false)], args := [d1, d2, d3, d4] }
  | _ => none }
def FnExactSentByWrongFalsely : Prop := fnExactSentByRow.holds Try.pinned (OpenSpec.ofChange fnExactSentByWrong)

/-- 'laws.FnExactMostInformed': WHATEVER THE INPUT: true; the input reads as it did. -/
def fnExactMostInformedSpec : ChangeSpec := { name := "fnExactMostInformed", fn := fun _ => fun
  | [d1, d2, d3, d4] => { results := [.lit (.bool true)], args := [d1, d2, d3, d4] }
  | _ => none }
def fnExactMostInformedRow : OpenClaim := { program := "ytelhcooeafhgoaa", sum := "7bb23296a7c7ca1f70082f6d7b57daf068f635c143a9b1a4a7c1b93cbbdceb71", func := "loop.example/g01316/laws.FnExactMostInformed", spec := "fnExactMostInformed", unfollowed := true, recurses := true, apart := false }
def FnExactMostInformedSaid : Prop := fnExactMostInformedRow.holds Try.pinned (OpenSpec.ofChange fnExactMostInformedSpec)

/-- ITS FALSE NEIGHBOUR: 'it returns false'. Refute it at one input. -/
def fnExactMostInformedWrong : ChangeSpec := { name := "fnExactMostInformed", fn := fun _ => fun
  | [d1, d2, d3, d4] => { results := [.lit (.bool false)], args := [d1, d2, d3, d4] }
  | _ => none }
def FnExactMostInformedWrongFalsely : Prop := fnExactMostInformedRow.holds Try.pinned (OpenSpec.ofChange fnExactMostInformedWrong)

/-- 'laws.FnExactCentersOf': WHATEVER THE INPUT: true; the input reads as it did. -/
def fnExactCentersOfSpec : ChangeSpec := { name := "fnExactCentersOf", fn := fun _ => fun
  | [d1, d2] => { results := [.lit (.bool true)], args := [d1, d2] }
  | _ => none }
def fnExactCentersOfRow : OpenClaim := { program := "ytelhcooeafhgoaa", sum := "7bb23296a7c7ca1f70082f6d7b57daf068f635c143a9b1a4a7c1b93cbbdceb71", func := "loop.example/g01316/laws.FnExactCentersOf", spec := "fnExactCentersOf", unfollowed := true, recurses := true, apart := false }
def FnExactCentersOfSaid : Prop := fnExactCentersOfRow.holds Try.pinned (OpenSpec.ofChange fnExactCentersOfSpec)

/-- ITS FALSE NEIGHBOUR: 'it returns false'. Refute it at one input. -/
def fnExactCentersOfWrong : ChangeSpec := { name := "fnExactCentersOf", fn := fun _ => fun
  | [d1, d2] => { results := [.lit (.bool false)], args := [d1, d2] }
  | _ => none }
def FnExactCentersOfWrongFalsely : Prop := fnExactCentersOfRow.holds Try.pinned (OpenSpec.ofChange fnExactCentersOfWrong)

/-- 'laws.FnExactFirstSpread': WHATEVER THE INPUT: true; the input reads as it did. -/
def fnExactFirstSpreadSpec : ChangeSpec := { name := "fnExactFirstSpread", fn := fun _ => fun
  | [d1, d2, d3] => { results := [.lit (.bool true)], args := [d1, d2, d3] }
  | _ => none }
def fnExactFirstSpreadRow : OpenClaim := { program := "ytelhcooeafhgoaa", sum := "7bb23296a7c7ca1f70082f6d7b57daf068f635c143a9b1a4a7c1b93cbbdceb71", func := "loop.example/g01316/laws.FnExactFirstSpread", spec := "fnExactFirstSpread", unfollowed := true, recurses := true, apart := false }
def FnExactFirstSpreadSaid : Prop := fnExactFirstSpreadRow.holds Try.pinned (OpenSpec.ofChange fnExactFirstSpreadSpec)

/-- ITS FALSE NEIGHBOUR: 'it returns false'. Refute it at one input. -/
def fnExactFirstSpreadWrong : ChangeSpec := { name := "fnExactFirstSpread", fn := fun _ => fun
  | [d1, d2, d3] => { results := [.lit (.bool false)], args := [d1, d2, d3] }
  | _ => none }
def FnExactFirstSpreadWrongFalsely : Prop := fnExactFirstSpreadRow.holds Try.pinned (OpenSpec.ofChange fnExactFirstSpreadWrong)

/- THE SECOND FORM. 'bulk': how many values and letters a reading holds, each counted each time it is reached (what is shared counts as often as it is met; a slice's spare places count too). A statement '..UptoSaid' is the law's where the arguments, and the package variables that the reading takes, are together of bulk at most 1048576: NARROWER than '..Said'. Prove '..Said' where nothing that the law and all that it calls make is longer than what came in: it says more and counts as full. Else prove '..UptoSaid'. A law counts once. -/
mutual
def uptoBulk {H : Type} : DataW H → Nat
  | .lit (.string bytes) => bytes.length + 1
  | .lit _ => 1
  | .nil => 1
  | .ptr d => uptoBulk d + 1
  | .slice elems spare => uptoBulkAll elems + uptoBulkAll spare + 1
  | .agg parts => uptoBulkAll parts + 1
  | .iface _ d => uptoBulk d + 1
  | .map entries => uptoBulkEntries entries + 1
  | .held _ => 1
def uptoBulkAll {H : Type} : List (DataW H) → Nat
  | [] => 0
  | d :: r => uptoBulk d + uptoBulkAll r
def uptoBulkEntries {H : Type} : List (Lit × DataW H) → Nat
  | [] => 0
  | x :: r => uptoBulkEntry x + uptoBulkEntries r
def uptoBulkEntry {H : Type} : Lit × DataW H → Nat
  | (.string bytes, d) => bytes.length + uptoBulk d + 1
  | (_, d) => uptoBulk d + 1
 end
def uptoSmall : (H : Type) → List (DataW H) → Bool := fun _ ds => decide (uptoBulkAll ds ≤ 1048576)
def OpenSpec.upto (s : _root_.Go.ChangeSpec) : _root_.Go.OpenSpec := { _root_.Go.OpenSpec.ofChange s with cond := some uptoSmall }

/-- 'laws.FnExactFirstPartner', WHERE WHAT IT READS IS OF BULK AT MOST 1048576: true; the input reads as it did. -/
def fnExactFirstPartnerUptoRow : OpenClaim := { program := "ytelhcooeafhgoaa", sum := "7bb23296a7c7ca1f70082f6d7b57daf068f635c143a9b1a4a7c1b93cbbdceb71", func := "loop.example/g01316/laws.FnExactFirstPartner", spec := "fnExactFirstPartner", unfollowed := true, recurses := true, apart := false, narrowed := true }
def FnExactFirstPartnerUptoSaid : Prop := fnExactFirstPartnerUptoRow.holds Try.pinned (OpenSpec.upto fnExactFirstPartnerSpec)

/-- 'laws.FnExactSizesTell', WHERE WHAT IT READS IS OF BULK AT MOST 1048576: true; the input reads as it did. -/
def fnExactSizesTellUptoRow : OpenClaim := { program := "ytelhcooeafhgoaa", sum := "7bb23296a7c7ca1f70082f6d7b57daf068f635c143a9b1a4a7c1b93cbbdceb71", func := "loop.example/g01316/laws.FnExactSizesTell", spec := "fnExactSizesTell", unfollowed := true, recurses := true, apart := false, narrowed := true }
def FnExactSizesTellUptoSaid : Prop := fnExactSizesTellUptoRow.holds Try.pinned (OpenSpec.upto fnExactSizesTellSpec)

/-- 'laws.FnExactSentBy', WHERE WHAT IT READS IS OF BULK AT MOST 1048576: true; the input reads as it did. -/
def fnExactSentByUptoRow : OpenClaim := { program := "ytelhcooeafhgoaa", sum := "7bb23296a7c7ca1f70082f6d7b57daf068f635c143a9b1a4a7c1b93cbbdceb71", func := "loop.example/g01316/laws.FnExactSentBy", spec := "fnExactSentBy", unfollowed := true, recurses := true, apart := false, narrowed := true }
def FnExactSentByUptoSaid : Prop := fnExactSentByUptoRow.holds Try.pinned (OpenSpec.upto fnExactSentBySpec)

/-- 'laws.FnExactMostInformed', WHERE WHAT IT READS IS OF BULK AT MOST 1048576: true; the input reads as it did. -/
def fnExactMostInformedUptoRow : OpenClaim := { program := "ytelhcooeafhgoaa", sum := "7bb23296a7c7ca1f70082f6d7b57daf068f635c143a9b1a4a7c1b93cbbdceb71", func := "loop.example/g01316/laws.FnExactMostInformed", spec := "fnExactMostInformed", unfollowed := true, recurses := true, apart := false, narrowed := true }
def FnExactMostInformedUptoSaid : Prop := fnExactMostInformedUptoRow.holds Try.pinned (OpenSpec.upto fnExactMostInformedSpec)

/-- 'laws.FnExactCentersOf', WHERE WHAT IT READS IS OF BULK AT MOST 1048576: true; the input reads as it did. -/
def fnExactCentersOfUptoRow : OpenClaim := { program := "ytelhcooeafhgoaa", sum := "7bb23296a7c7ca1f70082f6d7b57daf068f635c143a9b1a4a7c1b93cbbdceb71", func := "loop.example/g01316/laws.FnExactCentersOf", spec := "fnExactCentersOf", unfollowed := true, recurses := true, apart := false, narrowed := true }
def FnExactCentersOfUptoSaid : Prop := fnExactCentersOfUptoRow.holds Try.pinned (OpenSpec.upto fnExactCentersOfSpec)

/-- 'laws.FnExactFirstSpread', WHERE WHAT IT READS IS OF BULK AT MOST 1048576: true; the input reads as it did. -/
def fnExactFirstSpreadUptoRow : OpenClaim := { program := "ytelhcooeafhgoaa", sum := "7bb23296a7c7ca1f70082f6d7b57daf068f635c143a9b1a4a7c1b93cbbdceb71", func := "loop.example/g01316/laws.FnExactFirstSpread", spec := "fnExactFirstSpread", unfollowed := true, recurses := true, apart := false, narrowed := true }
def FnExactFirstSpreadUptoSaid : Prop := fnExactFirstSpreadUptoRow.holds Try.pinned (OpenSpec.upto fnExactFirstSpreadSpec)

end Rows
end Go.Proofs.Ytelhcooeafhgoaa
