/-
  No cell of these rows narrows 'for every input' (looked for: loops, veiled, ifaces, maps, wideKeys, modest, calm, conditions, laid).
  DERIVED. THE GIVEN ROWS OF THIS SEAT. 6 by the template 'for every input the law returns true; each argument reads behind the call as it read before'; 0 by the template 'total and deterministic' (their statements: YtbmhgmnlkeebcabTotals.lean).
  GIVEN WITH THE SEED: the statements are not yours to turn. If you find one false, say at which input.
  Laid BY PROGRAM, IN A SANDBOX (cutbox-rows.mjs): the forced cells as the released guide's own fill.sh prints them over the translation 3d85dff374d3bd13… (all of the seat's roots in one cut). By AI agents, Wed Nov 11 2026. No macro, syntax, notation, axiom, sorry.
-/
import Derived.Test.YtbmhgmnlkeebcabChecked
import GoSem.Claim
import GoSem.ClaimJoined
import GoSem.ClaimMapViews
import Derived.JoinedTies
import Derived.KernelRfl
namespace Go.Proofs.Ytbmhgmnlkeebcab
/- THE CELL 'sum', in the pinned program and in every row, IS THE sha256 OF THE DUMP (.gsa) THAT YtbmhgmnlkeebcabProg.lean LOADS. Nothing in Lean hashes anything: it is a label: what it is worth is what the hold of that sum in a sandbox is worth. -/
noncomputable def Try.pinned : Pinned := { name := "ytbmhgmnlkeebcab", sum := "3d85dff374d3bd130d1909a0befa56398fc1ce1616730d6b292a0261d9cb9f7b", checked := Try.checked }
namespace Rows
def none {H : Type} : Left H := { results := [], args := [] }

/-- 'laws.FnExactTellsUpTo': WHATEVER THE INPUT: true; the input reads as it did. -/
def fnExactTellsUpToSpec : ChangeSpec := { name := "fnExactTellsUpTo", fn := fun _ => fun
  | [d1, d2, d3] => { results := [.lit (.bool true)], args := [d1, d2, d3] }
  | _ => none }
def fnExactTellsUpToRow : OpenClaim := { program := "ytbmhgmnlkeebcab", sum := "3d85dff374d3bd130d1909a0befa56398fc1ce1616730d6b292a0261d9cb9f7b", func := "loop.example/g01316/laws.FnExactTellsUpTo", spec := "fnExactTellsUpTo", unfollowed := true, recurses := true, apart := false }
def FnExactTellsUpToSaid : Prop := fnExactTellsUpToRow.holds Try.pinned (OpenSpec.ofChange fnExactTellsUpToSpec)

/-- ITS FALSE NEIGHBOUR: 'it returns false'. Refute it at one input. -/
def fnExactTellsUpToWrong : ChangeSpec := { name := "fnExactTellsUpTo", fn := fun _ => fun
  | [d1, d2, d3] => { results := [.lit (.bool false)], args := [d1, d2, d3] }
  | _ => none }
def FnExactTellsUpToWrongFalsely : Prop := fnExactTellsUpToRow.holds Try.pinned (OpenSpec.ofChange fnExactTellsUpToWrong)

/-- 'laws.FnExactGreatestTold': WHATEVER THE INPUT: true; the input reads as it did. -/
def fnExactGreatestToldSpec : ChangeSpec := { name := "fnExactGreatestTold", fn := fun _ => fun
  | [d1, d2] => { results := [.lit (.bool true)], args := [d1, d2] }
  | _ => none }
def fnExactGreatestToldRow : OpenClaim := { program := "ytbmhgmnlkeebcab", sum := "3d85dff374d3bd130d1909a0befa56398fc1ce1616730d6b292a0261d9cb9f7b", func := "loop.example/g01316/laws.FnExactGreatestTold", spec := "fnExactGreatestTold", unfollowed := true, recurses := true, apart := false }
def FnExactGreatestToldSaid : Prop := fnExactGreatestToldRow.holds Try.pinned (OpenSpec.ofChange fnExactGreatestToldSpec)

/-- ITS FALSE NEIGHBOUR: 'it returns false'. Refute it at one input. -/
def fnExactGreatestToldWrong : ChangeSpec := { name := "fnExactGreatestTold", fn := fun _ => fun
  | [d1, d2] => { results := [.lit (.bool false)], args := [d1, d2] }
  | _ => none }
def FnExactGreatestToldWrongFalsely : Prop := fnExactGreatestToldRow.holds Try.pinned (OpenSpec.ofChange fnExactGreatestToldWrong)

/-- 'laws.FnExactNeedlessTests': WHATEVER THE INPUT: true; the input reads as it did. -/
def fnExactNeedlessTestsSpec : ChangeSpec := { name := "fnExactNeedlessTests", fn := fun _ => fun
  | [d1, d2, d3] => { results := [.lit (.bool true)], args := [d1, d2, d3] }
  | _ => none }
def fnExactNeedlessTestsRow : OpenClaim := { program := "ytbmhgmnlkeebcab", sum := "3d85dff374d3bd130d1909a0befa56398fc1ce1616730d6b292a0261d9cb9f7b", func := "loop.example/g01316/laws.FnExactNeedlessTests", spec := "fnExactNeedlessTests", unfollowed := true, recurses := true, apart := false }
def FnExactNeedlessTestsSaid : Prop := fnExactNeedlessTestsRow.holds Try.pinned (OpenSpec.ofChange fnExactNeedlessTestsSpec)

/-- ITS FALSE NEIGHBOUR: 'it returns false'. Refute it at one input. -/
def fnExactNeedlessTestsWrong : ChangeSpec := { name := "fnExactNeedlessTests", fn := fun _ => fun
  | [d1, d2, d3] => { results := [.lit (.bool false)], args := [d1, d2, d3] }
  | _ => none }
def FnExactNeedlessTestsWrongFalsely : Prop := fnExactNeedlessTestsRow.holds Try.pinned (OpenSpec.ofChange fnExactNeedlessTestsWrong)

/-- 'laws.FnExactCanBeTold': WHATEVER THE INPUT: true; the input reads as it did. -/
def fnExactCanBeToldSpec : ChangeSpec := { name := "fnExactCanBeTold", fn := fun _ => fun
  | [d] => { results := [.lit (.bool true)], args := [d] }
  | _ => none }
def fnExactCanBeToldRow : OpenClaim := { program := "ytbmhgmnlkeebcab", sum := "3d85dff374d3bd130d1909a0befa56398fc1ce1616730d6b292a0261d9cb9f7b", func := "loop.example/g01316/laws.FnExactCanBeTold", spec := "fnExactCanBeTold", unfollowed := true, recurses := true, apart := false }
def FnExactCanBeToldSaid : Prop := fnExactCanBeToldRow.holds Try.pinned (OpenSpec.ofChange fnExactCanBeToldSpec)

/-- ITS FALSE NEIGHBOUR: 'it returns false'. Refute it at one input. -/
def fnExactCanBeToldWrong : ChangeSpec := { name := "fnExactCanBeTold", fn := fun _ => fun
  | [d] => { results := [.lit (.bool false)], args := [d] }
  | _ => none }
def FnExactCanBeToldWrongFalsely : Prop := fnExactCanBeToldRow.holds Try.pinned (OpenSpec.ofChange fnExactCanBeToldWrong)

/-- 'laws.FnExactFirstTelling': WHATEVER THE INPUT: true; the input reads as it did. -/
def fnExactFirstTellingSpec : ChangeSpec := { name := "fnExactFirstTelling", fn := fun _ => fun
  | [d] => { results := [.lit (.bool true)], args := [d] }
  | _ => none }
def fnExactFirstTellingRow : OpenClaim := { program := "ytbmhgmnlkeebcab", sum := "3d85dff374d3bd130d1909a0befa56398fc1ce1616730d6b292a0261d9cb9f7b", func := "loop.example/g01316/laws.FnExactFirstTelling", spec := "fnExactFirstTelling", unfollowed := true, recurses := true, apart := false }
def FnExactFirstTellingSaid : Prop := fnExactFirstTellingRow.holds Try.pinned (OpenSpec.ofChange fnExactFirstTellingSpec)

/-- ITS FALSE NEIGHBOUR: 'it returns false'. Refute it at one input. -/
def fnExactFirstTellingWrong : ChangeSpec := { name := "fnExactFirstTelling", fn := fun _ => fun
  | [d] => { results := [.lit (.bool false)], args := [d] }
  | _ => none }
def FnExactFirstTellingWrongFalsely : Prop := fnExactFirstTellingRow.holds Try.pinned (OpenSpec.ofChange fnExactFirstTellingWrong)

/-- 'laws.FnExactCountPartners': WHATEVER THE INPUT: true; the input reads as it did. -/
def fnExactCountPartnersSpec : ChangeSpec := { name := "fnExactCountPartners", fn := fun _ => fun
  | [d] => { results := [.lit (.bool true)], args := [d] }
  | _ => none }
def fnExactCountPartnersRow : OpenClaim := { program := "ytbmhgmnlkeebcab", sum := "3d85dff374d3bd130d1909a0befa56398fc1ce1616730d6b292a0261d9cb9f7b", func := "loop.example/g01316/laws.FnExactCountPartners", spec := "fnExactCountPartners", unfollowed := true, recurses := true, apart := false }
def FnExactCountPartnersSaid : Prop := fnExactCountPartnersRow.holds Try.pinned (OpenSpec.ofChange fnExactCountPartnersSpec)

/-- ITS FALSE NEIGHBOUR: 'it returns false'. Refute it at one input. -/
def fnExactCountPartnersWrong : ChangeSpec := { name := "fnExactCountPartners", fn := fun _ => fun
  | [d] => { results := [.lit (.bool false)], args := [d] }
  | _ => none }
def FnExactCountPartnersWrongFalsely : Prop := fnExactCountPartnersRow.holds Try.pinned (OpenSpec.ofChange fnExactCountPartnersWrong)

/- THE SECOND FORM. 'bulk': how many values and letters a reading holds, each counted each time it is reached (what is shared counts as often as it is met; a slice's spare places count too). A statement '..UptoSaid' is the law's where the arguments, and the package variables that the reading takes, are together of bulk at most 1048576: NARROWER than '..Said'. Prove '..Said' where nothing that the law and all that it calls make is longer than what came in: it says more and counts as full. Else prove '..UptoSaid'. A law counts once. -/
mutual
def uptoBulk {H : Type} : DataW H → Nat
  | .lit (.string bytes) => bytes.length + 1
  | .lit _ => 1
  | .nil => 1
  | .ptr d => uptoBulk d + 1
  | .slice elems spare => uptoBulkAll elems + uptoBulkAll spare + 1
  | .agg parts => uptoBulkAll parts + 1
  | .iface _ d => uptoBulk d + 1
  | .map entries => uptoBulkEntries entries + 1
  | .held _ => 1
def uptoBulkAll {H : Type} : List (DataW H) → Nat
  | [] => 0
  | d :: r => uptoBulk d + uptoBulkAll r
def uptoBulkEntries {H : Type} : List (Lit × DataW H) → Nat
  | [] => 0
  | x :: r => uptoBulkEntry x + uptoBulkEntries r
def uptoBulkEntry {H : Type} : Lit × DataW H → Nat
  | (.string bytes, d) => bytes.length + uptoBulk d + 1
  | (_, d) => uptoBulk d + 1
 end
def uptoSmall : (H : Type) → List (DataW H) → Bool := fun _ ds => decide (uptoBulkAll ds ≤ 1048576)
def OpenSpec.upto (s : _root_.Go.ChangeSpec) : _root_.Go.OpenSpec := { _root_.Go.OpenSpec.ofChange s with cond := some uptoSmall }

/-- 'laws.FnExactTellsUpTo', WHERE WHAT IT READS IS OF BULK AT MOST 1048576: true; the input reads as it did. -/
def fnExactTellsUpToUptoRow : OpenClaim := { program := "ytbmhgmnlkeebcab", sum := "3d85dff374d3bd130d1909a0befa56398fc1ce1616730d6b292a0261d9cb9f7b", func := "loop.example/g01316/laws.FnExactTellsUpTo", spec := "fnExactTellsUpTo", unfollowed := true, recurses := true, apart := false, narrowed := true }
def FnExactTellsUpToUptoSaid : Prop := fnExactTellsUpToUptoRow.holds Try.pinned (OpenSpec.upto fnExactTellsUpToSpec)

/-- 'laws.FnExactGreatestTold', WHERE WHAT IT READS IS OF BULK AT MOST 1048576: true; the input reads as it did. -/
def fnExactGreatestToldUptoRow : OpenClaim := { program := "ytbmhgmnlkeebcab", sum := "3d85dff374d3bd130d1909a0befa56398fc1ce1616730d6b292a0261d9cb9f7b", func := "loop.example/g01316/laws.FnExactGreatestTold", spec := "fnExactGreatestTold", unfollowed := true, recurses := true, apart := false, narrowed := true }
def FnExactGreatestToldUptoSaid : Prop := fnExactGreatestToldUptoRow.holds Try.pinned (OpenSpec.upto fnExactGreatestToldSpec)

/-- 'laws.FnExactNeedlessTests', WHERE WHAT IT READS IS OF BULK AT MOST 1048576: true; the input reads as it did. -/
def fnExactNeedlessTestsUptoRow : OpenClaim := { program := "ytbmhgmnlkeebcab", sum := "3d85dff374d3bd130d1909a0befa56398fc1ce1616730d6b292a0261d9cb9f7b", func := "loop.example/g01316/laws.FnExactNeedlessTests", spec := "fnExactNeedlessTests", unfollowed := true, recurses := true, apart := false, narrowed := true }
def FnExactNeedlessTestsUptoSaid : Prop := fnExactNeedlessTestsUptoRow.holds Try.pinned (OpenSpec.upto fnExactNeedlessTestsSpec)

/-- 'laws.FnExactCanBeTold', WHERE WHAT IT READS IS OF BULK AT MOST 1048576: true; the input reads as it did. -/
def fnExactCanBeToldUptoRow : OpenClaim := { program := "ytbmhgmnlkeebcab", sum := "3d85dff374d3bd130d1909a0befa56398fc1ce1616730d6b292a0261d9cb9f7b", func := "loop.example/g01316/laws.FnExactCanBeTold", spec := "fnExactCanBeTold", unfollowed := true, recurses := true, apart := false, narrowed := true }
def FnExactCanBeToldUptoSaid : Prop := fnExactCanBeToldUptoRow.holds Try.pinned (OpenSpec.upto fnExactCanBeToldSpec)

/-- 'laws.FnExactFirstTelling', WHERE WHAT IT READS IS OF BULK AT MOST 1048576: true; the input reads as it did. -/
def fnExactFirstTellingUptoRow : OpenClaim := { program := "ytbmhgmnlkeebcab", sum := "3d85dff374d3bd130d1909a0befa56398fc1ce1616730d6b292a0261d9cb9f7b", func := "loop.example/g01316/laws.FnExactFirstTelling", spec := "fnExactFirstTelling", unfollowed := true, recurses := true, apart := false, narrowed := true }
def FnExactFirstTellingUptoSaid : Prop := fnExactFirstTellingUptoRow.holds Try.pinned (OpenSpec.upto fnExactFirstTellingSpec)

/-- 'laws.FnExactCountPartners', WHERE WHAT IT READS IS OF BULK AT MOST 1048576: true; the input reads as it did. -/
def fnExactCountPartnersUptoRow : OpenClaim := { program := "ytbmhgmnlkeebcab", sum := "3d85dff374d3bd130d1909a0befa56398fc1ce1616730d6b292a0261d9cb9f7b", func := "loop.example/g01316/laws.FnExactCountPartners", spec := "fnExactCountPartners", unfollowed := true, recurses := true, apart := false, narrowed := true }
def FnExactCountPartnersUptoSaid : Prop := fnExactCountPartnersUptoRow.holds Try.pinned (OpenSpec.upto fnExactCountPartnersSpec)

end Rows
end Go.Proofs.Ytbmhgmnlkeebcab
