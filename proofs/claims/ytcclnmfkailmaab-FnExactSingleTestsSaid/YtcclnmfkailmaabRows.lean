/-
  No cell of these rows narrows 'for every input' (looked for: loops, veiled, ifaces, maps, wideKeys, modest, calm, conditions, laid).
  DERIVED. THE GIVEN ROWS OF THIS SEAT. 6 by the template 'for every input the law returns true; each argument reads behind the call as it read before'; 0 by the template 'total and deterministic' (their statements: YtcclnmfkailmaabTotals.lean).
  GIVEN WITH THE SEED: the statements are not yours to turn. If you find one false, say at which input.
  Laid BY PROGRAM, IN A SANDBOX (cutbox-rows.mjs): the forced cells as the released guide's own fill.sh prints them over the translation 8339e257a6500595… (all of the seat's roots in one cut). By AI agents, Wed Nov 11 2026. No macro, syntax, notation, axiom, sorry.
-/
import Derived.Test.YtcclnmfkailmaabChecked
import GoSem.Claim
import GoSem.ClaimJoined
import GoSem.ClaimMapViews
import Derived.JoinedTies
import Derived.KernelRfl
namespace Go.Proofs.Ytcclnmfkailmaab
/- THE CELL 'sum', in the pinned program and in every row, IS THE sha256 OF THE DUMP (.gsa) THAT YtcclnmfkailmaabProg.lean LOADS. Nothing in Lean hashes anything: it is a label: what it is worth is what the hold of that sum in a sandbox is worth. -/
noncomputable def Try.pinned : Pinned := { name := "ytcclnmfkailmaab", sum := "8339e257a6500595d3523333548364eeed272d3f95ebe5449d4d9aa10ac0e889", checked := Try.checked }
namespace Rows
def none {H : Type} : Left H := { results := [], args := [] }

/-- 'laws.FnExactIsGrouping': WHATEVER THE INPUT: true; the input reads as it did. -/
def fnExactIsGroupingSpec : ChangeSpec := { name := "fnExactIsGrouping", fn := fun _ => fun
  | [d] => { results := [.lit (.bool true)], args := [d] }
  | _ => none }
def fnExactIsGroupingRow : OpenClaim := { program := "ytcclnmfkailmaab", sum := "8339e257a6500595d3523333548364eeed272d3f95ebe5449d4d9aa10ac0e889", func := "loop.example/g01316/laws.FnExactIsGrouping", spec := "fnExactIsGrouping", apart := false }
def FnExactIsGroupingSaid : Prop := fnExactIsGroupingRow.holds Try.pinned (OpenSpec.ofChange fnExactIsGroupingSpec)

/-- ITS FALSE NEIGHBOUR: 'it returns false'. Refute it at one input. -/
def fnExactIsGroupingWrong : ChangeSpec := { name := "fnExactIsGrouping", fn := fun _ => fun
  | [d] => { results := [.lit (.bool false)], args := [d] }
  | _ => none }
def FnExactIsGroupingWrongFalsely : Prop := fnExactIsGroupingRow.holds Try.pinned (OpenSpec.ofChange fnExactIsGroupingWrong)

/-- 'laws.FnExactSingleTests': WHATEVER THE INPUT: true; the input reads as it did. -/
def fnExactSingleTestsSpec : ChangeSpec := { name := "fnExactSingleTests", fn := fun _ => fun
  | [d] => { results := [.lit (.bool true)], args := [d] }
  | _ => none }
def fnExactSingleTestsRow : OpenClaim := { program := "ytcclnmfkailmaab", sum := "8339e257a6500595d3523333548364eeed272d3f95ebe5449d4d9aa10ac0e889", func := "loop.example/g01316/laws.FnExactSingleTests", spec := "fnExactSingleTests", apart := false }
def FnExactSingleTestsSaid : Prop := fnExactSingleTestsRow.holds Try.pinned (OpenSpec.ofChange fnExactSingleTestsSpec)

/-- ITS FALSE NEIGHBOUR: 'it returns false'. Refute it at one input. -/
def fnExactSingleTestsWrong : ChangeSpec := { name := "fnExactSingleTests", fn := fun _ => fun
  | [d] => { results := [.lit (.bool false)], args := [d] }
  | _ => none }
def FnExactSingleTestsWrongFalsely : Prop := fnExactSingleTestsRow.holds Try.pinned (OpenSpec.ofChange fnExactSingleTestsWrong)

/-- 'laws.FnExactAreClaims': WHATEVER THE INPUT: true; the input reads as it did. -/
def fnExactAreClaimsSpec : ChangeSpec := { name := "fnExactAreClaims", fn := fun _ => fun
  | [d1, d2] => { results := [.lit (.bool true)], args := [d1, d2] }
  | _ => none }
def fnExactAreClaimsRow : OpenClaim := { program := "ytcclnmfkailmaab", sum := "8339e257a6500595d3523333548364eeed272d3f95ebe5449d4d9aa10ac0e889", func := "loop.example/g01316/laws.FnExactAreClaims", spec := "fnExactAreClaims", unfollowed := true, recurses := true, apart := false }
def FnExactAreClaimsSaid : Prop := fnExactAreClaimsRow.holds Try.pinned (OpenSpec.ofChange fnExactAreClaimsSpec)

/-- ITS FALSE NEIGHBOUR: 'it returns false'. Refute it at one input. -/
def fnExactAreClaimsWrong : ChangeSpec := { name := "fnExactAreClaims", fn := fun _ => fun
  | [d1, d2] => { results := [.lit (.bool false)], args := [d1, d2] }
  | _ => none }
def FnExactAreClaimsWrongFalsely : Prop := fnExactAreClaimsRow.holds Try.pinned (OpenSpec.ofChange fnExactAreClaimsWrong)

/-- 'laws.FnExactStairGrouping': WHATEVER THE INPUT: true; the input reads as it did. -/
def fnExactStairGroupingSpec : ChangeSpec := { name := "fnExactStairGrouping", fn := fun _ => fun
  | [d] => { results := [.lit (.bool true)], args := [d] }
  | _ => none }
def fnExactStairGroupingRow : OpenClaim := { program := "ytcclnmfkailmaab", sum := "8339e257a6500595d3523333548364eeed272d3f95ebe5449d4d9aa10ac0e889", func := "loop.example/g01316/laws.FnExactStairGrouping", spec := "fnExactStairGrouping", apart := false }
def FnExactStairGroupingSaid : Prop := fnExactStairGroupingRow.holds Try.pinned (OpenSpec.ofChange fnExactStairGroupingSpec)

/-- ITS FALSE NEIGHBOUR: 'it returns false'. Refute it at one input. -/
def fnExactStairGroupingWrong : ChangeSpec := { name := "fnExactStairGrouping", fn := fun _ => fun
  | [d] => { results := [.lit (.bool false)], args := [d] }
  | _ => none }
def FnExactStairGroupingWrongFalsely : Prop := fnExactStairGroupingRow.holds Try.pinned (OpenSpec.ofChange fnExactStairGroupingWrong)

/-- 'laws.FnExactGroupingText': WHATEVER THE INPUT: true; the input reads as it did. -/
def fnExactGroupingTextSpec : ChangeSpec := { name := "fnExactGroupingText", fn := fun _ => fun
  | [d] => { results := [.lit (.bool true)], args := [d] }
  | _ => none }
def fnExactGroupingTextRow : OpenClaim := { program := "ytcclnmfkailmaab", sum := "8339e257a6500595d3523333548364eeed272d3f95ebe5449d4d9aa10ac0e889", func := "loop.example/g01316/laws.FnExactGroupingText", spec := "fnExactGroupingText", apart := false }
def FnExactGroupingTextSaid : Prop := fnExactGroupingTextRow.holds Try.pinned (OpenSpec.ofChange fnExactGroupingTextSpec)

/-- ITS FALSE NEIGHBOUR: 'it returns false'. Refute it at one input. -/
def fnExactGroupingTextWrong : ChangeSpec := { name := "fnExactGroupingText", fn := fun _ => fun
  | [d] => { results := [.lit (.bool false)], args := [d] }
  | _ => none }
def FnExactGroupingTextWrongFalsely : Prop := fnExactGroupingTextRow.holds Try.pinned (OpenSpec.ofChange fnExactGroupingTextWrong)

/-- 'laws.FnExactQuickSends': WHATEVER THE INPUT: true; the input reads as it did. -/
def fnExactQuickSendsSpec : ChangeSpec := { name := "fnExactQuickSends", fn := fun _ => fun
  | [d1, d2] => { results := [.lit (.bool true)], args := [d1, d2] }
  | _ => none }
def fnExactQuickSendsRow : OpenClaim := { program := "ytcclnmfkailmaab", sum := "8339e257a6500595d3523333548364eeed272d3f95ebe5449d4d9aa10ac0e889", func := "loop.example/g01316/laws.FnExactQuickSends", spec := "fnExactQuickSends", apart := false }
def FnExactQuickSendsSaid : Prop := fnExactQuickSendsRow.holds Try.pinned (OpenSpec.ofChange fnExactQuickSendsSpec)

/-- ITS FALSE NEIGHBOUR: 'it returns false'. Refute it at one input. -/
def fnExactQuickSendsWrong : ChangeSpec := { name := "fnExactQuickSends", fn := fun _ => fun
  | [d1, d2] => { results := [.lit (.bool false)], args := [d1, d2] }
  | _ => none }
def FnExactQuickSendsWrongFalsely : Prop := fnExactQuickSendsRow.holds Try.pinned (OpenSpec.ofChange fnExactQuickSendsWrong)

/- THE SECOND FORM. 'bulk': how many values and letters a reading holds, each counted each time it is reached (what is shared counts as often as it is met; a slice's spare places count too). A statement '..UptoSaid' is the law's where the arguments, and the package variables that the reading takes, are together of bulk at most 1048576: NARROWER than '..Said'. Prove '..Said' where nothing that the law and all that it calls make is longer than what came in: it says more and counts as full. Else prove '..UptoSaid'. A law counts once. -/
mutual
def uptoBulk {H : Type} : DataW H → Nat
  | .lit (.string bytes) => bytes.length + 1
  | .lit _ => 1
  | .nil => 1
  | .ptr d => uptoBulk d + 1
  | .slice elems spare => uptoBulkAll elems + uptoBulkAll spare + 1
  | .agg parts => uptoBulkAll parts + 1
  | .iface _ d => uptoBulk d + 1
  | .map entries => uptoBulkEntries entries + 1
  | .held _ => 1
def uptoBulkAll {H : Type} : List (DataW H) → Nat
  | [] => 0
  | d :: r => uptoBulk d + uptoBulkAll r
def uptoBulkEntries {H : Type} : List (Lit × DataW H) → Nat
  | [] => 0
  | x :: r => uptoBulkEntry x + uptoBulkEntries r
def uptoBulkEntry {H : Type} : Lit × DataW H → Nat
  | (.string bytes, d) => bytes.length + uptoBulk d + 1
  | (_, d) => uptoBulk d + 1
 end
def uptoSmall : (H : Type) → List (DataW H) → Bool := fun _ ds => decide (uptoBulkAll ds ≤ 1048576)
def OpenSpec.upto (s : _root_.Go.ChangeSpec) : _root_.Go.OpenSpec := { _root_.Go.OpenSpec.ofChange s with cond := some uptoSmall }

/-- 'laws.FnExactIsGrouping', WHERE WHAT IT READS IS OF BULK AT MOST 1048576: true; the input reads as it did. -/
def fnExactIsGroupingUptoRow : OpenClaim := { program := "ytcclnmfkailmaab", sum := "8339e257a6500595d3523333548364eeed272d3f95ebe5449d4d9aa10ac0e889", func := "loop.example/g01316/laws.FnExactIsGrouping", spec := "fnExactIsGrouping", apart := false, narrowed := true }
def FnExactIsGroupingUptoSaid : Prop := fnExactIsGroupingUptoRow.holds Try.pinned (OpenSpec.upto fnExactIsGroupingSpec)

/-- 'laws.FnExactSingleTests', WHERE WHAT IT READS IS OF BULK AT MOST 1048576: true; the input reads as it did. -/
def fnExactSingleTestsUptoRow : OpenClaim := { program := "ytcclnmfkailmaab", sum := "8339e257a6500595d3523333548364eeed272d3f95ebe5449d4d9aa10ac0e889", func := "loop.example/g01316/laws.FnExactSingleTests", spec := "fnExactSingleTests", apart := false, narrowed := true }
def FnExactSingleTestsUptoSaid : Prop := fnExactSingleTestsUptoRow.holds Try.pinned (OpenSpec.upto fnExactSingleTestsSpec)

/-- 'laws.FnExactAreClaims', WHERE WHAT IT READS IS OF BULK AT MOST 1048576: true; the input reads as it did. -/
def fnExactAreClaimsUptoRow : OpenClaim := { program := "ytcclnmfkailmaab", sum := "8339e257a6500595d3523333548364eeed272d3f95ebe5449d4d9aa10ac0e889", func := "loop.example/g01316/laws.FnExactAreClaims", spec := "fnExactAreClaims", unfollowed := true, recurses := true, apart := false, narrowed := true }
def FnExactAreClaimsUptoSaid : Prop := fnExactAreClaimsUptoRow.holds Try.pinned (OpenSpec.upto fnExactAreClaimsSpec)

/-- 'laws.FnExactStairGrouping', WHERE WHAT IT READS IS OF BULK AT MOST 1048576: true; the input reads as it did. -/
def fnExactStairGroupingUptoRow : OpenClaim := { program := "ytcclnmfkailmaab", sum := "8339e257a6500595d3523333548364eeed272d3f95ebe5449d4d9aa10ac0e889", func := "loop.example/g01316/laws.FnExactStairGrouping", spec := "fnExactStairGrouping", apart := false, narrowed := true }
def FnExactStairGroupingUptoSaid : Prop := fnExactStairGroupingUptoRow.holds Try.pinned (OpenSpec.upto fnExactStairGroupingSpec)

/-- 'laws.FnExactGroupingText', WHERE WHAT IT READS IS OF BULK AT MOST 1048576: true; the input reads as it did. -/
def fnExactGroupingTextUptoRow : OpenClaim := { program := "ytcclnmfkailmaab", sum := "8339e257a6500595d3523333548364eeed272d3f95ebe5449d4d9aa10ac0e889", func := "loop.example/g01316/laws.FnExactGroupingText", spec := "fnExactGroupingText", apart := false, narrowed := true }
def FnExactGroupingTextUptoSaid : Prop := fnExactGroupingTextUptoRow.holds Try.pinned (OpenSpec.upto fnExactGroupingTextSpec)

/-- 'laws.FnExactQuickSends', WHERE WHAT IT READS IS OF BULK AT MOST 1048576: true; the input reads as it did. -/
def fnExactQuickSendsUptoRow : OpenClaim := { program := "ytcclnmfkailmaab", sum := "8339e257a6500595d3523333548364eeed272d3f95ebe5449d4d9aa10ac0e889", func := "loop.example/g01316/laws.FnExactQuickSends", spec := "fnExactQuickSends", apart := false, narrowed := true }
def FnExactQuickSendsUptoSaid : Prop := fnExactQuickSendsUptoRow.holds Try.pinned (OpenSpec.upto fnExactQuickSendsSpec)

end Rows
end Go.Proofs.Ytcclnmfkailmaab
