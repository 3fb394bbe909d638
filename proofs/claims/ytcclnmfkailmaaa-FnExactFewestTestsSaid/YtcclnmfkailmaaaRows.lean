/-
  No cell of these rows narrows 'for every input' (looked for: loops, veiled, ifaces, maps, wideKeys, modest, calm, conditions, laid).
  DERIVED. THE GIVEN ROWS OF THIS SEAT. 6 by the template 'for every input the law returns true; each argument reads behind the call as it read before'; 0 by the template 'total and deterministic' (their statements: YtcclnmfkailmaaaTotals.lean).
  GIVEN WITH THE SEED: the statements are not yours to turn. If you find one false, say at which input.
  Laid BY PROGRAM, IN A SANDBOX (cutbox-rows.mjs): the forced cells as the released guide's own fill.sh prints them over the translation 8e903c834bdcb835… (all of the seat's roots in one cut). By AI agents, Wed Nov 11 2026. No macro, syntax, notation, axiom, sorry.
-/
import Derived.Test.YtcclnmfkailmaaaChecked
import GoSem.Claim
import GoSem.ClaimJoined
import GoSem.ClaimMapViews
import Derived.JoinedTies
import Derived.KernelRfl
namespace Go.Proofs.Ytcclnmfkailmaaa
/- THE CELL 'sum', in the pinned program and in every row, IS THE sha256 OF THE DUMP (.gsa) THAT YtcclnmfkailmaaaProg.lean LOADS. Nothing in Lean hashes anything: it is a label: what it is worth is what the hold of that sum in a sandbox is worth. -/
noncomputable def Try.pinned : Pinned := { name := "ytcclnmfkailmaaa", sum := "8e903c834bdcb83577526ffd653630091c2af5eafbdb3468a58679be6ff1c742", checked := Try.checked }
namespace Rows
def none {H : Type} : Left H := { results := [], args := [] }

/-- 'laws.FnExactInformedAt': WHATEVER THE INPUT: true; the input reads as it did. -/
def fnExactInformedAtSpec : ChangeSpec := { name := "fnExactInformedAt", fn := fun _ => fun
  | [d1, d2] => { results := [.lit (.bool true)], args := [d1, d2] }
  | _ => none }
def fnExactInformedAtRow : OpenClaim := { program := "ytcclnmfkailmaaa", sum := "8e903c834bdcb83577526ffd653630091c2af5eafbdb3468a58679be6ff1c742", func := "loop.example/g01316/laws.FnExactInformedAt", spec := "fnExactInformedAt", apart := false }
def FnExactInformedAtSaid : Prop := fnExactInformedAtRow.holds Try.pinned (OpenSpec.ofChange fnExactInformedAtSpec)

/-- ITS FALSE NEIGHBOUR: 'it returns false'. Refute it at one input. -/
def fnExactInformedAtWrong : ChangeSpec := { name := "fnExactInformedAt", fn := fun _ => fun
  | [d1, d2] => { results := [.lit (.bool false)], args := [d1, d2] }
  | _ => none }
def FnExactInformedAtWrongFalsely : Prop := fnExactInformedAtRow.holds Try.pinned (OpenSpec.ofChange fnExactInformedAtWrong)

/-- 'laws.FnExactCountGroupings': WHATEVER THE INPUT: true; the input reads as it did. -/
def fnExactCountGroupingsSpec : ChangeSpec := { name := "fnExactCountGroupings", fn := fun _ => fun
  | [d] => { results := [.lit (.bool true)], args := [d] }
  | _ => none }
def fnExactCountGroupingsRow : OpenClaim := { program := "ytcclnmfkailmaaa", sum := "8e903c834bdcb83577526ffd653630091c2af5eafbdb3468a58679be6ff1c742", func := "loop.example/g01316/laws.FnExactCountGroupings", spec := "fnExactCountGroupings", apart := false }
def FnExactCountGroupingsSaid : Prop := fnExactCountGroupingsRow.holds Try.pinned (OpenSpec.ofChange fnExactCountGroupingsSpec)

/-- ITS FALSE NEIGHBOUR: 'it returns false'. Refute it at one input. -/
def fnExactCountGroupingsWrong : ChangeSpec := { name := "fnExactCountGroupings", fn := fun _ => fun
  | [d] => { results := [.lit (.bool false)], args := [d] }
  | _ => none }
def FnExactCountGroupingsWrongFalsely : Prop := fnExactCountGroupingsRow.holds Try.pinned (OpenSpec.ofChange fnExactCountGroupingsWrong)

/-- 'laws.FnExactGreatestDelay': WHATEVER THE INPUT: true; the input reads as it did. -/
def fnExactGreatestDelaySpec : ChangeSpec := { name := "fnExactGreatestDelay", fn := fun _ => fun
  | [d1, d2] => { results := [.lit (.bool true)], args := [d1, d2] }
  | _ => none }
def fnExactGreatestDelayRow : OpenClaim := { program := "ytcclnmfkailmaaa", sum := "8e903c834bdcb83577526ffd653630091c2af5eafbdb3468a58679be6ff1c742", func := "loop.example/g01316/laws.FnExactGreatestDelay", spec := "fnExactGreatestDelay", apart := false }
def FnExactGreatestDelaySaid : Prop := fnExactGreatestDelayRow.holds Try.pinned (OpenSpec.ofChange fnExactGreatestDelaySpec)

/-- ITS FALSE NEIGHBOUR: 'it returns false'. Refute it at one input. -/
def fnExactGreatestDelayWrong : ChangeSpec := { name := "fnExactGreatestDelay", fn := fun _ => fun
  | [d1, d2] => { results := [.lit (.bool false)], args := [d1, d2] }
  | _ => none }
def FnExactGreatestDelayWrongFalsely : Prop := fnExactGreatestDelayRow.holds Try.pinned (OpenSpec.ofChange fnExactGreatestDelayWrong)

/-- 'laws.FnExactMinutesFor': WHATEVER THE INPUT: true; the input reads as it did. -/
def fnExactMinutesForSpec : ChangeSpec := { name := "fnExactMinutesFor", fn := fun _ => fun
  | [d1, d2] => { results := [.lit (.bool true)], args := [d1, d2] }
  | _ => none }
def fnExactMinutesForRow : OpenClaim := { program := "ytcclnmfkailmaaa", sum := "8e903c834bdcb83577526ffd653630091c2af5eafbdb3468a58679be6ff1c742", func := "loop.example/g01316/laws.FnExactMinutesFor", spec := "fnExactMinutesFor", apart := false }
def FnExactMinutesForSaid : Prop := fnExactMinutesForRow.holds Try.pinned (OpenSpec.ofChange fnExactMinutesForSpec)

/-- ITS FALSE NEIGHBOUR: 'it returns false'. Refute it at one input. -/
def fnExactMinutesForWrong : ChangeSpec := { name := "fnExactMinutesFor", fn := fun _ => fun
  | [d1, d2] => { results := [.lit (.bool false)], args := [d1, d2] }
  | _ => none }
def FnExactMinutesForWrongFalsely : Prop := fnExactMinutesForRow.holds Try.pinned (OpenSpec.ofChange fnExactMinutesForWrong)

/-- 'laws.FnExactNewAt': WHATEVER THE INPUT: true; the input reads as it did. -/
def fnExactNewAtSpec : ChangeSpec := { name := "fnExactNewAt", fn := fun _ => fun
  | [d1, d2] => { results := [.lit (.bool true)], args := [d1, d2] }
  | _ => none }
def fnExactNewAtRow : OpenClaim := { program := "ytcclnmfkailmaaa", sum := "8e903c834bdcb83577526ffd653630091c2af5eafbdb3468a58679be6ff1c742", func := "loop.example/g01316/laws.FnExactNewAt", spec := "fnExactNewAt", apart := false }
def FnExactNewAtSaid : Prop := fnExactNewAtRow.holds Try.pinned (OpenSpec.ofChange fnExactNewAtSpec)

/-- ITS FALSE NEIGHBOUR: 'it returns false'. Refute it at one input. -/
def fnExactNewAtWrong : ChangeSpec := { name := "fnExactNewAt", fn := fun _ => fun
  | [d1, d2] => { results := [.lit (.bool false)], args := [d1, d2] }
  | _ => none }
def FnExactNewAtWrongFalsely : Prop := fnExactNewAtRow.holds Try.pinned (OpenSpec.ofChange fnExactNewAtWrong)

/-- 'laws.FnExactFewestTests': WHATEVER THE INPUT: true; the input reads as it did. -/
def fnExactFewestTestsSpec : ChangeSpec := { name := "fnExactFewestTests", fn := fun _ => fun
  | [d] => { results := [.lit (.bool true)], args := [d] }
  | _ => none }
def fnExactFewestTestsRow : OpenClaim := { program := "ytcclnmfkailmaaa", sum := "8e903c834bdcb83577526ffd653630091c2af5eafbdb3468a58679be6ff1c742", func := "loop.example/g01316/laws.FnExactFewestTests", spec := "fnExactFewestTests", apart := false }
def FnExactFewestTestsSaid : Prop := fnExactFewestTestsRow.holds Try.pinned (OpenSpec.ofChange fnExactFewestTestsSpec)

/-- ITS FALSE NEIGHBOUR: 'it returns false'. Refute it at one input. -/
def fnExactFewestTestsWrong : ChangeSpec := { name := "fnExactFewestTests", fn := fun _ => fun
  | [d] => { results := [.lit (.bool false)], args := [d] }
  | _ => none }
def FnExactFewestTestsWrongFalsely : Prop := fnExactFewestTestsRow.holds Try.pinned (OpenSpec.ofChange fnExactFewestTestsWrong)

/- THE SECOND FORM. 'bulk': how many values and letters a reading holds, each counted each time it is reached (what is shared counts as often as it is met; a slice's spare places count too). A statement '..UptoSaid' is the law's where the arguments, and the package variables that the reading takes, are together of bulk at most 1048576: NARROWER than '..Said'. Prove '..Said' where nothing that the law and all that it calls make is longer than what came in: it says more and counts as full. Else prove '..UptoSaid'. A law counts once. -/
mutual
def uptoBulk {H : Type} : DataW H → Nat
  | .lit (.string bytes) => bytes.length + 1
  | .lit _ => 1
  | .nil => 1
  | .ptr d => uptoBulk d + 1
  | .slice elems spare => uptoBulkAll elems + uptoBulkAll spare + 1
  | .agg parts => uptoBulkAll parts + 1
  | .iface _ d => uptoBulk d + 1
  | .map entries => uptoBulkEntries entries + 1
  | .held _ => 1
def uptoBulkAll {H : Type} : List (DataW H) → Nat
  | [] => 0
  | d :: r => uptoBulk d + uptoBulkAll r
def uptoBulkEntries {H : Type} : List (Lit × DataW H) → Nat
  | [] => 0
  | x :: r => uptoBulkEntry x + uptoBulkEntries r
def uptoBulkEntry {H : Type} : Lit × DataW H → Nat
  | (.string bytes, d) => bytes.length + uptoBulk d + 1
  | (_, d) => uptoBulk d + 1
 end
def uptoSmall : (H : Type) → List (DataW H) → Bool := fun _ ds => decide (uptoBulkAll ds ≤ 1048576)
def OpenSpec.upto (s : _root_.Go.ChangeSpec) : _root_.Go.OpenSpec := { _root_.Go.OpenSpec.ofChange s with cond := some uptoSmall }

/-- 'laws.FnExactInformedAt', WHERE WHAT IT READS IS OF BULK AT MOST 1048576: true; the input reads as it did. -/
def fnExactInformedAtUptoRow : OpenClaim := { program := "ytcclnmfkailmaaa", sum := "8e903c834bdcb83577526ffd653630091c2af5eafbdb3468a58679be6ff1c742", func := "loop.example/g01316/laws.FnExactInformedAt", spec := "fnExactInformedAt", apart := false, narrowed := true }
def FnExactInformedAtUptoSaid : Prop := fnExactInformedAtUptoRow.holds Try.pinned (OpenSpec.upto fnExactInformedAtSpec)

/-- 'laws.FnExactCountGroupings', WHERE WHAT IT READS IS OF BULK AT MOST 1048576: true; the input reads as it did. -/
def fnExactCountGroupingsUptoRow : OpenClaim := { program := "ytcclnmfkailmaaa", sum := "8e903c834bdcb83577526ffd653630091c2af5eafbdb3468a58679be6ff1c742", func := "loop.example/g01316/laws.FnExactCountGroupings", spec := "fnExactCountGroupings", apart := false, narrowed := true }
def FnExactCountGroupingsUptoSaid : Prop := fnExactCountGroupingsUptoRow.holds Try.pinned (OpenSpec.upto fnExactCountGroupingsSpec)

/-- 'laws.FnExactGreatestDelay', WHERE WHAT IT READS IS OF BULK AT MOST 1048576: true; the input reads as it did. -/
def fnExactGreatestDelayUptoRow : OpenClaim := { program := "ytcclnmfkailmaaa", sum := "8e903c834bdcb83577526ffd653630091c2af5eafbdb3468a58679be6ff1c742", func := "loop.example/g01316/laws.FnExactGreatestDelay", spec := "fnExactGreatestDelay", apart := false, narrowed := true }
def FnExactGreatestDelayUptoSaid : Prop := fnExactGreatestDelayUptoRow.holds Try.pinned (OpenSpec.upto fnExactGreatestDelaySpec)

/-- 'laws.FnExactMinutesFor', WHERE WHAT IT READS IS OF BULK AT MOST 1048576: true; the input reads as it did. -/
def fnExactMinutesForUptoRow : OpenClaim := { program := "ytcclnmfkailmaaa", sum := "8e903c834bdcb83577526ffd653630091c2af5eafbdb3468a58679be6ff1c742", func := "loop.example/g01316/laws.FnExactMinutesFor", spec := "fnExactMinutesFor", apart := false, narrowed := true }
def FnExactMinutesForUptoSaid : Prop := fnExactMinutesForUptoRow.holds Try.pinned (OpenSpec.upto fnExactMinutesForSpec)

/-- 'laws.FnExactNewAt', WHERE WHAT IT READS IS OF BULK AT MOST 1048576: true; the input reads as it did. -/
def fnExactNewAtUptoRow : OpenClaim := { program := "ytcclnmfkailmaaa", sum := "8e903c834bdcb83577526ffd653630091c2af5eafbdb3468a58679be6ff1c742", func := "loop.example/g01316/laws.FnExactNewAt", spec := "fnExactNewAt", apart := false, narrowed := true }
def FnExactNewAtUptoSaid : Prop := fnExactNewAtUptoRow.holds Try.pinned (OpenSpec.upto fnExactNewAtSpec)

/-- 'laws.FnExactFewestTests', WHERE WHAT IT READS IS OF BULK AT MOST 1048576: true; the input reads as it did. -/
def fnExactFewestTestsUptoRow : OpenClaim := { program := "ytcclnmfkailmaaa", sum := "8e903c834bdcb83577526ffd653630091c2af5eafbdb3468a58679be6ff1c742", func := "loop.example/g01316/laws.FnExactFewestTests", spec := "fnExactFewestTests", apart := false, narrowed := true }
def FnExactFewestTestsUptoSaid : Prop := fnExactFewestTestsUptoRow.holds Try.pinned (OpenSpec.upto fnExactFewestTestsSpec)

end Rows
end Go.Proofs.Ytcclnmfkailmaaa
