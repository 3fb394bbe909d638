/- For every number of wires the program's BinaryTests and the reference's agree, and what is handed back is shared with nothing; no conditions. -/
import Derived.Test.YthkoignldhocgabPFnExactBinaryTestsx2
set_option linter.unusedSimpArgs false
set_option linter.unusedVariables false
namespace Go.Proofs.Ythkoignldhocgab.Pure
open Go.RowKit Go.Proofs.Ythkoignldhocgab.PFnExactBinaryTests Go.Proofs.YthkoignldhocgabW.PrintWords Go.Proofs.YthkoignldhocgabW.PrintLast Go.Proofs.YthkoignldhocgabW.PrintMore

theorem FnExactBinaryTests : ∀ (a0 : Int), (Lit.int .i64 a0).wf = true → ∃ k, laws_FnExactBinaryTests.f k a0 = some true := by
  intro a _
  by_cases h : 1 ≤ a ∧ a ≤ 10
  · have h1 : a = 1 ∨ a = 2 ∨ a = 3 ∨ a = 4 ∨ a = 5 ∨ a = 6 ∨ a = 7 ∨ a = 8 ∨ a = 9 ∨ a = 10 := by omega
    refine ⟨60, ?_⟩
    rcases h1 with rfl | rfl | rfl | rfl | rfl | rfl | rfl | rfl | rfl | rfl <;> decide +kernel
  · refine ⟨1, ?_⟩
    unfold laws_FnExactBinaryTests.f spec_BinaryTests.f impl_BinaryTests.f spec_wiWires.f impl_areTested.f spec_l1In.f impl_within.f
    by_cases h1 : 1 ≤ a
    · have h2 : ¬ a ≤ 10 := fun h3 => h ⟨h1, h3⟩
      simp [h1, h2, Aux.tot]
    · simp [h1, Aux.tot]

end Go.Proofs.Ythkoignldhocgab.Pure
