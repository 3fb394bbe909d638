/- For every number of wires the program's CountGroupings and the reference's agree; no conditions. -/
import Derived.Test.YtcclnmfkailmaaaPFnExactCountGroupingsx2
set_option linter.unusedSimpArgs false
set_option linter.unusedVariables false
namespace Go.Proofs.Ytcclnmfkailmaaa.Pure
open Go.RowKit Go.Proofs.Ytcclnmfkailmaaa.PFnExactCountGroupings Go.Proofs.YtcclnmfkailmaaaW.PrintWords Go.Proofs.YtcclnmfkailmaaaW.PrintLast

theorem all : ∀ a ∈ List.range 13, laws_FnExactCountGroupings.f 400 (a : Int) = some true := by decide +kernel
theorem FnExactCountGroupings : laws_FnExactCountGroupings.Pure := by
  intro a _
  refine ⟨400, ?_⟩
  by_cases h : 1 ≤ a ∧ a ≤ 12
  · have := all a.toNat (by rw [List.mem_range]; omega)
    rwa [show ((a.toNat : Nat) : Int) = a by omega] at this
  · unfold laws_FnExactCountGroupings.f spec_CountGroupings.f impl_CountGroupings.f spec_cbWires.f impl_areWires.f spec_l1In.f impl_within.f
    by_cases h1 : 1 ≤ a
    · have h4 : ¬ a ≤ 12 := fun h4 => h ⟨h1, h4⟩
      simp [h1, h4]
    · simp [h1]

end Go.Proofs.Ytcclnmfkailmaaa.Pure
