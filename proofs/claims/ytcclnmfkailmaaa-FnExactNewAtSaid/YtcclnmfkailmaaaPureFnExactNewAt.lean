/- For every delay and minute the program's NewAt and the reference's agree; no conditions. -/
import Derived.Test.YtcclnmfkailmaaaPFnExactNewAtx1
set_option linter.unusedSimpArgs false
set_option linter.unusedVariables false
namespace Go.Proofs.Ytcclnmfkailmaaa.Pure
open Go.RowKit Go.Proofs.Ytcclnmfkailmaaa.PFnExactNewAt Go.Proofs.YtcclnmfkailmaaaW.PrintWords Go.Proofs.YtcclnmfkailmaaaW.PrintLast

theorem all : ∀ a ∈ List.range 11, ∀ b ∈ List.range 61, laws_FnExactNewAt.f 70 (a : Int) (b : Int) = some true := by decide +kernel
theorem FnExactNewAt : laws_FnExactNewAt.Pure := by
  intro a b _ _
  by_cases h : (1 ≤ a ∧ a ≤ 10) ∧ (0 ≤ b ∧ b ≤ 60)
  · refine ⟨70, ?_⟩
    have := all a.toNat (by rw [List.mem_range]; omega) b.toNat (by rw [List.mem_range]; omega)
    rwa [show ((a.toNat : Nat) : Int) = a by omega, show ((b.toNat : Nat) : Int) = b by omega] at this
  · refine ⟨70, ?_⟩
    unfold laws_FnExactNewAt.f spec_NewAt.f impl_NewAt.f impl_InformedAt.f spec_deDelay.f impl_isDelay.f impl_isMinute.f spec_l1In.f impl_within.f
    by_cases h1 : 1 ≤ a
    · by_cases h2 : a ≤ 10
      · by_cases h3 : 0 ≤ b
        · have h4 : ¬ b ≤ 60 := fun h4 => h ⟨⟨h1, h2⟩, h3, h4⟩
          simp [h1, h2, h3, h4, spec_NewAt.j0]
        · simp [h1, h2, h3, spec_NewAt.j0]
      · simp [h1, h2, spec_NewAt.j0]
    · simp [h1, spec_NewAt.j0]

end Go.Proofs.Ytcclnmfkailmaaa.Pure
