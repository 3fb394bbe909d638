/- For every delay and minute the program's InformedAt and the reference's agree; no conditions. -/
import Derived.Test.YtcclnmfkailmaaaPFnExactInformedAtx1
set_option linter.unusedSimpArgs false
set_option linter.unusedVariables false
namespace Go.Proofs.Ytcclnmfkailmaaa.Pure
open Go.RowKit Go.Proofs.Ytcclnmfkailmaaa.PFnExactInformedAt Go.Proofs.YtcclnmfkailmaaaW.PrintWords Go.Proofs.YtcclnmfkailmaaaW.PrintLast

theorem all : ∀ a ∈ List.range 11, ∀ b ∈ List.range 61, laws_FnExactInformedAt.f 70 (a : Int) (b : Int) = some true := by decide +kernel
theorem FnExactInformedAt : laws_FnExactInformedAt.Pure := by
  intro a b _ _
  by_cases h : (1 ≤ a ∧ a ≤ 10) ∧ (0 ≤ b ∧ b ≤ 60)
  · refine ⟨70, ?_⟩
    have := all a.toNat (by rw [List.mem_range]; omega) b.toNat (by rw [List.mem_range]; omega)
    rwa [show ((a.toNat : Nat) : Int) = a by omega, show ((b.toNat : Nat) : Int) = b by omega] at this
  · refine ⟨70, ?_⟩
    unfold laws_FnExactInformedAt.f spec_InformedAt.f impl_InformedAt.f spec_deDelay.f impl_isDelay.f impl_isMinute.f spec_l1In.f impl_within.f
    by_cases h1 : 1 ≤ a
    · by_cases h2 : a ≤ 10
      · by_cases h3 : 0 ≤ b
        · have h4 : ¬ b ≤ 60 := fun h4 => h ⟨⟨h1, h2⟩, h3, h4⟩
          simp [h1, h2, h3, h4]
        · simp [h1, h2, h3]
      · simp [h1, h2]
    · simp [h1]

end Go.Proofs.Ytcclnmfkailmaaa.Pure
