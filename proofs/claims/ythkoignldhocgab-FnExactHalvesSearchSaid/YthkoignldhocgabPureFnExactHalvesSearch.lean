/- For every two numbers the program's HalvesSearch and the reference's agree, and what is handed back is shared with nothing; no conditions. -/
import Derived.Test.YthkoignldhocgabPFnExactHalvesSearchx3
set_option linter.unusedSimpArgs false
set_option linter.unusedVariables false
namespace Go.Proofs.Ythkoignldhocgab.Pure
open Go.RowKit Go.Proofs.Ythkoignldhocgab.PFnExactHalvesSearch Go.Proofs.YthkoignldhocgabW.PrintWords Go.Proofs.YthkoignldhocgabW.PrintLast Go.Proofs.YthkoignldhocgabW.PrintMore

def allB (n : Nat) (p : Int → Bool) : Bool := (List.range n).all fun j => p ((j : Int) - 1)
theorem allB_get {n : Nat} {p : Int → Bool} (h : allB n p = true) (b : Int) (h0 : -1 ≤ b) (h1 : b + 1 < n) : p b = true := by
  have := List.all_eq_true.1 h (b + 1).toNat (List.mem_range.2 (by omega))
  have e : (((b + 1).toNat : Nat) : Int) - 1 = b := by omega
  rwa [e] at this
theorem FnExactHalvesSearch : ∀ (a0 : Int) (a1 : Int), (Lit.int .i64 a0).wf = true → (Lit.int .i64 a1).wf = true → ∃ k, laws_FnExactHalvesSearch.f k a0 a1 = some true := by
  intro a b _ _
  by_cases h : 1 ≤ a ∧ a ≤ 10
  · by_cases hb : -1 ≤ b ∧ b ≤ a - 1
    · refine ⟨100, ?_⟩
      have key : ∀ m : Nat, m < 11 → 1 ≤ m → allB (m + 1) (fun b => decide (laws_FnExactHalvesSearch.f 100 (m : Int) b = some true)) = true := by
        intro m hm h1
        have : m = 1 ∨ m = 2 ∨ m = 3 ∨ m = 4 ∨ m = 5 ∨ m = 6 ∨ m = 7 ∨ m = 8 ∨ m = 9 ∨ m = 10 := by omega
        rcases this with rfl | rfl | rfl | rfl | rfl | rfl | rfl | rfl | rfl | rfl <;> decide +kernel
      have hk := allB_get (key a.toNat (by omega) (by omega)) b hb.1 (by omega)
      rw [Int.toNat_of_nonneg (by omega)] at hk
      simpa using hk
    · refine ⟨1, ?_⟩
      have w : wrap64 (a - 1) = a - 1 := by unfold wrap64; omega
      unfold laws_FnExactHalvesSearch.f spec_HalvesSearch.f impl_HalvesSearch.f spec_wiWires.f impl_areTested.f spec_l1In.f impl_within.f
      rw [w]
      by_cases h2 : -1 ≤ b
      · have h3 : ¬ b ≤ a - 1 := fun h3 => hb ⟨h2, h3⟩
        simp [h.1, h.2, h2, h3, Aux.tot, spec_HalvesSearch.j0]
      · simp [h.1, h.2, h2, Aux.tot, spec_HalvesSearch.j0]
  · refine ⟨1, ?_⟩
    unfold laws_FnExactHalvesSearch.f spec_HalvesSearch.f impl_HalvesSearch.f spec_wiWires.f impl_areTested.f spec_l1In.f impl_within.f
    by_cases h1 : 1 ≤ a
    · have h2 : ¬ a ≤ 10 := fun h3 => h ⟨h1, h3⟩
      simp [h1, h2, Aux.tot, spec_HalvesSearch.j0]
    · simp [h1, Aux.tot, spec_HalvesSearch.j0]

end Go.Proofs.Ythkoignldhocgab.Pure
