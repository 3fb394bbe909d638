/- For every delay and number of people the program's QuickSends and the reference's agree; no conditions. -/
import Derived.Test.YtcclnmfkailmaabPFnExactQuickSendsx3
set_option linter.unusedSimpArgs false
set_option linter.unusedVariables false
namespace Go.Proofs.Ytcclnmfkailmaab.Pure
open Go.RowKit Go.Proofs.Ytcclnmfkailmaab.PFnExactQuickSends Go.Proofs.YtcclnmfkailmaabW.PrintWords Go.Proofs.YtcclnmfkailmaabW.PrintLast

theorem w64 {x : Int} (h0 : -9223372036854775808 ≤ x) (h1 : x ≤ 9223372036854775807) : wrap64 x = x := by unfold wrap64; omega
theorem up64 {i n : Nat} (h : i < n) (hn : n ≤ 4611686018427387904) : wrap64 ((i : Int) + 1) = ((i + 1 : Nat) : Int) := by rw [w64 (by omega) (by omega)]; omega
theorem rd_lt {xs : List Int} {i : Nat} (h : i < xs.length) : rd xs (i : Int) = xs[i] := by unfold rd; simp [List.getD_eq_getElem?_getD, h]
set_option maxHeartbeats 4000000 in
theorem q1 : ∀ b ∈ List.range 41, laws_FnExactQuickSends.f 500 1 (b : Int) = some true := by decide +kernel
set_option maxHeartbeats 4000000 in
theorem q2 : ∀ b ∈ List.range 41, laws_FnExactQuickSends.f 500 2 (b : Int) = some true := by decide +kernel
set_option maxHeartbeats 4000000 in
theorem q3 : ∀ b ∈ List.range 41, laws_FnExactQuickSends.f 500 3 (b : Int) = some true := by decide +kernel
set_option maxHeartbeats 4000000 in
theorem q4 : ∀ b ∈ List.range 41, laws_FnExactQuickSends.f 500 4 (b : Int) = some true := by decide +kernel
set_option maxHeartbeats 4000000 in
theorem q5 : ∀ b ∈ List.range 41, laws_FnExactQuickSends.f 500 5 (b : Int) = some true := by decide +kernel
set_option maxHeartbeats 4000000 in
theorem q6 : ∀ b ∈ List.range 41, laws_FnExactQuickSends.f 500 6 (b : Int) = some true := by decide +kernel
set_option maxHeartbeats 4000000 in
theorem q7 : ∀ b ∈ List.range 41, laws_FnExactQuickSends.f 500 7 (b : Int) = some true := by decide +kernel
set_option maxHeartbeats 4000000 in
theorem q8 : ∀ b ∈ List.range 41, laws_FnExactQuickSends.f 500 8 (b : Int) = some true := by decide +kernel
set_option maxHeartbeats 4000000 in
theorem q9 : ∀ b ∈ List.range 41, laws_FnExactQuickSends.f 500 9 (b : Int) = some true := by decide +kernel
set_option maxHeartbeats 4000000 in
theorem q10 : ∀ b ∈ List.range 41, laws_FnExactQuickSends.f 500 10 (b : Int) = some true := by decide +kernel
theorem out (q : Nat) (a b : Int) (h : ¬ ((1 ≤ a ∧ a ≤ 10) ∧ (1 ≤ b ∧ b ≤ 40))) : laws_FnExactQuickSends.f (q + 9) a b = some true := by
    have e0 : ∀ x y : Int, spec_l1In.f x 1 y = some (decide (1 ≤ x ∧ x ≤ y)) := by
      intro x y
      unfold spec_l1In.f
      by_cases h1 : x ≥ 1
      · rw [if_pos h1]; simp [h1]
      · rw [if_neg h1]; simp; omega
    have e0' : ∀ x y : Int, impl_within.f x 1 y = some (decide (1 ≤ x ∧ x ≤ y)) := by
      intro x y
      unfold impl_within.f
      by_cases h1 : 1 ≤ x
      · rw [if_pos h1]; simp [h1]
      · rw [if_neg h1]; simp; omega
    have s1 : ∀ k, spec_QuickSends.f k a b = some ([], false) := by
      intro k
      unfold spec_QuickSends.f spec_deAsked.f spec_deDelay.f
      simp only [e0, Option.bind_some]
      by_cases h1 : 1 ≤ a ∧ a ≤ 10
      · have h2 : ¬ (1 ≤ b ∧ b ≤ 40) := fun h2 => h ⟨h1, h2⟩
        simp [h1, h2]
      · simp [h1]
    have s2 : ∀ k, impl_QuickSends.f k a b = some ([], false) := by
      intro k
      unfold impl_QuickSends.f impl_areDelayed.f impl_isDelay.f
      simp only [e0', Option.bind_some]
      by_cases h1 : 1 ≤ a ∧ a ≤ 10
      · have h2 : ¬ (1 ≤ b ∧ b ≤ 40) := fun h2 => h ⟨h1, h2⟩
        simp [h1, h2]
      · simp [h1]
    have e1 : ∀ k, 0 < k → laws_eqSendS.f k [] [] = some true := fun k hk => by
      obtain ⟨k, rfl⟩ : ∃ q, k = q + 1 := ⟨k - 1, by omega⟩
      simp [laws_eqSendS.f, laws_eqSendS.l0]
    have e2 : ∀ k, 0 < k → laws_markSendS.f k [] 1 = some (1, []) := fun k hk => by
      obtain ⟨k, rfl⟩ : ∃ q, k = q + 1 := ⟨k - 1, by omega⟩
      simp [laws_markSendS.f, laws_markSendS.l0]
    have e3 : ∀ k, 0 < k → laws_heldSendS.f k [] 1 = some 1 := fun k hk => by
      obtain ⟨k, rfl⟩ : ∃ q, k = q + 1 := ⟨k - 1, by omega⟩
      simp [laws_heldSendS.f, laws_heldSendS.l0]
    unfold laws_FnExactQuickSends.f
    simp (disch := omega) only [s1, s2, e1, Option.bind_some, if_true, bne_self_eq_false]
    rw [laws_FnExactQuickSends.j0.eq_def]
    simp (disch := omega) only [s2, e1, e2, e3, Option.bind_some, if_true, bne_self_eq_false, Bool.false_eq_true, if_false]
    rw [laws_FnExactQuickSends.j1.eq_def]
    simp (disch := omega) only [e3, Option.bind_some, Bool.false_eq_true, if_false]
    simp
theorem FnExactQuickSends : laws_FnExactQuickSends.Pure := by
  intro a b _ _
  by_cases h : (1 ≤ a ∧ a ≤ 10) ∧ (1 ≤ b ∧ b ≤ 40)
  · refine ⟨500, ?_⟩
    have hb : b.toNat ∈ List.range 41 := by rw [List.mem_range]; omega
    have eb : ((b.toNat : Nat) : Int) = b := by omega
    have ha : a = 1 ∨ a = 2 ∨ a = 3 ∨ a = 4 ∨ a = 5 ∨ a = 6 ∨ a = 7 ∨ a = 8 ∨ a = 9 ∨ a = 10 := by omega
    rcases ha with rfl | rfl | rfl | rfl | rfl | rfl | rfl | rfl | rfl | rfl
    · have := q1 b.toNat hb; rwa [eb] at this
    · have := q2 b.toNat hb; rwa [eb] at this
    · have := q3 b.toNat hb; rwa [eb] at this
    · have := q4 b.toNat hb; rwa [eb] at this
    · have := q5 b.toNat hb; rwa [eb] at this
    · have := q6 b.toNat hb; rwa [eb] at this
    · have := q7 b.toNat hb; rwa [eb] at this
    · have := q8 b.toNat hb; rwa [eb] at this
    · have := q9 b.toNat hb; rwa [eb] at this
    · have := q10 b.toNat hb; rwa [eb] at this
  · exact ⟨9, out 0 a b h⟩

end Go.Proofs.Ytcclnmfkailmaab.Pure
