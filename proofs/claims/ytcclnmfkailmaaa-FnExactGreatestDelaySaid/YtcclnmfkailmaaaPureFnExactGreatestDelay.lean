/- For every number of people and minute the program's GreatestDelay and the reference's agree; no conditions. -/
import Derived.Test.YtcclnmfkailmaaaPFnExactGreatestDelayx2
set_option linter.unusedSimpArgs false
set_option linter.unusedVariables false
namespace Go.Proofs.Ytcclnmfkailmaaa.Pure
open Go.RowKit Go.Proofs.Ytcclnmfkailmaaa.PFnExactGreatestDelay Go.Proofs.YtcclnmfkailmaaaW.PrintWords Go.Proofs.YtcclnmfkailmaaaW.PrintLast

theorem w64 {x : Int} (h0 : -9223372036854775808 ≤ x) (h1 : x ≤ 9223372036854775807) : wrap64 x = x := by unfold wrap64; omega
theorem up64 {i n : Nat} (h : i < n) (hn : n ≤ 4611686018427387904) : wrap64 ((i : Int) + 1) = ((i + 1 : Nat) : Int) := by rw [w64 (by omega) (by omega)]; omega
theorem rd_lt {xs : List Int} {i : Nat} (h : i < xs.length) : rd xs (i : Int) = xs[i] := by unfold rd; simp [List.getD_eq_getElem?_getD, h]
/-- The values that the recurrence writes, one behind the other. -/
def sq (d : Int) : Nat → List Int
  | 0 => []
  | t + 1 => sq d t ++ [if (t : Int) ≥ d then wrap64 (rd (sq d t) (t - 1) + rd (sq d t) (t - d)) else 1]
theorem sq_len (d : Int) : ∀ t, (sq d t).length = t
  | 0 => rfl
  | t + 1 => by simp [sq, sq_len d t]
theorem sq_pre (d : Int) (t : Nat) : ∀ n, t < n → rd (sq d n) t = rd (sq d (t + 1)) t := by
  intro n hn
  induction n with
  | zero => omega
  | succ n ih =>
    by_cases e : t = n
    · rw [e]
    · rw [← ih (by omega)]
      show rd (sq d n ++ _) _ = _
      unfold rd
      simp only [List.getD_eq_getElem?_getD]
      rw [List.getElem?_append_left (by rw [sq_len]; simp; omega)]
theorem sq_step {d : Int} {t : Nat} : sq d (t + 1) = sq d t ++ [if (t : Int) ≥ d then wrap64 (rd (sq d t) (t - 1) + rd (sq d t) (t - d)) else 1] := rfl
theorem informed_l0 {d : Int} (hd : 1 ≤ d) (m : Nat) (hm : m ≤ 1000000) : ∀ (n i k : Nat), i + n = m + 1 → n < k → impl_informed.l0 k d m (sq d i) ((m : Int) + 1) i = some (rd (sq d (m + 1)) m)
  | 0, i, k, hi, hk => by
    obtain ⟨k, rfl⟩ : ∃ q, k = q + 1 := ⟨k - 1, by omega⟩
    simp only [impl_informed.l0]
    rw [if_neg (by omega), if_pos (by omega), if_pos (by rw [sq_len]; omega)]
    rw [show i = m + 1 by omega]
  | n + 1, i, k, hi, hk => by
    obtain ⟨k, rfl⟩ : ∃ q, k = q + 1 := ⟨k - 1, by omega⟩
    have ih := informed_l0 hd m hm n (i + 1) k (by omega) (by omega)
    simp only [impl_informed.l0]
    rw [if_pos (by omega), w64 (x := (i : Int) + 1) (by omega) (by omega)]
    have e1 : ((i : Int) + 1) = ((i + 1 : Nat) : Int) := by omega
    rw [e1]
    by_cases h : (i : Int) ≥ d
    · rw [if_pos h, w64 (x := (i : Int) - 1) (by omega) (by omega), w64 (x := (i : Int) - d) (by omega) (by omega)]
      rw [if_pos (by omega), if_pos (by rw [sq_len]; omega), if_pos (by omega), if_pos (by rw [sq_len]; omega), if_pos (by rw [sq_len]; omega)]
      rw [sq_step, if_pos h] at ih
      exact ih
    · rw [if_neg h, if_pos (by rw [sq_len]; omega)]
      rw [sq_step, if_neg h] at ih
      exact ih
theorem informed_f {d : Int} (hd : 1 ≤ d) (m : Nat) (hm : m ≤ 1000000) (k : Nat) (hk : m + 1 < k) : impl_informed.f k d m = some (rd (sq d (m + 1)) m) := by
  unfold impl_informed.f
  rw [w64 (by omega) (by omega)]
  exact informed_l0 hd m hm (m + 1) 0 k (by omega) hk
theorem deInformed_l0 {d : Int} (hd : 1 ≤ d) (m : Nat) (hm : m ≤ 1000000) : ∀ (n i k : Nat), i + n = m + 1 → n < k → spec_deInformed.l0 k d m (sq d i) i = some (sq d (m + 1))
  | 0, i, k, hi, hk => by
    obtain ⟨k, rfl⟩ : ∃ q, k = q + 1 := ⟨k - 1, by omega⟩
    simp only [spec_deInformed.l0]
    rw [if_neg (by omega)]
    rw [show i = m + 1 by omega]
  | n + 1, i, k, hi, hk => by
    obtain ⟨k, rfl⟩ : ∃ q, k = q + 1 := ⟨k - 1, by omega⟩
    have ih := deInformed_l0 hd m hm n (i + 1) k (by omega) (by omega)
    simp only [spec_deInformed.l0]
    rw [if_pos (by omega), w64 (x := (i : Int) + 1) (by omega) (by omega)]
    have e1 : ((i : Int) + 1) = ((i + 1 : Nat) : Int) := by omega
    rw [e1]
    by_cases h : (i : Int) ≥ d
    · rw [if_pos h, w64 (x := (i : Int) - 1) (by omega) (by omega), w64 (x := (i : Int) - d) (by omega) (by omega)]
      rw [if_pos (by omega), if_pos (by rw [sq_len]; omega), if_pos (by omega), if_pos (by rw [sq_len]; omega), if_pos (by rw [sq_len]; omega)]
      rw [sq_step, if_pos h] at ih
      exact ih
    · rw [if_neg h, if_pos (by rw [sq_len]; omega)]
      rw [sq_step, if_neg h] at ih
      exact ih
theorem deInformed_f {d : Int} (hd : 1 ≤ d) (m : Nat) (hm : m ≤ 1000000) (k : Nat) (hk : m + 1 < k) : spec_deInformed.f k d m = some (sq d (m + 1)) := deInformed_l0 hd m hm (m + 1) 0 k (by omega) hk
theorem loops {p : Int} (m : Nat) (hm : m ≤ 60) : ∀ (n k : Nat), n ≤ 10 → n + 100 < k → ∃ r, spec_GreatestDelay.l0 k p m n = some r ∧ impl_GreatestDelay.l0 k p m n = some r
  | 0, k, _, hk => by
    obtain ⟨k, rfl⟩ : ∃ q, k = q + 1 := ⟨k - 1, by omega⟩
    refine ⟨(0, false), ?_, ?_⟩
    · simp only [spec_GreatestDelay.l0]; rw [if_neg (by omega)]
    · simp only [impl_GreatestDelay.l0]; rw [if_neg (by omega)]
  | n + 1, k, hn, hk => by
    obtain ⟨k, rfl⟩ : ∃ q, k = q + 1 := ⟨k - 1, by omega⟩
    obtain ⟨r, h1, h2⟩ := loops (p := p) m hm n k (by omega) (by omega)
    have e : wrap64 (((n + 1 : Nat) : Int) - 1) = (n : Int) := by rw [w64 (by omega) (by omega)]; omega
    have hi := informed_f (d := ((n + 1 : Nat) : Int)) (by omega) m (by omega) k (by omega)
    have hd := deInformed_f (d := ((n + 1 : Nat) : Int)) (by omega) m (by omega) k (by omega)
    by_cases h : rd (sq ((n + 1 : Nat) : Int) (m + 1)) m ≥ p
    · refine ⟨(((n + 1 : Nat) : Int), true), ?_, ?_⟩
      · simp only [spec_GreatestDelay.l0]; rw [if_pos (by omega), hd]; simp only [Option.bind_some]; rw [if_pos (by omega), if_pos (by rw [sq_len]; omega), if_pos h]
      · simp only [impl_GreatestDelay.l0]; rw [if_pos (by omega), hi]; simp only [Option.bind_some]; rw [if_pos h]
    · refine ⟨r, ?_, ?_⟩
      · simp only [spec_GreatestDelay.l0]; rw [if_pos (by omega), hd]; simp only [Option.bind_some]; rw [if_pos (by omega), if_pos (by rw [sq_len]; omega), if_neg h, e]; exact h1
      · simp only [impl_GreatestDelay.l0]; rw [if_pos (by omega), hi]; simp only [Option.bind_some]; rw [if_neg h, e]; exact h2
theorem FnExactGreatestDelay_all (a0 a1 : Int) : ∃ k, laws_FnExactGreatestDelay.f k a0 a1 = some true := by
  refine ⟨501, ?_⟩
  unfold laws_FnExactGreatestDelay.f spec_GreatestDelay.f impl_GreatestDelay.f spec_deMany.f impl_isMinute.f spec_l1In.f impl_within.f
  by_cases h1 : 1 ≤ a0
  · by_cases h2 : a0 ≤ 1000000
    · by_cases h3 : 0 ≤ a1
      · by_cases h4 : a1 ≤ 60
        · obtain ⟨r, hs, hi⟩ := loops (p := a0) a1.toNat (by omega) 10 500 (by omega) (by omega)
          rw [show ((a1.toNat : Nat) : Int) = a1 by omega, show ((10 : Nat) : Int) = 10 by rfl] at hs hi
          simp [h1, h2, h3, h4, spec_GreatestDelay.j0, impl_GreatestDelay.j0, hs, hi]
        · simp [h1, h2, h3, h4, spec_GreatestDelay.j0, impl_GreatestDelay.j0]
      · simp [h1, h2, h3, spec_GreatestDelay.j0, impl_GreatestDelay.j0]
    · simp [h1, h2, spec_GreatestDelay.j0, impl_GreatestDelay.j0]
  · simp [h1, spec_GreatestDelay.j0, impl_GreatestDelay.j0]
theorem FnExactGreatestDelay : laws_FnExactGreatestDelay.Pure := fun a b _ _ => FnExactGreatestDelay_all a b

end Go.Proofs.Ytcclnmfkailmaaa.Pure
