/- For every delay and number of people the program's MinutesFor and the reference's agree; no conditions. -/
import Derived.Test.YtcclnmfkailmaaaPFnExactMinutesForx1
set_option linter.unusedSimpArgs false
set_option linter.unusedVariables false
namespace Go.Proofs.Ytcclnmfkailmaaa.Pure
open Go.RowKit Go.Proofs.Ytcclnmfkailmaaa.PFnExactMinutesFor Go.Proofs.YtcclnmfkailmaaaW.PrintWords Go.Proofs.YtcclnmfkailmaaaW.PrintLast

theorem w64 {x : Int} (h0 : -9223372036854775808 ≤ x) (h1 : x ≤ 9223372036854775807) : wrap64 x = x := by unfold wrap64; omega
theorem up64 {i n : Nat} (h : i < n) (hn : n ≤ 4611686018427387904) : wrap64 ((i : Int) + 1) = ((i + 1 : Nat) : Int) := by rw [w64 (by omega) (by omega)]; omega
theorem rd_lt {xs : List Int} {i : Nat} (h : i < xs.length) : rd xs (i : Int) = xs[i] := by unfold rd; simp [List.getD_eq_getElem?_getD, h]
/-- The values that the recurrence writes, one behind the other. -/
def sq (d : Int) : Nat → List Int
  | 0 => []
  | t + 1 => sq d t ++ [if (t : Int) ≥ d then wrap64 (rd (sq d t) (t - 1) + rd (sq d t) (t - d)) else 1]
theorem sq_len (d : Int) : ∀ t, (sq d t).length = t
  | 0 => rfl
  | t + 1 => by simp [sq, sq_len d t]
theorem sq_pre (d : Int) (t : Nat) : ∀ n, t < n → rd (sq d n) t = rd (sq d (t + 1)) t := by
  intro n hn
  induction n with
  | zero => omega
  | succ n ih =>
    by_cases e : t = n
    · rw [e]
    · rw [← ih (by omega)]
      show rd (sq d n ++ _) _ = _
      unfold rd
      simp only [List.getD_eq_getElem?_getD]
      rw [List.getElem?_append_left (by rw [sq_len]; simp; omega)]
theorem sq_step {d : Int} {t : Nat} : sq d (t + 1) = sq d t ++ [if (t : Int) ≥ d then wrap64 (rd (sq d t) (t - 1) + rd (sq d t) (t - d)) else 1] := rfl
theorem informed_l0 {d : Int} (hd : 1 ≤ d) (m : Nat) (hm : m ≤ 1000000) : ∀ (n i k : Nat), i + n = m + 1 → n < k → impl_informed.l0 k d m (sq d i) ((m : Int) + 1) i = some (rd (sq d (m + 1)) m)
  | 0, i, k, hi, hk => by
    obtain ⟨k, rfl⟩ : ∃ q, k = q + 1 := ⟨k - 1, by omega⟩
    simp only [impl_informed.l0]
    rw [if_neg (by omega), if_pos (by omega), if_pos (by rw [sq_len]; omega)]
    rw [show i = m + 1 by omega]
  | n + 1, i, k, hi, hk => by
    obtain ⟨k, rfl⟩ : ∃ q, k = q + 1 := ⟨k - 1, by omega⟩
    have ih := informed_l0 hd m hm n (i + 1) k (by omega) (by omega)
    simp only [impl_informed.l0]
    rw [if_pos (by omega), w64 (x := (i : Int) + 1) (by omega) (by omega)]
    have e1 : ((i : Int) + 1) = ((i + 1 : Nat) : Int) := by omega
    rw [e1]
    by_cases h : (i : Int) ≥ d
    · rw [if_pos h, w64 (x := (i : Int) - 1) (by omega) (by omega), w64 (x := (i : Int) - d) (by omega) (by omega)]
      rw [if_pos (by omega), if_pos (by rw [sq_len]; omega), if_pos (by omega), if_pos (by rw [sq_len]; omega), if_pos (by rw [sq_len]; omega)]
      rw [sq_step, if_pos h] at ih
      exact ih
    · rw [if_neg h, if_pos (by rw [sq_len]; omega)]
      rw [sq_step, if_neg h] at ih
      exact ih
theorem informed_f {d : Int} (hd : 1 ≤ d) (m : Nat) (hm : m ≤ 1000000) (k : Nat) (hk : m + 1 < k) : impl_informed.f k d m = some (rd (sq d (m + 1)) m) := by
  unfold impl_informed.f
  rw [w64 (by omega) (by omega)]
  exact informed_l0 hd m hm (m + 1) 0 k (by omega) hk
theorem sq_big : ∀ d ∈ List.range 11, 1 ≤ d → ∃ t ∈ List.range 100, rd (sq (d : Int) 100) (t : Int) ≥ 1000000 := by decide +kernel
/-- The least minute at which the recurrence reaches a number. -/
theorem least {d p : Int} (h1 : 1 ≤ d) (h10 : d ≤ 10) (hp : p ≤ 1000000) : ∃ t : Nat, t < 100 ∧ rd (sq d (t + 1)) t ≥ p ∧ ∀ i : Nat, i < t → rd (sq d (i + 1)) i < p := by
  obtain ⟨T, hT, hb⟩ := sq_big d.toNat (by rw [List.mem_range]; omega) (by omega)
  rw [List.mem_range] at hT
  rw [show ((d.toNat : Nat) : Int) = d by omega] at hb
  have key : ∀ n : Nat, (∃ t : Nat, t < n ∧ rd (sq d (t + 1)) t ≥ p ∧ ∀ i : Nat, i < t → rd (sq d (i + 1)) i < p) ∨ ∀ i : Nat, i < n → rd (sq d (i + 1)) i < p := by
    intro n
    induction n with
    | zero => exact .inr (fun i hi => by omega)
    | succ n ih =>
      rcases ih with ⟨t, h1, h2⟩ | h
      · exact .inl ⟨t, by omega, h2⟩
      · by_cases e : rd (sq d (n + 1)) n ≥ p
        · exact .inl ⟨n, by omega, e, h⟩
        · refine .inr (fun i hi => ?_)
          by_cases e2 : i = n
          · rw [e2]; omega
          · exact h i (by omega)
  rcases key 100 with ⟨t, h1, h2⟩ | h
  · exact ⟨t, h1, h2⟩
  · have := h T hT
    rw [← sq_pre d T 100 hT] at this
    omega
theorem minutesFor_l0 {d p : Int} (h1 : 1 ≤ d) {t : Nat} (ht : t < 100) (h2 : rd (sq d (t + 1)) t ≥ p) (h3 : ∀ i : Nat, i < t → rd (sq d (i + 1)) i < p) : ∀ (n i k : Nat), i + n = t → n + 200 < k → impl_minutesFor.l0 k d p i = some (t : Int)
  | 0, i, k, hi, hk => by
    obtain ⟨k, rfl⟩ : ∃ q, k = q + 1 := ⟨k - 1, by omega⟩
    simp only [impl_minutesFor.l0]
    rw [informed_f h1 i (by omega) k (by omega)]
    simp only [Option.bind_some]
    rw [show i = t by omega, if_neg (by omega)]
  | n + 1, i, k, hi, hk => by
    obtain ⟨k, rfl⟩ : ∃ q, k = q + 1 := ⟨k - 1, by omega⟩
    have ih := minutesFor_l0 h1 ht h2 h3 n (i + 1) k (by omega) (by omega)
    simp only [impl_minutesFor.l0]
    rw [informed_f h1 i (by omega) k (by omega)]
    simp only [Option.bind_some]
    rw [if_pos (h3 i (by omega)), w64 (by omega) (by omega)]
    exact ih
theorem minutesFor_f {d p : Int} (h1 : 1 ≤ d) {t : Nat} (ht : t < 100) (h2 : rd (sq d (t + 1)) t ≥ p) (h3 : ∀ i : Nat, i < t → rd (sq d (i + 1)) i < p) (k : Nat) (hk : 400 < k) : impl_minutesFor.f k d p = some (t : Int) :=
  minutesFor_l0 h1 ht h2 h3 t 0 k (by omega) (by omega)
theorem deMinutes_l0 {d p : Int} (h1 : 1 ≤ d) {t : Nat} (ht : t < 100) (h2 : rd (sq d (t + 1)) t ≥ p) (h3 : ∀ i : Nat, i < t → rd (sq d (i + 1)) i < p) : ∀ (n i k : Nat), i + n = t → n < k → spec_deMinutes.l0 k d p (sq d i) i = some (t : Int) := by
  have at_ : ∀ i : Nat, rd (sq d (i + 1)) i = if (i : Int) ≥ d then wrap64 (rd (sq d i) (i - 1) + rd (sq d i) (i - d)) else 1 := by
    intro i
    rw [sq_step]
    unfold rd
    rw [List.getD_eq_getElem?_getD, List.getElem?_append_right (by rw [sq_len]; simp), sq_len]
    simp
  intro n
  induction n with
  | zero =>
    intro i k hi hk
    obtain ⟨k, rfl⟩ : ∃ q, k = q + 1 := ⟨k - 1, by omega⟩
    have hit : i = t := by omega
    subst hit
    have ha := at_ i
    simp only [spec_deMinutes.l0]
    by_cases h : (i : Int) ≥ d
    · rw [if_pos h] at ha
      rw [if_pos h, w64 (x := (i : Int) - 1) (by omega) (by omega), w64 (x := (i : Int) - d) (by omega) (by omega), ← ha]
      rw [if_pos (by omega), if_pos (by rw [sq_len]; omega), if_pos (by omega), if_pos (by rw [sq_len]; omega), if_pos h2]
    · rw [if_neg h] at ha
      rw [if_neg h, if_pos (by omega)]
  | succ n ih =>
    intro i k hi hk
    obtain ⟨k, rfl⟩ : ∃ q, k = q + 1 := ⟨k - 1, by omega⟩
    have ih := ih (i + 1) k (by omega) (by omega)
    have ha := at_ i
    have h4 := h3 i (by omega)
    simp only [spec_deMinutes.l0]
    rw [w64 (x := (i : Int) + 1) (by omega) (by omega)]
    have e1 : ((i : Int) + 1) = ((i + 1 : Nat) : Int) := by omega
    rw [e1]
    by_cases h : (i : Int) ≥ d
    · rw [if_pos h] at ha
      rw [if_pos h, w64 (x := (i : Int) - 1) (by omega) (by omega), w64 (x := (i : Int) - d) (by omega) (by omega), ← ha]
      rw [if_pos (by omega), if_pos (by rw [sq_len]; omega), if_pos (by omega), if_pos (by rw [sq_len]; omega), if_neg (by omega), if_pos (by rw [sq_len]; omega)]
      rw [sq_step, if_pos h, ← ha] at ih
      exact ih
    · rw [if_neg h] at ha
      rw [if_neg h, if_neg (by omega), if_pos (by rw [sq_len]; omega)]
      rw [sq_step, if_neg h] at ih
      exact ih
theorem deMinutes_f {d p : Int} (h1 : 1 ≤ d) {t : Nat} (ht : t < 100) (h2 : rd (sq d (t + 1)) t ≥ p) (h3 : ∀ i : Nat, i < t → rd (sq d (i + 1)) i < p) (k : Nat) (hk : 400 < k) : spec_deMinutes.f k d p = some (t : Int) :=
  deMinutes_l0 h1 ht h2 h3 t 0 k (by omega) (by omega)
theorem FnExactMinutesFor_all (a0 a1 : Int) : ∃ k, laws_FnExactMinutesFor.f k a0 a1 = some true := by
  refine ⟨500, ?_⟩
  unfold laws_FnExactMinutesFor.f spec_MinutesFor.f impl_MinutesFor.f spec_deDelay.f spec_deMany.f impl_isDelay.f spec_l1In.f impl_within.f
  by_cases h1 : 1 ≤ a0
  · by_cases h2 : a0 ≤ 10
    · by_cases h3 : 1 ≤ a1
      · by_cases h4 : a1 ≤ 1000000
        · obtain ⟨t, ht, hb, hl⟩ := least h1 h2 h4
          simp [h1, h2, h3, h4, minutesFor_f h1 ht hb hl 500 (by omega), deMinutes_f h1 ht hb hl 500 (by omega)]
        · simp [h1, h2, h3, h4]
      · simp [h1, h2, h3]
    · simp [h1, h2]
  · simp [h1]
theorem FnExactMinutesFor : laws_FnExactMinutesFor.Pure := fun a b _ _ => FnExactMinutesFor_all a b

end Go.Proofs.Ytcclnmfkailmaaa.Pure
