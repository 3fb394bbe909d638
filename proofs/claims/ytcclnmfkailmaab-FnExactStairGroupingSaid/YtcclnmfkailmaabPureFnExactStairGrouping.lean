/- For every number of steps the program's StairGrouping and the reference's agree; no conditions. -/
import Derived.Test.YtcclnmfkailmaabPFnExactStairGroupingx3
set_option linter.unusedSimpArgs false
set_option linter.unusedVariables false
namespace Go.Proofs.Ytcclnmfkailmaab.Pure
open Go.RowKit Go.Proofs.Ytcclnmfkailmaab.PFnExactStairGrouping Go.Proofs.YtcclnmfkailmaabW.PrintWords Go.Proofs.YtcclnmfkailmaabW.PrintLast

theorem w64 {x : Int} (h0 : -9223372036854775808 ≤ x) (h1 : x ≤ 9223372036854775807) : wrap64 x = x := by unfold wrap64; omega
theorem up64 {i n : Nat} (h : i < n) (hn : n ≤ 4611686018427387904) : wrap64 ((i : Int) + 1) = ((i + 1 : Nat) : Int) := by rw [w64 (by omega) (by omega)]; omega
theorem rd_lt {xs : List Int} {i : Nat} (h : i < xs.length) : rd xs (i : Int) = xs[i] := by unfold rd; simp [List.getD_eq_getElem?_getD, h]
theorem eqIntS_l0 (a b : List Int) (hl : a.length = b.length) (hn : a.length ≤ 4611686018427387904) : ∀ (d i k : Nat), i + d = a.length → d < k → laws_eqIntS.l0 k a b (i : Int) = some (decide (a.drop i = b.drop i))
  | 0, i, k, hi, hk => by
    obtain ⟨k, rfl⟩ : ∃ q, k = q + 1 := ⟨k - 1, by omega⟩
    simp only [laws_eqIntS.l0]
    rw [if_neg (by omega), List.drop_eq_nil_of_le (by omega), List.drop_eq_nil_of_le (by omega)]
    simp
  | d + 1, i, k, hi, hk => by
    obtain ⟨k, rfl⟩ : ∃ q, k = q + 1 := ⟨k - 1, by omega⟩
    have ih := eqIntS_l0 a b hl hn d (i + 1) k (by omega) (by omega)
    have ha : i < a.length := by omega
    have hb : i < b.length := by omega
    simp only [laws_eqIntS.l0]
    rw [if_pos (by omega), if_pos (by omega), if_pos (by omega), up64 ha hn, ih, rd_lt ha, rd_lt hb, List.drop_eq_getElem_cons ha, List.drop_eq_getElem_cons hb]
    by_cases e : a[i] = b[i]
    · rw [if_pos e, e]; simp only [List.cons.injEq, true_and]
    · rw [if_neg e]; simp only [List.cons.injEq, e, false_and, decide_false]
theorem eqIntS_f (a b : List Int) (hn : a.length ≤ 4611686018427387904) {k : Nat} (hk : a.length < k) : laws_eqIntS.f k a b = some (decide (a = b)) := by
  unfold laws_eqIntS.f
  by_cases h : a.length = b.length
  · rw [if_pos (by omega)]
    exact eqIntS_l0 a b h hn a.length 0 k (by omega) hk
  · rw [if_neg (by omega), decide_eq_false (fun e => h (by rw [e]))]
/-- The numbers a, a + 1, .. -/
def mk (a : Int) (n : Nat) : List Int := (List.range n).map (fun (j : Nat) => a + (j : Int))
theorem mk_len (a : Int) (n : Nat) : (mk a n).length = n := by simp [mk]
theorem mk_succ (a : Int) (n : Nat) : mk a (n + 1) = mk a n ++ [a + (n : Int)] := by simp [mk, List.range_succ]
theorem mk_rd (a : Int) {n i : Nat} (h : i < n) : rd (mk a n) (i : Int) = a + (i : Int) := by
  rw [rd_lt (by rw [mk_len]; exact h)]
  simp [mk]
theorem markIntS_l0 (l : List Int) (a : Int) (h0 : 0 ≤ a) (h1 : a ≤ 1000000000000) (hn : l.length ≤ 1000000000000) : ∀ (d i k : Nat), i + d = l.length → d < k → laws_markIntS.l0 k (mk a i ++ l.drop i) (a + (i : Int)) (i : Int) = some (a + (l.length : Int), mk a l.length)
  | 0, i, k, hi, hk => by
    obtain ⟨k, rfl⟩ : ∃ q, k = q + 1 := ⟨k - 1, by omega⟩
    have e : i = l.length := by omega
    subst e
    simp only [laws_markIntS.l0]
    rw [if_neg (by rw [List.length_append, mk_len, List.length_drop]; omega), List.drop_eq_nil_of_le (by omega), List.append_nil]
  | d + 1, i, k, hi, hk => by
    obtain ⟨k, rfl⟩ : ∃ q, k = q + 1 := ⟨k - 1, by omega⟩
    have ha : i < l.length := by omega
    have ih := markIntS_l0 l a h0 h1 hn d (i + 1) k (by omega) (by omega)
    simp only [laws_markIntS.l0]
    rw [if_pos (by rw [List.length_append, mk_len, List.length_drop]; omega), if_pos (by omega), up64 ha (by omega), w64 (x := a + (i : Int) + 1) (by omega) (by omega)]
    have he : (mk a i ++ l.drop i).set ((i : Nat) : Int).toNat (a + (i : Int)) = mk a (i + 1) ++ l.drop (i + 1) := by
      rw [List.set_append_right _ _ (by rw [mk_len]; omega), mk_len, mk_succ, List.drop_eq_getElem_cons ha]
      have e : ((i : Nat) : Int).toNat - i = 0 := by omega
      rw [e, List.set_cons_zero]
      simp only [List.append_assoc, List.singleton_append]
    rw [he, show a + (i : Int) + 1 = a + ((i + 1 : Nat) : Int) by omega]
    exact ih
theorem markIntS_f (l : List Int) (a : Int) (h0 : 0 ≤ a) (h1 : a ≤ 1000000000000) (hn : l.length ≤ 1000000000000) {k : Nat} (hk : l.length < k) : laws_markIntS.f k l a = some (a + (l.length : Int), mk a l.length) := by
  have h := markIntS_l0 l a h0 h1 hn l.length 0 k (by omega) hk
  unfold laws_markIntS.f
  simpa [mk] using h
theorem heldIntS_l0 (n : Nat) (a : Int) (h0 : 0 ≤ a) (h1 : a ≤ 1000000000000) (hn : n ≤ 1000000000000) : ∀ (d i k : Nat), i + d = n → d < k → laws_heldIntS.l0 k (mk a n) (a + (i : Int)) (i : Int) = some (a + (n : Int))
  | 0, i, k, hi, hk => by
    obtain ⟨k, rfl⟩ : ∃ q, k = q + 1 := ⟨k - 1, by omega⟩
    have e : i = n := by omega
    subst e
    simp only [laws_heldIntS.l0]
    rw [if_neg (by rw [mk_len]; omega)]
  | d + 1, i, k, hi, hk => by
    obtain ⟨k, rfl⟩ : ∃ q, k = q + 1 := ⟨k - 1, by omega⟩
    have ha : i < n := by omega
    have ih := heldIntS_l0 n a h0 h1 hn d (i + 1) k (by omega) (by omega)
    simp only [laws_heldIntS.l0]
    rw [if_pos (by rw [mk_len]; omega), if_pos (by omega), mk_rd a ha, if_pos rfl, up64 ha (by omega), w64 (x := a + (i : Int) + 1) (by omega) (by omega), show a + (i : Int) + 1 = a + ((i + 1 : Nat) : Int) by omega]
    exact ih
theorem heldIntS_f (n : Nat) (a : Int) (h0 : 0 ≤ a) (h1 : a ≤ 1000000000000) (hn : n ≤ 1000000000000) {k : Nat} (hk : n < k) : laws_heldIntS.f k (mk a n) a = some (a + (n : Int)) := by
  have h := heldIntS_l0 n a h0 h1 hn n 0 k (by omega) hk
  unfold laws_heldIntS.f
  simpa using h
theorem all : ∀ a ∈ List.range 5, laws_FnExactStairGrouping.f 200 (a : Int) = some true := by decide +kernel
theorem FnExactStairGrouping_all (a0 : Int) : ∃ k, laws_FnExactStairGrouping.f k a0 = some true := by
  by_cases h : 0 ≤ a0 ∧ a0 ≤ 4
  · refine ⟨200, ?_⟩
    have := all a0.toNat (by rw [List.mem_range]; omega)
    rwa [show ((a0.toNat : Nat) : Int) = a0 by omega] at this
  · refine ⟨12, ?_⟩
    have s1 : ∀ k, spec_StairGrouping.f k a0 = some ([], [], false) := by
      intro k
      unfold spec_StairGrouping.f spec_l1In.f
      by_cases h1 : a0 ≥ 1
      · rw [if_pos h1]; simp only [Option.bind_some]; rw [if_neg (by simp; omega)]
      · rw [if_neg h1]; simp
    have s2 : ∀ k, impl_StairGrouping.f k a0 = some ([], [], false) := by
      intro k
      unfold impl_StairGrouping.f impl_within.f
      by_cases h1 : 1 ≤ a0
      · rw [if_pos h1]; simp only [Option.bind_some]; rw [if_neg (by simp; omega)]
      · rw [if_neg h1]; simp
    have e1 : ∀ k, 0 < k → laws_eqIntS.f k [] [] = some true := fun k hk => by rw [eqIntS_f [] [] (by simp) (by simpa using hk)]; rfl
    have e2 : ∀ k, 0 < k → laws_markIntS.f k [] 1 = some (1, []) := fun k hk => by rw [markIntS_f [] 1 (by omega) (by omega) (by simp) (by simpa using hk)]; rfl
    have e3 : ∀ k, 0 < k → laws_heldIntS.f k [] 1 = some 1 := fun k hk => by have := heldIntS_f 0 1 (by omega) (by omega) (by omega) hk; simpa [mk] using this
    unfold laws_FnExactStairGrouping.f
    simp (disch := omega) only [s1, s2, e1, e2, e3, Option.bind_some, if_true, bne_self_eq_false]
    rw [laws_FnExactStairGrouping.j0.eq_def]
    simp (disch := omega) only [s1, s2, e1, e2, e3, Option.bind_some, if_true, bne_self_eq_false, Bool.false_eq_true, if_false]
    rw [laws_FnExactStairGrouping.j1.eq_def]
    simp (disch := omega) only [s1, s2, e1, e2, e3, Option.bind_some, if_true, bne_self_eq_false, Bool.false_eq_true, if_false]
    simp
theorem FnExactStairGrouping : laws_FnExactStairGrouping.Pure := fun a _ => FnExactStairGrouping_all a

end Go.Proofs.Ytcclnmfkailmaab.Pure
