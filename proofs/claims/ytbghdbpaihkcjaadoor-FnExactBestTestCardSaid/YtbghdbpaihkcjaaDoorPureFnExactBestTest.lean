/- For every two numbers, list of lists and text the program's BestTest and the reference's agree; no conditions. -/
import Derived.Test.YtbghdbpaihkcjaaDoorPFnExactBestTestx9
set_option linter.unusedSimpArgs false
set_option linter.unusedVariables false
namespace Go.Proofs.YtbghdbpaihkcjaaDoor.Pure
open Go.RowKit Go.Proofs.YtbghdbpaihkcjaaDoor.PFnExactBestTest Go.Proofs.YtbghdbpaihkcjaaDoorW.PrintWords Go.Proofs.YtbghdbpaihkcjaaDoorW.PrintLast Go.Proofs.YtbghdbpaihkcjaaDoorW.PrintMore

open Aux7
theorem toIntS_l0 (a : List Int) (hn : a.length ≤ 4611686018427387904) : ∀ (d i k : Nat), i + d = a.length → d < k → laws_toIntS.l0 k a (a.take i ++ List.replicate d 0) (i : Int) = some a
  | 0, i, k, hi, hk => by
    obtain ⟨k, rfl⟩ : ∃ q, k = q + 1 := ⟨k - 1, by omega⟩
    simp only [laws_toIntS.l0]
    rw [if_neg (by omega), List.take_of_length_le (by omega)]
    simp
  | d + 1, i, k, hi, hk => by
    obtain ⟨k, rfl⟩ : ∃ q, k = q + 1 := ⟨k - 1, by omega⟩
    have ih := toIntS_l0 a hn d (i + 1) k (by omega) (by omega)
    have ha : i < a.length := by omega
    simp only [laws_toIntS.l0]
    rw [if_pos (by omega), if_pos (by omega), if_pos (by simp; omega), up64 ha hn, rd_lt ha]
    have he : (a.take i ++ List.replicate (d + 1) (0 : Int)).set ((i : Nat) : Int).toNat a[i] = a.take (i + 1) ++ List.replicate d 0 := by
      rw [List.set_append_right _ _ (by simp; omega), List.replicate_succ]
      have e : ((i : Nat) : Int).toNat - (a.take i).length = 0 := by simp; omega
      rw [e, List.set_cons_zero, List.take_succ_eq_append_getElem ha]
      simp only [List.append_assoc, List.singleton_append]
    rw [he]
    exact ih
theorem toIntS_f (a : List Int) (hn : a.length ≤ 1048576) {k : Nat} (hk : a.length < k) : laws_toIntS.f k a = some a := by
  unfold laws_toIntS.f
  rw [if_pos (by omega), if_pos (by omega)]
  exact toIntS_l0 a (by omega) a.length 0 k (by omega) hk
theorem eqIntS_l0 (a b : List Int) (hl : a.length = b.length) (hn : a.length ≤ 4611686018427387904) : ∀ (d i k : Nat), i + d = a.length → d < k → laws_eqIntS.l0 k a b (i : Int) = some (decide (a.drop i = b.drop i))
  | 0, i, k, hi, hk => by
    obtain ⟨k, rfl⟩ : ∃ q, k = q + 1 := ⟨k - 1, by omega⟩
    simp only [laws_eqIntS.l0]
    rw [if_neg (by omega), List.drop_eq_nil_of_le (by omega), List.drop_eq_nil_of_le (by omega)]
    simp
  | d + 1, i, k, hi, hk => by
    obtain ⟨k, rfl⟩ : ∃ q, k = q + 1 := ⟨k - 1, by omega⟩
    have ih := eqIntS_l0 a b hl hn d (i + 1) k (by omega) (by omega)
    have ha : i < a.length := by omega
    have hb : i < b.length := by omega
    simp only [laws_eqIntS.l0]
    rw [if_pos (by omega), if_pos (by omega), if_pos (by omega), up64 ha hn, ih, rd_lt ha, rd_lt hb, List.drop_eq_getElem_cons ha, List.drop_eq_getElem_cons hb]
    by_cases e : a[i] = b[i]
    · rw [if_pos e, e]; simp only [List.cons.injEq, true_and]
    · rw [if_neg e]; simp only [List.cons.injEq, e, false_and, decide_false]
theorem eqIntS_f (a b : List Int) (hn : a.length ≤ 4611686018427387904) {k : Nat} (hk : a.length < k) : laws_eqIntS.f k a b = some (decide (a = b)) := by
  unfold laws_eqIntS.f
  by_cases h : a.length = b.length
  · rw [if_pos (by omega)]
    exact eqIntS_l0 a b h hn a.length 0 k (by omega) hk
  · rw [if_neg (by omega), decide_eq_false (fun e => h (by rw [e]))]
/-- The length of all rows together. -/
def tot (l : List (List Int)) : Nat := (l.map List.length).sum
theorem tot_cons (x : List Int) (l : List (List Int)) : tot (x :: l) = x.length + tot l := by simp [tot]
theorem tot_drop (l : List (List Int)) (i : Nat) (h : i < l.length) : tot (l.drop i) = (l[i]).length + tot (l.drop (i + 1)) := by
  rw [List.drop_eq_getElem_cons h, tot_cons]
theorem szIntSS_l0 (l : List (List Int)) (hn : l.length ≤ 4000000) : ∀ (d i k : Nat) (left : Int), i + d = l.length → 0 ≤ left → left ≤ 1048576 → (∀ x ∈ l, x.length ≤ 9223372036854775807) → d < k → laws_szIntSS.l0 k l left (i : Int) = some (if (tot (l.drop i) : Int) ≤ left then left - (tot (l.drop i) : Int) else -1)
  | 0, i, k, left, hi, h0, h1, hm, hk => by
    obtain ⟨k, rfl⟩ : ∃ q, k = q + 1 := ⟨k - 1, by omega⟩
    simp only [laws_szIntSS.l0]
    rw [if_neg (by omega), List.drop_eq_nil_of_le (by omega)]
    simp [tot, h0]
  | d + 1, i, k, left, hi, h0, h1, hm, hk => by
    obtain ⟨k, rfl⟩ : ∃ q, k = q + 1 := ⟨k - 1, by omega⟩
    have ha : i < l.length := by omega
    have e : rd_L1 l (i : Int) = l[i] := by unfold rd_L1; simp [List.getD_eq_getElem?_getD, ha]
    have hlen := hm _ (List.getElem_mem ha)
    have ht := tot_drop l i ha
    have w : wrap64 (left - (l[i].length : Int)) = left - (l[i].length : Int) := w64 (by omega) (by omega)
    simp only [laws_szIntSS.l0]
    rw [if_pos (by omega), if_pos (by omega), e]
    unfold laws_szIntS.f
    rw [w]
    by_cases hc : left - (l[i].length : Int) < 0
    · rw [if_pos hc]
      simp only [Option.bind_some]
      rw [if_pos (by omega), if_neg (by omega)]
    · rw [if_neg hc]
      simp only [Option.bind_some]
      rw [if_neg hc, up64 ha (by omega), szIntSS_l0 l hn d (i + 1) k _ (by omega) (by omega) (by omega) hm (by omega), ht]
      by_cases h2 : ((tot (l.drop (i + 1)) : Nat) : Int) ≤ left - (l[i].length : Int)
      · rw [if_pos h2, if_pos (by omega)]; congr 1; omega
      · rw [if_neg h2, if_neg (by omega)]
theorem szIntSS_f (l : List (List Int)) (left : Int) (h0 : 0 ≤ left) (h1 : left ≤ 1048576) (hl : l.length ≤ 9223372036854775807) (hm : ∀ x ∈ l, x.length ≤ 9223372036854775807) {k : Nat} (hk : 2000000 < k) : laws_szIntSS.f k l left = some (if (l.length : Int) + (tot l : Int) ≤ left then left - (l.length : Int) - (tot l : Int) else -1) := by
  have w : wrap64 (left - (l.length : Int)) = left - (l.length : Int) := w64 (by omega) (by omega)
  unfold laws_szIntSS.f
  rw [w]
  by_cases hc : left - (l.length : Int) < 0
  · rw [if_pos hc, if_neg (by omega)]
  · rw [if_neg hc]
    have h := szIntSS_l0 l (by omega) l.length 0 k (left - (l.length : Int)) (by omega) (by omega) (by omega) hm (by omega)
    rw [List.drop_zero] at h
    rw [show (0 : Int) = ((0 : Nat) : Int) from rfl, h]
    by_cases h2 : ((tot l : Nat) : Int) ≤ left - (l.length : Int)
    · rw [if_pos h2, if_pos (by omega)]
    · rw [if_neg h2, if_neg (by omega)]
theorem row_le_tot (l : List (List Int)) (x : List Int) (h : x ∈ l) : x.length ≤ tot l := by
  induction l with
  | nil => cases h
  | cons y l ih =>
    rw [tot_cons]
    rcases List.mem_cons.1 h with rfl | h
    · omega
    · have := ih h; omega
theorem toIntSS_l0 (l : List (List Int)) (hn : l.length ≤ 1048576) (ht : ∀ x ∈ l, x.length ≤ 1048576) : ∀ (d i k : Nat), i + d = l.length → d + 1048577 < k → laws_toIntSS.l0 k l (l.take i ++ List.replicate d []) (i : Int) = some l
  | 0, i, k, hi, hk => by
    obtain ⟨k, rfl⟩ : ∃ q, k = q + 1 := ⟨k - 1, by omega⟩
    simp only [laws_toIntSS.l0]
    rw [if_neg (by omega), List.take_of_length_le (by omega)]
    simp
  | d + 1, i, k, hi, hk => by
    obtain ⟨k, rfl⟩ : ∃ q, k = q + 1 := ⟨k - 1, by omega⟩
    have ih := toIntSS_l0 l hn ht d (i + 1) k (by omega) (by omega)
    have ha : i < l.length := by omega
    have e : rd_L1 l (i : Int) = l[i] := by unfold rd_L1; simp [List.getD_eq_getElem?_getD, ha]
    have hlen := ht _ (List.getElem_mem ha)
    simp only [laws_toIntSS.l0]
    rw [if_pos (by omega), if_pos (by omega), e, toIntS_f _ hlen (by omega)]
    simp only [Option.bind_some]
    rw [if_pos (by simp; omega), up64 ha (by omega)]
    have he : (l.take i ++ List.replicate (d + 1) ([] : List Int)).set ((i : Nat) : Int).toNat l[i] = l.take (i + 1) ++ List.replicate d [] := by
      rw [List.set_append_right _ _ (by simp; omega), List.replicate_succ]
      have e : ((i : Nat) : Int).toNat - (l.take i).length = 0 := by simp; omega
      rw [e, List.set_cons_zero, List.take_succ_eq_append_getElem ha]
      simp only [List.append_assoc, List.singleton_append]
    rw [he]
    exact ih
theorem toIntSS_f (l : List (List Int)) (hn : l.length ≤ 1048576) (ht : ∀ x ∈ l, x.length ≤ 1048576) {k : Nat} (hk : 3000000 < k) : laws_toIntSS.f k l = some l := by
  unfold laws_toIntSS.f
  rw [if_pos (by omega), if_pos (by omega)]
  exact toIntSS_l0 l hn ht l.length 0 k (by omega) (by omega)
theorem eqIntSS_l0' (a : List (List Int)) (hn : a.length ≤ 1048576) (ht : ∀ x ∈ a, x.length ≤ 1048576) : ∀ (d i k : Nat), i + d = a.length → d + 1048577 < k → laws_eqIntSS.l0 k a a (i : Int) = some true
  | 0, i, k, hi, hk => by
    obtain ⟨k, rfl⟩ : ∃ q, k = q + 1 := ⟨k - 1, by omega⟩
    simp only [laws_eqIntSS.l0]
    rw [if_neg (by omega)]
  | d + 1, i, k, hi, hk => by
    obtain ⟨k, rfl⟩ : ∃ q, k = q + 1 := ⟨k - 1, by omega⟩
    have ih := eqIntSS_l0' a hn ht d (i + 1) k (by omega) (by omega)
    have ha : i < a.length := by omega
    have h1 := ht _ (List.getElem_mem ha)
    have e : rd_L1 a (i : Int) = a[i] := by unfold rd_L1; simp [List.getD_eq_getElem?_getD, ha]
    simp only [laws_eqIntSS.l0]
    rw [if_pos (by omega), if_pos (by omega), if_pos (by omega), e, eqIntS_f _ _ (by omega) (by omega), up64 ha (by omega)]
    simpa using ih
theorem eqIntSS_f (a : List (List Int)) (hn : a.length ≤ 1048576) (ht : ∀ x ∈ a, x.length ≤ 1048576) {k : Nat} (hk : 3000000 < k) : laws_eqIntSS.f k a a = some true := by
  unfold laws_eqIntSS.f
  rw [if_pos rfl]
  exact eqIntSS_l0' a hn ht a.length 0 _ (by omega) (by omega)
/-- Are these tests of so many wires? -/
def tst (a : Int) (l : List (List Int)) : Bool := impl_AreTests.p_all a l
theorem l1Rising_l0 (l : List Int) (lo hi : Int) (hn : l.length ≤ 4000000) : ∀ (d i k : Nat), i + d = l.length → d < k → spec_l1Rising.l0 k l lo hi l (l.length : Int) (i : Int) = some (Aux2.p_up (l.drop (i - 1)) && (l.drop i).all fun y => decide (lo ≤ y) && decide (y ≤ hi))
  | 0, i, k, hi', hk => by
    obtain ⟨k, rfl⟩ : ∃ q, k = q + 1 := ⟨k - 1, by omega⟩
    have e : Aux2.p_up (l.drop (i - 1)) = true := by
      have : (l.drop (i - 1)).length ≤ 1 := by rw [List.length_drop]; omega
      cases hq : l.drop (i - 1) with
      | nil => rfl
      | cons x t =>
        rw [hq] at this
        cases t with
        | nil => rfl
        | cons y t => simp at this
    simp only [spec_l1Rising.l0]
    rw [if_neg (by omega), e, List.drop_eq_nil_of_le (by omega)]
    rfl
  | d + 1, i, k, hi', hk => by
    obtain ⟨k, rfl⟩ : ∃ q, k = q + 1 := ⟨k - 1, by omega⟩
    have ha : i < l.length := by omega
    have ih := l1Rising_l0 l lo hi hn d (i + 1) k (by omega) (by omega)
    simp only [spec_l1Rising.l0]
    rw [if_pos (by omega), if_pos (by omega), if_pos (by omega), rd_lt ha, up64 ha (by omega)]
    unfold spec_l1In.f
    rw [show i + 1 - 1 = i by omega] at ih
    have hall : ((l.drop i).all fun y => decide (lo ≤ y) && decide (y ≤ hi)) = ((decide (lo ≤ l[i]) && decide (l[i] ≤ hi)) && (l.drop (i + 1)).all fun y => decide (lo ≤ y) && decide (y ≤ hi)) := by
      rw [List.drop_eq_getElem_cons ha, List.all_cons]
    rw [hall]
    clear hall
    by_cases h1 : lo ≤ l[i]
    · rw [if_pos (show l[i] ≥ lo from h1)]
      simp only [Option.bind_some]
      by_cases h2 : l[i] ≤ hi
      · rw [if_pos (by simpa using h2)]
        by_cases h0 : i = 0
        · subst h0
          rw [if_neg (by omega), ih]
          simp [h1, h2]
        · have hb : i - 1 < l.length := by omega
          have e1 : wrap64 ((i : Int) - 1) = ((i - 1 : Nat) : Int) := by rw [w64 (by omega) (by omega)]; omega
          have hup : Aux2.p_up (l.drop (i - 1)) = (decide (l[i - 1] < l[i]) && Aux2.p_up (l.drop i)) := by
            rw [List.drop_eq_getElem_cons hb, show i - 1 + 1 = i by omega, List.drop_eq_getElem_cons ha]
            rfl
          rw [if_pos (by omega), e1, if_pos (by omega), if_pos (by omega), rd_lt hb, ih, hup]
          by_cases e : l[i - 1] ≥ l[i]
          · rw [if_pos e]
            simp [show ¬ l[i - 1] < l[i] by omega]
          · rw [if_neg e]
            simp [show l[i - 1] < l[i] by omega, h1, h2]
      · rw [if_neg (by simpa using h2)]
        simp [h2]
    · rw [if_neg (show ¬ l[i] ≥ lo from h1)]
      simp [h1]
theorem l1Rising_f (a : Int) (l : List Int) (hn : l.length ≤ 4000000) {k : Nat} (hk : l.length < k) : spec_l1Rising.f k l 0 (wrap64 (a - 1)) = some (impl_AreTests.p_rising a l) := by
  unfold spec_l1Rising.f impl_AreTests.p_rising
  have := l1Rising_l0 l 0 (wrap64 (a - 1)) hn l.length 0 k (by omega) hk
  simpa using this
theorem wiGood_l0 (a : Int) (l : List (List Int)) (hn : l.length ≤ 1048576) (ht : ∀ x ∈ l, x.length ≤ 1048576) : ∀ (d i k : Nat), i + d = l.length → d + 1048577 < k → spec_wiGood.l0 k a l (l.length : Int) (i : Int) = some ((l.drop i).all fun c => !impl_AreTests.p_bad a c)
  | 0, i, k, hi, hk => by
    obtain ⟨k, rfl⟩ : ∃ q, k = q + 1 := ⟨k - 1, by omega⟩
    simp only [spec_wiGood.l0]
    rw [if_neg (by omega), List.drop_eq_nil_of_le (by omega)]
    rfl
  | d + 1, i, k, hi, hk => by
    obtain ⟨k, rfl⟩ : ∃ q, k = q + 1 := ⟨k - 1, by omega⟩
    have ha : i < l.length := by omega
    have ih := wiGood_l0 a l hn ht d (i + 1) k (by omega) (by omega)
    have e : rd_L1 l (i : Int) = l[i] := by unfold rd_L1; simp [List.getD_eq_getElem?_getD, ha]
    have hlen := ht _ (List.getElem_mem ha)
    simp only [spec_wiGood.l0]
    rw [if_pos (by omega), if_pos (by omega), if_pos (by omega), e, up64 ha (by omega), ih, l1Rising_f a _ (by omega) (by omega), List.drop_eq_getElem_cons ha, List.all_cons]
    unfold impl_AreTests.p_bad
    by_cases h0 : l[i].length = 0
    · rw [if_pos (by omega)]
      simp [h0]
    · rw [if_neg (by omega)]
      simp only [Option.bind_some]
      cases impl_AreTests.p_rising a l[i] with
      | true => rw [if_pos rfl]; simp [h0]
      | false => simp [h0]
theorem wiGood_f (a : Int) (l : List (List Int)) (hn : l.length ≤ 1048576) (ht : ∀ x ∈ l, x.length ≤ 1048576) {k : Nat} (hk : 3000000 < k) : spec_wiGood.f k a l = some (tst a l) := by
  obtain ⟨k, rfl⟩ : ∃ q, k = q + 1 := ⟨k - 1, by omega⟩
  have h := wiGood_l0 a l hn ht l.length 0 k (by omega) (by omega)
  rw [List.drop_zero, show ((0 : Nat) : Int) = 0 from rfl] at h
  unfold spec_wiGood.f spec_wiWires.f spec_l1In.f tst impl_AreTests.p_all
  by_cases h1 : 1 ≤ a
  · rw [if_pos (show a ≥ 1 from h1)]
    simp only [Option.bind_some]
    by_cases h2 : a ≤ 10
    · rw [if_pos (by simpa using h2)]
      simp only [spec_wiGood.j0]
      by_cases h3 : l.length ≤ 12
      · rw [if_neg (by simp; omega), h]
        simp [h1, h2, h3]
      · rw [if_pos (by simp; omega)]
        simp [h3]
    · rw [if_neg (by simpa using h2)]
      simp only [spec_wiGood.j0]
      simp [h2]
  · rw [if_neg (show ¬ a ≥ 1 from h1)]
    simp only [Option.bind_some, Bool.false_eq_true, if_false, spec_wiGood.j0]
    simp [h1]
theorem areTests_f (a : Int) (l : List (List Int)) (ht : ∀ x ∈ l, x.length ≤ 1048576) : impl_AreTests.f a l = some (tst a l) := by
  unfold impl_AreTests.f
  rw [if_pos ht]
  rfl
theorem wiBits_l0 (l : List Int) (hn : l.length ≤ 4000000) (hl : ∀ x ∈ l, 0 ≤ x ∧ x ≤ 9) : ∀ (d i k : Nat), i + d = l.length → d < k → spec_wiBits.l0 k (setN (l.take i) : Nat) l (l.length : Int) (i : Int) = some ((setN l : Nat) : Int)
  | 0, i, k, hi, hk => by
    obtain ⟨k, rfl⟩ : ∃ q, k = q + 1 := ⟨k - 1, by omega⟩
    simp only [spec_wiBits.l0]
    rw [if_neg (by omega), List.take_of_length_le (by omega)]
  | d + 1, i, k, hi, hk => by
    obtain ⟨k, rfl⟩ : ∃ q, k = q + 1 := ⟨k - 1, by omega⟩
    have ha : i < l.length := by omega
    have hx := hl _ (List.getElem_mem ha)
    have ih := wiBits_l0 l hn hl d (i + 1) k (by omega) (by omega)
    have h1 := setN_lt (l.take i) (fun y hy => hl y (List.mem_of_mem_take hy))
    have e : shl .i64 1 l[i] = ((2 ^ (l[i]).toNat : Nat) : Int) := by
      have := shl_i64 (l[i]).toNat (by omega)
      rwa [Int.toNat_of_nonneg hx.1] at this
    simp only [spec_wiBits.l0]
    rw [if_pos (by omega), if_pos (by omega), if_pos (by omega), rd_lt ha, if_pos hx.1, up64 ha (by omega), e, or_i64 _ _ (by omega) (Nat.pow_lt_pow_right (n := 16) (by decide) (by omega)), ← setN_take l i ha]
    exact ih
theorem wiBits_f (l : List Int) (hn : l.length ≤ 4000000) (hl : ∀ x ∈ l, 0 ≤ x ∧ x ≤ 9) {k : Nat} (hk : l.length < k) : spec_wiBits.f k l = some ((setN l : Nat) : Int) := wiBits_l0 l hn hl l.length 0 k (by omega) hk
theorem setOf_l0 (l : List Int) (hn : l.length ≤ 4000000) (hl : ∀ x ∈ l, 0 ≤ x ∧ x ≤ 9) : ∀ (d i k : Nat), i + d = l.length → d < k → impl_setOf.l0 k (setN (l.take i) : Nat) l (l.length : Int) (i : Int) = some ((setN l : Nat) : Int)
  | 0, i, k, hi, hk => by
    obtain ⟨k, rfl⟩ : ∃ q, k = q + 1 := ⟨k - 1, by omega⟩
    simp only [impl_setOf.l0]
    rw [if_neg (by omega), List.take_of_length_le (by omega)]
  | d + 1, i, k, hi, hk => by
    obtain ⟨k, rfl⟩ : ∃ q, k = q + 1 := ⟨k - 1, by omega⟩
    have ha : i < l.length := by omega
    have hx := hl _ (List.getElem_mem ha)
    have ih := setOf_l0 l hn hl d (i + 1) k (by omega) (by omega)
    have h1 := setN_lt (l.take i) (fun y hy => hl y (List.mem_of_mem_take hy))
    have e : shl .u16 1 l[i] = ((2 ^ (l[i]).toNat : Nat) : Int) := by
      have := shl_u16 (l[i]).toNat (by omega)
      rwa [Int.toNat_of_nonneg hx.1] at this
    simp only [impl_setOf.l0]
    rw [if_pos (by omega), if_pos (by omega), if_pos (by omega), rd_lt ha, if_pos hx.1, up64 ha (by omega), e, or_u16 _ _ (by omega) (Nat.pow_lt_pow_right (n := 16) (by decide) (by omega)), ← setN_take l i ha]
    exact ih
theorem setOf_f (l : List Int) (hn : l.length ≤ 4000000) (hl : ∀ x ∈ l, 0 ≤ x ∧ x ≤ 9) {k : Nat} (hk : l.length < k) : impl_setOf.f k l = some ((setN l : Nat) : Int) := setOf_l0 l hn hl l.length 0 k (by omega) hk
theorem within_any (l : List Int) (lo hi : Int) : (!(l.any fun x => !impl_areWithin_1.in_ lo hi x)) = l.all fun y => decide (lo ≤ y) && decide (y ≤ hi) := by
  unfold impl_areWithin_1.in_
  induction l with
  | nil => rfl
  | cons x l ih => simp only [List.any_cons, List.all_cons, Bool.not_or, Bool.not_not, ih]
theorem p_up_drop (l : List Int) (i : Nat) (h1 : 1 ≤ i) (h : i < l.length) : Aux2.p_up (l.drop (i - 1)) = (decide (l[i - 1] < l[i]) && Aux2.p_up (l.drop i)) := by
  rw [List.drop_eq_getElem_cons (show i - 1 < l.length by omega), show i - 1 + 1 = i by omega, List.drop_eq_getElem_cons h]
  rfl
theorem isRising_l0 (a : Int) (l : List Int) (hn : l.length ≤ 4000000) : ∀ (d i k : Nat), i + d = l.length → 1 ≤ i → d < k → impl_isRising.l0 k a l (i : Int) = some (Aux2.p_up (l.drop (i - 1)) && l.all fun y => decide (0 ≤ y) && decide (y ≤ wrap64 (a - 1)))
  | 0, i, k, hi', h1, hk => by
    obtain ⟨k, rfl⟩ : ∃ q, k = q + 1 := ⟨k - 1, by omega⟩
    have e : Aux2.p_up (l.drop (i - 1)) = true := by
      have : (l.drop (i - 1)).length ≤ 1 := by rw [List.length_drop]; omega
      cases hq : l.drop (i - 1) with
      | nil => rfl
      | cons x t =>
        rw [hq] at this
        cases t with
        | nil => rfl
        | cons y t => simp at this
    simp only [impl_isRising.l0]
    rw [if_neg (by omega), e]
    unfold impl_areWithin.f impl_areWithin_1.f
    simp only [Option.bind_some, within_any]
    rfl
  | d + 1, i, k, hi', h1, hk => by
    obtain ⟨k, rfl⟩ : ∃ q, k = q + 1 := ⟨k - 1, by omega⟩
    have ha : i < l.length := by omega
    have hb : i - 1 < l.length := by omega
    have ih := isRising_l0 a l hn d (i + 1) k (by omega) (by omega) (by omega)
    rw [show i + 1 - 1 = i by omega] at ih
    have e1 : wrap64 ((i : Int) - 1) = ((i - 1 : Nat) : Int) := by rw [w64 (by omega) (by omega)]; omega
    simp only [impl_isRising.l0]
    rw [if_pos (by omega), if_pos (by omega), e1, if_pos (by omega), if_pos (by omega), rd_lt ha, rd_lt hb, up64 ha (by omega), ih, p_up_drop l i h1 ha]
    by_cases e : l[i] ≤ l[i - 1]
    · rw [if_pos e]
      simp [show ¬ l[i - 1] < l[i] by omega]
    · rw [if_neg e]
      simp [show l[i - 1] < l[i] by omega]
theorem isRising_f (a : Int) (l : List Int) (hn : l.length ≤ 4000000) {k : Nat} (hk : l.length + 1 < k) : impl_isRising.f k a l = some (impl_AreTests.p_rising a l) := by
  unfold impl_isRising.f impl_AreTests.p_rising
  by_cases h : l.length = 0
  · have : l = [] := List.length_eq_zero_iff.1 h
    subst this
    obtain ⟨k, rfl⟩ : ∃ q, k = q + 1 := ⟨k - 1, by omega⟩
    simp only [impl_isRising.l0]
    rw [if_neg (by simp)]
    unfold impl_areWithin.f impl_areWithin_1.f
    rfl
  · have := isRising_l0 a l hn (l.length - 1) 1 k (by omega) (by omega) (by omega)
    rw [show ((1 : Nat) : Int) = 1 from rfl] at this
    rw [this]
    rfl
/-- Wires that rise below ten wires. -/
theorem rising_wires (a : Int) (l : List Int) (h1 : 1 ≤ a) (h2 : a ≤ 10) (h : impl_AreTests.p_rising a l = true) : ∀ x ∈ l, 0 ≤ x ∧ x ≤ 9 := by
  intro x hx
  unfold impl_AreTests.p_rising at h
  rw [Bool.and_eq_true, List.all_eq_true] at h
  have := h.2 x hx
  rw [Bool.and_eq_true, decide_eq_true_eq, decide_eq_true_eq, w64 (by omega) (by omega)] at this
  omega
theorem tst_cases {a : Int} {l : List (List Int)} (h : tst a l = true) : 1 ≤ a ∧ a ≤ 10 ∧ l.length ≤ 12 ∧ ∀ c ∈ l, 1 ≤ c.length ∧ impl_AreTests.p_rising a c = true := by
  unfold tst impl_AreTests.p_all at h
  simp only [Bool.and_eq_true, decide_eq_true_eq, List.all_eq_true] at h
  refine ⟨h.1.1, h.1.2, h.2.1, fun c hc => ?_⟩
  have := h.2.2 c hc
  unfold impl_AreTests.p_bad at this
  simp only [Bool.not_or, Bool.not_not, Bool.and_eq_true, Bool.not_eq_true', decide_eq_false_iff_not] at this
  exact ⟨by omega, this.2⟩
/-- The bytes of the results up to test i. -/
def resN (l : List (List Int)) (s : Nat) : List Int := l.map fun c => if setN c &&& s = 0 then 48 else 49
theorem wiResults_l0 (l : List (List Int)) (s : Nat) (hs : s < 1024) (hn : l.length ≤ 12) (ht : ∀ c ∈ l, c.length ≤ 1048576 ∧ ∀ x ∈ c, 0 ≤ x ∧ x ≤ 9) : ∀ (d i k : Nat), i + d = l.length → d + 1048577 < k → spec_wiResults.l0 k (s : Nat) (strOfNums (resN (l.take i) s)) l (l.length : Int) (i : Int) = some (strOfNums (resN l s))
  | 0, i, k, hi, hk => by
    obtain ⟨k, rfl⟩ : ∃ q, k = q + 1 := ⟨k - 1, by omega⟩
    simp only [spec_wiResults.l0]
    rw [if_neg (by omega), List.take_of_length_le (by omega)]
  | d + 1, i, k, hi, hk => by
    obtain ⟨k, rfl⟩ : ∃ q, k = q + 1 := ⟨k - 1, by omega⟩
    have ha : i < l.length := by omega
    have hx := ht _ (List.getElem_mem ha)
    have ih := wiResults_l0 l s hs hn ht d (i + 1) k (by omega) (by omega)
    have e : rd_L1 l (i : Int) = l[i] := by unfold rd_L1; simp [List.getD_eq_getElem?_getD, ha]
    have hb := setN_lt l[i] hx.2
    have hsz : (strOfNums (resN (l.take i) s)).size ≤ 12 := by rw [strOfNums_size]; simp [resN]; omega
    simp only [spec_wiResults.l0]
    rw [if_pos (by omega), if_pos (by omega), if_pos (by omega), e, wiBits_f l[i] (by omega) hx.2 (by omega), up64 ha (by omega)]
    simp only [Option.bind_some]
    rw [and_i64 _ _ (by omega) (by omega), List.take_succ_eq_append_getElem ha] at *
    have hr : resN (l.take i ++ [l[i]]) s = resN (l.take i) s ++ [if setN l[i] &&& s = 0 then 48 else 49] := by unfold resN; rw [List.map_append]; rfl
    rw [hr] at ih
    by_cases hc : setN l[i] &&& s = 0
    · rw [if_pos (by omega), if_pos (by omega), ← ih, if_pos hc]
      congr 1
      apply ByteArray.ext
      apply Array.toList_inj.1
      simp [strOfNums, ByteArray.data_append]
    · rw [if_neg (by omega), if_pos (by omega), ← ih, if_neg hc]
      congr 1
      apply ByteArray.ext
      apply Array.toList_inj.1
      simp [strOfNums, ByteArray.data_append]
theorem wiResults_f (l : List (List Int)) (s : Nat) (hs : s < 1024) (hn : l.length ≤ 12) (ht : ∀ c ∈ l, c.length ≤ 1048576 ∧ ∀ x ∈ c, 0 ≤ x ∧ x ≤ 9) {k : Nat} (hk : 1100000 < k) : spec_wiResults.f k l (s : Nat) = some (strOfNums (resN l s)) := wiResults_l0 l s hs hn ht l.length 0 k (by omega) (by omega)
theorem results_l0 (l : List (List Int)) (s : Nat) (hs : s < 1024) (hn : l.length ≤ 12) (ht : ∀ c ∈ l, c.length ≤ 1048576 ∧ ∀ x ∈ c, 0 ≤ x ∧ x ≤ 9) : ∀ (d i k : Nat), i + d = l.length → d + 1048577 < k → impl_results.l0 k (s : Nat) (resN (l.take i) s) l (l.length : Int) (i : Int) = some (strOfNums (resN l s))
  | 0, i, k, hi, hk => by
    obtain ⟨k, rfl⟩ : ∃ q, k = q + 1 := ⟨k - 1, by omega⟩
    simp only [impl_results.l0]
    rw [if_neg (by omega), List.take_of_length_le (by omega)]
  | d + 1, i, k, hi, hk => by
    obtain ⟨k, rfl⟩ : ∃ q, k = q + 1 := ⟨k - 1, by omega⟩
    have ha : i < l.length := by omega
    have hx := ht _ (List.getElem_mem ha)
    have ih := results_l0 l s hs hn ht d (i + 1) k (by omega) (by omega)
    have e : rd_L1 l (i : Int) = l[i] := by unfold rd_L1; simp [List.getD_eq_getElem?_getD, ha]
    have hb := setN_lt l[i] hx.2
    have hsz : (resN (l.take i) s).length ≤ 12 := by simp [resN]; omega
    simp only [impl_results.l0]
    rw [if_pos (by omega), if_pos (by omega), if_pos (by omega), e, setOf_f l[i] (by omega) hx.2 (by omega), up64 ha (by omega)]
    simp only [Option.bind_some]
    rw [and_u16 _ _ (by omega) (by omega), List.take_succ_eq_append_getElem ha] at *
    have hr : resN (l.take i ++ [l[i]]) s = resN (l.take i) s ++ [if setN l[i] &&& s = 0 then 48 else 49] := by unfold resN; rw [List.map_append]; rfl
    rw [hr] at ih
    by_cases hc : setN l[i] &&& s = 0
    · rw [if_pos (by omega), if_pos (by omega), ← ih, if_pos hc]
    · rw [if_neg (by omega), if_pos (by omega), ← ih, if_neg hc]
theorem results_f (l : List (List Int)) (s : Nat) (hs : s < 1024) (hn : l.length ≤ 12) (ht : ∀ c ∈ l, c.length ≤ 1048576 ∧ ∀ x ∈ c, 0 ≤ x ∧ x ≤ 9) {k : Nat} (hk : 1100000 < k) : impl_results.f k l (s : Nat) = some (strOfNums (resN l s)) := results_l0 l s hs hn ht l.length 0 k (by omega) (by omega)
theorem up_of (w : Int) : ∀ (l : List Int) (f : Int), Aux2.p_up l = true → (∀ x, l.head? = some x → f ≤ x) → (∀ x ∈ l, x < w) → Up w f l
  | [], _, _, _, _ => trivial
  | [x], f, _, hf, hw => ⟨hf x rfl, hw x (by simp), trivial⟩
  | x :: y :: t, f, h, hf, hw => by
    have h' : (decide (x < y) && Aux2.p_up (y :: t)) = true := h
    rw [Bool.and_eq_true, decide_eq_true_eq] at h'
    refine ⟨hf x rfl, hw x (by simp), up_of w (y :: t) (x + 1) h'.2 ?_ (fun z hz => hw z (by simp at hz ⊢; exact .inr hz))⟩
    intro z hz
    simp at hz
    omega
theorem rising_up (a : Int) (l : List Int) (h1 : 1 ≤ a) (h2 : a ≤ 10) (h : impl_AreTests.p_rising a l = true) : Up a 0 l := by
  unfold impl_AreTests.p_rising at h
  rw [Bool.and_eq_true, List.all_eq_true] at h
  have hx : ∀ x ∈ l, 0 ≤ x ∧ x < a := fun x hx => by
    have := h.2 x hx
    rw [Bool.and_eq_true, decide_eq_true_eq, decide_eq_true_eq, w64 (by omega) (by omega)] at this
    omega
  refine up_of a l 0 h.1 (fun x hh => (hx x (List.mem_of_mem_head? hh)).1) (fun x hh => (hx x hh).2)
theorem up_len {w : Int} : ∀ {f : Int} {t : List Int}, Up w f t → (t.length : Int) ≤ if f ≤ w then w - f else 0
  | f, [], _ => by split <;> simp; omega
  | f, x :: t, h => by
    have := up_len h.2.2
    have h1 := h.1
    have h2 := h.2.1
    rw [if_pos (by omega)] at this
    rw [if_pos (by omega)]
    simp
    omega
theorem rising_len (a : Int) (l : List Int) (h1 : 1 ≤ a) (h2 : a ≤ 10) (h : impl_AreTests.p_rising a l = true) : l.length ≤ 10 := by
  have := up_len (rising_up a l h1 h2 h)
  rw [if_pos (by omega)] at this
  omega
theorem drop_all {α : Type} (p : α → Bool) : ∀ m : List α, (∀ x ∈ m.dropWhile p, p x = true) → ∀ x ∈ m, p x = true
  | [], _ => by simp
  | y :: t, h => by
    cases hy : p y with
    | true =>
      rw [List.dropWhile_cons_of_pos hy] at h
      intro x hx
      rcases List.mem_cons.1 hx with rfl | hx
      · exact hy
      · exact drop_all p t h x hx
    | false =>
      rw [List.dropWhile_cons_of_neg (by simp [hy])] at h
      have := h y (by simp)
      rw [hy] at this
      cases this
theorem drop_nil {α : Type} (p : α → Bool) : ∀ m : List α, (∀ x ∈ m, p x = true) → m.dropWhile p = []
  | [], _ => rfl
  | y :: t, h => by
    rw [List.dropWhile_cons_of_pos (h y (by simp))]
    exact drop_nil p t (fun x hx => h x (by simp [hx]))
theorem trim_nil (l cs : List UInt8) : Lib.trimS l cs = [] ↔ ∀ x ∈ l, cs.contains x = true := by
  unfold Lib.trimS Lib.trimLeftS Lib.trimRightS
  constructor
  · intro h
    have h1 := drop_all (fun b => cs.contains b) ((l.reverse.dropWhile fun b => cs.contains b).reverse) (by rw [h]; simp)
    have h2 := drop_all (fun b => cs.contains b) l.reverse (fun x hx => h1 x (by simpa using hx))
    intro x hx
    exact h2 x (by simpa using hx)
  · intro h
    rw [drop_nil (fun b => cs.contains b) l.reverse (fun x hx => h x (by simpa using hx))]
    rfl
theorem trim_01 (s : ByteArray) : (Lib.trimS s.data.toList [48, 49] = []) ↔ spec_wiAsked.p_ok s = true := by
  rw [trim_nil]
  unfold spec_wiAsked.p_ok bytesOf
  rw [List.all_eq_true]
  simp only [List.mem_map, forall_exists_index, and_imp, forall_apply_eq_imp_iff₂, Bool.or_eq_true, decide_eq_true_eq]
  constructor
  · intro h x hx
    have := h x hx
    simp only [List.contains_cons, List.contains_nil, Bool.or_false, Bool.or_eq_true, beq_iff_eq] at this
    rcases this with rfl | rfl
    · exact .inl rfl
    · exact .inr rfl
  · intro h x hx
    simp only [List.contains_cons, List.contains_nil, Bool.or_false, Bool.or_eq_true, beq_iff_eq]
    rcases h x hx with e | e
    · exact .inl (UInt8.toNat_inj.1 (by show x.toNat = 48; omega))
    · exact .inr (UInt8.toNat_inj.1 (by show x.toNat = 49; omega))
theorem l1In_f (a lo hi : Int) : spec_l1In.f a lo hi = some (decide (lo ≤ a) && decide (a ≤ hi)) := by
  unfold spec_l1In.f
  by_cases h : a ≥ lo
  · rw [if_pos h]; simp [show lo ≤ a from h]
  · rw [if_neg h]; simp [show ¬ lo ≤ a from h]
theorem within_f (a lo hi : Int) : impl_within.f a lo hi = some (decide (lo ≤ a) && decide (a ≤ hi)) := by
  unfold impl_within.f
  by_cases h : lo ≤ a
  · rw [if_pos h]; simp [h]
  · rw [if_neg h]; simp [h]
/-- Are these tests, results and a number? -/
def askd (a : Int) (l : List (List Int)) (s : ByteArray) (b : Int) : Bool := tst a l && (decide (s.size = l.length) && ((decide (0 ≤ b) && decide (b ≤ a)) && spec_wiAsked.p_ok s))
theorem wiAsked_f (a : Int) (l : List (List Int)) (s : ByteArray) (b : Int) (hn : l.length ≤ 1048576) (ht : ∀ x ∈ l, x.length ≤ 1048576) {k : Nat} (hk : 3000000 < k) : spec_wiAsked.f k a l s b = some (askd a l s b) := by
  unfold spec_wiAsked.f askd
  rw [wiGood_f a l hn ht hk, Option.bind_some]
  cases tst a l with
  | false => rfl
  | true =>
    rw [if_pos rfl]
    by_cases h : s.size = l.length
    · rw [if_pos h, l1In_f, Option.bind_some]
      cases (decide (0 ≤ b) && decide (b ≤ a)) with
      | true => rw [if_pos rfl]; simp [h]
      | false => rw [if_neg (by decide)]; simp
    · rw [if_neg h]; simp [h]
theorem areResults_f (a : Int) (l : List (List Int)) (s : ByteArray) (b : Int) (hs : s.size ≤ 1048576) (ht : ∀ x ∈ l, x.length ≤ 1048576) : impl_areResults.f a l s b = some (askd a l s b) := by
  unfold impl_areResults.f askd strings_Trim.f
  rw [areTests_f a l ht, Option.bind_some]
  cases tst a l with
  | false => rfl
  | true =>
    rw [if_pos rfl]
    by_cases h : s.size = l.length
    · rw [if_pos (by omega), if_pos ⟨by omega, by decide, by decide⟩, Option.bind_some, within_f]
      have e : ((⟨(Lib.trimS s.data.toList (⟨#[48, 49]⟩ : ByteArray).data.toList).toArray⟩ : ByteArray).toList = ([] : List UInt8)) ↔ spec_wiAsked.p_ok s = true := by
        rw [← trim_01]
        show (ByteArray.mk _).toList = [] ↔ Lib.trimS s.data.toList [48, 49] = []
        rw [ByteArray.toList_eq]
      by_cases hp : spec_wiAsked.p_ok s = true
      · rw [if_pos (e.2 hp)]
        simp only [Option.bind_some, Bool.true_and, h, decide_true, hp, Bool.and_true]
      · rw [if_neg (fun q => hp (e.1 q))]
        simp [Bool.eq_false_iff.mpr hp]
    · rw [if_neg (by omega)]; simp [h]
theorem lst_go (w m : Nat) (h : ∀ f, (lst w m f).length ≤ 2 ^ (w - f)) : ∀ d x, x + d = w → ((List.range' x d).flatMap fun y => (lst w m (y + 1)).map (fun t => (y : Int) :: t)).length ≤ 2 ^ d
  | 0, x, _ => by simp
  | d + 1, x, hx => by
    have ih := lst_go w m h d (x + 1) (by omega)
    have h1 := h (x + 1)
    rw [show w - (x + 1) = d by omega] at h1
    rw [List.range'_succ, List.flatMap_cons, List.length_append, List.length_map, Nat.pow_succ]
    omega
theorem lst_len (w : Nat) : ∀ m f, (lst w m f).length ≤ 2 ^ (w - f)
  | 0, f => by
    simp only [lst, List.length_cons, List.length_nil]
    exact Nat.one_le_two_pow
  | m + 1, f => by
    by_cases hf : f ≤ w
    · exact lst_go w m (lst_len w m) (w - f) f (by omega)
    · simp only [lst]
      rw [show w - f = 0 by omega]
      simp
theorem own_f (l : List Int) (h : l.length ≤ 1000000) : spec_l1Own.f l = some l := by
  unfold spec_l1Own.f
  rw [Option.bind_some, if_pos (by simp; omega)]
  simp
theorem wiLists_l0 (w m : Nat) (b : List Int) (hw : w ≤ 10) (hm : m ≤ 100) (hb : b.length ≤ 1000) (ih : ∀ x : Nat, x < w → ∀ k, 20 * m + 20 ≤ k → spec_wiLists.f k (w : Int) (m : Int) (b ++ [(x : Int)]) = some ((lst w m (x + 1)).map fun t => (b ++ [(x : Int)]) ++ t)) : ∀ (d x k : Nat) (acc : List (List Int)), x + d = w → 20 * m + 21 + d ≤ k → acc.length + 2 ^ d ≤ 1000000 → spec_wiLists.l0 k (w : Int) ((m + 1 : Nat) : Int) b acc (x : Int) = some (acc ++ ((List.range' x d).flatMap fun y => (lst w m (y + 1)).map (fun t => (y : Int) :: t)).map fun t => b ++ t)
  | 0, x, k, acc, hx, hk, ha => by
    obtain ⟨k, rfl⟩ : ∃ q, k = q + 1 := ⟨k - 1, by omega⟩
    simp only [spec_wiLists.l0]
    rw [if_neg (by omega)]
    simp
  | d + 1, x, k, acc, hx, hk, ha => by
    obtain ⟨k, rfl⟩ : ∃ q, k = q + 1 := ⟨k - 1, by omega⟩
    have h1 := lst_len w m (x + 1)
    rw [show w - (x + 1) = d by omega] at h1
    rw [Nat.pow_succ] at ha
    have hr := wiLists_l0 w m b hw hm hb ih d (x + 1) k (acc ++ (lst w m (x + 1)).map fun t => (b ++ [(x : Int)]) ++ t) (by omega) (by omega) (by simp; omega)
    simp only [spec_wiLists.l0]
    rw [if_pos (by omega), own_f b (by omega), Option.bind_some, if_pos (by omega), show wrap64 (((m + 1 : Nat) : Int) - 1) = (m : Int) by rw [w64 (by omega) (by omega)]; omega, ih x (by omega) k (by omega), Option.bind_some, if_pos (by simp; omega), show wrap64 ((x : Int) + 1) = ((x + 1 : Nat) : Int) by rw [w64 (by omega) (by omega)]; omega, hr]
    rw [List.range'_succ, List.flatMap_cons, List.map_append, List.map_map, List.append_assoc]
    have e : (fun t : List Int => (b ++ [(x : Int)]) ++ t) = ((fun t => b ++ t) ∘ fun t => (x : Int) :: t) := by funext t; simp
    rw [e]
theorem wiLists_f (w : Nat) (hw : w ≤ 10) : ∀ (m : Nat) (b : List Int) (f k : Nat), m ≤ 100 → b.length + m ≤ 200 → f ≤ 1000 → ((b = [] ∧ f = 0) ∨ ∃ b' : List Int, ∃ y : Nat, b = b' ++ [(y : Int)] ∧ f = y + 1) → 20 * m + 20 ≤ k → spec_wiLists.f k (w : Int) (m : Int) b = some ((lst w m f).map fun t => b ++ t)
  | 0, b, f, k, _, _, _, _, hk => by
    obtain ⟨k, rfl⟩ : ∃ q, k = q + 1 := ⟨k - 1, by omega⟩
    simp only [spec_wiLists.f]
    rw [if_pos (by simp)]
    simp [lst]
  | m + 1, b, f, k, hm, hb, hf, hfr, hk => by
    obtain ⟨k, rfl⟩ : ∃ q, k = q + 2 := ⟨k - 2, by omega⟩
    have hl : spec_wiLists.l0 k (w : Int) ((m + 1 : Nat) : Int) b [] (f : Int) = some ((lst w (m + 1) f).map fun t => b ++ t) := by
      by_cases hfw : f ≤ w
      · have hp : (2 : Nat) ^ (w - f) ≤ 2 ^ 10 := Nat.pow_le_pow_right (by decide) (by omega)
        rw [wiLists_l0 w m b hw (by omega) (by omega) (fun x hx k hk => wiLists_f w hw m (b ++ [(x : Int)]) (x + 1) k (by omega) (by simp; omega) (by omega) (.inr ⟨b, x, rfl, rfl⟩) hk) (w - f) f k [] (by omega) (by omega) (by simp; omega)]
        simp only [lst, List.nil_append]
      · obtain ⟨k, rfl⟩ : ∃ q, k = q + 1 := ⟨k - 1, by omega⟩
        simp only [spec_wiLists.l0, lst]
        rw [if_neg (by omega), show w - f = 0 by omega]
        simp
    simp only [spec_wiLists.f, spec_wiLists.j0]
    rw [if_neg (by omega)]
    rcases hfr with ⟨rfl, rfl⟩ | ⟨b', y, rfl, rfl⟩
    · rw [if_neg (by simp)]
      exact hl
    · have e1 : wrap64 (((b' ++ [(y : Int)]).length : Int) - 1) = (b'.length : Int) := by
        rw [w64 (by rw [List.length_append]; simp <;> omega) (by simp at hb ⊢; omega)]; simp
      have e2 : rd (b' ++ [(y : Int)]) (b'.length : Int) = (y : Int) := by unfold rd; simp
      rw [if_pos (by rw [List.length_append]; simp <;> omega), e1, if_pos (by omega), if_pos (by rw [List.length_append]; simp <;> omega), e2, show wrap64 ((y : Int) + 1) = ((y + 1 : Nat) : Int) by rw [w64 (by omega) (by omega)]; omega]
      exact hl
theorem wiAll_l0 (w m : Nat) (hw : w ≤ 10) (hm : m ≤ 10) : ∀ (d c k : Nat) (acc : List (List Int)), c + d = m + 1 → 400 + d ≤ k → acc.length + d * 1024 ≤ 1000000 → spec_wiAll.l0 k (w : Int) (m : Int) acc (c : Int) = some (acc ++ (List.range' c d).flatMap fun c => lst w c 0)
  | 0, c, k, acc, hc, hk, ha => by
    obtain ⟨k, rfl⟩ : ∃ q, k = q + 1 := ⟨k - 1, by omega⟩
    simp only [spec_wiAll.l0]
    rw [if_neg (by omega)]
    simp
  | d + 1, c, k, acc, hc, hk, ha => by
    obtain ⟨k, rfl⟩ : ∃ q, k = q + 1 := ⟨k - 1, by omega⟩
    have h1 := lst_len w c 0
    have hp : (2 : Nat) ^ (w - 0) ≤ 2 ^ 10 := Nat.pow_le_pow_right (by decide) (by omega)
    have h2 := wiLists_f w hw c [] 0 k (by omega) (by simp; omega) (by omega) (.inl ⟨rfl, rfl⟩) (by omega)
    simp only [List.nil_append, List.map_id'] at h2
    simp only [spec_wiAll.l0]
    rw [if_pos (by omega), h2, Option.bind_some, if_pos (by omega), show wrap64 ((c : Int) + 1) = ((c + 1 : Nat) : Int) by rw [w64 (by omega) (by omega)]; omega, wiAll_l0 w m hw hm d (c + 1) k _ (by omega) (by omega) (by simp; omega), List.range'_succ, List.flatMap_cons, List.append_assoc]
theorem wiAll_f (w m : Nat) (hw : w ≤ 10) (hm : m ≤ 10) {k : Nat} (hk : 500 ≤ k) : spec_wiAll.f k (w : Int) (m : Int) = some (alls w m) := by
  unfold spec_wiAll.f alls
  have h := wiAll_l0 w m hw hm (m + 1) 0 k [] (by omega) (by omega) (by simp; omega)
  rw [show (0 : Int) = ((0 : Nat) : Int) from rfl, h, List.range_eq_range']
  simp
theorem alls_len (w m : Nat) (hw : w ≤ 10) : (alls w m).length ≤ 1024 := by
  have h1 := (sets_perm w m (by omega)).length_eq
  have h2 : (sets w m).length ≤ 2 ^ w := by
    unfold sets
    have := List.length_filter_le (fun s => decide ((bitsOf s).length ≤ m)) (List.range (2 ^ w))
    rwa [List.length_range] at this
  have hp : (2 : Nat) ^ w ≤ 2 ^ 10 := Nat.pow_le_pow_right (by decide) hw
  rw [List.length_map] at h1
  omega
theorem alls_up (w m : Nat) (c : List Int) (h : c ∈ alls w m) : c.length ≤ m ∧ ∀ x ∈ c, 0 ≤ x ∧ x < (w : Int) := by
  obtain ⟨h1, h2⟩ := (mem_alls w m c).1 h
  exact ⟨h1, fun x hx => Up.lt h2 x hx⟩
theorem ones_check : (List.range 1024).all (fun s => oc s == (bitsOf s).length) = true := by decide +kernel
theorem oc_len (s : Nat) (hs : s < 1024) : oc s = (bitsOf s).length := by
  have h := List.all_eq_true.1 ones_check s (List.mem_range.2 hs)
  rwa [beq_iff_eq] at h
theorem ones_f (s : Nat) (hs : s < 1024) : bits_OnesCount16.f (s : Int) = some (((bitsOf s).length : Nat) : Int) := by
  rw [ocf s (by omega), oc_len s hs]
theorem u16_up (s : Nat) (hs : s < 65535) : IntKind.u16.wrap ((s : Int) + 1) = ((s + 1 : Nat) : Int) := by
  rw [wraps_u16' _ (by omega) (by simp; omega)]
  omega
theorem sorted_ext {α : Type} (r : α → α → Bool) (hi : ∀ x, r x x = false) (ht : ∀ x y z, r x y = true → r y z = true → r x z = true) : ∀ s t : List α, s.Pairwise (fun x y => r x y = true) → t.Pairwise (fun x y => r x y = true) → (∀ x, x ∈ s ↔ x ∈ t) → s = t
  | [], [], _, _, _ => rfl
  | [], y :: t, _, _, h => by have := (h y).2 (by simp); simp at this
  | x :: s, [], _, _, h => by have := (h x).1 (by simp); simp at this
  | x :: s, y :: t, hs, htt, h => by
    obtain ⟨s1, s2⟩ := List.pairwise_cons.1 hs
    obtain ⟨t1, t2⟩ := List.pairwise_cons.1 htt
    have e : x = y := by
      rcases List.mem_cons.1 ((h x).1 (by simp)) with e | h1
      · exact e
      rcases List.mem_cons.1 ((h y).2 (by simp)) with e | h2
      · exact e.symm
      have := ht _ _ _ (s1 y h2) (t1 x h1)
      rw [hi] at this
      cases this
    subst e
    rw [sorted_ext r hi ht s t s2 t2 ?_]
    intro z
    have hz := h z
    simp only [List.mem_cons] at hz
    constructor
    · intro hm
      rcases hz.1 (.inr hm) with e | e
      · subst e; have := s1 z hm; rw [hi] at this; cases this
      · exact e
    · intro hm
      rcases hz.2 (.inr hm) with e | e
      · subst e; have := t1 z hm; rw [hi] at this; cases this
      · exact e
theorem setlt_irrefl (s : List Int) : setlt s s = false := by simp [setlt, lexlt_irrefl]
theorem setlt_iff (s t : List Int) : setlt s t = true ↔ (s.length < t.length ∨ (s.length = t.length ∧ lexlt s t = true)) := by
  unfold setlt
  rw [Bool.or_eq_true, Bool.and_eq_true, decide_eq_true_eq, decide_eq_true_eq]
theorem setlt_trans (x y z : List Int) (h1 : setlt x y = true) (h2 : setlt y z = true) : setlt x z = true := by
  rw [setlt_iff] at *
  rcases h1 with h1 | ⟨h1, l1⟩ <;> rcases h2 with h2 | ⟨h2, l2⟩
  · exact .inl (by omega)
  · exact .inl (by omega)
  · exact .inl (by omega)
  · exact .inr ⟨by omega, lex_trans _ _ _ l1 l2⟩
/-- Does a set have these results? -/
def hit (l : List (List Int)) (s : ByteArray) (t : Nat) : Bool := decide ((strOfNums (resN l t)).toList = s.toList)
/-- The sets that fit, as the program collects them. -/
def fset (l : List (List Int)) (s : ByteArray) (w m : Nat) : List Nat := (sets w m).filter (hit l s)
/-- .. as the reference does. -/
def flst (l : List (List Int)) (s : ByteArray) (w m : Nat) : List (List Int) := (alls w m).filter fun c => hit l s (setN c)
/-- .. sorted. -/
def fsrt (l : List (List Int)) (s : ByteArray) (w m : Nat) : List (Fin 65536) := (((fset l s w m).map fun (t : Nat) => (t : Int)).map slices_SortFunc_uint16_uint16.fin).mergeSort slices_SortFunc_uint16_uint16.le
theorem fin_val (t : Nat) (h : t < 65536) : (slices_SortFunc_uint16_uint16.fin (t : Int)).val = t := by
  show ((t : Int).toNat) % 65536 = t
  rw [Int.toNat_natCast]
  omega
theorem fset_lt (l : List (List Int)) (s : ByteArray) (w m : Nat) (hw : w ≤ 10) (t : Nat) (h : t ∈ fset l s w m) : t < 1024 := by
  have h1 := (List.mem_filter.1 h).1
  unfold sets at h1
  have := List.mem_range.1 (List.mem_filter.1 h1).1
  have hp : (2 : Nat) ^ w ≤ 2 ^ 10 := Nat.pow_le_pow_right (by decide) hw
  omega
theorem mem_fsrt (l : List (List Int)) (s : ByteArray) (w m : Nat) (hw : w ≤ 10) (x : Fin 65536) : x ∈ fsrt l s w m ↔ x.val ∈ fset l s w m := by
  unfold fsrt
  rw [(List.mergeSort_perm _ _).mem_iff, List.map_map]
  simp only [List.mem_map, Function.comp]
  constructor
  · rintro ⟨t, ht, rfl⟩
    rw [fin_val t (by have := fset_lt l s w m hw t ht; omega)]
    exact ht
  · intro h
    exact ⟨x.val, h, Fin.ext (fin_val _ x.isLt)⟩
theorem fset_nodup (l : List (List Int)) (s : ByteArray) (w m : Nat) : (fset l s w m).Nodup := (sets_nodup w m).filter _
theorem fsrt_nodup (l : List (List Int)) (s : ByteArray) (w m : Nat) (hw : w ≤ 10) : (fsrt l s w m).Nodup := by
  unfold fsrt
  rw [(List.mergeSort_perm _ _).nodup_iff, List.map_map]
  unfold List.Nodup
  rw [List.pairwise_map]
  refine List.Pairwise.imp_of_mem ?_ (fset_nodup l s w m)
  intro a b ha hb hne e
  have h1 := fset_lt l s w m hw a ha
  have h2 := fset_lt l s w m hw b hb
  have := congrArg Fin.val e
  simp only [Function.comp] at this
  rw [fin_val a (by omega), fin_val b (by omega)] at this
  exact hne this
theorem lt_sets (x y : Fin 65536) (hx : x.val < 1024) (hy : y.val < 1024) : ltOf slices_SortFunc_uint16_uint16.cf x y = setlt (bitsOf x.val) (bitsOf y.val) := by
  rw [Bool.eq_iff_iff, setlt_iff]
  unfold ltOf slices_SortFunc_uint16_uint16.cf
  rw [decide_eq_true_eq, cfS_lt, oc_len _ hx, oc_len _ hy]
theorem ltOf_iff (x y : Fin 65536) : ltOf slices_SortFunc_uint16_uint16.cf x y = true ↔ (oc x.val < oc y.val ∨ (oc x.val = oc y.val ∧ lexlt (bitsOf x.val) (bitsOf y.val) = true)) := by
  unfold ltOf slices_SortFunc_uint16_uint16.cf
  rw [decide_eq_true_eq, cfS_lt]
theorem le_iff (x y : Fin 65536) : slices_SortFunc_uint16_uint16.le x y = true ↔ ¬ (oc y.val < oc x.val ∨ (oc y.val = oc x.val ∧ lexlt (bitsOf y.val) (bitsOf x.val) = true)) := by
  unfold slices_SortFunc_uint16_uint16.le
  rw [Bool.not_eq_true', ← ltOf_iff, Bool.not_eq_true]
theorem le_trans' (x y z : Fin 65536) (h1 : slices_SortFunc_uint16_uint16.le x y = true) (h2 : slices_SortFunc_uint16_uint16.le y z = true) : slices_SortFunc_uint16_uint16.le x z = true := by
  rw [le_iff] at *
  rintro (h | ⟨h, hl⟩)
  · by_cases e : oc z.val < oc y.val
    · exact h2 (.inl e)
    · exact h1 (.inl (by omega))
  · have e1 : ¬ oc y.val < oc x.val := fun e => h1 (.inl e)
    have e2 : ¬ oc z.val < oc y.val := fun e => h2 (.inl e)
    have e3 : oc x.val = oc y.val := by omega
    rcases lex_total (bitsOf y.val) (bitsOf z.val) with t | t | t
    · exact h1 (.inr ⟨by omega, by rw [t]; exact hl⟩)
    · exact h1 (.inr ⟨by omega, lex_trans _ _ _ t hl⟩)
    · exact h2 (.inr ⟨by omega, t⟩)
theorem le_total' (x y : Fin 65536) : (slices_SortFunc_uint16_uint16.le x y || slices_SortFunc_uint16_uint16.le y x) = true := by
  rw [Bool.or_eq_true, le_iff, le_iff]
  by_cases h : oc y.val < oc x.val ∨ (oc y.val = oc x.val ∧ lexlt (bitsOf y.val) (bitsOf x.val) = true)
  · refine .inr ?_
    rintro (h2 | ⟨h2, hl⟩) <;> rcases h with h | ⟨h, hl2⟩
    · omega
    · omega
    · omega
    · have := lex_trans _ _ _ hl hl2
      rw [lexlt_irrefl] at this
      cases this
  · exact .inl h
theorem fsrt_eq (l : List (List Int)) (s : ByteArray) (w m : Nat) (hw : w ≤ 10) : (fsrt l s w m).map (fun x => bitsOf x.val) = flst l s w m := by
  refine sorted_ext setlt setlt_irrefl setlt_trans _ _ ?_ ?_ ?_
  · rw [List.pairwise_map]
    have h1 : (fsrt l s w m).Pairwise fun a b => slices_SortFunc_uint16_uint16.le a b = true := List.pairwise_mergeSort le_trans' le_total' _
    refine List.Pairwise.imp_of_mem ?_ (h1.and (fsrt_nodup l s w m hw))
    rintro a b ha hb ⟨hle, hne⟩
    have ga := fset_lt l s w m hw _ ((mem_fsrt l s w m hw a).1 ha)
    have gb := fset_lt l s w m hw _ ((mem_fsrt l s w m hw b).1 hb)
    rw [← lt_sets a b ga gb, ltOf_iff]
    rw [le_iff] at hle
    rcases Nat.lt_trichotomy (oc a.val) (oc b.val) with h | h | h
    · exact .inl h
    · rcases lex_total (bitsOf a.val) (bitsOf b.val) with t | t | t
      · exact absurd (Fin.ext (by rw [← setN_bitsOf a.val a.isLt, ← setN_bitsOf b.val b.isLt, t])) hne
      · exact .inr ⟨h, t⟩
      · exact absurd (.inr ⟨h.symm, t⟩) hle
    · exact absurd (.inl h) hle
  · exact (alls_sorted w m).filter _
  · intro b
    unfold flst
    rw [List.mem_filter]
    simp only [List.mem_map]
    constructor
    · rintro ⟨x, hx, rfl⟩
      have h1 := (mem_fsrt l s w m hw x).1 hx
      obtain ⟨h2, h3⟩ := List.mem_filter.1 h1
      obtain ⟨c, hc, e⟩ := List.mem_map.1 ((mem_sets w m x.val (by omega)).1 h2)
      have hu := ((mem_alls w m c).1 hc).2
      have e2 : bitsOf x.val = c := by rw [← e]; exact bitsOf_setN c (hu.mono (by omega))
      rw [e2, e]
      exact ⟨hc, h3⟩
    · rintro ⟨h1, h2⟩
      have hu := ((mem_alls w m b).1 h1).2
      have hm : setN b ∈ fset l s w m := List.mem_filter.2 ⟨(mem_sets w m _ (by omega)).2 (List.mem_map.2 ⟨b, h1, rfl⟩), h2⟩
      have hlt := fset_lt l s w m hw _ hm
      refine ⟨⟨setN b, by omega⟩, (mem_fsrt l s w m hw _).2 hm, ?_⟩
      exact bitsOf_setN b (hu.mono (by omega))
theorem fset_len (l : List (List Int)) (s : ByteArray) (w m : Nat) (hw : w ≤ 10) : (fset l s w m).length ≤ 1024 := by
  have h1 := List.length_filter_le (hit l s) (sets w m)
  have h2 : (sets w m).length ≤ 2 ^ w := by
    unfold sets
    have := List.length_filter_le (fun s => decide ((bitsOf s).length ≤ m)) (List.range (2 ^ w))
    rwa [List.length_range] at this
  have hp : (2 : Nat) ^ w ≤ 2 ^ 10 := Nat.pow_le_pow_right (by decide) hw
  unfold fset
  omega
theorem fit_l0 (l : List (List Int)) (st : ByteArray) (w m : Nat) (hw : w ≤ 10) (hn : l.length ≤ 12) (ht : ∀ c ∈ l, c.length ≤ 1048576 ∧ ∀ x ∈ c, 0 ≤ x ∧ x ≤ 9) : ∀ (d s k : Nat) (acc : List Nat), s + d = 2 ^ w → 1100001 + d < k → acc.length ≤ s → impl_fitting.l0 k l st (m : Int) (acc.map fun (t : Nat) => (t : Int)) ((2 ^ w : Nat) : Int) (s : Int) = (slices_SortFunc_uint16_uint16.f ((acc ++ ((List.range' s d).filter fun s => decide ((bitsOf s).length ≤ m)).filter (hit l st)).map fun (t : Nat) => (t : Int))).bind fun r => some r
  | 0, s, k, acc, hs, hk, hl => by
    obtain ⟨k, rfl⟩ : ∃ q, k = q + 1 := ⟨k - 1, by omega⟩
    simp only [impl_fitting.l0]
    rw [if_neg (by omega)]
    simp
  | d + 1, s, k, acc, hs, hk, hl => by
    obtain ⟨k, rfl⟩ : ∃ q, k = q + 1 := ⟨k - 1, by omega⟩
    have hp : (2 : Nat) ^ w ≤ 2 ^ 10 := Nat.pow_le_pow_right (by decide) hw
    simp only [impl_fitting.l0]
    rw [if_pos (by omega), ones_f s (by omega), Option.bind_some, u16_up s (by omega), List.range'_succ]
    by_cases hc : (bitsOf s).length ≤ m
    · rw [if_pos (by omega), results_f l s (by omega) hn ht (by omega), Option.bind_some, List.filter_cons_of_pos (by simp; omega)]
      by_cases hh : (strOfNums (resN l s)).toList = st.toList
      · rw [if_pos hh, if_pos (by rw [List.length_map]; omega), List.filter_cons_of_pos (by unfold hit; simp [hh])]
        have := fit_l0 l st w m hw hn ht d (s + 1) k (acc ++ [s]) (by omega) (by omega) (by simp; omega)
        rw [List.map_append, List.map_cons, List.map_nil] at this
        rw [this, List.append_assoc, List.singleton_append]
      · rw [if_neg hh, List.filter_cons_of_neg (by unfold hit; simp [hh])]
        exact fit_l0 l st w m hw hn ht d (s + 1) k acc (by omega) (by omega) (by omega)
    · rw [if_neg (by omega), List.filter_cons_of_neg (by simp; omega)]
      exact fit_l0 l st w m hw hn ht d (s + 1) k acc (by omega) (by omega) (by omega)
theorem fitting_f (l : List (List Int)) (st : ByteArray) (w m : Nat) (hw : w ≤ 10) (hn : l.length ≤ 12) (ht : ∀ c ∈ l, c.length ≤ 1048576 ∧ ∀ x ∈ c, 0 ≤ x ∧ x ≤ 9) {k : Nat} (hk : 1200000 < k) : impl_fitting.f k (w : Int) l st (m : Int) = some ((fsrt l st w m).map fun x => (x.val : Int)) := by
  have hp : (2 : Nat) ^ w ≤ 2 ^ 10 := Nat.pow_le_pow_right (by decide) hw
  have h := fit_l0 l st w m hw hn ht (2 ^ w) 0 k [] (by omega) (by omega) (by simp)
  unfold impl_fitting.f
  rw [if_pos (by omega), shl_u16 w (by omega)]
  rw [List.map_nil, List.nil_append, ← List.range_eq_range'] at h
  have hfl := fset_len l st w m hw
  rw [show (0 : Int) = ((0 : Nat) : Int) from rfl, h]
  show (slices_SortFunc_uint16_uint16.f ((fset l st w m).map fun (t : Nat) => (t : Int))).bind (fun r => some r) = _
  unfold slices_SortFunc_uint16_uint16.f
  have hr : ∀ x ∈ (fset l st w m).map (fun (t : Nat) => (t : Int)), 0 ≤ x ∧ x < 65536 := by
    intro x hx
    obtain ⟨t, h1, rfl⟩ := List.mem_map.1 hx
    have := fset_lt l st w m hw t h1
    omega
  rw [if_pos ⟨by rw [List.length_map]; omega, hr⟩, Option.bind_some]
  rfl
theorem wiFit_l0 (l : List (List Int)) (st : ByteArray) (w m : Nat) (hw : w ≤ 10) (hm : m ≤ 10) (hn : l.length ≤ 12) (ht : ∀ c ∈ l, c.length ≤ 1048576 ∧ ∀ x ∈ c, 0 ≤ x ∧ x ≤ 9) : ∀ (d i k : Nat) (acc : List (List Int)), i + d = (alls w m).length → 1100001 + d < k → acc.length ≤ i → spec_wiFit.l0 k l st acc (alls w m) ((alls w m).length : Int) (i : Int) = some (acc ++ ((alls w m).drop i).filter fun c => hit l st (setN c))
  | 0, i, k, acc, hi, hk, ha => by
    obtain ⟨k, rfl⟩ : ∃ q, k = q + 1 := ⟨k - 1, by omega⟩
    simp only [spec_wiFit.l0]
    rw [if_neg (by omega), List.drop_eq_nil_of_le (by omega)]
    simp
  | d + 1, i, k, acc, hi, hk, hac => by
    obtain ⟨k, rfl⟩ : ∃ q, k = q + 1 := ⟨k - 1, by omega⟩
    have ha : i < (alls w m).length := by omega
    have hlen := alls_len w m hw
    have hup := alls_up w m _ (List.getElem_mem ha)
    have hup2 : ∀ x ∈ (alls w m)[i], 0 ≤ x ∧ x ≤ 9 := fun x hx => by have := hup.2 x hx; omega
    have hlt := setN_lt (alls w m)[i] hup2
    have e : rd_L1 (alls w m) (i : Int) = (alls w m)[i] := by unfold rd_L1; simp [List.getD_eq_getElem?_getD, ha]
    simp only [spec_wiFit.l0]
    rw [if_pos (by omega), if_pos (by omega), if_pos (by omega), e, wiBits_f _ (by omega) hup2 (by omega), Option.bind_some, wiResults_f l _ hlt hn ht (by omega), Option.bind_some, up64 ha (by omega), List.drop_eq_getElem_cons ha]
    by_cases hh : (strOfNums (resN l (setN (alls w m)[i]))).toList = st.toList
    · rw [if_pos hh, if_pos (by omega), List.filter_cons_of_pos (by unfold hit; simp [hh]), wiFit_l0 l st w m hw hm hn ht d (i + 1) k _ (by omega) (by omega) (by simp; omega), List.append_assoc, List.singleton_append]
    · rw [if_neg hh, List.filter_cons_of_neg (by unfold hit; simp [hh]), wiFit_l0 l st w m hw hm hn ht d (i + 1) k acc (by omega) (by omega) (by omega)]
theorem wiFit_f (l : List (List Int)) (st : ByteArray) (w m : Nat) (hw : w ≤ 10) (hm : m ≤ 10) (hn : l.length ≤ 12) (ht : ∀ c ∈ l, c.length ≤ 1048576 ∧ ∀ x ∈ c, 0 ≤ x ∧ x ≤ 9) {k : Nat} (hk : 1200000 < k) : spec_wiFit.f k (w : Int) l st (m : Int) = some (flst l st w m) := by
  have hl := alls_len w m hw
  unfold spec_wiFit.f
  rw [wiAll_f w m hw hm (by omega), Option.bind_some, show (0 : Int) = ((0 : Nat) : Int) from rfl, wiFit_l0 l st w m hw hm hn ht (alls w m).length 0 k [] (by omega) (by omega) (by simp), List.drop_zero]
  rfl
theorem fit_len (l : List (List Int)) (st : ByteArray) (w m : Nat) (hw : w ≤ 10) : (flst l st w m).length = (fsrt l st w m).length := by rw [← fsrt_eq l st w m hw, List.length_map]
theorem count_f (l : List (List Int)) (st : ByteArray) (a b : Int) (hs : st.size ≤ 1048576) (h1 : l.length ≤ 1048576) (h2 : ∀ x ∈ l, x.length ≤ 1048576) {k : Nat} (hk : 1200000 < k) : impl_CountFitting.f k a l st b = if askd a l st b = true then some (((fsrt l st a.toNat b.toNat).length : Int), true) else some (0, false) := by
  unfold impl_CountFitting.f
  rw [areResults_f a l st b (by omega) h2, Option.bind_some]
  cases hq : askd a l st b with
  | false => rw [if_neg (by decide), if_neg (by decide)]
  | true =>
    rw [if_pos rfl, if_pos rfl]
    unfold askd at hq
    simp only [Bool.and_eq_true, decide_eq_true_eq] at hq
    obtain ⟨g1, g2, ⟨g3, g4⟩, g5⟩ := hq
    obtain ⟨t1, t2, t3, t4⟩ := tst_cases g1
    have hall : ∀ c ∈ l, c.length ≤ 1048576 ∧ ∀ x ∈ c, 0 ≤ x ∧ x ≤ 9 := fun c hc => ⟨h2 c hc, rising_wires a c t1 t2 (t4 c hc).2⟩
    obtain ⟨w, rfl⟩ : ∃ w : Nat, a = w := ⟨a.toNat, by omega⟩
    obtain ⟨m, rfl⟩ : ∃ m : Nat, b = m := ⟨b.toNat, by omega⟩
    rw [fitting_f l st w m (by omega) t3 hall (by omega)]
    simp only [Option.bind_some, List.length_map, Int.toNat_natCast]
/-- What is right, taken apart. -/
theorem askd_cases {a : Int} {l : List (List Int)} {st : ByteArray} {b : Int} (hq : askd a l st b = true) (h2 : ∀ x ∈ l, x.length ≤ 1048576) : ∃ w m : Nat, a = w ∧ b = m ∧ w ≤ 10 ∧ m ≤ 10 ∧ 1 ≤ w ∧ l.length ≤ 12 ∧ (∀ c ∈ l, c.length ≤ 1048576 ∧ ∀ x ∈ c, 0 ≤ x ∧ x ≤ 9) := by
  unfold askd at hq
  simp only [Bool.and_eq_true, decide_eq_true_eq] at hq
  obtain ⟨g1, g2, ⟨g3, g4⟩, g5⟩ := hq
  obtain ⟨t1, t2, t3, t4⟩ := tst_cases g1
  exact ⟨a.toNat, b.toNat, by omega, by omega, by omega, by omega, by omega, t3, fun c hc => ⟨h2 c hc, rising_wires a c t1 t2 (t4 c hc).2⟩⟩
theorem rd_map (T : List (Fin 65536)) (i : Nat) (h : i < T.length) : rd (T.map fun x => (x.val : Int)) (i : Int) = (T[i].val : Int) := by
  have h' : i < (T.map fun x => (x.val : Int)).length := by rw [List.length_map]; exact h
  rw [rd_lt h', List.getElem_map]
/-- The reference's search: the first strict least. -/
def sb (f : List Int → Nat) : List (List Int) → List Int → Nat → List Int × Nat
  | [], b, n => (b, n)
  | c :: cs, b, n => if f c < n then sb f cs c (f c) else sb f cs b n
/-- The program's search: the least by the number, then by the order. -/
def ib (f : Nat → Nat) (r : Nat → Nat → Bool) : List Nat → Nat → Nat → Nat × Nat
  | [], b, n => (b, n)
  | t :: ts, b, n => if f t < n ∨ (f t = n ∧ r t b = true) then ib f r ts t (f t) else ib f r ts b n
theorem sb_from (f : List Int → Nat) (r : List Int → List Int → Bool) : ∀ (L : List (List Int)) (b : List Int), L.Pairwise (fun x y => r x y = true) → (∀ c ∈ L, r b c = true) → ∃ b', sb f L b (f b) = (b', f b') ∧ (b' = b ∨ (b' ∈ L ∧ f b' < f b)) ∧ ∀ c, c = b ∨ c ∈ L → f b' < f c ∨ (f b' = f c ∧ (c = b' ∨ r b' c = true))
  | [], b, _, _ => ⟨b, rfl, .inl rfl, fun c hc => by
    rcases hc with rfl | hc
    · exact .inr ⟨rfl, .inl rfl⟩
    · cases hc⟩
  | c :: L, b, hp, hb => by
    obtain ⟨p1, p2⟩ := List.pairwise_cons.1 hp
    unfold sb
    by_cases h : f c < f b
    · rw [if_pos h]
      obtain ⟨b', e, hm, ha⟩ := sb_from f r L c p2 p1
      refine ⟨b', e, ?_, fun x hx => ?_⟩
      · rcases hm with rfl | ⟨hm, hlt⟩
        · exact .inr ⟨by simp, h⟩
        · exact .inr ⟨by simp [hm], by omega⟩
      · rcases hx with rfl | hx
        · have := ha c (.inl rfl)
          refine .inl ?_
          rcases this with h1 | ⟨h1, _⟩ <;> omega
        · rcases List.mem_cons.1 hx with rfl | hx
          · exact ha _ (.inl rfl)
          · exact ha x (.inr hx)
    · rw [if_neg h]
      obtain ⟨b', e, hm, ha⟩ := sb_from f r L b p2 (fun x hx => hb x (by simp [hx]))
      refine ⟨b', e, ?_, fun x hx => ?_⟩
      · rcases hm with rfl | ⟨hm, hlt⟩
        · exact .inl rfl
        · exact .inr ⟨by simp [hm], hlt⟩
      · rcases hx with rfl | hx
        · exact ha _ (.inl rfl)
        · rcases List.mem_cons.1 hx with rfl | hx
          · have h1 := ha b (.inl rfl)
            rcases h1 with h1 | ⟨h1, h2⟩
            · exact .inl (by omega)
            · by_cases he : f b' = f x
              · refine .inr ⟨he, ?_⟩
                rcases hm with rfl | ⟨hm, hlt⟩
                · exact .inr (hb _ (by simp))
                · omega
              · exact .inl (by omega)
          · exact ha x (.inr hx)
/-- Is c before b, by the number, then by the order? -/
def bef (f : Nat → Nat) (r : Nat → Nat → Bool) (c b : Nat) : Prop := f c < f b ∨ (f c = f b ∧ r c b = true)
theorem bef_trans {f : Nat → Nat} {r : Nat → Nat → Bool} (ht : ∀ x y z, r x y = true → r y z = true → r x z = true) {a b c : Nat} (h1 : bef f r a b) (h2 : bef f r b c) : bef f r a c := by
  unfold bef at *
  rcases h1 with h1 | ⟨h1, l1⟩ <;> rcases h2 with h2 | ⟨h2, l2⟩
  · exact .inl (by omega)
  · exact .inl (by omega)
  · exact .inl (by omega)
  · exact .inr ⟨by omega, ht _ _ _ l1 l2⟩
theorem ib_from (f : Nat → Nat) (r : Nat → Nat → Bool) (ht : ∀ x y z, r x y = true → r y z = true → r x z = true) (hi : ∀ x, r x x = false) : ∀ (L : List Nat) (b : Nat), ∃ b', ib f r L b (f b) = (b', f b') ∧ (b' = b ∨ (b' ∈ L ∧ bef f r b' b)) ∧ ∀ c, c = b ∨ c ∈ L → ¬ bef f r c b'
  | [], b => ⟨b, rfl, .inl rfl, fun c hc => by
    rcases hc with rfl | hc
    · unfold bef
      rw [hi]
      simp
    · cases hc⟩
  | t :: L, b => by
    unfold ib
    by_cases h : f t < f b ∨ (f t = f b ∧ r t b = true)
    · rw [if_pos h]
      obtain ⟨b', e, hm, ha⟩ := ib_from f r ht hi L t
      refine ⟨b', e, ?_, fun x hx => ?_⟩
      · rcases hm with rfl | ⟨hm, hlt⟩
        · exact .inr ⟨by simp, h⟩
        · exact .inr ⟨by simp [hm], bef_trans ht hlt h⟩
      · rcases hx with rfl | hx
        · exact fun hb => ha t (.inl rfl) (bef_trans ht h hb)
        · rcases List.mem_cons.1 hx with rfl | hx
          · exact ha _ (.inl rfl)
          · exact ha x (.inr hx)
    · rw [if_neg h]
      obtain ⟨b', e, hm, ha⟩ := ib_from f r ht hi L b
      refine ⟨b', e, ?_, fun x hx => ?_⟩
      · rcases hm with rfl | ⟨hm, hlt⟩
        · exact .inl rfl
        · exact .inr ⟨by simp [hm], hlt⟩
      · rcases hx with rfl | hx
        · exact ha _ (.inl rfl)
        · rcases List.mem_cons.1 hx with rfl | hx
          · rcases hm with rfl | ⟨hm, hlt⟩
            · exact h
            · exact fun hb => h (bef_trans ht hb hlt)
          · exact ha x (.inr hx)
theorem runbest_f (fit : List Int) (k : Nat) (hk : 4000000 < k) (g : List Int → Nat) : ∀ (L : List (List Int)) (best : List Int) (n : Nat), (∀ c ∈ L, c.length ≤ 10 ∧ (∀ x ∈ c, 0 ≤ x ∧ x ≤ 9) ∧ spec_l1Most.f (spec_BestTest.p_cnt ((setN c : Nat) : Int) fit 0) (wrap64 ((fit.length : Int) - spec_BestTest.p_cnt ((setN c : Nat) : Int) fit 0)) = some ((g c : Nat) : Int)) → spec_BestTest.runbest k fit L best (n : Int) = some ((sb g L best n).1, ((sb g L best n).2 : Int))
  | [], best, n, _ => rfl
  | c :: L, best, n, h => by
    obtain ⟨h1, h2, h3⟩ := h c (by simp)
    have ih := fun b m => runbest_f fit k hk g L b m (fun x hx => h x (by simp [hx]))
    unfold spec_BestTest.runbest sb
    rw [wiBits_f c (by omega) h2 (by omega), Option.bind_some, h3, Option.bind_some]
    by_cases hl : g c < n
    · rw [if_pos (by omega), if_pos hl, ih]
    · rw [if_neg (by omega), if_neg hl, ih]
theorem runfit_f (k : Nat) (hk : 4000000 < k) : ∀ (L : List (List Int)) (acc : List Int), (∀ c ∈ L, c.length ≤ 10 ∧ ∀ x ∈ c, 0 ≤ x ∧ x ≤ 9) → acc.length + L.length ≤ 1000000 → spec_BestTest.runfit k L acc = some (acc ++ L.map fun c => ((setN c : Nat) : Int))
  | [], acc, _, _ => by simp [spec_BestTest.runfit]
  | c :: L, acc, h, hl => by
    obtain ⟨h1, h2⟩ := h c (by simp)
    rw [List.length_cons] at hl
    unfold spec_BestTest.runfit
    rw [wiBits_f c (by omega) h2 (by omega), Option.bind_some, if_pos (by omega), runfit_f k hk L _ (fun x hx => h x (by simp [hx])) (by simp; omega)]
    simp
/-- How many of the sets meet t. -/
def nF (T : List Nat) (t : Nat) : Nat := (T.filter fun x => decide (t &&& x ≠ 0)).length
theorem nF_le (T : List Nat) (t : Nat) : nF T t ≤ T.length := List.length_filter_le _ _
theorem p_cnt_f (t : Nat) (ht : t < 1024) : ∀ (T : List Nat) (n : Nat), (∀ x ∈ T, x < 1024) → n + T.length ≤ 1000000 → spec_BestTest.p_cnt (t : Int) (T.map fun (x : Nat) => (x : Int)) (n : Int) = ((n + nF T t : Nat) : Int)
  | [], n, _, _ => rfl
  | x :: T, n, h, hl => by
    have hx := h x (by simp)
    rw [List.length_cons] at hl
    have ih := fun m hm => p_cnt_f t ht T m (fun y hy => h y (by simp [hy])) hm
    rw [List.map_cons]
    unfold spec_BestTest.p_cnt
    rw [and_i64 t x (by omega) (by omega)]
    by_cases h0 : t &&& x = 0
    · rw [if_pos (by omega), ih n (by omega)]
      unfold nF
      rw [List.filter_cons_of_neg (by simp [h0])]
    · rw [if_neg (by omega), show wrap64 ((n : Int) + 1) = ((n + 1 : Nat) : Int) by rw [w64 (by omega) (by omega)]; omega, ih (n + 1) (by omega)]
      unfold nF
      rw [List.filter_cons_of_pos (by simp [h0]), List.length_cons]
      congr 1
      omega
theorem alls_tail (w : Nat) : ∃ L, alls w w = [] :: L ∧ L.Pairwise (fun s t => setlt s t = true) ∧ ∀ c, c ∈ L ↔ c ≠ [] ∧ c.length ≤ w ∧ Up w 0 c := by
  have e : alls w w = [] :: ((List.range w).map Nat.succ).flatMap fun c => lst w c 0 := by
    unfold alls
    rw [List.range_succ_eq_map, List.flatMap_cons]
    rfl
  have hs := alls_sorted w w
  have hm := mem_alls w w
  rw [e] at hs hm
  refine ⟨_, e, (List.pairwise_cons.1 hs).2, fun c => ?_⟩
  have h1 := hm c
  constructor
  · intro hc
    have := h1.1 (List.mem_cons_of_mem _ hc)
    refine ⟨?_, this⟩
    rintro rfl
    have := (List.pairwise_cons.1 hs).1 _ hc
    rw [setlt_irrefl] at this
    cases this
  · rintro ⟨h0, h2⟩
    rcases List.mem_cons.1 (h1.2 h2) with h | h
    · exact absurd h h0
    · exact h
def rT (t b : Nat) : Bool := decide (cfS t b < 0)
def fT (T : List Nat) (t : Nat) : Nat := max (nF T t) (T.length - nF T t)
theorem fT_le (T : List Nat) (t : Nat) : fT T t ≤ T.length := by
  have := nF_le T t
  unfold fT
  omega
theorem rT_iff (s t : Nat) : rT s t = true ↔ (oc s < oc t ∨ (oc s = oc t ∧ lexlt (bitsOf s) (bitsOf t) = true)) := by
  unfold rT
  rw [decide_eq_true_eq, cfS_lt]
theorem rT_irrefl (s : Nat) : rT s s = false := by
  rw [Bool.eq_false_iff]
  intro h
  rcases (rT_iff s s).1 h with h | ⟨_, h⟩
  · omega
  · rw [lexlt_irrefl] at h; cases h
theorem rT_trans (x y z : Nat) (h1 : rT x y = true) (h2 : rT y z = true) : rT x z = true := by
  rw [rT_iff] at *
  rcases h1 with h1 | ⟨h1, l1⟩ <;> rcases h2 with h2 | ⟨h2, l2⟩
  · exact .inl (by omega)
  · exact .inl (by omega)
  · exact .inl (by omega)
  · exact .inr ⟨by omega, lex_trans _ _ _ l1 l2⟩
theorem best_same (T : List Nat) (w : Nat) (hw : w ≤ 10) (hw1 : 1 ≤ w) (L : List (List Int)) (hp : L.Pairwise (fun s t => setlt s t = true)) (hm : ∀ c, c ∈ L ↔ c ≠ [] ∧ c.length ≤ w ∧ Up w 0 c) : ∃ b n, b < 2 ^ w ∧ n ≤ T.length ∧ sb (fun c => fT T (setN c)) L [] (T.length + 1) = (bitsOf b, n) ∧ ib (fT T) rT (List.range' 1 (2 ^ w - 1)) 0 (T.length + 1) = (b, n) := by
  have hp2 : (2 : Nat) ^ w ≤ 2 ^ 10 := Nat.pow_le_pow_right (by decide) hw
  have hp1 : (2 : Nat) ^ 1 ≤ 2 ^ w := Nat.pow_le_pow_right (by decide) hw1
  have hin : ∀ t, 1 ≤ t → t < 2 ^ w → bitsOf t ∈ L := fun t h1 h2 => by
    have hu := bitsOf_up t w h2 (by omega)
    have hl := up_len hu
    rw [if_pos (by omega)] at hl
    refine (hm _).2 ⟨fun e => ?_, by omega, hu⟩
    have := setN_bitsOf t (by omega)
    rw [e] at this
    have e0 : setN [] = 0 := rfl
    omega
  have hback : ∀ c ∈ L, 1 ≤ setN c ∧ setN c < 2 ^ w ∧ bitsOf (setN c) = c := fun c hc => by
    obtain ⟨h0, h1, h2⟩ := (hm c).1 hc
    have hu : Up 16 0 c := h2.mono (by omega)
    refine ⟨?_, setN_up_lt w (by omega) h2, bitsOf_setN c hu⟩
    rcases Nat.eq_zero_or_pos (setN c) with h | h
    · exact absurd (setN_inj (t := []) hu trivial h) h0
    · exact h
  have hne := hin 1 (by omega) (by omega)
  cases L with
  | nil => cases hne
  | cons c0 L =>
    obtain ⟨p1, p2⟩ := List.pairwise_cons.1 hp
    obtain ⟨b1, e1, m1, a1⟩ := sb_from (fun c => fT T (setN c)) setlt L c0 p2 p1
    obtain ⟨b2, e2, m2, a2⟩ := ib_from (fT T) rT rT_trans rT_irrefl (List.range' 2 (2 ^ w - 2)) 1
    have k1 : b1 ∈ c0 :: L := by
      rcases m1 with rfl | ⟨h, _⟩
      · simp
      · simp [h]
    have k2 : 1 ≤ b2 ∧ b2 < 2 ^ w := by
      rcases m2 with rfl | ⟨h, _⟩
      · omega
      · have := List.mem_range'_1.1 h
        omega
    obtain ⟨q1, q2, q3⟩ := hback b1 k1
    have n1 : ¬ bef (fT T) rT (setN b1) b2 := a2 _ (by
      by_cases h : setN b1 = 1
      · exact .inl h
      · exact .inr (List.mem_range'_1.2 (by omega)))
    have n2 := a1 (bitsOf b2) (by
      rcases List.mem_cons.1 (hin b2 k2.1 k2.2) with h | h
      · exact .inl h
      · exact .inr h)
    have s2 : setN (bitsOf b2) = b2 := setN_bitsOf b2 (by omega)
    simp only [s2] at n2
    have hfin : fT T (setN b1) = fT T b2 ∧ bitsOf b2 = b1 := by
      rcases n2 with h | ⟨h, h3 | h3⟩
      · exact absurd (.inl h) n1
      · exact ⟨h, h3⟩
      · refine absurd (.inr ⟨h, ?_⟩) n1
        rw [setlt_iff] at h3
        rw [rT_iff, oc_len _ (by omega), oc_len _ (by omega), q3]
        exact h3
    refine ⟨b2, fT T b2, k2.2, fT_le T b2, ?_, ?_⟩
    · have := fT_le T (setN c0)
      unfold sb
      rw [if_pos (by omega), e1, hfin.2, hfin.1]
    · have := fT_le T 1
      rw [show 2 ^ w - 1 = (2 ^ w - 2) + 1 by omega, List.range'_succ]
      unfold ib
      rw [if_pos (.inl (by omega))]
      exact e2
theorem best_l1 (w : Int) (T : List Nat) (hT : ∀ x ∈ T, x < 1024) (hl : T.length ≤ 100000) (best least : Int) (t : Nat) (ht : t < 65536) : ∀ (d i m k : Nat), i + d = T.length → m ≤ i → impl_BestTest.l1 (k + 1 + d) w (T.map fun (x : Nat) => (x : Int)) best least (t : Int) (m : Int) (T.map fun (x : Nat) => (x : Int)) ((T.map fun (x : Nat) => (x : Int)).length : Int) (i : Int) = impl_BestTest.l1 (k + 1) w (T.map fun (x : Nat) => (x : Int)) best least (t : Int) ((m + nF (T.drop i) t : Nat) : Int) (T.map fun (x : Nat) => (x : Int)) ((T.map fun (x : Nat) => (x : Int)).length : Int) (T.length : Int)
  | 0, i, m, k, hi, hm => by
    obtain rfl : i = T.length := by omega
    rw [List.drop_eq_nil_of_le (Nat.le_refl _)]
    rfl
  | d + 1, i, m, k, hi, hm => by
    have ha : i < T.length := by omega
    have hx := hT _ (List.getElem_mem ha)
    have ha' : i < (T.map fun (x : Nat) => (x : Int)).length := by rw [List.length_map]; exact ha
    have er : rd (T.map fun (x : Nat) => (x : Int)) (i : Int) = (T[i] : Int) := by rw [rd_lt ha', List.getElem_map]
    have ih := fun m hm => best_l1 w T hT hl best least t ht d (i + 1) m k (by omega) hm
    rw [show k + 1 + (d + 1) = (k + 1 + d) + 1 by omega]
    rw [impl_BestTest.l1, if_pos (by rw [List.length_map]; omega), if_pos (by omega), if_pos (by rw [List.length_map]; omega), er, and_u16 T[i] t (by omega) (by omega), up64 ha (by omega), List.drop_eq_getElem_cons ha, Nat.and_comm]
    unfold nF impl_bit.f
    by_cases h0 : t &&& T[i] = 0
    · rw [h0, List.filter_cons_of_neg (by simp [h0])]
      rw [if_neg (by simp), Option.bind_some, show wrap64 ((m : Int) + 0) = ((m : Nat) : Int) by rw [w64 (by omega) (by omega)]; omega, ih m (by omega)]
      rfl
    · rw [List.filter_cons_of_pos (by simp [h0]), List.length_cons]
      rw [if_pos (by simp; omega), Option.bind_some, show wrap64 ((m : Int) + 1) = ((m + 1 : Nat) : Int) by rw [w64 (by omega) (by omega)]; omega, ih (m + 1) (by omega)]
      unfold nF
      rw [show m + 1 + (List.filter (fun x => decide (t &&& x ≠ 0)) (List.drop (i + 1) T)).length = m + ((List.filter (fun x => decide (t &&& x ≠ 0)) (List.drop (i + 1) T)).length + 1) by omega]
theorem best_end (w : Int) (T : List Nat) (hl : T.length ≤ 100000) (b n t : Nat) (hb : b < 65536) (ht : t < 65535) (k : Nat) (hk : 30 ≤ k) : impl_BestTest.l1 (k + 1) w (T.map fun (x : Nat) => (x : Int)) (b : Int) (n : Int) (t : Int) ((nF T t : Nat) : Int) (T.map fun (x : Nat) => (x : Int)) ((T.map fun (x : Nat) => (x : Int)).length : Int) (T.length : Int) = if fT T t < n ∨ (fT T t = n ∧ rT t b = true) then impl_BestTest.l0 k w (T.map fun (x : Nat) => (x : Int)) (t : Int) ((fT T t : Nat) : Int) ((t + 1 : Nat) : Int) else impl_BestTest.l0 k w (T.map fun (x : Nat) => (x : Int)) (b : Int) (n : Int) ((t + 1 : Nat) : Int) := by
  have hle := nF_le T t
  have em : mx ((nF T t : Nat) : Int) (wrap64 (((T.map fun (x : Nat) => (x : Int)).length : Int) - ((nF T t : Nat) : Int))) = ((fT T t : Nat) : Int) := by
    rw [List.length_map, w64 (by omega) (by omega)]
    unfold mx fT
    rw [Nat.max_def]
    split <;> split <;> omega
  simp only [impl_BestTest.l1]
  rw [if_neg (by rw [List.length_map]; omega), em, u16_up t (by omega)]
  by_cases h1 : fT T t < n
  · rw [if_pos (by omega), if_pos (.inl h1)]
  · rw [if_neg (by omega)]
    by_cases h2 : fT T t = n
    · rw [if_pos (by omega), cfS_f t b (by omega) hb (oc_le t) (oc_le b) hk, Option.bind_some]
      by_cases h3 : cfS t b < 0
      · rw [if_pos h3, if_pos (.inr ⟨h2, by unfold rT; simp [h3]⟩)]
      · rw [if_neg h3, if_neg (by
          rintro (h | ⟨_, h⟩)
          · exact h1 h
          · unfold rT at h; simp [h3] at h)]
    · rw [if_neg (by omega), if_neg (by
        rintro (h | ⟨h, _⟩)
        · exact h1 h
        · exact h2 h)]
theorem best_l0 (w : Nat) (hw : w ≤ 10) (T : List Nat) (hT : ∀ x ∈ T, x < 1024) (hl : T.length ≤ 100000) (B : Nat) (hB : B = T.length + 3) : ∀ (d t b n k : Nat), t + d = 2 ^ w → b < 65536 → d * B + 60 < k → impl_BestTest.l0 k (w : Int) (T.map fun (x : Nat) => (x : Int)) (b : Int) (n : Int) (t : Int) = some (bitsOf (ib (fT T) rT (List.range' t d) b n).1, (((ib (fT T) rT (List.range' t d) b n).2 : Nat) : Int), true)
  | 0, t, b, n, k, ht, hb, hk => by
    obtain ⟨k, rfl⟩ : ∃ q, k = q + 1 := ⟨k - 1, by omega⟩
    simp only [impl_BestTest.l0]
    rw [if_pos (by omega), shl_u16 w (by omega), if_neg (by omega), listed_f b hb (by omega)]
    rfl
  | d + 1, t, b, n, k, ht, hb, hk => by
    rw [Nat.succ_mul] at hk
    have hp : (2 : Nat) ^ w ≤ 2 ^ 10 := Nat.pow_le_pow_right (by decide) hw
    obtain ⟨q, rfl⟩ : ∃ q, k = (q + 1 + T.length) + 1 := ⟨k - T.length - 2, by omega⟩
    simp only [impl_BestTest.l0]
    rw [if_pos (by omega), shl_u16 w (by omega), if_pos (by omega)]
    have h := best_l1 (w : Int) T hT hl (b : Int) (n : Int) t (by omega) T.length 0 0 q (by omega) (by omega)
    rw [show ((0 : Nat) : Int) = 0 from rfl, List.drop_zero, Nat.zero_add] at h
    rw [h, best_end (w : Int) T hl b n t hb (by omega) q (by omega), List.range'_succ]
    unfold ib
    by_cases hc : fT T t < n ∨ (fT T t = n ∧ rT t b = true)
    · rw [if_pos hc, if_pos hc]
      exact best_l0 w hw T hT hl B hB d (t + 1) t (fT T t) q (by omega) (by omega) (by omega)
    · rw [if_neg hc, if_neg hc]
      exact best_l0 w hw T hT hl B hB d (t + 1) b n q (by omega) (by omega) (by omega)
theorem most_f (T : List Nat) (t : Nat) (hl : T.length ≤ 100000) : spec_l1Most.f ((nF T t : Nat) : Int) (wrap64 (((T.map fun (x : Nat) => (x : Int)).length : Int) - ((nF T t : Nat) : Int))) = some ((fT T t : Nat) : Int) := by
  have hle := nF_le T t
  rw [List.length_map, w64 (by omega) (by omega)]
  unfold spec_l1Most.f fT
  rw [Nat.max_def]
  split <;> split <;> (refine congrArg some ?_; omega)
theorem FnExactBestTest : ∀ (a0 : Int) (l1 : List (List Int)) (a2 : ByteArray) (a3 : Int), (Lit.int .i64 a0).wf = true → l1.length ≤ maxLen → (∀ x ∈ l1, (fun l => l.length ≤ maxLen ∧ ∀ x ∈ l, (fun n => (Lit.int .i64 n).wf = true) x) x) → a2.size ≤ 140737488351232 → (Lit.int .i64 a3).wf = true → ∃ k, laws_FnExactBestTest.f k a0 l1 a2 a3 = some true := by
  intro a l s b hw1 hw2 hw3 hw4 hw5
  clear hw1 hw2 hw3 hw4 hw5
  refine ⟨4100000 + 2, ?_⟩
  unfold laws_FnExactBestTest.f
  by_cases z0 : 1048576 < s.size
  · rw [if_pos z0]
  rw [if_neg z0]
  by_cases z1 : 1048576 < l.length + Aux.tot l
  · rw [if_pos z1]
  rw [if_neg z1]
  have h1 : l.length ≤ 1048576 := by omega
  have h2 : ∀ x ∈ l, x.length ≤ 1048576 := fun x hx => by have := Aux.row_le_tot l x hx; omega
  unfold spec_BestTest.f impl_BestTest.f
  rw [wiAsked_f a l s b h1 h2 (by omega), count_f l s a b (by omega) h1 h2 (by omega), Option.bind_some]
  cases hq : askd a l s b with
  | false =>
    rw [if_neg (by decide), if_neg (by decide)]
    simp
  | true =>
    obtain ⟨w, m, rfl, rfl, hw, hm, hw1, hn, hall⟩ := askd_cases hq h2
    obtain ⟨T, hT⟩ : ∃ T : List Nat, T = (fsrt l s w m).map fun x => x.val := ⟨_, rfl⟩
    have hTl : T.length = (fsrt l s w m).length := by rw [hT, List.length_map]
    have hlen : (fsrt l s w m).length ≤ 1024 := by
      have := fset_len l s w m hw
      have e : (fsrt l s w m).length = (fset l s w m).length := by
        unfold fsrt
        rw [List.length_mergeSort, List.length_map, List.length_map]
      omega
    have hT1 : ∀ x ∈ T, x < 1024 := fun x hx => by
      rw [hT] at hx
      obtain ⟨y, hy, rfl⟩ := List.mem_map.1 hx
      exact fset_lt l s w m hw _ ((mem_fsrt l s w m hw y).1 hy)
    have eT : (flst l s w m).map (fun c => ((setN c : Nat) : Int)) = T.map fun (x : Nat) => (x : Int) := by
      rw [← fsrt_eq l s w m hw, hT, List.map_map, List.map_map]
      apply List.map_congr_left
      intro x _
      simp only [Function.comp]
      rw [setN_bitsOf x.val x.isLt]
    have eI : ((fsrt l s w m).map fun x => (x.val : Int)) = T.map fun (x : Nat) => (x : Int) := by
      rw [hT, List.map_map]
      rfl
    rw [if_pos rfl, if_pos rfl, wiFit_f l s w m hw hm hn hall (by omega), Option.bind_some, Option.bind_some, Int.toNat_natCast, Int.toNat_natCast]
    rw [runfit_f (4100000 + 2) (by omega) (flst l s w m) [] (fun c hc => by
      have := alls_up w m c (List.mem_filter.1 hc).1
      exact ⟨by omega, fun x hx => by have := this.2 x hx; omega⟩) (by rw [fit_len l s w m hw]; simp; omega), Option.bind_some, List.nil_append, eT]
    rw [fitting_f l s w m hw hn hall (by omega), eI, List.length_map, ← hTl]
    have hTle : T.length ≤ 1024 := by omega
    clear hTl hlen eI eT hT
    by_cases hz : T.length = 0
    · rw [if_pos hz, if_pos (by omega), Option.bind_some, Option.bind_some]
      rw [if_pos ⟨rfl, by simp⟩]
    · rw [if_neg hz, if_neg (by omega), wiAll_f w w hw hw (by omega), Option.bind_some, Option.bind_some]
      obtain ⟨L, e, hp, hmem⟩ := alls_tail w
      obtain ⟨bb, n, hb, hnn, hsb, hib⟩ := best_same T w hw hw1 L hp hmem
      have hp2 : (2 : Nat) ^ w ≤ 2 ^ 10 := Nat.pow_le_pow_right (by decide) hw
      have hp1 : (2 : Nat) ^ 1 ≤ 2 ^ w := Nat.pow_le_pow_right (by decide) hw1
      have e1 : wrap64 ((T.length : Int) + 1) = ((T.length + 1 : Nat) : Int) := by rw [w64 (by omega) (by omega)]; omega
      rw [e, List.length_cons, if_pos (by omega), List.drop_succ_cons, List.drop_zero, e1]
      have hrun : ∀ K, 4000000 < K → spec_BestTest.runbest K (T.map fun (x : Nat) => (x : Int)) L [] ((T.length + 1 : Nat) : Int) = some (bitsOf bb, (n : Int)) := by
        intro K hK
        have hr := runbest_f (T.map fun (x : Nat) => (x : Int)) K hK (fun c => fT T (setN c)) L [] (T.length + 1) ?_
        · rw [hr, hsb]
        intro c hc
        obtain ⟨_, g1, g2⟩ := (hmem c).1 hc
        have g3 : ∀ x ∈ c, 0 ≤ x ∧ x ≤ 9 := fun x hx => by have := Up.lt g2 x hx; omega
        refine ⟨by omega, g3, ?_⟩
        have hc1 := p_cnt_f (setN c) (setN_lt c g3) T 0 hT1 (by omega)
        rw [Nat.zero_add] at hc1
        rw [show (0 : Int) = ((0 : Nat) : Int) from rfl, hc1]
        exact most_f T (setN c) (by omega)
      rw [hrun _ (by omega), Option.bind_some]
      have hd : (2 ^ w - 1) * (T.length + 3) ≤ 1023 * 1027 := Nat.mul_le_mul (by omega) (by omega)
      have hi := best_l0 w hw T hT1 (by omega) (T.length + 3) rfl (2 ^ w - 1) 1 0 (T.length + 1) (4100000 + 2) (by omega) (by omega) (by omega)
      rw [hib] at hi
      rw [show ((0 : Nat) : Int) = 0 from rfl, show ((1 : Nat) : Int) = 1 from rfl] at hi
      rw [List.length_map, e1, hi, Option.bind_some, Option.bind_some]
      rw [if_pos ⟨rfl, by show (bitsOf bb).length ≤ _; have := bits_len bb; omega⟩]

end Go.Proofs.YtbghdbpaihkcjaaDoor.Pure
