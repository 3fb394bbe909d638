/- For every number and every list of lists the program's AreTests and the reference's agree; no conditions. -/
import Derived.Test.YthkoignldhocgabPFnExactAreTestsx3
set_option linter.unusedSimpArgs false
set_option linter.unusedVariables false
namespace Go.Proofs.Ythkoignldhocgab.Pure
open Go.RowKit Go.Proofs.Ythkoignldhocgab.PFnExactAreTests Go.Proofs.YthkoignldhocgabW.PrintWords Go.Proofs.YthkoignldhocgabW.PrintLast Go.Proofs.YthkoignldhocgabW.PrintMore

theorem w64 {x : Int} (h0 : -9223372036854775808 ≤ x) (h1 : x ≤ 9223372036854775807) : wrap64 x = x := by unfold wrap64; omega
theorem up64 {i n : Nat} (h : i < n) (hn : n ≤ 4611686018427387904) : wrap64 ((i : Int) + 1) = ((i + 1 : Nat) : Int) := by rw [w64 (by omega) (by omega)]; omega
theorem rd_lt {xs : List Int} {i : Nat} (h : i < xs.length) : rd xs (i : Int) = xs[i] := by unfold rd; simp [List.getD_eq_getElem?_getD, h]
theorem toIntS_l0 (a : List Int) (hn : a.length ≤ 4611686018427387904) : ∀ (d i k : Nat), i + d = a.length → d < k → laws_toIntS.l0 k a (a.take i ++ List.replicate d 0) (i : Int) = some a
  | 0, i, k, hi, hk => by
    obtain ⟨k, rfl⟩ : ∃ q, k = q + 1 := ⟨k - 1, by omega⟩
    simp only [laws_toIntS.l0]
    rw [if_neg (by omega), List.take_of_length_le (by omega)]
    simp
  | d + 1, i, k, hi, hk => by
    obtain ⟨k, rfl⟩ : ∃ q, k = q + 1 := ⟨k - 1, by omega⟩
    have ih := toIntS_l0 a hn d (i + 1) k (by omega) (by omega)
    have ha : i < a.length := by omega
    simp only [laws_toIntS.l0]
    rw [if_pos (by omega), if_pos (by omega), if_pos (by simp; omega), up64 ha hn, rd_lt ha]
    have he : (a.take i ++ List.replicate (d + 1) (0 : Int)).set ((i : Nat) : Int).toNat a[i] = a.take (i + 1) ++ List.replicate d 0 := by
      rw [List.set_append_right _ _ (by simp; omega), List.replicate_succ]
      have e : ((i : Nat) : Int).toNat - (a.take i).length = 0 := by simp; omega
      rw [e, List.set_cons_zero, List.take_succ_eq_append_getElem ha]
      simp only [List.append_assoc, List.singleton_append]
    rw [he]
    exact ih
theorem toIntS_f (a : List Int) (hn : a.length ≤ 1048576) {k : Nat} (hk : a.length < k) : laws_toIntS.f k a = some a := by
  unfold laws_toIntS.f
  rw [if_pos (by omega), if_pos (by omega)]
  exact toIntS_l0 a (by omega) a.length 0 k (by omega) hk
theorem eqIntS_l0 (a b : List Int) (hl : a.length = b.length) (hn : a.length ≤ 4611686018427387904) : ∀ (d i k : Nat), i + d = a.length → d < k → laws_eqIntS.l0 k a b (i : Int) = some (decide (a.drop i = b.drop i))
  | 0, i, k, hi, hk => by
    obtain ⟨k, rfl⟩ : ∃ q, k = q + 1 := ⟨k - 1, by omega⟩
    simp only [laws_eqIntS.l0]
    rw [if_neg (by omega), List.drop_eq_nil_of_le (by omega), List.drop_eq_nil_of_le (by omega)]
    simp
  | d + 1, i, k, hi, hk => by
    obtain ⟨k, rfl⟩ : ∃ q, k = q + 1 := ⟨k - 1, by omega⟩
    have ih := eqIntS_l0 a b hl hn d (i + 1) k (by omega) (by omega)
    have ha : i < a.length := by omega
    have hb : i < b.length := by omega
    simp only [laws_eqIntS.l0]
    rw [if_pos (by omega), if_pos (by omega), if_pos (by omega), up64 ha hn, ih, rd_lt ha, rd_lt hb, List.drop_eq_getElem_cons ha, List.drop_eq_getElem_cons hb]
    by_cases e : a[i] = b[i]
    · rw [if_pos e, e]; simp only [List.cons.injEq, true_and]
    · rw [if_neg e]; simp only [List.cons.injEq, e, false_and, decide_false]
theorem eqIntS_f (a b : List Int) (hn : a.length ≤ 4611686018427387904) {k : Nat} (hk : a.length < k) : laws_eqIntS.f k a b = some (decide (a = b)) := by
  unfold laws_eqIntS.f
  by_cases h : a.length = b.length
  · rw [if_pos (by omega)]
    exact eqIntS_l0 a b h hn a.length 0 k (by omega) hk
  · rw [if_neg (by omega), decide_eq_false (fun e => h (by rw [e]))]
/-- The length of all rows together. -/
def tot (l : List (List Int)) : Nat := (l.map List.length).sum
theorem tot_cons (x : List Int) (l : List (List Int)) : tot (x :: l) = x.length + tot l := by simp [tot]
theorem tot_drop (l : List (List Int)) (i : Nat) (h : i < l.length) : tot (l.drop i) = (l[i]).length + tot (l.drop (i + 1)) := by
  rw [List.drop_eq_getElem_cons h, tot_cons]
theorem szIntSS_l0 (l : List (List Int)) (hn : l.length ≤ 4000000) : ∀ (d i k : Nat) (left : Int), i + d = l.length → 0 ≤ left → left ≤ 1048576 → (∀ x ∈ l, x.length ≤ 9223372036854775807) → d < k → laws_szIntSS.l0 k l left (i : Int) = some (if (tot (l.drop i) : Int) ≤ left then left - (tot (l.drop i) : Int) else -1)
  | 0, i, k, left, hi, h0, h1, hm, hk => by
    obtain ⟨k, rfl⟩ : ∃ q, k = q + 1 := ⟨k - 1, by omega⟩
    simp only [laws_szIntSS.l0]
    rw [if_neg (by omega), List.drop_eq_nil_of_le (by omega)]
    simp [tot, h0]
  | d + 1, i, k, left, hi, h0, h1, hm, hk => by
    obtain ⟨k, rfl⟩ : ∃ q, k = q + 1 := ⟨k - 1, by omega⟩
    have ha : i < l.length := by omega
    have e : rd_L1 l (i : Int) = l[i] := by unfold rd_L1; simp [List.getD_eq_getElem?_getD, ha]
    have hlen := hm _ (List.getElem_mem ha)
    have ht := tot_drop l i ha
    have w : wrap64 (left - (l[i].length : Int)) = left - (l[i].length : Int) := w64 (by omega) (by omega)
    simp only [laws_szIntSS.l0]
    rw [if_pos (by omega), if_pos (by omega), e]
    unfold laws_szIntS.f
    rw [w]
    by_cases hc : left - (l[i].length : Int) < 0
    · rw [if_pos hc]
      simp only [Option.bind_some]
      rw [if_pos (by omega), if_neg (by omega)]
    · rw [if_neg hc]
      simp only [Option.bind_some]
      rw [if_neg hc, up64 ha (by omega), szIntSS_l0 l hn d (i + 1) k _ (by omega) (by omega) (by omega) hm (by omega), ht]
      by_cases h2 : ((tot (l.drop (i + 1)) : Nat) : Int) ≤ left - (l[i].length : Int)
      · rw [if_pos h2, if_pos (by omega)]; congr 1; omega
      · rw [if_neg h2, if_neg (by omega)]
theorem szIntSS_f (l : List (List Int)) (left : Int) (h0 : 0 ≤ left) (h1 : left ≤ 1048576) (hl : l.length ≤ 9223372036854775807) (hm : ∀ x ∈ l, x.length ≤ 9223372036854775807) {k : Nat} (hk : 2000000 < k) : laws_szIntSS.f k l left = some (if (l.length : Int) + (tot l : Int) ≤ left then left - (l.length : Int) - (tot l : Int) else -1) := by
  have w : wrap64 (left - (l.length : Int)) = left - (l.length : Int) := w64 (by omega) (by omega)
  unfold laws_szIntSS.f
  rw [w]
  by_cases hc : left - (l.length : Int) < 0
  · rw [if_pos hc, if_neg (by omega)]
  · rw [if_neg hc]
    have h := szIntSS_l0 l (by omega) l.length 0 k (left - (l.length : Int)) (by omega) (by omega) (by omega) hm (by omega)
    rw [List.drop_zero] at h
    rw [show (0 : Int) = ((0 : Nat) : Int) from rfl, h]
    by_cases h2 : ((tot l : Nat) : Int) ≤ left - (l.length : Int)
    · rw [if_pos h2, if_pos (by omega)]
    · rw [if_neg h2, if_neg (by omega)]
theorem row_le_tot (l : List (List Int)) (x : List Int) (h : x ∈ l) : x.length ≤ tot l := by
  induction l with
  | nil => cases h
  | cons y l ih =>
    rw [tot_cons]
    rcases List.mem_cons.1 h with rfl | h
    · omega
    · have := ih h; omega
theorem toIntSS_l0 (l : List (List Int)) (hn : l.length ≤ 1048576) (ht : ∀ x ∈ l, x.length ≤ 1048576) : ∀ (d i k : Nat), i + d = l.length → d + 1048577 < k → laws_toIntSS.l0 k l (l.take i ++ List.replicate d []) (i : Int) = some l
  | 0, i, k, hi, hk => by
    obtain ⟨k, rfl⟩ : ∃ q, k = q + 1 := ⟨k - 1, by omega⟩
    simp only [laws_toIntSS.l0]
    rw [if_neg (by omega), List.take_of_length_le (by omega)]
    simp
  | d + 1, i, k, hi, hk => by
    obtain ⟨k, rfl⟩ : ∃ q, k = q + 1 := ⟨k - 1, by omega⟩
    have ih := toIntSS_l0 l hn ht d (i + 1) k (by omega) (by omega)
    have ha : i < l.length := by omega
    have e : rd_L1 l (i : Int) = l[i] := by unfold rd_L1; simp [List.getD_eq_getElem?_getD, ha]
    have hlen := ht _ (List.getElem_mem ha)
    simp only [laws_toIntSS.l0]
    rw [if_pos (by omega), if_pos (by omega), e, toIntS_f _ hlen (by omega)]
    simp only [Option.bind_some]
    rw [if_pos (by simp; omega), up64 ha (by omega)]
    have he : (l.take i ++ List.replicate (d + 1) ([] : List Int)).set ((i : Nat) : Int).toNat l[i] = l.take (i + 1) ++ List.replicate d [] := by
      rw [List.set_append_right _ _ (by simp; omega), List.replicate_succ]
      have e : ((i : Nat) : Int).toNat - (l.take i).length = 0 := by simp; omega
      rw [e, List.set_cons_zero, List.take_succ_eq_append_getElem ha]
      simp only [List.append_assoc, List.singleton_append]
    rw [he]
    exact ih
theorem toIntSS_f (l : List (List Int)) (hn : l.length ≤ 1048576) (ht : ∀ x ∈ l, x.length ≤ 1048576) {k : Nat} (hk : 3000000 < k) : laws_toIntSS.f k l = some l := by
  unfold laws_toIntSS.f
  rw [if_pos (by omega), if_pos (by omega)]
  exact toIntSS_l0 l hn ht l.length 0 k (by omega) (by omega)
theorem eqIntSS_l0' (a : List (List Int)) (hn : a.length ≤ 1048576) (ht : ∀ x ∈ a, x.length ≤ 1048576) : ∀ (d i k : Nat), i + d = a.length → d + 1048577 < k → laws_eqIntSS.l0 k a a (i : Int) = some true
  | 0, i, k, hi, hk => by
    obtain ⟨k, rfl⟩ : ∃ q, k = q + 1 := ⟨k - 1, by omega⟩
    simp only [laws_eqIntSS.l0]
    rw [if_neg (by omega)]
  | d + 1, i, k, hi, hk => by
    obtain ⟨k, rfl⟩ : ∃ q, k = q + 1 := ⟨k - 1, by omega⟩
    have ih := eqIntSS_l0' a hn ht d (i + 1) k (by omega) (by omega)
    have ha : i < a.length := by omega
    have h1 := ht _ (List.getElem_mem ha)
    have e : rd_L1 a (i : Int) = a[i] := by unfold rd_L1; simp [List.getD_eq_getElem?_getD, ha]
    simp only [laws_eqIntSS.l0]
    rw [if_pos (by omega), if_pos (by omega), if_pos (by omega), e, eqIntS_f _ _ (by omega) (by omega), up64 ha (by omega)]
    simpa using ih
theorem eqIntSS_f (a : List (List Int)) (hn : a.length ≤ 1048576) (ht : ∀ x ∈ a, x.length ≤ 1048576) {k : Nat} (hk : 3000000 < k) : laws_eqIntSS.f k a a = some true := by
  unfold laws_eqIntSS.f
  rw [if_pos rfl]
  exact eqIntSS_l0' a hn ht a.length 0 _ (by omega) (by omega)
/-- Are these tests of so many wires? -/
def tst (a : Int) (l : List (List Int)) : Bool := impl_AreTests.p_all a l
theorem l1Rising_l0 (l : List Int) (lo hi : Int) (hn : l.length ≤ 4000000) : ∀ (d i k : Nat), i + d = l.length → d < k → spec_l1Rising.l0 k l lo hi l (l.length : Int) (i : Int) = some (Aux2.p_up (l.drop (i - 1)) && (l.drop i).all fun y => decide (lo ≤ y) && decide (y ≤ hi))
  | 0, i, k, hi', hk => by
    obtain ⟨k, rfl⟩ : ∃ q, k = q + 1 := ⟨k - 1, by omega⟩
    have e : Aux2.p_up (l.drop (i - 1)) = true := by
      have : (l.drop (i - 1)).length ≤ 1 := by rw [List.length_drop]; omega
      cases hq : l.drop (i - 1) with
      | nil => rfl
      | cons x t =>
        rw [hq] at this
        cases t with
        | nil => rfl
        | cons y t => simp at this
    simp only [spec_l1Rising.l0]
    rw [if_neg (by omega), e, List.drop_eq_nil_of_le (by omega)]
    rfl
  | d + 1, i, k, hi', hk => by
    obtain ⟨k, rfl⟩ : ∃ q, k = q + 1 := ⟨k - 1, by omega⟩
    have ha : i < l.length := by omega
    have ih := l1Rising_l0 l lo hi hn d (i + 1) k (by omega) (by omega)
    simp only [spec_l1Rising.l0]
    rw [if_pos (by omega), if_pos (by omega), if_pos (by omega), rd_lt ha, up64 ha (by omega)]
    unfold spec_l1In.f
    rw [show i + 1 - 1 = i by omega] at ih
    have hall : ((l.drop i).all fun y => decide (lo ≤ y) && decide (y ≤ hi)) = ((decide (lo ≤ l[i]) && decide (l[i] ≤ hi)) && (l.drop (i + 1)).all fun y => decide (lo ≤ y) && decide (y ≤ hi)) := by
      rw [List.drop_eq_getElem_cons ha, List.all_cons]
    rw [hall]
    clear hall
    by_cases h1 : lo ≤ l[i]
    · rw [if_pos (show l[i] ≥ lo from h1)]
      simp only [Option.bind_some]
      by_cases h2 : l[i] ≤ hi
      · rw [if_pos (by simpa using h2)]
        by_cases h0 : i = 0
        · subst h0
          rw [if_neg (by omega), ih]
          simp [h1, h2]
        · have hb : i - 1 < l.length := by omega
          have e1 : wrap64 ((i : Int) - 1) = ((i - 1 : Nat) : Int) := by rw [w64 (by omega) (by omega)]; omega
          have hup : Aux2.p_up (l.drop (i - 1)) = (decide (l[i - 1] < l[i]) && Aux2.p_up (l.drop i)) := by
            rw [List.drop_eq_getElem_cons hb, show i - 1 + 1 = i by omega, List.drop_eq_getElem_cons ha]
            rfl
          rw [if_pos (by omega), e1, if_pos (by omega), if_pos (by omega), rd_lt hb, ih, hup]
          by_cases e : l[i - 1] ≥ l[i]
          · rw [if_pos e]
            simp [show ¬ l[i - 1] < l[i] by omega]
          · rw [if_neg e]
            simp [show l[i - 1] < l[i] by omega, h1, h2]
      · rw [if_neg (by simpa using h2)]
        simp [h2]
    · rw [if_neg (show ¬ l[i] ≥ lo from h1)]
      simp [h1]
theorem l1Rising_f (a : Int) (l : List Int) (hn : l.length ≤ 4000000) {k : Nat} (hk : l.length < k) : spec_l1Rising.f k l 0 (wrap64 (a - 1)) = some (impl_AreTests.p_rising a l) := by
  unfold spec_l1Rising.f impl_AreTests.p_rising
  have := l1Rising_l0 l 0 (wrap64 (a - 1)) hn l.length 0 k (by omega) hk
  simpa using this
theorem wiGood_l0 (a : Int) (l : List (List Int)) (hn : l.length ≤ 1048576) (ht : ∀ x ∈ l, x.length ≤ 1048576) : ∀ (d i k : Nat), i + d = l.length → d + 1048577 < k → spec_wiGood.l0 k a l (l.length : Int) (i : Int) = some ((l.drop i).all fun c => !impl_AreTests.p_bad a c)
  | 0, i, k, hi, hk => by
    obtain ⟨k, rfl⟩ : ∃ q, k = q + 1 := ⟨k - 1, by omega⟩
    simp only [spec_wiGood.l0]
    rw [if_neg (by omega), List.drop_eq_nil_of_le (by omega)]
    rfl
  | d + 1, i, k, hi, hk => by
    obtain ⟨k, rfl⟩ : ∃ q, k = q + 1 := ⟨k - 1, by omega⟩
    have ha : i < l.length := by omega
    have ih := wiGood_l0 a l hn ht d (i + 1) k (by omega) (by omega)
    have e : rd_L1 l (i : Int) = l[i] := by unfold rd_L1; simp [List.getD_eq_getElem?_getD, ha]
    have hlen := ht _ (List.getElem_mem ha)
    simp only [spec_wiGood.l0]
    rw [if_pos (by omega), if_pos (by omega), if_pos (by omega), e, up64 ha (by omega), ih, l1Rising_f a _ (by omega) (by omega), List.drop_eq_getElem_cons ha, List.all_cons]
    unfold impl_AreTests.p_bad
    by_cases h0 : l[i].length = 0
    · rw [if_pos (by omega)]
      simp [h0]
    · rw [if_neg (by omega)]
      simp only [Option.bind_some]
      cases impl_AreTests.p_rising a l[i] with
      | true => rw [if_pos rfl]; simp [h0]
      | false => simp [h0]
theorem wiGood_f (a : Int) (l : List (List Int)) (hn : l.length ≤ 1048576) (ht : ∀ x ∈ l, x.length ≤ 1048576) {k : Nat} (hk : 3000000 < k) : spec_wiGood.f k a l = some (tst a l) := by
  obtain ⟨k, rfl⟩ : ∃ q, k = q + 1 := ⟨k - 1, by omega⟩
  have h := wiGood_l0 a l hn ht l.length 0 k (by omega) (by omega)
  rw [List.drop_zero, show ((0 : Nat) : Int) = 0 from rfl] at h
  unfold spec_wiGood.f spec_wiWires.f spec_l1In.f tst impl_AreTests.p_all
  by_cases h1 : 1 ≤ a
  · rw [if_pos (show a ≥ 1 from h1)]
    simp only [Option.bind_some]
    by_cases h2 : a ≤ 10
    · rw [if_pos (by simpa using h2)]
      simp only [spec_wiGood.j0]
      by_cases h3 : l.length ≤ 12
      · rw [if_neg (by simp; omega), h]
        simp [h1, h2, h3]
      · rw [if_pos (by simp; omega)]
        simp [h3]
    · rw [if_neg (by simpa using h2)]
      simp only [spec_wiGood.j0]
      simp [h2]
  · rw [if_neg (show ¬ a ≥ 1 from h1)]
    simp only [Option.bind_some, Bool.false_eq_true, if_false, spec_wiGood.j0]
    simp [h1]
theorem areTests_f (a : Int) (l : List (List Int)) (ht : ∀ x ∈ l, x.length ≤ 1048576) : impl_AreTests.f a l = some (tst a l) := by
  unfold impl_AreTests.f
  rw [if_pos ht]
  rfl
theorem FnExactAreTests : ∀ (a0 : Int) (l1 : List (List Int)), (Lit.int .i64 a0).wf = true → l1.length ≤ maxLen → (∀ x ∈ l1, (fun l => l.length ≤ maxLen ∧ ∀ x ∈ l, (fun n => (Lit.int .i64 n).wf = true) x) x) → ∃ k, laws_FnExactAreTests.f k a0 l1 = some true := by
  intro a l _ hl hm
  refine ⟨4000000, ?_⟩
  unfold laws_FnExactAreTests.f
  simp only [maxLen] at hl hm
  rw [szIntSS_f l 1048576 (by omega) (by omega) (by omega) (fun x hx => by have := (hm x hx).1; omega) (by omega)]
  simp only [Option.bind_some]
  by_cases hs : (l.length : Int) + (tot l : Int) ≤ 1048576
  · have h1 : l.length ≤ 1048576 := by omega
    have h2 : ∀ x ∈ l, x.length ≤ 1048576 := fun x hx => by have := row_le_tot l x hx; omega
    rw [if_pos hs, if_neg (by omega), toIntSS_f l h1 h2 (by omega)]
    unfold spec_AreTests.f
    simp only [Option.bind_some]
    rw [wiGood_f a l h1 h2 (by omega), areTests_f a l h2, eqIntSS_f l h1 h2 (by omega)]
    simp
  · rw [if_neg hs]
    simp

end Go.Proofs.Ythkoignldhocgab.Pure
