/- For every number and every two lists of lists the program's JoinTests and the reference's agree, and what is handed back is shared with nothing; no conditions. -/
import Derived.Test.YthkoignldhocgabPFnExactJoinTestsx5
set_option linter.unusedSimpArgs false
set_option linter.unusedVariables false
namespace Go.Proofs.Ythkoignldhocgab.Pure
open Go.RowKit Go.Proofs.Ythkoignldhocgab.PFnExactJoinTests Go.Proofs.YthkoignldhocgabW.PrintWords Go.Proofs.YthkoignldhocgabW.PrintLast Go.Proofs.YthkoignldhocgabW.PrintMore

theorem w64 {x : Int} (h0 : -9223372036854775808 ≤ x) (h1 : x ≤ 9223372036854775807) : wrap64 x = x := by unfold wrap64; omega
theorem up64 {i n : Nat} (h : i < n) (hn : n ≤ 4611686018427387904) : wrap64 ((i : Int) + 1) = ((i + 1 : Nat) : Int) := by rw [w64 (by omega) (by omega)]; omega
theorem rd_lt {xs : List Int} {i : Nat} (h : i < xs.length) : rd xs (i : Int) = xs[i] := by unfold rd; simp [List.getD_eq_getElem?_getD, h]
/-- Are these tests of so many wires? -/
def tst (a : Int) (l : List (List Int)) : Bool := impl_AreTests.p_all a l
theorem l1Rising_l0 (l : List Int) (lo hi : Int) (hn : l.length ≤ 4000000) : ∀ (d i k : Nat), i + d = l.length → d < k → spec_l1Rising.l0 k l lo hi l (l.length : Int) (i : Int) = some (Aux2.p_up (l.drop (i - 1)) && (l.drop i).all fun y => decide (lo ≤ y) && decide (y ≤ hi))
  | 0, i, k, hi', hk => by
    obtain ⟨k, rfl⟩ : ∃ q, k = q + 1 := ⟨k - 1, by omega⟩
    have e : Aux2.p_up (l.drop (i - 1)) = true := by
      have : (l.drop (i - 1)).length ≤ 1 := by rw [List.length_drop]; omega
      cases hq : l.drop (i - 1) with
      | nil => rfl
      | cons x t =>
        rw [hq] at this
        cases t with
        | nil => rfl
        | cons y t => simp at this
    simp only [spec_l1Rising.l0]
    rw [if_neg (by omega), e, List.drop_eq_nil_of_le (by omega)]
    rfl
  | d + 1, i, k, hi', hk => by
    obtain ⟨k, rfl⟩ : ∃ q, k = q + 1 := ⟨k - 1, by omega⟩
    have ha : i < l.length := by omega
    have ih := l1Rising_l0 l lo hi hn d (i + 1) k (by omega) (by omega)
    simp only [spec_l1Rising.l0]
    rw [if_pos (by omega), if_pos (by omega), if_pos (by omega), rd_lt ha, up64 ha (by omega)]
    unfold spec_l1In.f
    rw [show i + 1 - 1 = i by omega] at ih
    have hall : ((l.drop i).all fun y => decide (lo ≤ y) && decide (y ≤ hi)) = ((decide (lo ≤ l[i]) && decide (l[i] ≤ hi)) && (l.drop (i + 1)).all fun y => decide (lo ≤ y) && decide (y ≤ hi)) := by
      rw [List.drop_eq_getElem_cons ha, List.all_cons]
    rw [hall]
    clear hall
    by_cases h1 : lo ≤ l[i]
    · rw [if_pos (show l[i] ≥ lo from h1)]
      simp only [Option.bind_some]
      by_cases h2 : l[i] ≤ hi
      · rw [if_pos (by simpa using h2)]
        by_cases h0 : i = 0
        · subst h0
          rw [if_neg (by omega), ih]
          simp [h1, h2]
        · have hb : i - 1 < l.length := by omega
          have e1 : wrap64 ((i : Int) - 1) = ((i - 1 : Nat) : Int) := by rw [w64 (by omega) (by omega)]; omega
          have hup : Aux2.p_up (l.drop (i - 1)) = (decide (l[i - 1] < l[i]) && Aux2.p_up (l.drop i)) := by
            rw [List.drop_eq_getElem_cons hb, show i - 1 + 1 = i by omega, List.drop_eq_getElem_cons ha]
            rfl
          rw [if_pos (by omega), e1, if_pos (by omega), if_pos (by omega), rd_lt hb, ih, hup]
          by_cases e : l[i - 1] ≥ l[i]
          · rw [if_pos e]
            simp [show ¬ l[i - 1] < l[i] by omega]
          · rw [if_neg e]
            simp [show l[i - 1] < l[i] by omega, h1, h2]
      · rw [if_neg (by simpa using h2)]
        simp [h2]
    · rw [if_neg (show ¬ l[i] ≥ lo from h1)]
      simp [h1]
theorem l1Rising_f (a : Int) (l : List Int) (hn : l.length ≤ 4000000) {k : Nat} (hk : l.length < k) : spec_l1Rising.f k l 0 (wrap64 (a - 1)) = some (impl_AreTests.p_rising a l) := by
  unfold spec_l1Rising.f impl_AreTests.p_rising
  have := l1Rising_l0 l 0 (wrap64 (a - 1)) hn l.length 0 k (by omega) hk
  simpa using this
theorem wiGood_l0 (a : Int) (l : List (List Int)) (hn : l.length ≤ 1048576) (ht : ∀ x ∈ l, x.length ≤ 1048576) : ∀ (d i k : Nat), i + d = l.length → d + 1048577 < k → spec_wiGood.l0 k a l (l.length : Int) (i : Int) = some ((l.drop i).all fun c => !impl_AreTests.p_bad a c)
  | 0, i, k, hi, hk => by
    obtain ⟨k, rfl⟩ : ∃ q, k = q + 1 := ⟨k - 1, by omega⟩
    simp only [spec_wiGood.l0]
    rw [if_neg (by omega), List.drop_eq_nil_of_le (by omega)]
    rfl
  | d + 1, i, k, hi, hk => by
    obtain ⟨k, rfl⟩ : ∃ q, k = q + 1 := ⟨k - 1, by omega⟩
    have ha : i < l.length := by omega
    have ih := wiGood_l0 a l hn ht d (i + 1) k (by omega) (by omega)
    have e : rd_L1 l (i : Int) = l[i] := by unfold rd_L1; simp [List.getD_eq_getElem?_getD, ha]
    have hlen := ht _ (List.getElem_mem ha)
    simp only [spec_wiGood.l0]
    rw [if_pos (by omega), if_pos (by omega), if_pos (by omega), e, up64 ha (by omega), ih, l1Rising_f a _ (by omega) (by omega), List.drop_eq_getElem_cons ha, List.all_cons]
    unfold impl_AreTests.p_bad
    by_cases h0 : l[i].length = 0
    · rw [if_pos (by omega)]
      simp [h0]
    · rw [if_neg (by omega)]
      simp only [Option.bind_some]
      cases impl_AreTests.p_rising a l[i] with
      | true => rw [if_pos rfl]; simp [h0]
      | false => simp [h0]
theorem wiGood_f (a : Int) (l : List (List Int)) (hn : l.length ≤ 1048576) (ht : ∀ x ∈ l, x.length ≤ 1048576) {k : Nat} (hk : 3000000 < k) : spec_wiGood.f k a l = some (tst a l) := by
  obtain ⟨k, rfl⟩ : ∃ q, k = q + 1 := ⟨k - 1, by omega⟩
  have h := wiGood_l0 a l hn ht l.length 0 k (by omega) (by omega)
  rw [List.drop_zero, show ((0 : Nat) : Int) = 0 from rfl] at h
  unfold spec_wiGood.f spec_wiWires.f spec_l1In.f tst impl_AreTests.p_all
  by_cases h1 : 1 ≤ a
  · rw [if_pos (show a ≥ 1 from h1)]
    simp only [Option.bind_some]
    by_cases h2 : a ≤ 10
    · rw [if_pos (by simpa using h2)]
      simp only [spec_wiGood.j0]
      by_cases h3 : l.length ≤ 12
      · rw [if_neg (by simp; omega), h]
        simp [h1, h2, h3]
      · rw [if_pos (by simp; omega)]
        simp [h3]
    · rw [if_neg (by simpa using h2)]
      simp only [spec_wiGood.j0]
      simp [h2]
  · rw [if_neg (show ¬ a ≥ 1 from h1)]
    simp only [Option.bind_some, Bool.false_eq_true, if_false, spec_wiGood.j0]
    simp [h1]
theorem areTests_f (a : Int) (l : List (List Int)) (ht : ∀ x ∈ l, x.length ≤ 1048576) : impl_AreTests.f a l = some (tst a l) := by
  unfold impl_AreTests.f
  rw [if_pos ht]
  rfl
theorem within_any (l : List Int) (lo hi : Int) : (!(l.any fun x => !impl_areWithin_1.in_ lo hi x)) = l.all fun y => decide (lo ≤ y) && decide (y ≤ hi) := by
  unfold impl_areWithin_1.in_
  induction l with
  | nil => rfl
  | cons x l ih => simp only [List.any_cons, List.all_cons, Bool.not_or, Bool.not_not, ih]
theorem p_up_drop (l : List Int) (i : Nat) (h1 : 1 ≤ i) (h : i < l.length) : Aux2.p_up (l.drop (i - 1)) = (decide (l[i - 1] < l[i]) && Aux2.p_up (l.drop i)) := by
  rw [List.drop_eq_getElem_cons (show i - 1 < l.length by omega), show i - 1 + 1 = i by omega, List.drop_eq_getElem_cons h]
  rfl
theorem isRising_l0 (a : Int) (l : List Int) (hn : l.length ≤ 4000000) : ∀ (d i k : Nat), i + d = l.length → 1 ≤ i → d < k → impl_isRising.l0 k a l (i : Int) = some (Aux2.p_up (l.drop (i - 1)) && l.all fun y => decide (0 ≤ y) && decide (y ≤ wrap64 (a - 1)))
  | 0, i, k, hi', h1, hk => by
    obtain ⟨k, rfl⟩ : ∃ q, k = q + 1 := ⟨k - 1, by omega⟩
    have e : Aux2.p_up (l.drop (i - 1)) = true := by
      have : (l.drop (i - 1)).length ≤ 1 := by rw [List.length_drop]; omega
      cases hq : l.drop (i - 1) with
      | nil => rfl
      | cons x t =>
        rw [hq] at this
        cases t with
        | nil => rfl
        | cons y t => simp at this
    simp only [impl_isRising.l0]
    rw [if_neg (by omega), e]
    unfold impl_areWithin.f impl_areWithin_1.f
    simp only [Option.bind_some, within_any]
    rfl
  | d + 1, i, k, hi', h1, hk => by
    obtain ⟨k, rfl⟩ : ∃ q, k = q + 1 := ⟨k - 1, by omega⟩
    have ha : i < l.length := by omega
    have hb : i - 1 < l.length := by omega
    have ih := isRising_l0 a l hn d (i + 1) k (by omega) (by omega) (by omega)
    rw [show i + 1 - 1 = i by omega] at ih
    have e1 : wrap64 ((i : Int) - 1) = ((i - 1 : Nat) : Int) := by rw [w64 (by omega) (by omega)]; omega
    simp only [impl_isRising.l0]
    rw [if_pos (by omega), if_pos (by omega), e1, if_pos (by omega), if_pos (by omega), rd_lt ha, rd_lt hb, up64 ha (by omega), ih, p_up_drop l i h1 ha]
    by_cases e : l[i] ≤ l[i - 1]
    · rw [if_pos e]
      simp [show ¬ l[i - 1] < l[i] by omega]
    · rw [if_neg e]
      simp [show l[i - 1] < l[i] by omega]
theorem isRising_f (a : Int) (l : List Int) (hn : l.length ≤ 4000000) {k : Nat} (hk : l.length + 1 < k) : impl_isRising.f k a l = some (impl_AreTests.p_rising a l) := by
  unfold impl_isRising.f impl_AreTests.p_rising
  by_cases h : l.length = 0
  · have : l = [] := List.length_eq_zero_iff.1 h
    subst this
    obtain ⟨k, rfl⟩ : ∃ q, k = q + 1 := ⟨k - 1, by omega⟩
    simp only [impl_isRising.l0]
    rw [if_neg (by simp)]
    unfold impl_areWithin.f impl_areWithin_1.f
    rfl
  · have := isRising_l0 a l hn (l.length - 1) 1 k (by omega) (by omega) (by omega)
    rw [show ((1 : Nat) : Int) = 1 from rfl] at this
    rw [this]
    rfl
/-- Wires that rise below ten wires. -/
theorem rising_wires (a : Int) (l : List Int) (h1 : 1 ≤ a) (h2 : a ≤ 10) (h : impl_AreTests.p_rising a l = true) : ∀ x ∈ l, 0 ≤ x ∧ x ≤ 9 := by
  intro x hx
  unfold impl_AreTests.p_rising at h
  rw [Bool.and_eq_true, List.all_eq_true] at h
  have := h.2 x hx
  rw [Bool.and_eq_true, decide_eq_true_eq, decide_eq_true_eq, w64 (by omega) (by omega)] at this
  omega
theorem tst_cases {a : Int} {l : List (List Int)} (h : tst a l = true) : 1 ≤ a ∧ a ≤ 10 ∧ l.length ≤ 12 ∧ ∀ c ∈ l, 1 ≤ c.length ∧ impl_AreTests.p_rising a c = true := by
  unfold tst impl_AreTests.p_all at h
  simp only [Bool.and_eq_true, decide_eq_true_eq, List.all_eq_true] at h
  refine ⟨h.1.1, h.1.2, h.2.1, fun c hc => ?_⟩
  have := h.2.2 c hc
  unfold impl_AreTests.p_bad at this
  simp only [Bool.not_or, Bool.not_not, Bool.and_eq_true, Bool.not_eq_true', decide_eq_false_iff_not] at this
  exact ⟨by omega, this.2⟩
theorem join_l1 (m : List (List Int)) (hn : m.length ≤ 1000) (ht : ∀ c ∈ m, c.length ≤ 1048576) : ∀ (d i k : Nat) (out : List (List Int)), i + d = m.length → out.length + d ≤ 2000 → d < k → spec_JoinTests.l1 k out m (m.length : Int) (i : Int) = some (out ++ m.drop i, true)
  | 0, i, k, out, hi, ho, hk => by
    obtain ⟨k, rfl⟩ : ∃ q, k = q + 1 := ⟨k - 1, by omega⟩
    simp only [spec_JoinTests.l1]
    rw [if_neg (by omega), List.drop_eq_nil_of_le (by omega), List.append_nil]
  | d + 1, i, k, out, hi, ho, hk => by
    obtain ⟨k, rfl⟩ : ∃ q, k = q + 1 := ⟨k - 1, by omega⟩
    have ha : i < m.length := by omega
    have e : rd_L1 m (i : Int) = m[i] := by unfold rd_L1; simp [List.getD_eq_getElem?_getD, ha]
    have hx := ht _ (List.getElem_mem ha)
    simp only [spec_JoinTests.l1, spec_l1Own.f]
    rw [if_pos (by omega), if_pos (by omega), if_pos (by omega), e]
    simp only [Option.bind_some, List.nil_append, List.length_nil]
    rw [if_pos (by omega), Option.bind_some, if_pos (by omega), up64 ha (by omega), join_l1 m hn ht d (i + 1) k _ (by omega) (by simp; omega) (by omega), List.append_assoc, List.singleton_append, ← List.drop_eq_getElem_cons ha]
theorem join_l0 (l m : List (List Int)) (hl : l.length ≤ 1000) (hn : m.length ≤ 1000) (hs : ∀ c ∈ l, c.length ≤ 1048576) (ht : ∀ c ∈ m, c.length ≤ 1048576) : ∀ (d i k : Nat) (out : List (List Int)), i + d = l.length → out.length + d ≤ 1000 → d + m.length + 1 < k → spec_JoinTests.l0 k m out l (l.length : Int) (i : Int) = some (out ++ l.drop i ++ m, true)
  | 0, i, k, out, hi, ho, hk => by
    obtain ⟨k, rfl⟩ : ∃ q, k = q + 1 := ⟨k - 1, by omega⟩
    have h := join_l1 m hn ht m.length 0 k out (by omega) (by omega) (by omega)
    rw [show ((0 : Nat) : Int) = 0 from rfl, List.drop_zero] at h
    simp only [spec_JoinTests.l0]
    rw [if_neg (by omega), List.drop_eq_nil_of_le (by omega), List.append_nil, h]
  | d + 1, i, k, out, hi, ho, hk => by
    obtain ⟨k, rfl⟩ : ∃ q, k = q + 1 := ⟨k - 1, by omega⟩
    have ha : i < l.length := by omega
    have e : rd_L1 l (i : Int) = l[i] := by unfold rd_L1; simp [List.getD_eq_getElem?_getD, ha]
    have hx := hs _ (List.getElem_mem ha)
    simp only [spec_JoinTests.l0, spec_l1Own.f]
    rw [if_pos (by omega), if_pos (by omega), if_pos (by omega), e]
    simp only [Option.bind_some, List.nil_append, List.length_nil]
    rw [if_pos (by omega), Option.bind_some, if_pos (by omega), up64 ha (by omega), join_l0 l m hl hn hs ht d (i + 1) k _ (by omega) (by simp; omega) (by omega), List.append_assoc out, List.singleton_append, ← List.drop_eq_getElem_cons ha]
theorem copy_l0 (m : List (List Int)) (hn : m.length ≤ 1000) (ht : ∀ c ∈ m, c.length ≤ 1048576) : ∀ (d i k : Nat) (out : List (List Int)), i + d = m.length → out.length + d ≤ 2000 → d < k → impl_copyLists.l0 k out m (m.length : Int) (i : Int) = some (out ++ m.drop i)
  | 0, i, k, out, hi, ho, hk => by
    obtain ⟨k, rfl⟩ : ∃ q, k = q + 1 := ⟨k - 1, by omega⟩
    simp only [impl_copyLists.l0]
    rw [if_neg (by omega), List.drop_eq_nil_of_le (by omega), List.append_nil]
  | d + 1, i, k, out, hi, ho, hk => by
    obtain ⟨k, rfl⟩ : ∃ q, k = q + 1 := ⟨k - 1, by omega⟩
    have ha : i < m.length := by omega
    have e : rd_L1 m (i : Int) = m[i] := by unfold rd_L1; simp [List.getD_eq_getElem?_getD, ha]
    have hx := ht _ (List.getElem_mem ha)
    simp only [impl_copyLists.l0, slices_Clone_int_int.f]
    rw [if_pos (by omega), if_pos (by omega), if_pos (by omega), e, if_pos (by omega), Option.bind_some, if_pos (by omega), up64 ha (by omega), copy_l0 m hn ht d (i + 1) k _ (by omega) (by simp; omega) (by omega), List.append_assoc, List.singleton_append, ← List.drop_eq_getElem_cons ha]
theorem tot_app (a b : List (List Int)) : Aux.tot (a ++ b) = Aux.tot a + Aux.tot b := Aux.tot_append a b
theorem FnExactJoinTests : ∀ (a0 : Int) (l1 : List (List Int)) (l2 : List (List Int)), (Lit.int .i64 a0).wf = true → l1.length ≤ maxLen → (∀ x ∈ l1, (fun l => l.length ≤ maxLen ∧ ∀ x ∈ l, (fun n => (Lit.int .i64 n).wf = true) x) x) → l2.length ≤ maxLen → (∀ x ∈ l2, (fun l => l.length ≤ maxLen ∧ ∀ x ∈ l, (fun n => (Lit.int .i64 n).wf = true) x) x) → ∃ k, laws_FnExactJoinTests.f k a0 l1 l2 = some true := by
  intro a l m _ _ _ _ _
  refine ⟨4000000 + 1, ?_⟩
  unfold laws_FnExactJoinTests.f
  by_cases z0 : 1048576 < l.length + Aux.tot l
  · rw [if_pos z0]
  rw [if_neg z0]
  by_cases z1 : 1048576 < l.length + Aux.tot l + m.length + Aux.tot m
  · rw [if_pos z1]
  rw [if_neg z1]
  have hl : ∀ x ∈ l, x.length ≤ 1048576 := fun x hx => by have := Aux.row_le_tot l x hx; omega
  have hm : ∀ x ∈ m, x.length ≤ 1048576 := fun x hx => by have := Aux.row_le_tot m x hx; omega
  unfold spec_JoinTests.f impl_JoinTests.f
  rw [wiGood_f a l (by omega) hl (by omega), wiGood_f a m (by omega) hm (by omega), areTests_f a l hl, areTests_f a m hm, if_pos (by omega), w64 (by omega) (by omega)]
  simp only [Option.bind_some]
  have nil : (if (([] : List (List Int)), false) = (([] : List (List Int)), false) ∧ ([] : List (List Int)).length ≤ 1000000000 ∧ Aux.tot [] ≤ 1000000000 then some true else none) = some true := by rw [if_pos ⟨rfl, by simp, by simp [Aux.tot]⟩]
  cases h1 : tst a l with
  | false =>
    simp only [Bool.false_eq_true, if_false, spec_JoinTests.j0, if_true, Option.bind_some]
    exact nil
  | true =>
    cases h2 : tst a m with
    | false =>
      simp only [Bool.false_eq_true, if_false, spec_JoinTests.j0, if_true, Option.bind_some]
      exact nil
    | true =>
      simp only [if_true]
      obtain ⟨_, _, t1, _⟩ := tst_cases h1
      obtain ⟨_, _, t2, _⟩ := tst_cases h2
      by_cases h12 : 12 < l.length + m.length
      · rw [if_pos h12, decide_eq_true (show (l.length : Int) + (m.length : Int) > 12 by omega)]
        simp only [spec_JoinTests.j0, if_true, Option.bind_some]
        exact nil
      · rw [if_neg h12, decide_eq_false (show ¬ (l.length : Int) + (m.length : Int) > 12 by omega)]
        simp only [spec_JoinTests.j0, Bool.false_eq_true, if_false]
        have hj := join_l0 l m (by omega) (by omega) hl hm l.length 0 4000000 [] (by omega) (by simp; omega) (by omega)
        rw [show ((0 : Nat) : Int) = 0 from rfl, List.drop_zero, List.nil_append] at hj
        have hc := copy_l0 (l ++ m) (by simp; omega) (fun c hc => by rcases List.mem_append.1 hc with h | h; exact hl c h; exact hm c h) (l ++ m).length 0 (4000000 + 1) [] (by omega) (by simp; omega) (by simp; omega)
        rw [show ((0 : Nat) : Int) = 0 from rfl, List.drop_zero, List.nil_append] at hc
        unfold impl_copyLists.f
        rw [hj, hc]
        simp only [Option.bind_some]
        rw [if_pos ⟨trivial, by simp; omega, by rw [tot_app]; omega⟩]

end Go.Proofs.Ythkoignldhocgab.Pure
