/- For every number, list of lists and text the program's SuspectsOf and the reference's agree; no conditions. -/
import Derived.Test.YtbghdbpaihkcjaaDoorPFnExactSuspectsOfx5
set_option linter.unusedSimpArgs false
set_option linter.unusedVariables false
namespace Go.Proofs.YtbghdbpaihkcjaaDoor.Pure
open Go.RowKit Go.Proofs.YtbghdbpaihkcjaaDoor.PFnExactSuspectsOf Go.Proofs.YtbghdbpaihkcjaaDoorW.PrintWords Go.Proofs.YtbghdbpaihkcjaaDoorW.PrintLast Go.Proofs.YtbghdbpaihkcjaaDoorW.PrintMore

theorem w64 {x : Int} (h0 : -9223372036854775808 ≤ x) (h1 : x ≤ 9223372036854775807) : wrap64 x = x := by unfold wrap64; omega
theorem up64 {i n : Nat} (h : i < n) (hn : n ≤ 4611686018427387904) : wrap64 ((i : Int) + 1) = ((i + 1 : Nat) : Int) := by rw [w64 (by omega) (by omega)]; omega
theorem rd_lt {xs : List Int} {i : Nat} (h : i < xs.length) : rd xs (i : Int) = xs[i] := by unfold rd; simp [List.getD_eq_getElem?_getD, h]
theorem toIntS_l0 (a : List Int) (hn : a.length ≤ 4611686018427387904) : ∀ (d i k : Nat), i + d = a.length → d < k → laws_toIntS.l0 k a (a.take i ++ List.replicate d 0) (i : Int) = some a
  | 0, i, k, hi, hk => by
    obtain ⟨k, rfl⟩ : ∃ q, k = q + 1 := ⟨k - 1, by omega⟩
    simp only [laws_toIntS.l0]
    rw [if_neg (by omega), List.take_of_length_le (by omega)]
    simp
  | d + 1, i, k, hi, hk => by
    obtain ⟨k, rfl⟩ : ∃ q, k = q + 1 := ⟨k - 1, by omega⟩
    have ih := toIntS_l0 a hn d (i + 1) k (by omega) (by omega)
    have ha : i < a.length := by omega
    simp only [laws_toIntS.l0]
    rw [if_pos (by omega), if_pos (by omega), if_pos (by simp; omega), up64 ha hn, rd_lt ha]
    have he : (a.take i ++ List.replicate (d + 1) (0 : Int)).set ((i : Nat) : Int).toNat a[i] = a.take (i + 1) ++ List.replicate d 0 := by
      rw [List.set_append_right _ _ (by simp; omega), List.replicate_succ]
      have e : ((i : Nat) : Int).toNat - (a.take i).length = 0 := by simp; omega
      rw [e, List.set_cons_zero, List.take_succ_eq_append_getElem ha]
      simp only [List.append_assoc, List.singleton_append]
    rw [he]
    exact ih
theorem toIntS_f (a : List Int) (hn : a.length ≤ 1048576) {k : Nat} (hk : a.length < k) : laws_toIntS.f k a = some a := by
  unfold laws_toIntS.f
  rw [if_pos (by omega), if_pos (by omega)]
  exact toIntS_l0 a (by omega) a.length 0 k (by omega) hk
theorem eqIntS_l0 (a b : List Int) (hl : a.length = b.length) (hn : a.length ≤ 4611686018427387904) : ∀ (d i k : Nat), i + d = a.length → d < k → laws_eqIntS.l0 k a b (i : Int) = some (decide (a.drop i = b.drop i))
  | 0, i, k, hi, hk => by
    obtain ⟨k, rfl⟩ : ∃ q, k = q + 1 := ⟨k - 1, by omega⟩
    simp only [laws_eqIntS.l0]
    rw [if_neg (by omega), List.drop_eq_nil_of_le (by omega), List.drop_eq_nil_of_le (by omega)]
    simp
  | d + 1, i, k, hi, hk => by
    obtain ⟨k, rfl⟩ : ∃ q, k = q + 1 := ⟨k - 1, by omega⟩
    have ih := eqIntS_l0 a b hl hn d (i + 1) k (by omega) (by omega)
    have ha : i < a.length := by omega
    have hb : i < b.length := by omega
    simp only [laws_eqIntS.l0]
    rw [if_pos (by omega), if_pos (by omega), if_pos (by omega), up64 ha hn, ih, rd_lt ha, rd_lt hb, List.drop_eq_getElem_cons ha, List.drop_eq_getElem_cons hb]
    by_cases e : a[i] = b[i]
    · rw [if_pos e, e]; simp only [List.cons.injEq, true_and]
    · rw [if_neg e]; simp only [List.cons.injEq, e, false_and, decide_false]
theorem eqIntS_f (a b : List Int) (hn : a.length ≤ 4611686018427387904) {k : Nat} (hk : a.length < k) : laws_eqIntS.f k a b = some (decide (a = b)) := by
  unfold laws_eqIntS.f
  by_cases h : a.length = b.length
  · rw [if_pos (by omega)]
    exact eqIntS_l0 a b h hn a.length 0 k (by omega) hk
  · rw [if_neg (by omega), decide_eq_false (fun e => h (by rw [e]))]
/-- The length of all rows together. -/
def tot (l : List (List Int)) : Nat := (l.map List.length).sum
theorem tot_cons (x : List Int) (l : List (List Int)) : tot (x :: l) = x.length + tot l := by simp [tot]
theorem tot_drop (l : List (List Int)) (i : Nat) (h : i < l.length) : tot (l.drop i) = (l[i]).length + tot (l.drop (i + 1)) := by
  rw [List.drop_eq_getElem_cons h, tot_cons]
theorem szIntSS_l0 (l : List (List Int)) (hn : l.length ≤ 4000000) : ∀ (d i k : Nat) (left : Int), i + d = l.length → 0 ≤ left → left ≤ 1048576 → (∀ x ∈ l, x.length ≤ 9223372036854775807) → d < k → laws_szIntSS.l0 k l left (i : Int) = some (if (tot (l.drop i) : Int) ≤ left then left - (tot (l.drop i) : Int) else -1)
  | 0, i, k, left, hi, h0, h1, hm, hk => by
    obtain ⟨k, rfl⟩ : ∃ q, k = q + 1 := ⟨k - 1, by omega⟩
    simp only [laws_szIntSS.l0]
    rw [if_neg (by omega), List.drop_eq_nil_of_le (by omega)]
    simp [tot, h0]
  | d + 1, i, k, left, hi, h0, h1, hm, hk => by
    obtain ⟨k, rfl⟩ : ∃ q, k = q + 1 := ⟨k - 1, by omega⟩
    have ha : i < l.length := by omega
    have e : rd_L1 l (i : Int) = l[i] := by unfold rd_L1; simp [List.getD_eq_getElem?_getD, ha]
    have hlen := hm _ (List.getElem_mem ha)
    have ht := tot_drop l i ha
    have w : wrap64 (left - (l[i].length : Int)) = left - (l[i].length : Int) := w64 (by omega) (by omega)
    simp only [laws_szIntSS.l0]
    rw [if_pos (by omega), if_pos (by omega), e]
    unfold laws_szIntS.f
    rw [w]
    by_cases hc : left - (l[i].length : Int) < 0
    · rw [if_pos hc]
      simp only [Option.bind_some]
      rw [if_pos (by omega), if_neg (by omega)]
    · rw [if_neg hc]
      simp only [Option.bind_some]
      rw [if_neg hc, up64 ha (by omega), szIntSS_l0 l hn d (i + 1) k _ (by omega) (by omega) (by omega) hm (by omega), ht]
      by_cases h2 : ((tot (l.drop (i + 1)) : Nat) : Int) ≤ left - (l[i].length : Int)
      · rw [if_pos h2, if_pos (by omega)]; congr 1; omega
      · rw [if_neg h2, if_neg (by omega)]
theorem szIntSS_f (l : List (List Int)) (left : Int) (h0 : 0 ≤ left) (h1 : left ≤ 1048576) (hl : l.length ≤ 9223372036854775807) (hm : ∀ x ∈ l, x.length ≤ 9223372036854775807) {k : Nat} (hk : 2000000 < k) : laws_szIntSS.f k l left = some (if (l.length : Int) + (tot l : Int) ≤ left then left - (l.length : Int) - (tot l : Int) else -1) := by
  have w : wrap64 (left - (l.length : Int)) = left - (l.length : Int) := w64 (by omega) (by omega)
  unfold laws_szIntSS.f
  rw [w]
  by_cases hc : left - (l.length : Int) < 0
  · rw [if_pos hc, if_neg (by omega)]
  · rw [if_neg hc]
    have h := szIntSS_l0 l (by omega) l.length 0 k (left - (l.length : Int)) (by omega) (by omega) (by omega) hm (by omega)
    rw [List.drop_zero] at h
    rw [show (0 : Int) = ((0 : Nat) : Int) from rfl, h]
    by_cases h2 : ((tot l : Nat) : Int) ≤ left - (l.length : Int)
    · rw [if_pos h2, if_pos (by omega)]
    · rw [if_neg h2, if_neg (by omega)]
theorem row_le_tot (l : List (List Int)) (x : List Int) (h : x ∈ l) : x.length ≤ tot l := by
  induction l with
  | nil => cases h
  | cons y l ih =>
    rw [tot_cons]
    rcases List.mem_cons.1 h with rfl | h
    · omega
    · have := ih h; omega
theorem toIntSS_l0 (l : List (List Int)) (hn : l.length ≤ 1048576) (ht : ∀ x ∈ l, x.length ≤ 1048576) : ∀ (d i k : Nat), i + d = l.length → d + 1048577 < k → laws_toIntSS.l0 k l (l.take i ++ List.replicate d []) (i : Int) = some l
  | 0, i, k, hi, hk => by
    obtain ⟨k, rfl⟩ : ∃ q, k = q + 1 := ⟨k - 1, by omega⟩
    simp only [laws_toIntSS.l0]
    rw [if_neg (by omega), List.take_of_length_le (by omega)]
    simp
  | d + 1, i, k, hi, hk => by
    obtain ⟨k, rfl⟩ : ∃ q, k = q + 1 := ⟨k - 1, by omega⟩
    have ih := toIntSS_l0 l hn ht d (i + 1) k (by omega) (by omega)
    have ha : i < l.length := by omega
    have e : rd_L1 l (i : Int) = l[i] := by unfold rd_L1; simp [List.getD_eq_getElem?_getD, ha]
    have hlen := ht _ (List.getElem_mem ha)
    simp only [laws_toIntSS.l0]
    rw [if_pos (by omega), if_pos (by omega), e, toIntS_f _ hlen (by omega)]
    simp only [Option.bind_some]
    rw [if_pos (by simp; omega), up64 ha (by omega)]
    have he : (l.take i ++ List.replicate (d + 1) ([] : List Int)).set ((i : Nat) : Int).toNat l[i] = l.take (i + 1) ++ List.replicate d [] := by
      rw [List.set_append_right _ _ (by simp; omega), List.replicate_succ]
      have e : ((i : Nat) : Int).toNat - (l.take i).length = 0 := by simp; omega
      rw [e, List.set_cons_zero, List.take_succ_eq_append_getElem ha]
      simp only [List.append_assoc, List.singleton_append]
    rw [he]
    exact ih
theorem toIntSS_f (l : List (List Int)) (hn : l.length ≤ 1048576) (ht : ∀ x ∈ l, x.length ≤ 1048576) {k : Nat} (hk : 3000000 < k) : laws_toIntSS.f k l = some l := by
  unfold laws_toIntSS.f
  rw [if_pos (by omega), if_pos (by omega)]
  exact toIntSS_l0 l hn ht l.length 0 k (by omega) (by omega)
theorem eqIntSS_l0' (a : List (List Int)) (hn : a.length ≤ 1048576) (ht : ∀ x ∈ a, x.length ≤ 1048576) : ∀ (d i k : Nat), i + d = a.length → d + 1048577 < k → laws_eqIntSS.l0 k a a (i : Int) = some true
  | 0, i, k, hi, hk => by
    obtain ⟨k, rfl⟩ : ∃ q, k = q + 1 := ⟨k - 1, by omega⟩
    simp only [laws_eqIntSS.l0]
    rw [if_neg (by omega)]
  | d + 1, i, k, hi, hk => by
    obtain ⟨k, rfl⟩ : ∃ q, k = q + 1 := ⟨k - 1, by omega⟩
    have ih := eqIntSS_l0' a hn ht d (i + 1) k (by omega) (by omega)
    have ha : i < a.length := by omega
    have h1 := ht _ (List.getElem_mem ha)
    have e : rd_L1 a (i : Int) = a[i] := by unfold rd_L1; simp [List.getD_eq_getElem?_getD, ha]
    simp only [laws_eqIntSS.l0]
    rw [if_pos (by omega), if_pos (by omega), if_pos (by omega), e, eqIntS_f _ _ (by omega) (by omega), up64 ha (by omega)]
    simpa using ih
theorem eqIntSS_f (a : List (List Int)) (hn : a.length ≤ 1048576) (ht : ∀ x ∈ a, x.length ≤ 1048576) {k : Nat} (hk : 3000000 < k) : laws_eqIntSS.f k a a = some true := by
  unfold laws_eqIntSS.f
  rw [if_pos rfl]
  exact eqIntSS_l0' a hn ht a.length 0 _ (by omega) (by omega)
/-- Are these tests of so many wires? -/
def tst (a : Int) (l : List (List Int)) : Bool := impl_AreTests.p_all a l
theorem l1Rising_l0 (l : List Int) (lo hi : Int) (hn : l.length ≤ 4000000) : ∀ (d i k : Nat), i + d = l.length → d < k → spec_l1Rising.l0 k l lo hi l (l.length : Int) (i : Int) = some (Aux2.p_up (l.drop (i - 1)) && (l.drop i).all fun y => decide (lo ≤ y) && decide (y ≤ hi))
  | 0, i, k, hi', hk => by
    obtain ⟨k, rfl⟩ : ∃ q, k = q + 1 := ⟨k - 1, by omega⟩
    have e : Aux2.p_up (l.drop (i - 1)) = true := by
      have : (l.drop (i - 1)).length ≤ 1 := by rw [List.length_drop]; omega
      cases hq : l.drop (i - 1) with
      | nil => rfl
      | cons x t =>
        rw [hq] at this
        cases t with
        | nil => rfl
        | cons y t => simp at this
    simp only [spec_l1Rising.l0]
    rw [if_neg (by omega), e, List.drop_eq_nil_of_le (by omega)]
    rfl
  | d + 1, i, k, hi', hk => by
    obtain ⟨k, rfl⟩ : ∃ q, k = q + 1 := ⟨k - 1, by omega⟩
    have ha : i < l.length := by omega
    have ih := l1Rising_l0 l lo hi hn d (i + 1) k (by omega) (by omega)
    simp only [spec_l1Rising.l0]
    rw [if_pos (by omega), if_pos (by omega), if_pos (by omega), rd_lt ha, up64 ha (by omega)]
    unfold spec_l1In.f
    rw [show i + 1 - 1 = i by omega] at ih
    have hall : ((l.drop i).all fun y => decide (lo ≤ y) && decide (y ≤ hi)) = ((decide (lo ≤ l[i]) && decide (l[i] ≤ hi)) && (l.drop (i + 1)).all fun y => decide (lo ≤ y) && decide (y ≤ hi)) := by
      rw [List.drop_eq_getElem_cons ha, List.all_cons]
    rw [hall]
    clear hall
    by_cases h1 : lo ≤ l[i]
    · rw [if_pos (show l[i] ≥ lo from h1)]
      simp only [Option.bind_some]
      by_cases h2 : l[i] ≤ hi
      · rw [if_pos (by simpa using h2)]
        by_cases h0 : i = 0
        · subst h0
          rw [if_neg (by omega), ih]
          simp [h1, h2]
        · have hb : i - 1 < l.length := by omega
          have e1 : wrap64 ((i : Int) - 1) = ((i - 1 : Nat) : Int) := by rw [w64 (by omega) (by omega)]; omega
          have hup : Aux2.p_up (l.drop (i - 1)) = (decide (l[i - 1] < l[i]) && Aux2.p_up (l.drop i)) := by
            rw [List.drop_eq_getElem_cons hb, show i - 1 + 1 = i by omega, List.drop_eq_getElem_cons ha]
            rfl
          rw [if_pos (by omega), e1, if_pos (by omega), if_pos (by omega), rd_lt hb, ih, hup]
          by_cases e : l[i - 1] ≥ l[i]
          · rw [if_pos e]
            simp [show ¬ l[i - 1] < l[i] by omega]
          · rw [if_neg e]
            simp [show l[i - 1] < l[i] by omega, h1, h2]
      · rw [if_neg (by simpa using h2)]
        simp [h2]
    · rw [if_neg (show ¬ l[i] ≥ lo from h1)]
      simp [h1]
theorem l1Rising_f (a : Int) (l : List Int) (hn : l.length ≤ 4000000) {k : Nat} (hk : l.length < k) : spec_l1Rising.f k l 0 (wrap64 (a - 1)) = some (impl_AreTests.p_rising a l) := by
  unfold spec_l1Rising.f impl_AreTests.p_rising
  have := l1Rising_l0 l 0 (wrap64 (a - 1)) hn l.length 0 k (by omega) hk
  simpa using this
theorem wiGood_l0 (a : Int) (l : List (List Int)) (hn : l.length ≤ 1048576) (ht : ∀ x ∈ l, x.length ≤ 1048576) : ∀ (d i k : Nat), i + d = l.length → d + 1048577 < k → spec_wiGood.l0 k a l (l.length : Int) (i : Int) = some ((l.drop i).all fun c => !impl_AreTests.p_bad a c)
  | 0, i, k, hi, hk => by
    obtain ⟨k, rfl⟩ : ∃ q, k = q + 1 := ⟨k - 1, by omega⟩
    simp only [spec_wiGood.l0]
    rw [if_neg (by omega), List.drop_eq_nil_of_le (by omega)]
    rfl
  | d + 1, i, k, hi, hk => by
    obtain ⟨k, rfl⟩ : ∃ q, k = q + 1 := ⟨k - 1, by omega⟩
    have ha : i < l.length := by omega
    have ih := wiGood_l0 a l hn ht d (i + 1) k (by omega) (by omega)
    have e : rd_L1 l (i : Int) = l[i] := by unfold rd_L1; simp [List.getD_eq_getElem?_getD, ha]
    have hlen := ht _ (List.getElem_mem ha)
    simp only [spec_wiGood.l0]
    rw [if_pos (by omega), if_pos (by omega), if_pos (by omega), e, up64 ha (by omega), ih, l1Rising_f a _ (by omega) (by omega), List.drop_eq_getElem_cons ha, List.all_cons]
    unfold impl_AreTests.p_bad
    by_cases h0 : l[i].length = 0
    · rw [if_pos (by omega)]
      simp [h0]
    · rw [if_neg (by omega)]
      simp only [Option.bind_some]
      cases impl_AreTests.p_rising a l[i] with
      | true => rw [if_pos rfl]; simp [h0]
      | false => simp [h0]
theorem wiGood_f (a : Int) (l : List (List Int)) (hn : l.length ≤ 1048576) (ht : ∀ x ∈ l, x.length ≤ 1048576) {k : Nat} (hk : 3000000 < k) : spec_wiGood.f k a l = some (tst a l) := by
  obtain ⟨k, rfl⟩ : ∃ q, k = q + 1 := ⟨k - 1, by omega⟩
  have h := wiGood_l0 a l hn ht l.length 0 k (by omega) (by omega)
  rw [List.drop_zero, show ((0 : Nat) : Int) = 0 from rfl] at h
  unfold spec_wiGood.f spec_wiWires.f spec_l1In.f tst impl_AreTests.p_all
  by_cases h1 : 1 ≤ a
  · rw [if_pos (show a ≥ 1 from h1)]
    simp only [Option.bind_some]
    by_cases h2 : a ≤ 10
    · rw [if_pos (by simpa using h2)]
      simp only [spec_wiGood.j0]
      by_cases h3 : l.length ≤ 12
      · rw [if_neg (by simp; omega), h]
        simp [h1, h2, h3]
      · rw [if_pos (by simp; omega)]
        simp [h3]
    · rw [if_neg (by simpa using h2)]
      simp only [spec_wiGood.j0]
      simp [h2]
  · rw [if_neg (show ¬ a ≥ 1 from h1)]
    simp only [Option.bind_some, Bool.false_eq_true, if_false, spec_wiGood.j0]
    simp [h1]
theorem areTests_f (a : Int) (l : List (List Int)) (ht : ∀ x ∈ l, x.length ≤ 1048576) : impl_AreTests.f a l = some (tst a l) := by
  unfold impl_AreTests.f
  rw [if_pos ht]
  rfl
/-- The set of these wires. -/
def setN (l : List Int) : Nat := l.foldl (fun n x => n ||| 2 ^ x.toNat) 0
theorem setN_go (l : List Int) (hl : ∀ x ∈ l, 0 ≤ x ∧ x ≤ 9) : ∀ n, n < 1024 → l.foldl (fun n x => n ||| 2 ^ x.toNat) n < 1024 := by
  induction l with
  | nil => intro n hn; exact hn
  | cons x l ih =>
    intro n hn
    refine ih (fun y hy => hl y (List.mem_cons_of_mem _ hy)) _ ?_
    have := hl x List.mem_cons_self
    exact Nat.or_lt_two_pow (n := 10) hn (Nat.pow_lt_pow_right (by decide) (by omega))
theorem setN_lt (l : List Int) (hl : ∀ x ∈ l, 0 ≤ x ∧ x ≤ 9) : setN l < 1024 := setN_go l hl 0 (by decide)
theorem setN_take (l : List Int) (i : Nat) (h : i < l.length) : (l.take (i + 1)).foldl (fun n x => n ||| 2 ^ x.toNat) 0 = setN (l.take i) ||| 2 ^ (l[i]).toNat := by
  rw [List.take_succ_eq_append_getElem h, List.foldl_append]
  rfl
theorem within_any (l : List Int) (lo hi : Int) : (!(l.any fun x => !impl_areWithin_1.in_ lo hi x)) = l.all fun y => decide (lo ≤ y) && decide (y ≤ hi) := by
  unfold impl_areWithin_1.in_
  induction l with
  | nil => rfl
  | cons x l ih => simp only [List.any_cons, List.all_cons, Bool.not_or, Bool.not_not, ih]
theorem p_up_drop (l : List Int) (i : Nat) (h1 : 1 ≤ i) (h : i < l.length) : Aux2.p_up (l.drop (i - 1)) = (decide (l[i - 1] < l[i]) && Aux2.p_up (l.drop i)) := by
  rw [List.drop_eq_getElem_cons (show i - 1 < l.length by omega), show i - 1 + 1 = i by omega, List.drop_eq_getElem_cons h]
  rfl
theorem isRising_l0 (a : Int) (l : List Int) (hn : l.length ≤ 4000000) : ∀ (d i k : Nat), i + d = l.length → 1 ≤ i → d < k → impl_isRising.l0 k a l (i : Int) = some (Aux2.p_up (l.drop (i - 1)) && l.all fun y => decide (0 ≤ y) && decide (y ≤ wrap64 (a - 1)))
  | 0, i, k, hi', h1, hk => by
    obtain ⟨k, rfl⟩ : ∃ q, k = q + 1 := ⟨k - 1, by omega⟩
    have e : Aux2.p_up (l.drop (i - 1)) = true := by
      have : (l.drop (i - 1)).length ≤ 1 := by rw [List.length_drop]; omega
      cases hq : l.drop (i - 1) with
      | nil => rfl
      | cons x t =>
        rw [hq] at this
        cases t with
        | nil => rfl
        | cons y t => simp at this
    simp only [impl_isRising.l0]
    rw [if_neg (by omega), e]
    unfold impl_areWithin.f impl_areWithin_1.f
    simp only [Option.bind_some, within_any]
    rfl
  | d + 1, i, k, hi', h1, hk => by
    obtain ⟨k, rfl⟩ : ∃ q, k = q + 1 := ⟨k - 1, by omega⟩
    have ha : i < l.length := by omega
    have hb : i - 1 < l.length := by omega
    have ih := isRising_l0 a l hn d (i + 1) k (by omega) (by omega) (by omega)
    rw [show i + 1 - 1 = i by omega] at ih
    have e1 : wrap64 ((i : Int) - 1) = ((i - 1 : Nat) : Int) := by rw [w64 (by omega) (by omega)]; omega
    simp only [impl_isRising.l0]
    rw [if_pos (by omega), if_pos (by omega), e1, if_pos (by omega), if_pos (by omega), rd_lt ha, rd_lt hb, up64 ha (by omega), ih, p_up_drop l i h1 ha]
    by_cases e : l[i] ≤ l[i - 1]
    · rw [if_pos e]
      simp [show ¬ l[i - 1] < l[i] by omega]
    · rw [if_neg e]
      simp [show l[i - 1] < l[i] by omega]
theorem isRising_f (a : Int) (l : List Int) (hn : l.length ≤ 4000000) {k : Nat} (hk : l.length + 1 < k) : impl_isRising.f k a l = some (impl_AreTests.p_rising a l) := by
  unfold impl_isRising.f impl_AreTests.p_rising
  by_cases h : l.length = 0
  · have : l = [] := List.length_eq_zero_iff.1 h
    subst this
    obtain ⟨k, rfl⟩ : ∃ q, k = q + 1 := ⟨k - 1, by omega⟩
    simp only [impl_isRising.l0]
    rw [if_neg (by simp)]
    unfold impl_areWithin.f impl_areWithin_1.f
    rfl
  · have := isRising_l0 a l hn (l.length - 1) 1 k (by omega) (by omega) (by omega)
    rw [show ((1 : Nat) : Int) = 1 from rfl] at this
    rw [this]
    rfl
/-- Wires that rise below ten wires. -/
theorem rising_wires (a : Int) (l : List Int) (h1 : 1 ≤ a) (h2 : a ≤ 10) (h : impl_AreTests.p_rising a l = true) : ∀ x ∈ l, 0 ≤ x ∧ x ≤ 9 := by
  intro x hx
  unfold impl_AreTests.p_rising at h
  rw [Bool.and_eq_true, List.all_eq_true] at h
  have := h.2 x hx
  rw [Bool.and_eq_true, decide_eq_true_eq, decide_eq_true_eq, w64 (by omega) (by omega)] at this
  omega
theorem tst_cases {a : Int} {l : List (List Int)} (h : tst a l = true) : 1 ≤ a ∧ a ≤ 10 ∧ l.length ≤ 12 ∧ ∀ c ∈ l, 1 ≤ c.length ∧ impl_AreTests.p_rising a c = true := by
  unfold tst impl_AreTests.p_all at h
  simp only [Bool.and_eq_true, decide_eq_true_eq, List.all_eq_true] at h
  refine ⟨h.1.1, h.1.2, h.2.1, fun c hc => ?_⟩
  have := h.2.2 c hc
  unfold impl_AreTests.p_bad at this
  simp only [Bool.not_or, Bool.not_not, Bool.and_eq_true, Bool.not_eq_true', decide_eq_false_iff_not] at this
  exact ⟨by omega, this.2⟩
/-- All rising lists of so many wires, from a wire on, in order. -/
def lst (w : Nat) : Nat → Nat → List (List Int)
  | 0, _ => [[]]
  | m + 1, f => (List.range' f (w - f)).flatMap fun x => (lst w m (x + 1)).map (fun t => (x : Int) :: t)
/-- A list that rises, from a number on, below a bound. -/
def Up (w : Int) : Int → List Int → Prop
  | _, [] => True
  | f, x :: t => f ≤ x ∧ x < w ∧ Up w (x + 1) t
theorem mem_lst (w : Nat) : ∀ (m f : Nat) (t : List Int), t ∈ lst w m f ↔ t.length = m ∧ Up w f t
  | 0, f, t => by
    cases t with
    | nil => simp [lst, Up]
    | cons x t => simp [lst]
  | m + 1, f, t => by
    simp only [lst, List.mem_flatMap, List.mem_range'_1, List.mem_map]
    constructor
    · rintro ⟨x, hx, u, hu, rfl⟩
      obtain ⟨h1, h2⟩ := (mem_lst w m (x + 1) u).1 hu
      refine ⟨by simp [h1], by omega, by omega, ?_⟩
      exact h2
    · cases t with
      | nil => rintro ⟨h, _⟩; simp at h
      | cons x t =>
        rintro ⟨h, h1, h2, h3⟩
        refine ⟨x.toNat, by omega, t, (mem_lst w m _ t).2 ⟨by simpa using h, ?_⟩, by rw [Int.toNat_of_nonneg (by omega)]⟩
        rw [show ((x.toNat + 1 : Nat) : Int) = x + 1 by omega]
        exact h3
/-- The order of lists, number by number. -/
def lexlt : List Int → List Int → Bool
  | [], [] => false
  | [], _ :: _ => true
  | _ :: _, [] => false
  | x :: s, y :: t => if x < y then true else if y < x then false else lexlt s t
theorem lexlt_cons (x : Int) (s t : List Int) : lexlt (x :: s) (x :: t) = lexlt s t := by simp [lexlt]
theorem lst_sorted (w : Nat) : ∀ (m f : Nat), (lst w m f).Pairwise fun s t => lexlt s t = true
  | 0, f => by simp [lst]
  | m + 1, f => by
    simp only [lst, List.pairwise_flatMap]
    refine ⟨fun x _ => ?_, ?_⟩
    · rw [List.pairwise_map]
      refine (lst_sorted w m (x + 1)).imp ?_
      intro s t h
      rw [lexlt_cons]; exact h
    · refine List.Pairwise.imp ?_ (List.pairwise_lt_range' (s := f) (n := w - f) (step := 1))
      intro x y hxy s hs t ht
      obtain ⟨s, _, rfl⟩ := List.mem_map.1 hs
      obtain ⟨t, _, rfl⟩ := List.mem_map.1 ht
      simp only [lexlt]
      rw [if_pos (by omega)]
theorem lexlt_irrefl : ∀ s, lexlt s s = false
  | [] => rfl
  | x :: s => by rw [lexlt_cons]; exact lexlt_irrefl s
/-- All rising lists of at most so many wires, in order. -/
def alls (w m : Nat) : List (List Int) := (List.range (m + 1)).flatMap fun c => lst w c 0
theorem mem_alls (w m : Nat) (t : List Int) : t ∈ alls w m ↔ t.length ≤ m ∧ Up w 0 t := by
  unfold alls
  simp only [List.mem_flatMap, List.mem_range, mem_lst]
  constructor
  · rintro ⟨c, hc, h1, h2⟩; exact ⟨by omega, h2⟩
  · rintro ⟨h1, h2⟩; exact ⟨_, by omega, rfl, h2⟩
/-- Lists by how many numbers, then number by number. -/
def setlt (s t : List Int) : Bool := decide (s.length < t.length) || (decide (s.length = t.length) && lexlt s t)
theorem alls_sorted (w m : Nat) : (alls w m).Pairwise fun s t => setlt s t = true := by
  unfold alls
  rw [List.pairwise_flatMap]
  refine ⟨fun c _ => ?_, ?_⟩
  · refine List.Pairwise.imp_of_mem ?_ (lst_sorted w c 0)
    intro s t hs ht h
    have h1 := ((mem_lst w c 0 s).1 hs).1
    have h2 := ((mem_lst w c 0 t).1 ht).1
    simp [setlt, h1, h2, h]
  · refine List.Pairwise.imp ?_ (List.pairwise_lt_range (n := m + 1))
    intro x y hxy s hs t ht
    have h1 := ((mem_lst w x 0 s).1 hs).1
    have h2 := ((mem_lst w y 0 t).1 ht).1
    simp [setlt, h1, h2, hxy]
theorem alls_nodup (w m : Nat) : (alls w m).Nodup := by
  refine (alls_sorted w m).imp ?_
  intro s t h e
  subst e
  simp [setlt, lexlt_irrefl] at h
/-- Two lists that rise and hold the same numbers are the same. -/
theorem Up.lt {w : Int} : ∀ {f : Int} {t : List Int}, Up w f t → ∀ x ∈ t, f ≤ x ∧ x < w
  | _, [], _ => by simp
  | f, y :: t, h => by
    intro x hx
    rcases List.mem_cons.1 hx with rfl | hx
    · exact ⟨h.1, h.2.1⟩
    · have := Up.lt h.2.2 x hx
      have := h.1
      omega
theorem Up.ext {w : Int} : ∀ {f : Int} {s t : List Int}, Up w f s → Up w f t → (∀ x, x ∈ s ↔ x ∈ t) → s = t
  | _, [], [], _, _, _ => rfl
  | _, [], y :: t, _, _, h => by have := (h y).2 (by simp); simp at this
  | _, x :: s, [], _, _, h => by have := (h x).1 (by simp); simp at this
  | f, x :: s, y :: t, hs, ht, h => by
    have e : x = y := by
      have h1 := (h x).1 (by simp)
      have h2 := (h y).2 (by simp)
      rcases List.mem_cons.1 h1 with e | h1
      · exact e
      rcases List.mem_cons.1 h2 with e | h2
      · exact e.symm
      have := (Up.lt ht.2.2 x h1).1
      have := (Up.lt hs.2.2 y h2).1
      omega
    subst e
    rw [Up.ext hs.2.2 ht.2.2 ?_]
    intro z
    have hz := h z
    simp only [List.mem_cons] at hz
    constructor
    · intro hm
      rcases hz.1 (.inr hm) with e | e
      · have := (Up.lt hs.2.2 z hm).1; omega
      · exact e
    · intro hm
      rcases hz.2 (.inr hm) with e | e
      · have := (Up.lt ht.2.2 z hm).1; omega
      · exact e
/-- The numbers of the bits of a set. -/
def bitsOf (s : Nat) : List Int := ((List.range 16).filter fun i => s.testBit i).map fun (i : Nat) => (i : Int)
theorem mem_bitsOf (s : Nat) (x : Int) : x ∈ bitsOf s ↔ 0 ≤ x ∧ x < 16 ∧ s.testBit x.toNat = true := by
  unfold bitsOf
  simp only [List.mem_map, List.mem_filter, List.mem_range]
  constructor
  · rintro ⟨i, ⟨h1, h2⟩, rfl⟩
    exact ⟨by omega, by omega, by simpa using h2⟩
  · rintro ⟨h0, h1, h2⟩
    exact ⟨x.toNat, ⟨by omega, h2⟩, by omega⟩
theorem up_map (w : Int) : ∀ (l : List Nat) (f : Nat), l.Pairwise (· < ·) → (∀ x ∈ l, f ≤ x ∧ (x : Int) < w) → Up w f (l.map fun (i : Nat) => (i : Int))
  | [], _, _, _ => trivial
  | x :: l, f, hp, hb => by
    obtain ⟨h1, h2⟩ := List.pairwise_cons.1 hp
    have hx := hb x (by simp)
    refine ⟨by simpa using hx.1, hx.2, ?_⟩
    have := up_map w l (x + 1) h2 (fun y hy => ⟨h1 y hy, (hb y (by simp [hy])).2⟩)
    simpa using this
theorem bitsOf_up (s w : Nat) (hs : s < 2 ^ w) (hw : w ≤ 16) : Up (w : Int) 0 (bitsOf s) := by
  have := up_map (w : Int) ((List.range 16).filter fun i => s.testBit i) 0 (List.pairwise_lt_range.filter _) ?_
  · exact this
  · intro x hx
    simp only [List.mem_filter, List.mem_range] at hx
    refine ⟨Nat.zero_le _, ?_⟩
    have hx2 := Nat.ge_two_pow_of_testBit hx.2
    have : 2 ^ x < 2 ^ w := by omega
    have := (Nat.pow_lt_pow_iff_right (by decide : 1 < 2)).1 this
    omega
theorem testBit_fold : ∀ (l : List Int) (n i : Nat), (∀ x ∈ l, 0 ≤ x) → ((l.foldl (fun n x => n ||| 2 ^ x.toNat) n).testBit i = true ↔ n.testBit i = true ∨ (i : Int) ∈ l)
  | [], n, i, _ => by simp
  | x :: l, n, i, h => by
    rw [List.foldl_cons, testBit_fold l _ i (fun y hy => h y (by simp [hy])), Nat.testBit_or, Nat.testBit_two_pow]
    have := h x (by simp)
    simp only [Bool.or_eq_true, decide_eq_true_eq, List.mem_cons]
    constructor
    · rintro ((h | h) | h)
      · exact .inl h
      · exact .inr (.inl (by omega))
      · exact .inr (.inr h)
    · rintro (h | h | h)
      · exact .inl (.inl h)
      · exact .inl (.inr (by omega))
      · exact .inr h
theorem testBit_setN (l : List Int) (h : ∀ x ∈ l, 0 ≤ x) (i : Nat) : (setN l).testBit i = true ↔ (i : Int) ∈ l := by
  unfold setN
  rw [testBit_fold l 0 i h]
  simp
theorem bitsOf_setN (l : List Int) (h : Up 16 0 l) : bitsOf (setN l) = l := by
  have hl : ∀ x ∈ l, 0 ≤ x := fun x hx => (Up.lt h x hx).1
  have hb : setN l < 2 ^ 16 := by
    apply Nat.lt_pow_two_of_testBit
    intro i hi
    cases hq : (setN l).testBit i with
    | false => rfl
    | true => have := (Up.lt h _ ((testBit_setN l hl i).1 hq)).2; omega
  refine Up.ext (bitsOf_up _ 16 hb (by omega)) h ?_
  intro x
  rw [mem_bitsOf]
  constructor
  · rintro ⟨h0, h1, h2⟩
    have := (testBit_setN l hl _).1 h2
    rwa [Int.toNat_of_nonneg h0] at this
  · intro hx
    have hx' := Up.lt h x hx
    exact ⟨hx'.1, hx'.2, (testBit_setN l hl _).2 (by rwa [Int.toNat_of_nonneg hx'.1])⟩
theorem setN_bitsOf (s : Nat) (hs : s < 2 ^ 16) : setN (bitsOf s) = s := by
  apply Nat.eq_of_testBit_eq
  intro i
  have hl : ∀ x ∈ bitsOf s, 0 ≤ x := fun x hx => ((mem_bitsOf s x).1 hx).1
  have e := testBit_setN (bitsOf s) hl i
  rw [mem_bitsOf] at e
  cases hq : s.testBit i with
  | true =>
    refine e.2 ⟨by omega, ?_, by simpa using hq⟩
    have hx2 := Nat.ge_two_pow_of_testBit hq
    have : 2 ^ i < 2 ^ 16 := by omega
    have := (Nat.pow_lt_pow_iff_right (by decide : 1 < 2)).1 this
    omega
  | false =>
    cases hr : (setN (bitsOf s)).testBit i with
    | false => rfl
    | true => have := (e.1 hr).2.2; rw [show ((i : Nat) : Int).toNat = i from rfl, hq] at this; cases this
theorem Up.mono {w v : Int} (hv : w ≤ v) : ∀ {f : Int} {t : List Int}, Up w f t → Up v f t
  | _, [], _ => trivial
  | _, _ :: _, h => ⟨h.1, by have := h.2.1; omega, Up.mono hv h.2.2⟩
theorem setN_inj {s t : List Int} (hs : Up 16 0 s) (ht : Up 16 0 t) (e : setN s = setN t) : s = t := by rw [← bitsOf_setN s hs, ← bitsOf_setN t ht, e]
theorem setN_up_lt (w : Nat) (hw : w ≤ 16) {l : List Int} (h : Up w 0 l) : setN l < 2 ^ w := by
  have hl : ∀ x ∈ l, 0 ≤ x := fun x hx => (Up.lt h x hx).1
  apply Nat.lt_pow_two_of_testBit
  intro i hi
  cases hq : (setN l).testBit i with
  | false => rfl
  | true => have := (Up.lt h _ ((testBit_setN l hl i).1 hq)).2; omega
/-- The sets of at most so many wires, as numbers. -/
def sets (w m : Nat) : List Nat := (List.range (2 ^ w)).filter fun s => decide ((bitsOf s).length ≤ m)
theorem mem_sets (w m s : Nat) (hw : w ≤ 16) : s ∈ sets w m ↔ s ∈ (alls w m).map setN := by
  unfold sets
  simp only [List.mem_filter, List.mem_range, List.mem_map, mem_alls, decide_eq_true_eq]
  constructor
  · rintro ⟨h1, h2⟩
    exact ⟨bitsOf s, ⟨h2, bitsOf_up s w h1 hw⟩, setN_bitsOf s (Nat.lt_of_lt_of_le h1 (Nat.pow_le_pow_right (by decide) hw))⟩
  · rintro ⟨t, ⟨h1, h2⟩, rfl⟩
    exact ⟨setN_up_lt w hw h2, by rw [bitsOf_setN t (h2.mono (by omega))]; exact h1⟩
theorem sets_nodup (w m : Nat) : (sets w m).Nodup := List.Pairwise.filter _ List.nodup_range
theorem alls_sets_nodup (w m : Nat) (hw : w ≤ 16) : ((alls w m).map setN).Nodup := by
  unfold List.Nodup
  rw [List.pairwise_map]
  refine List.Pairwise.imp_of_mem ?_ (alls_nodup w m)
  intro s t hs ht h e
  have h1 := ((mem_alls w m s).1 hs).2
  have h2 := ((mem_alls w m t).1 ht).2
  exact h (setN_inj (h1.mono (by omega)) (h2.mono (by omega)) e)
theorem sets_perm (w m : Nat) (hw : w ≤ 16) : (sets w m).Perm ((alls w m).map setN) :=
  (List.perm_ext_iff_of_nodup (sets_nodup w m) (alls_sets_nodup w m hw)).2 fun s => mem_sets w m s hw
theorem up_of (w : Int) : ∀ (l : List Int) (f : Int), Aux2.p_up l = true → (∀ x, l.head? = some x → f ≤ x) → (∀ x ∈ l, x < w) → Up w f l
  | [], _, _, _, _ => trivial
  | [x], f, _, hf, hw => ⟨hf x rfl, hw x (by simp), trivial⟩
  | x :: y :: t, f, h, hf, hw => by
    have h' : (decide (x < y) && Aux2.p_up (y :: t)) = true := h
    rw [Bool.and_eq_true, decide_eq_true_eq] at h'
    refine ⟨hf x rfl, hw x (by simp), up_of w (y :: t) (x + 1) h'.2 ?_ (fun z hz => hw z (by simp at hz ⊢; exact .inr hz))⟩
    intro z hz
    simp at hz
    omega
theorem rising_up (a : Int) (l : List Int) (h1 : 1 ≤ a) (h2 : a ≤ 10) (h : impl_AreTests.p_rising a l = true) : Up a 0 l := by
  unfold impl_AreTests.p_rising at h
  rw [Bool.and_eq_true, List.all_eq_true] at h
  have hx : ∀ x ∈ l, 0 ≤ x ∧ x < a := fun x hx => by
    have := h.2 x hx
    rw [Bool.and_eq_true, decide_eq_true_eq, decide_eq_true_eq, w64 (by omega) (by omega)] at this
    omega
  refine up_of a l 0 h.1 (fun x hh => (hx x (List.mem_of_mem_head? hh)).1) (fun x hh => (hx x hh).2)
theorem up_len {w : Int} : ∀ {f : Int} {t : List Int}, Up w f t → (t.length : Int) ≤ if f ≤ w then w - f else 0
  | f, [], _ => by split <;> simp; omega
  | f, x :: t, h => by
    have := up_len h.2.2
    have h1 := h.1
    have h2 := h.2.1
    rw [if_pos (by omega)] at this
    rw [if_pos (by omega)]
    simp
    omega
theorem rising_len (a : Int) (l : List Int) (h1 : 1 ≤ a) (h2 : a ≤ 10) (h : impl_AreTests.p_rising a l = true) : l.length ≤ 10 := by
  have := up_len (rising_up a l h1 h2 h)
  rw [if_pos (by omega)] at this
  omega
theorem drop_all {α : Type} (p : α → Bool) : ∀ m : List α, (∀ x ∈ m.dropWhile p, p x = true) → ∀ x ∈ m, p x = true
  | [], _ => by simp
  | y :: t, h => by
    cases hy : p y with
    | true =>
      rw [List.dropWhile_cons_of_pos hy] at h
      intro x hx
      rcases List.mem_cons.1 hx with rfl | hx
      · exact hy
      · exact drop_all p t h x hx
    | false =>
      rw [List.dropWhile_cons_of_neg (by simp [hy])] at h
      have := h y (by simp)
      rw [hy] at this
      cases this
theorem drop_nil {α : Type} (p : α → Bool) : ∀ m : List α, (∀ x ∈ m, p x = true) → m.dropWhile p = []
  | [], _ => rfl
  | y :: t, h => by
    rw [List.dropWhile_cons_of_pos (h y (by simp))]
    exact drop_nil p t (fun x hx => h x (by simp [hx]))
theorem trim_nil (l cs : List UInt8) : Lib.trimS l cs = [] ↔ ∀ x ∈ l, cs.contains x = true := by
  unfold Lib.trimS Lib.trimLeftS Lib.trimRightS
  constructor
  · intro h
    have h1 := drop_all (fun b => cs.contains b) ((l.reverse.dropWhile fun b => cs.contains b).reverse) (by rw [h]; simp)
    have h2 := drop_all (fun b => cs.contains b) l.reverse (fun x hx => h1 x (by simpa using hx))
    intro x hx
    exact h2 x (by simpa using hx)
  · intro h
    rw [drop_nil (fun b => cs.contains b) l.reverse (fun x hx => h x (by simpa using hx))]
    rfl
theorem trim_01 (s : ByteArray) : (Lib.trimS s.data.toList [48, 49] = []) ↔ spec_wiAsked.p_ok s = true := by
  rw [trim_nil]
  unfold spec_wiAsked.p_ok bytesOf
  rw [List.all_eq_true]
  simp only [List.mem_map, forall_exists_index, and_imp, forall_apply_eq_imp_iff₂, Bool.or_eq_true, decide_eq_true_eq]
  constructor
  · intro h x hx
    have := h x hx
    simp only [List.contains_cons, List.contains_nil, Bool.or_false, Bool.or_eq_true, beq_iff_eq] at this
    rcases this with rfl | rfl
    · exact .inl rfl
    · exact .inr rfl
  · intro h x hx
    simp only [List.contains_cons, List.contains_nil, Bool.or_false, Bool.or_eq_true, beq_iff_eq]
    rcases h x hx with e | e
    · exact .inl (UInt8.toNat_inj.1 (by show x.toNat = 48; omega))
    · exact .inr (UInt8.toNat_inj.1 (by show x.toNat = 49; omega))
theorem l1In_f (a lo hi : Int) : spec_l1In.f a lo hi = some (decide (lo ≤ a) && decide (a ≤ hi)) := by
  unfold spec_l1In.f
  by_cases h : a ≥ lo
  · rw [if_pos h]; simp [show lo ≤ a from h]
  · rw [if_neg h]; simp [show ¬ lo ≤ a from h]
theorem within_f (a lo hi : Int) : impl_within.f a lo hi = some (decide (lo ≤ a) && decide (a ≤ hi)) := by
  unfold impl_within.f
  by_cases h : lo ≤ a
  · rw [if_pos h]; simp [h]
  · rw [if_neg h]; simp [h]
/-- Are these tests, results and a number? -/
def askd (a : Int) (l : List (List Int)) (s : ByteArray) (b : Int) : Bool := tst a l && (decide (s.size = l.length) && ((decide (0 ≤ b) && decide (b ≤ a)) && spec_wiAsked.p_ok s))
theorem wiAsked_f (a : Int) (l : List (List Int)) (s : ByteArray) (b : Int) (hn : l.length ≤ 1048576) (ht : ∀ x ∈ l, x.length ≤ 1048576) {k : Nat} (hk : 3000000 < k) : spec_wiAsked.f k a l s b = some (askd a l s b) := by
  unfold spec_wiAsked.f askd
  rw [wiGood_f a l hn ht hk, Option.bind_some]
  cases tst a l with
  | false => rfl
  | true =>
    rw [if_pos rfl]
    by_cases h : s.size = l.length
    · rw [if_pos h, l1In_f, Option.bind_some]
      cases (decide (0 ≤ b) && decide (b ≤ a)) with
      | true => rw [if_pos rfl]; simp [h]
      | false => rw [if_neg (by decide)]; simp
    · rw [if_neg h]; simp [h]
theorem areResults_f (a : Int) (l : List (List Int)) (s : ByteArray) (b : Int) (hs : s.size ≤ 1048576) (ht : ∀ x ∈ l, x.length ≤ 1048576) : impl_areResults.f a l s b = some (askd a l s b) := by
  unfold impl_areResults.f askd strings_Trim.f
  rw [areTests_f a l ht, Option.bind_some]
  cases tst a l with
  | false => rfl
  | true =>
    rw [if_pos rfl]
    by_cases h : s.size = l.length
    · rw [if_pos (by omega), if_pos ⟨by omega, by decide, by decide⟩, Option.bind_some, within_f]
      have e : ((⟨(Lib.trimS s.data.toList (⟨#[48, 49]⟩ : ByteArray).data.toList).toArray⟩ : ByteArray).toList = ([] : List UInt8)) ↔ spec_wiAsked.p_ok s = true := by
        rw [← trim_01]
        show (ByteArray.mk _).toList = [] ↔ Lib.trimS s.data.toList [48, 49] = []
        rw [ByteArray.toList_eq]
      by_cases hp : spec_wiAsked.p_ok s = true
      · rw [if_pos (e.2 hp)]
        simp only [Option.bind_some, Bool.true_and, h, decide_true, hp, Bool.and_true]
      · rw [if_neg (fun q => hp (e.1 q))]
        simp [Bool.eq_false_iff.mpr hp]
    · rw [if_neg (by omega)]; simp [h]
theorem has_f (x : Int) (l : List Int) (hn : l.length ≤ 1000000) {k : Nat} (hk : l.length < k) : spec_l1Has.f k l x = some (decide (x ∈ l)) := by
  have go : ∀ (d i k : Nat), i + d = l.length → d < k → spec_l1Has.l0 k x l (l.length : Int) (i : Int) = some (decide (x ∈ l.drop i)) := by
    intro d
    induction d with
    | zero =>
      intro i k hi hk
      obtain ⟨k, rfl⟩ : ∃ q, k = q + 1 := ⟨k - 1, by omega⟩
      simp only [spec_l1Has.l0]
      rw [if_neg (by omega), List.drop_eq_nil_of_le (by omega)]
      simp
    | succ d ih =>
      intro i k hi hk
      obtain ⟨k, rfl⟩ : ∃ q, k = q + 1 := ⟨k - 1, by omega⟩
      have ha : i < l.length := by omega
      simp only [spec_l1Has.l0]
      rw [if_pos (by omega), if_pos (by omega), if_pos (by omega), rd_lt ha, up64 ha (by omega), ih (i + 1) k (by omega) (by omega), List.drop_eq_getElem_cons ha]
      by_cases e : l[i] = x
      · rw [if_pos e, decide_eq_true (List.mem_cons.2 (.inl e.symm))]
      · rw [if_neg e]
        congr 1
        apply decide_eq_decide.2
        rw [List.mem_cons]
        exact ⟨.inr, fun h => h.resolve_left (fun h => e h.symm)⟩
  have h := go l.length 0 k (by omega) hk
  rw [List.drop_zero] at h
  exact h
theorem susp_l1 (w : Int) (l : List (List Int)) (s : ByteArray) (hn : l.length ≤ 1000) (hs : s.size = l.length) (ht : ∀ x ∈ l, x.length ≤ 1000) (out : List Int) (ho : out.length ≤ 1000) (i : Nat) : ∀ (d j q : Nat) (flag : Bool), j + d = l.length → 1000 < q → spec_SuspectsOf.l1 (q + d + 1) w l s out (i : Int) flag l (l.length : Int) (j : Int) = spec_SuspectsOf.l0 q w l s (cond (flag || !impl_SuspectsOf.p_from l s i d j) out (out ++ [(i : Int)])) (wrap64 ((i : Int) + 1))
  | 0, j, q, flag, hj, hq => by
    simp only [spec_SuspectsOf.l1, impl_SuspectsOf.p_from]
    rw [if_neg (by omega)]
    cases flag with
    | true => simp
    | false => rw [if_neg (by decide), if_pos (by omega)]; rfl
  | d + 1, j, q, flag, hj, hq => by
    have ha : j < l.length := by omega
    have e : rd_L1 l (j : Int) = l[j] := by unfold rd_L1; simp [List.getD_eq_getElem?_getD, ha]
    have e2 : l.getD j [] = l[j] := by simp [List.getD_eq_getElem?_getD, ha]
    have hx := ht _ (List.getElem_mem ha)
    have up := up64 (i := j) ha (by omega)
    obtain ⟨K, hK⟩ : ∃ K, K = q + (d + 1) := ⟨_, rfl⟩
    have hK2 : K = q + d + 1 := by omega
    rw [← hK]
    have ep : impl_SuspectsOf.p_from l s i (d + 1) j = if rd (bytesOf s) (j : Int) = 48 ∧ (i : Int) ∈ l.getD j [] then false else impl_SuspectsOf.p_from l s i d (j + 1) := rfl
    simp only [spec_SuspectsOf.l1]
    rw [if_pos (by omega), if_pos (by omega), if_pos (by omega), up, e, ep, e2, ← rd_bytesOf]
    cases flag with
    | true =>
      rw [if_pos rfl, hK2, susp_l1 w l s hn hs ht out ho i d (j + 1) q true (by omega) hq]
      simp
    | false =>
      rw [if_neg (by decide), if_pos (by omega)]
      by_cases h48 : rd (bytesOf s) (j : Int) = 48
      · rw [if_pos h48, has_f (i : Int) l[j] (by omega) (by omega), Option.bind_some, hK2, susp_l1 w l s hn hs ht out ho i d (j + 1) q _ (by omega) hq]
        by_cases hm : (i : Int) ∈ l[j]
        · simp [hm, h48]
        · simp [hm, h48]
      · rw [if_neg h48, hK2, susp_l1 w l s hn hs ht out ho i d (j + 1) q false (by omega) hq]
        simp [h48]
theorem idx_succ (p : Nat → Bool) (n : Nat) : impl_SuspectsOf.p_idx p (n + 1) = if p n = true then impl_SuspectsOf.p_idx p n ++ [(n : Int)] else impl_SuspectsOf.p_idx p n := by
  unfold impl_SuspectsOf.p_idx
  rw [List.range_succ, List.filter_append, List.map_append]
  cases h : p n <;> simp [List.filter_cons, h]
theorem idx_le (p : Nat → Bool) (n : Nat) : (impl_SuspectsOf.p_idx p n).length ≤ n := by
  unfold impl_SuspectsOf.p_idx
  rw [List.length_map]
  exact Nat.le_trans (List.length_filter_le _ _) (by simp)
theorem susp_l0 (w : Nat) (hw : w ≤ 10) (l : List (List Int)) (s : ByteArray) (hn : l.length ≤ 1000) (hs : s.size = l.length) (ht : ∀ x ∈ l, x.length ≤ 1000) (B : Nat) (hB : 2005 ≤ B) : ∀ (d i k : Nat), i + d = w → d * B + B ≤ k → spec_SuspectsOf.l0 k (w : Int) l s (impl_SuspectsOf.p_idx (impl_SuspectsOf.p_free l s) i) (i : Int) = some (impl_SuspectsOf.p_idx (impl_SuspectsOf.p_free l s) w, true)
  | 0, i, k, hi, hk => by
    obtain ⟨k, rfl⟩ : ∃ q, k = q + 1 := ⟨k - 1, by omega⟩
    simp only [spec_SuspectsOf.l0]
    rw [if_neg (by omega), show i = w by omega]
  | d + 1, i, k, hi, hk => by
    rw [Nat.succ_mul] at hk
    obtain ⟨q, hq⟩ : ∃ q, k = (q + l.length + 1) + 1 := ⟨k - l.length - 2, by omega⟩
    obtain ⟨K, rfl⟩ : ∃ K, k = K + 1 := ⟨k - 1, by omega⟩
    have hK : K = q + l.length + 1 := by omega
    have hl := idx_le (impl_SuspectsOf.p_free l s) i
    simp only [spec_SuspectsOf.l0]
    rw [if_pos (by omega), hK, show (0 : Int) = ((0 : Nat) : Int) from rfl, susp_l1 (w : Int) l s hn hs ht _ (by omega) i l.length 0 q false (by omega) (by omega), show wrap64 ((i : Int) + 1) = ((i + 1 : Nat) : Int) by rw [w64 (by omega) (by omega)]; omega]
    have e : (cond (false || !impl_SuspectsOf.p_from l s i l.length 0) (impl_SuspectsOf.p_idx (impl_SuspectsOf.p_free l s) i) (impl_SuspectsOf.p_idx (impl_SuspectsOf.p_free l s) i ++ [(i : Int)])) = impl_SuspectsOf.p_idx (impl_SuspectsOf.p_free l s) (i + 1) := by
      rw [idx_succ]
      show _ = if impl_SuspectsOf.p_from l s i l.length 0 = true then _ else _
      cases impl_SuspectsOf.p_from l s i l.length 0 <;> simp
    rw [e]
    exact susp_l0 w hw l s hn hs ht B hB d (i + 1) q (by omega) (by omega)
theorem FnExactSuspectsOf : ∀ (a0 : Int) (l1 : List (List Int)) (a2 : ByteArray), (Lit.int .i64 a0).wf = true → l1.length ≤ maxLen → (∀ x ∈ l1, (fun l => l.length ≤ maxLen ∧ ∀ x ∈ l, (fun n => (Lit.int .i64 n).wf = true) x) x) → a2.size ≤ 140737488351232 → ∃ k, laws_FnExactSuspectsOf.f k a0 l1 a2 = some true := by
  intro a l s _ _ _ _
  refine ⟨4000000 + 1, ?_⟩
  unfold laws_FnExactSuspectsOf.f
  by_cases z0 : 1048576 < s.size
  · rw [if_pos z0]
  rw [if_neg z0]
  by_cases z1 : 1048576 < l.length + Aux.tot l
  · rw [if_pos z1]
  rw [if_neg z1]
  have hl : ∀ x ∈ l, x.length ≤ 1048576 := fun x hx => by have := Aux.row_le_tot l x hx; omega
  unfold spec_SuspectsOf.f impl_SuspectsOf.f
  rw [wiAsked_f a l s 0 (by omega) hl (by omega), areResults_f a l s 0 (by omega) hl, Option.bind_some, Option.bind_some]
  cases hq : askd a l s 0 with
  | false =>
    rw [if_neg (by decide), if_neg (by decide)]
    simp
  | true =>
    rw [if_pos rfl, if_pos rfl]
    unfold askd at hq
    simp only [Bool.and_eq_true, decide_eq_true_eq] at hq
    obtain ⟨h1, h2, h3, h4⟩ := hq
    obtain ⟨t1, t2, t3, t4⟩ := tst_cases h1
    have hlen : ∀ x ∈ l, x.length ≤ 1000 := fun c hc => by
      have := rising_len a c t1 t2 (t4 c hc).2
      omega
    obtain ⟨w, rfl⟩ : ∃ w : Nat, a = w := ⟨a.toNat, by omega⟩
    have h := susp_l0 w (by omega) l s (by omega) h2 hlen 2005 (Nat.le_refl _) w 0 (4000000 + 1) (by omega) (by omega)
    have e0 : impl_SuspectsOf.p_idx (impl_SuspectsOf.p_free l s) 0 = [] := rfl
    rw [e0, show ((0 : Nat) : Int) = 0 from rfl] at h
    rw [h, if_pos ⟨by omega, by omega, by omega, h2, hlen⟩, Int.toNat_natCast]
    have := idx_le (impl_SuspectsOf.p_free l s) w
    simp only [Option.bind_some]
    rw [if_pos ⟨trivial, by omega⟩]

end Go.Proofs.YtbghdbpaihkcjaaDoor.Pure
