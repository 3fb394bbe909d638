/- For every number, list of lists and list the program's ResultsOf and the reference's agree; no conditions. -/
import Derived.Test.YthkoignldhocgabPFnExactResultsOfx4
import Derived.Laws.BitsLemmas
import Derived.Laws.BitsAllLaws
set_option linter.unusedSimpArgs false
set_option linter.unusedVariables false
namespace Go.Proofs.Ythkoignldhocgab.Pure
open Go.RowKit Go.Proofs.Ythkoignldhocgab.PFnExactResultsOf Go.Proofs.YthkoignldhocgabW.PrintWords Go.Proofs.YthkoignldhocgabW.PrintLast Go.Proofs.YthkoignldhocgabW.PrintMore

theorem w64 {x : Int} (h0 : -9223372036854775808 ≤ x) (h1 : x ≤ 9223372036854775807) : wrap64 x = x := by unfold wrap64; omega
theorem up64 {i n : Nat} (h : i < n) (hn : n ≤ 4611686018427387904) : wrap64 ((i : Int) + 1) = ((i + 1 : Nat) : Int) := by rw [w64 (by omega) (by omega)]; omega
theorem rd_lt {xs : List Int} {i : Nat} (h : i < xs.length) : rd xs (i : Int) = xs[i] := by unfold rd; simp [List.getD_eq_getElem?_getD, h]
theorem toIntS_l0 (a : List Int) (hn : a.length ≤ 4611686018427387904) : ∀ (d i k : Nat), i + d = a.length → d < k → laws_toIntS.l0 k a (a.take i ++ List.replicate d 0) (i : Int) = some a
  | 0, i, k, hi, hk => by
    obtain ⟨k, rfl⟩ : ∃ q, k = q + 1 := ⟨k - 1, by omega⟩
    simp only [laws_toIntS.l0]
    rw [if_neg (by omega), List.take_of_length_le (by omega)]
    simp
  | d + 1, i, k, hi, hk => by
    obtain ⟨k, rfl⟩ : ∃ q, k = q + 1 := ⟨k - 1, by omega⟩
    have ih := toIntS_l0 a hn d (i + 1) k (by omega) (by omega)
    have ha : i < a.length := by omega
    simp only [laws_toIntS.l0]
    rw [if_pos (by omega), if_pos (by omega), if_pos (by simp; omega), up64 ha hn, rd_lt ha]
    have he : (a.take i ++ List.replicate (d + 1) (0 : Int)).set ((i : Nat) : Int).toNat a[i] = a.take (i + 1) ++ List.replicate d 0 := by
      rw [List.set_append_right _ _ (by simp; omega), List.replicate_succ]
      have e : ((i : Nat) : Int).toNat - (a.take i).length = 0 := by simp; omega
      rw [e, List.set_cons_zero, List.take_succ_eq_append_getElem ha]
      simp only [List.append_assoc, List.singleton_append]
    rw [he]
    exact ih
theorem toIntS_f (a : List Int) (hn : a.length ≤ 1048576) {k : Nat} (hk : a.length < k) : laws_toIntS.f k a = some a := by
  unfold laws_toIntS.f
  rw [if_pos (by omega), if_pos (by omega)]
  exact toIntS_l0 a (by omega) a.length 0 k (by omega) hk
theorem eqIntS_l0 (a b : List Int) (hl : a.length = b.length) (hn : a.length ≤ 4611686018427387904) : ∀ (d i k : Nat), i + d = a.length → d < k → laws_eqIntS.l0 k a b (i : Int) = some (decide (a.drop i = b.drop i))
  | 0, i, k, hi, hk => by
    obtain ⟨k, rfl⟩ : ∃ q, k = q + 1 := ⟨k - 1, by omega⟩
    simp only [laws_eqIntS.l0]
    rw [if_neg (by omega), List.drop_eq_nil_of_le (by omega), List.drop_eq_nil_of_le (by omega)]
    simp
  | d + 1, i, k, hi, hk => by
    obtain ⟨k, rfl⟩ : ∃ q, k = q + 1 := ⟨k - 1, by omega⟩
    have ih := eqIntS_l0 a b hl hn d (i + 1) k (by omega) (by omega)
    have ha : i < a.length := by omega
    have hb : i < b.length := by omega
    simp only [laws_eqIntS.l0]
    rw [if_pos (by omega), if_pos (by omega), if_pos (by omega), up64 ha hn, ih, rd_lt ha, rd_lt hb, List.drop_eq_getElem_cons ha, List.drop_eq_getElem_cons hb]
    by_cases e : a[i] = b[i]
    · rw [if_pos e, e]; simp only [List.cons.injEq, true_and]
    · rw [if_neg e]; simp only [List.cons.injEq, e, false_and, decide_false]
theorem eqIntS_f (a b : List Int) (hn : a.length ≤ 4611686018427387904) {k : Nat} (hk : a.length < k) : laws_eqIntS.f k a b = some (decide (a = b)) := by
  unfold laws_eqIntS.f
  by_cases h : a.length = b.length
  · rw [if_pos (by omega)]
    exact eqIntS_l0 a b h hn a.length 0 k (by omega) hk
  · rw [if_neg (by omega), decide_eq_false (fun e => h (by rw [e]))]
/-- The length of all rows together. -/
def tot (l : List (List Int)) : Nat := (l.map List.length).sum
theorem tot_cons (x : List Int) (l : List (List Int)) : tot (x :: l) = x.length + tot l := by simp [tot]
theorem tot_drop (l : List (List Int)) (i : Nat) (h : i < l.length) : tot (l.drop i) = (l[i]).length + tot (l.drop (i + 1)) := by
  rw [List.drop_eq_getElem_cons h, tot_cons]
theorem szIntSS_l0 (l : List (List Int)) (hn : l.length ≤ 4000000) : ∀ (d i k : Nat) (left : Int), i + d = l.length → 0 ≤ left → left ≤ 1048576 → (∀ x ∈ l, x.length ≤ 9223372036854775807) → d < k → laws_szIntSS.l0 k l left (i : Int) = some (if (tot (l.drop i) : Int) ≤ left then left - (tot (l.drop i) : Int) else -1)
  | 0, i, k, left, hi, h0, h1, hm, hk => by
    obtain ⟨k, rfl⟩ : ∃ q, k = q + 1 := ⟨k - 1, by omega⟩
    simp only [laws_szIntSS.l0]
    rw [if_neg (by omega), List.drop_eq_nil_of_le (by omega)]
    simp [tot, h0]
  | d + 1, i, k, left, hi, h0, h1, hm, hk => by
    obtain ⟨k, rfl⟩ : ∃ q, k = q + 1 := ⟨k - 1, by omega⟩
    have ha : i < l.length := by omega
    have e : rd_L1 l (i : Int) = l[i] := by unfold rd_L1; simp [List.getD_eq_getElem?_getD, ha]
    have hlen := hm _ (List.getElem_mem ha)
    have ht := tot_drop l i ha
    have w : wrap64 (left - (l[i].length : Int)) = left - (l[i].length : Int) := w64 (by omega) (by omega)
    simp only [laws_szIntSS.l0]
    rw [if_pos (by omega), if_pos (by omega), e]
    unfold laws_szIntS.f
    rw [w]
    by_cases hc : left - (l[i].length : Int) < 0
    · rw [if_pos hc]
      simp only [Option.bind_some]
      rw [if_pos (by omega), if_neg (by omega)]
    · rw [if_neg hc]
      simp only [Option.bind_some]
      rw [if_neg hc, up64 ha (by omega), szIntSS_l0 l hn d (i + 1) k _ (by omega) (by omega) (by omega) hm (by omega), ht]
      by_cases h2 : ((tot (l.drop (i + 1)) : Nat) : Int) ≤ left - (l[i].length : Int)
      · rw [if_pos h2, if_pos (by omega)]; congr 1; omega
      · rw [if_neg h2, if_neg (by omega)]
theorem szIntSS_f (l : List (List Int)) (left : Int) (h0 : 0 ≤ left) (h1 : left ≤ 1048576) (hl : l.length ≤ 9223372036854775807) (hm : ∀ x ∈ l, x.length ≤ 9223372036854775807) {k : Nat} (hk : 2000000 < k) : laws_szIntSS.f k l left = some (if (l.length : Int) + (tot l : Int) ≤ left then left - (l.length : Int) - (tot l : Int) else -1) := by
  have w : wrap64 (left - (l.length : Int)) = left - (l.length : Int) := w64 (by omega) (by omega)
  unfold laws_szIntSS.f
  rw [w]
  by_cases hc : left - (l.length : Int) < 0
  · rw [if_pos hc, if_neg (by omega)]
  · rw [if_neg hc]
    have h := szIntSS_l0 l (by omega) l.length 0 k (left - (l.length : Int)) (by omega) (by omega) (by omega) hm (by omega)
    rw [List.drop_zero] at h
    rw [show (0 : Int) = ((0 : Nat) : Int) from rfl, h]
    by_cases h2 : ((tot l : Nat) : Int) ≤ left - (l.length : Int)
    · rw [if_pos h2, if_pos (by omega)]
    · rw [if_neg h2, if_neg (by omega)]
theorem row_le_tot (l : List (List Int)) (x : List Int) (h : x ∈ l) : x.length ≤ tot l := by
  induction l with
  | nil => cases h
  | cons y l ih =>
    rw [tot_cons]
    rcases List.mem_cons.1 h with rfl | h
    · omega
    · have := ih h; omega
theorem toIntSS_l0 (l : List (List Int)) (hn : l.length ≤ 1048576) (ht : ∀ x ∈ l, x.length ≤ 1048576) : ∀ (d i k : Nat), i + d = l.length → d + 1048577 < k → laws_toIntSS.l0 k l (l.take i ++ List.replicate d []) (i : Int) = some l
  | 0, i, k, hi, hk => by
    obtain ⟨k, rfl⟩ : ∃ q, k = q + 1 := ⟨k - 1, by omega⟩
    simp only [laws_toIntSS.l0]
    rw [if_neg (by omega), List.take_of_length_le (by omega)]
    simp
  | d + 1, i, k, hi, hk => by
    obtain ⟨k, rfl⟩ : ∃ q, k = q + 1 := ⟨k - 1, by omega⟩
    have ih := toIntSS_l0 l hn ht d (i + 1) k (by omega) (by omega)
    have ha : i < l.length := by omega
    have e : rd_L1 l (i : Int) = l[i] := by unfold rd_L1; simp [List.getD_eq_getElem?_getD, ha]
    have hlen := ht _ (List.getElem_mem ha)
    simp only [laws_toIntSS.l0]
    rw [if_pos (by omega), if_pos (by omega), e, toIntS_f _ hlen (by omega)]
    simp only [Option.bind_some]
    rw [if_pos (by simp; omega), up64 ha (by omega)]
    have he : (l.take i ++ List.replicate (d + 1) ([] : List Int)).set ((i : Nat) : Int).toNat l[i] = l.take (i + 1) ++ List.replicate d [] := by
      rw [List.set_append_right _ _ (by simp; omega), List.replicate_succ]
      have e : ((i : Nat) : Int).toNat - (l.take i).length = 0 := by simp; omega
      rw [e, List.set_cons_zero, List.take_succ_eq_append_getElem ha]
      simp only [List.append_assoc, List.singleton_append]
    rw [he]
    exact ih
theorem toIntSS_f (l : List (List Int)) (hn : l.length ≤ 1048576) (ht : ∀ x ∈ l, x.length ≤ 1048576) {k : Nat} (hk : 3000000 < k) : laws_toIntSS.f k l = some l := by
  unfold laws_toIntSS.f
  rw [if_pos (by omega), if_pos (by omega)]
  exact toIntSS_l0 l hn ht l.length 0 k (by omega) (by omega)
theorem eqIntSS_l0' (a : List (List Int)) (hn : a.length ≤ 1048576) (ht : ∀ x ∈ a, x.length ≤ 1048576) : ∀ (d i k : Nat), i + d = a.length → d + 1048577 < k → laws_eqIntSS.l0 k a a (i : Int) = some true
  | 0, i, k, hi, hk => by
    obtain ⟨k, rfl⟩ : ∃ q, k = q + 1 := ⟨k - 1, by omega⟩
    simp only [laws_eqIntSS.l0]
    rw [if_neg (by omega)]
  | d + 1, i, k, hi, hk => by
    obtain ⟨k, rfl⟩ : ∃ q, k = q + 1 := ⟨k - 1, by omega⟩
    have ih := eqIntSS_l0' a hn ht d (i + 1) k (by omega) (by omega)
    have ha : i < a.length := by omega
    have h1 := ht _ (List.getElem_mem ha)
    have e : rd_L1 a (i : Int) = a[i] := by unfold rd_L1; simp [List.getD_eq_getElem?_getD, ha]
    simp only [laws_eqIntSS.l0]
    rw [if_pos (by omega), if_pos (by omega), if_pos (by omega), e, eqIntS_f _ _ (by omega) (by omega), up64 ha (by omega)]
    simpa using ih
theorem eqIntSS_f (a : List (List Int)) (hn : a.length ≤ 1048576) (ht : ∀ x ∈ a, x.length ≤ 1048576) {k : Nat} (hk : 3000000 < k) : laws_eqIntSS.f k a a = some true := by
  unfold laws_eqIntSS.f
  rw [if_pos rfl]
  exact eqIntSS_l0' a hn ht a.length 0 _ (by omega) (by omega)
/-- Are these tests of so many wires? -/
def tst (a : Int) (l : List (List Int)) : Bool := impl_AreTests.p_all a l
theorem l1Rising_l0 (l : List Int) (lo hi : Int) (hn : l.length ≤ 4000000) : ∀ (d i k : Nat), i + d = l.length → d < k → spec_l1Rising.l0 k l lo hi l (l.length : Int) (i : Int) = some (Aux2.p_up (l.drop (i - 1)) && (l.drop i).all fun y => decide (lo ≤ y) && decide (y ≤ hi))
  | 0, i, k, hi', hk => by
    obtain ⟨k, rfl⟩ : ∃ q, k = q + 1 := ⟨k - 1, by omega⟩
    have e : Aux2.p_up (l.drop (i - 1)) = true := by
      have : (l.drop (i - 1)).length ≤ 1 := by rw [List.length_drop]; omega
      cases hq : l.drop (i - 1) with
      | nil => rfl
      | cons x t =>
        rw [hq] at this
        cases t with
        | nil => rfl
        | cons y t => simp at this
    simp only [spec_l1Rising.l0]
    rw [if_neg (by omega), e, List.drop_eq_nil_of_le (by omega)]
    rfl
  | d + 1, i, k, hi', hk => by
    obtain ⟨k, rfl⟩ : ∃ q, k = q + 1 := ⟨k - 1, by omega⟩
    have ha : i < l.length := by omega
    have ih := l1Rising_l0 l lo hi hn d (i + 1) k (by omega) (by omega)
    simp only [spec_l1Rising.l0]
    rw [if_pos (by omega), if_pos (by omega), if_pos (by omega), rd_lt ha, up64 ha (by omega)]
    unfold spec_l1In.f
    rw [show i + 1 - 1 = i by omega] at ih
    have hall : ((l.drop i).all fun y => decide (lo ≤ y) && decide (y ≤ hi)) = ((decide (lo ≤ l[i]) && decide (l[i] ≤ hi)) && (l.drop (i + 1)).all fun y => decide (lo ≤ y) && decide (y ≤ hi)) := by
      rw [List.drop_eq_getElem_cons ha, List.all_cons]
    rw [hall]
    clear hall
    by_cases h1 : lo ≤ l[i]
    · rw [if_pos (show l[i] ≥ lo from h1)]
      simp only [Option.bind_some]
      by_cases h2 : l[i] ≤ hi
      · rw [if_pos (by simpa using h2)]
        by_cases h0 : i = 0
        · subst h0
          rw [if_neg (by omega), ih]
          simp [h1, h2]
        · have hb : i - 1 < l.length := by omega
          have e1 : wrap64 ((i : Int) - 1) = ((i - 1 : Nat) : Int) := by rw [w64 (by omega) (by omega)]; omega
          have hup : Aux2.p_up (l.drop (i - 1)) = (decide (l[i - 1] < l[i]) && Aux2.p_up (l.drop i)) := by
            rw [List.drop_eq_getElem_cons hb, show i - 1 + 1 = i by omega, List.drop_eq_getElem_cons ha]
            rfl
          rw [if_pos (by omega), e1, if_pos (by omega), if_pos (by omega), rd_lt hb, ih, hup]
          by_cases e : l[i - 1] ≥ l[i]
          · rw [if_pos e]
            simp [show ¬ l[i - 1] < l[i] by omega]
          · rw [if_neg e]
            simp [show l[i - 1] < l[i] by omega, h1, h2]
      · rw [if_neg (by simpa using h2)]
        simp [h2]
    · rw [if_neg (show ¬ l[i] ≥ lo from h1)]
      simp [h1]
theorem l1Rising_f (a : Int) (l : List Int) (hn : l.length ≤ 4000000) {k : Nat} (hk : l.length < k) : spec_l1Rising.f k l 0 (wrap64 (a - 1)) = some (impl_AreTests.p_rising a l) := by
  unfold spec_l1Rising.f impl_AreTests.p_rising
  have := l1Rising_l0 l 0 (wrap64 (a - 1)) hn l.length 0 k (by omega) hk
  simpa using this
theorem wiGood_l0 (a : Int) (l : List (List Int)) (hn : l.length ≤ 1048576) (ht : ∀ x ∈ l, x.length ≤ 1048576) : ∀ (d i k : Nat), i + d = l.length → d + 1048577 < k → spec_wiGood.l0 k a l (l.length : Int) (i : Int) = some ((l.drop i).all fun c => !impl_AreTests.p_bad a c)
  | 0, i, k, hi, hk => by
    obtain ⟨k, rfl⟩ : ∃ q, k = q + 1 := ⟨k - 1, by omega⟩
    simp only [spec_wiGood.l0]
    rw [if_neg (by omega), List.drop_eq_nil_of_le (by omega)]
    rfl
  | d + 1, i, k, hi, hk => by
    obtain ⟨k, rfl⟩ : ∃ q, k = q + 1 := ⟨k - 1, by omega⟩
    have ha : i < l.length := by omega
    have ih := wiGood_l0 a l hn ht d (i + 1) k (by omega) (by omega)
    have e : rd_L1 l (i : Int) = l[i] := by unfold rd_L1; simp [List.getD_eq_getElem?_getD, ha]
    have hlen := ht _ (List.getElem_mem ha)
    simp only [spec_wiGood.l0]
    rw [if_pos (by omega), if_pos (by omega), if_pos (by omega), e, up64 ha (by omega), ih, l1Rising_f a _ (by omega) (by omega), List.drop_eq_getElem_cons ha, List.all_cons]
    unfold impl_AreTests.p_bad
    by_cases h0 : l[i].length = 0
    · rw [if_pos (by omega)]
      simp [h0]
    · rw [if_neg (by omega)]
      simp only [Option.bind_some]
      cases impl_AreTests.p_rising a l[i] with
      | true => rw [if_pos rfl]; simp [h0]
      | false => simp [h0]
theorem wiGood_f (a : Int) (l : List (List Int)) (hn : l.length ≤ 1048576) (ht : ∀ x ∈ l, x.length ≤ 1048576) {k : Nat} (hk : 3000000 < k) : spec_wiGood.f k a l = some (tst a l) := by
  obtain ⟨k, rfl⟩ : ∃ q, k = q + 1 := ⟨k - 1, by omega⟩
  have h := wiGood_l0 a l hn ht l.length 0 k (by omega) (by omega)
  rw [List.drop_zero, show ((0 : Nat) : Int) = 0 from rfl] at h
  unfold spec_wiGood.f spec_wiWires.f spec_l1In.f tst impl_AreTests.p_all
  by_cases h1 : 1 ≤ a
  · rw [if_pos (show a ≥ 1 from h1)]
    simp only [Option.bind_some]
    by_cases h2 : a ≤ 10
    · rw [if_pos (by simpa using h2)]
      simp only [spec_wiGood.j0]
      by_cases h3 : l.length ≤ 12
      · rw [if_neg (by simp; omega), h]
        simp [h1, h2, h3]
      · rw [if_pos (by simp; omega)]
        simp [h3]
    · rw [if_neg (by simpa using h2)]
      simp only [spec_wiGood.j0]
      simp [h2]
  · rw [if_neg (show ¬ a ≥ 1 from h1)]
    simp only [Option.bind_some, Bool.false_eq_true, if_false, spec_wiGood.j0]
    simp [h1]
theorem areTests_f (a : Int) (l : List (List Int)) (ht : ∀ x ∈ l, x.length ≤ 1048576) : impl_AreTests.f a l = some (tst a l) := by
  unfold impl_AreTests.f
  rw [if_pos ht]
  rfl
theorem wraps_i64' (n : Int) (h0 : 0 ≤ n) (h1 : n < 2 ^ 16) : IntKind.i64.wrap n = n := by
  rw [IntKind.wrap_i64]; simp at h1; omega
theorem wraps_u16' (n : Int) (h0 : 0 ≤ n) (h1 : n < 2 ^ 16) : IntKind.u16.wrap n = n := by
  rw [IntKind.wrap_u16]; simp at h1; omega
theorem or_i64 (a b : Nat) (ha : a < 65536) (hb : b < 65536) : Go.bits .or .i64 a b = ((a ||| b : Nat) : Int) := (bits_nat .i64 16 (by decide) wraps_i64' a b ha hb).2
theorem or_u16 (a b : Nat) (ha : a < 65536) (hb : b < 65536) : Go.bits .or .u16 a b = ((a ||| b : Nat) : Int) := (bits_nat .u16 16 (by decide) wraps_u16' a b ha hb).2
theorem and_i64 (a b : Nat) (ha : a < 65536) (hb : b < 65536) : Go.bits .and .i64 a b = ((a &&& b : Nat) : Int) := (bits_nat .i64 16 (by decide) wraps_i64' a b ha hb).1
theorem and_u16 (a b : Nat) (ha : a < 65536) (hb : b < 65536) : Go.bits .and .u16 a b = ((a &&& b : Nat) : Int) := (bits_nat .u16 16 (by decide) wraps_u16' a b ha hb).1
theorem pow_lt16 (y : Nat) (hy : y < 16) : (2 ^ y : Nat) < 65536 := Nat.pow_lt_pow_right (by decide) hy
theorem shl_i64 (y : Nat) (hy : y < 16) : shl .i64 1 (y : Int) = ((2 ^ y : Nat) : Int) := by
  unfold shl
  rw [show (y : Int).toNat = y from rfl, Nat.min_eq_left (by simp only [IntKind.bits]; omega), Int.one_mul, wraps_i64']
  · simp
  · exact Int.le_of_lt (Int.pow_pos (by decide))
  · exact_mod_cast Nat.pow_lt_pow_right (by decide) hy
theorem shl_u16 (y : Nat) (hy : y < 16) : shl .u16 1 (y : Int) = ((2 ^ y : Nat) : Int) := by
  unfold shl
  rw [show (y : Int).toNat = y from rfl, Nat.min_eq_left (by simp only [IntKind.bits]; omega), Int.one_mul, wraps_u16']
  · simp
  · exact Int.le_of_lt (Int.pow_pos (by decide))
  · exact_mod_cast Nat.pow_lt_pow_right (by decide) hy
/-- The set of these wires. -/
def setN (l : List Int) : Nat := l.foldl (fun n x => n ||| 2 ^ x.toNat) 0
theorem setN_go (l : List Int) (hl : ∀ x ∈ l, 0 ≤ x ∧ x ≤ 9) : ∀ n, n < 1024 → l.foldl (fun n x => n ||| 2 ^ x.toNat) n < 1024 := by
  induction l with
  | nil => intro n hn; exact hn
  | cons x l ih =>
    intro n hn
    refine ih (fun y hy => hl y (List.mem_cons_of_mem _ hy)) _ ?_
    have := hl x List.mem_cons_self
    exact Nat.or_lt_two_pow (n := 10) hn (Nat.pow_lt_pow_right (by decide) (by omega))
theorem setN_lt (l : List Int) (hl : ∀ x ∈ l, 0 ≤ x ∧ x ≤ 9) : setN l < 1024 := setN_go l hl 0 (by decide)
theorem setN_take (l : List Int) (i : Nat) (h : i < l.length) : (l.take (i + 1)).foldl (fun n x => n ||| 2 ^ x.toNat) 0 = setN (l.take i) ||| 2 ^ (l[i]).toNat := by
  rw [List.take_succ_eq_append_getElem h, List.foldl_append]
  rfl
theorem wiBits_l0 (l : List Int) (hn : l.length ≤ 4000000) (hl : ∀ x ∈ l, 0 ≤ x ∧ x ≤ 9) : ∀ (d i k : Nat), i + d = l.length → d < k → spec_wiBits.l0 k (setN (l.take i) : Nat) l (l.length : Int) (i : Int) = some ((setN l : Nat) : Int)
  | 0, i, k, hi, hk => by
    obtain ⟨k, rfl⟩ : ∃ q, k = q + 1 := ⟨k - 1, by omega⟩
    simp only [spec_wiBits.l0]
    rw [if_neg (by omega), List.take_of_length_le (by omega)]
  | d + 1, i, k, hi, hk => by
    obtain ⟨k, rfl⟩ : ∃ q, k = q + 1 := ⟨k - 1, by omega⟩
    have ha : i < l.length := by omega
    have hx := hl _ (List.getElem_mem ha)
    have ih := wiBits_l0 l hn hl d (i + 1) k (by omega) (by omega)
    have h1 := setN_lt (l.take i) (fun y hy => hl y (List.mem_of_mem_take hy))
    have e : shl .i64 1 l[i] = ((2 ^ (l[i]).toNat : Nat) : Int) := by
      have := shl_i64 (l[i]).toNat (by omega)
      rwa [Int.toNat_of_nonneg hx.1] at this
    simp only [spec_wiBits.l0]
    rw [if_pos (by omega), if_pos (by omega), if_pos (by omega), rd_lt ha, if_pos hx.1, up64 ha (by omega), e, or_i64 _ _ (by omega) (Nat.pow_lt_pow_right (n := 16) (by decide) (by omega)), ← setN_take l i ha]
    exact ih
theorem wiBits_f (l : List Int) (hn : l.length ≤ 4000000) (hl : ∀ x ∈ l, 0 ≤ x ∧ x ≤ 9) {k : Nat} (hk : l.length < k) : spec_wiBits.f k l = some ((setN l : Nat) : Int) := wiBits_l0 l hn hl l.length 0 k (by omega) hk
theorem setOf_l0 (l : List Int) (hn : l.length ≤ 4000000) (hl : ∀ x ∈ l, 0 ≤ x ∧ x ≤ 9) : ∀ (d i k : Nat), i + d = l.length → d < k → impl_setOf.l0 k (setN (l.take i) : Nat) l (l.length : Int) (i : Int) = some ((setN l : Nat) : Int)
  | 0, i, k, hi, hk => by
    obtain ⟨k, rfl⟩ : ∃ q, k = q + 1 := ⟨k - 1, by omega⟩
    simp only [impl_setOf.l0]
    rw [if_neg (by omega), List.take_of_length_le (by omega)]
  | d + 1, i, k, hi, hk => by
    obtain ⟨k, rfl⟩ : ∃ q, k = q + 1 := ⟨k - 1, by omega⟩
    have ha : i < l.length := by omega
    have hx := hl _ (List.getElem_mem ha)
    have ih := setOf_l0 l hn hl d (i + 1) k (by omega) (by omega)
    have h1 := setN_lt (l.take i) (fun y hy => hl y (List.mem_of_mem_take hy))
    have e : shl .u16 1 l[i] = ((2 ^ (l[i]).toNat : Nat) : Int) := by
      have := shl_u16 (l[i]).toNat (by omega)
      rwa [Int.toNat_of_nonneg hx.1] at this
    simp only [impl_setOf.l0]
    rw [if_pos (by omega), if_pos (by omega), if_pos (by omega), rd_lt ha, if_pos hx.1, up64 ha (by omega), e, or_u16 _ _ (by omega) (Nat.pow_lt_pow_right (n := 16) (by decide) (by omega)), ← setN_take l i ha]
    exact ih
theorem setOf_f (l : List Int) (hn : l.length ≤ 4000000) (hl : ∀ x ∈ l, 0 ≤ x ∧ x ≤ 9) {k : Nat} (hk : l.length < k) : impl_setOf.f k l = some ((setN l : Nat) : Int) := setOf_l0 l hn hl l.length 0 k (by omega) hk
theorem within_any (l : List Int) (lo hi : Int) : (!(l.any fun x => !impl_areWithin_1.in_ lo hi x)) = l.all fun y => decide (lo ≤ y) && decide (y ≤ hi) := by
  unfold impl_areWithin_1.in_
  induction l with
  | nil => rfl
  | cons x l ih => simp only [List.any_cons, List.all_cons, Bool.not_or, Bool.not_not, ih]
theorem p_up_drop (l : List Int) (i : Nat) (h1 : 1 ≤ i) (h : i < l.length) : Aux2.p_up (l.drop (i - 1)) = (decide (l[i - 1] < l[i]) && Aux2.p_up (l.drop i)) := by
  rw [List.drop_eq_getElem_cons (show i - 1 < l.length by omega), show i - 1 + 1 = i by omega, List.drop_eq_getElem_cons h]
  rfl
theorem isRising_l0 (a : Int) (l : List Int) (hn : l.length ≤ 4000000) : ∀ (d i k : Nat), i + d = l.length → 1 ≤ i → d < k → impl_isRising.l0 k a l (i : Int) = some (Aux2.p_up (l.drop (i - 1)) && l.all fun y => decide (0 ≤ y) && decide (y ≤ wrap64 (a - 1)))
  | 0, i, k, hi', h1, hk => by
    obtain ⟨k, rfl⟩ : ∃ q, k = q + 1 := ⟨k - 1, by omega⟩
    have e : Aux2.p_up (l.drop (i - 1)) = true := by
      have : (l.drop (i - 1)).length ≤ 1 := by rw [List.length_drop]; omega
      cases hq : l.drop (i - 1) with
      | nil => rfl
      | cons x t =>
        rw [hq] at this
        cases t with
        | nil => rfl
        | cons y t => simp at this
    simp only [impl_isRising.l0]
    rw [if_neg (by omega), e]
    unfold impl_areWithin.f impl_areWithin_1.f
    simp only [Option.bind_some, within_any]
    rfl
  | d + 1, i, k, hi', h1, hk => by
    obtain ⟨k, rfl⟩ : ∃ q, k = q + 1 := ⟨k - 1, by omega⟩
    have ha : i < l.length := by omega
    have hb : i - 1 < l.length := by omega
    have ih := isRising_l0 a l hn d (i + 1) k (by omega) (by omega) (by omega)
    rw [show i + 1 - 1 = i by omega] at ih
    have e1 : wrap64 ((i : Int) - 1) = ((i - 1 : Nat) : Int) := by rw [w64 (by omega) (by omega)]; omega
    simp only [impl_isRising.l0]
    rw [if_pos (by omega), if_pos (by omega), e1, if_pos (by omega), if_pos (by omega), rd_lt ha, rd_lt hb, up64 ha (by omega), ih, p_up_drop l i h1 ha]
    by_cases e : l[i] ≤ l[i - 1]
    · rw [if_pos e]
      simp [show ¬ l[i - 1] < l[i] by omega]
    · rw [if_neg e]
      simp [show l[i - 1] < l[i] by omega]
theorem isRising_f (a : Int) (l : List Int) (hn : l.length ≤ 4000000) {k : Nat} (hk : l.length + 1 < k) : impl_isRising.f k a l = some (impl_AreTests.p_rising a l) := by
  unfold impl_isRising.f impl_AreTests.p_rising
  by_cases h : l.length = 0
  · have : l = [] := List.length_eq_zero_iff.1 h
    subst this
    obtain ⟨k, rfl⟩ : ∃ q, k = q + 1 := ⟨k - 1, by omega⟩
    simp only [impl_isRising.l0]
    rw [if_neg (by simp)]
    unfold impl_areWithin.f impl_areWithin_1.f
    rfl
  · have := isRising_l0 a l hn (l.length - 1) 1 k (by omega) (by omega) (by omega)
    rw [show ((1 : Nat) : Int) = 1 from rfl] at this
    rw [this]
    rfl
/-- Wires that rise below ten wires. -/
theorem rising_wires (a : Int) (l : List Int) (h1 : 1 ≤ a) (h2 : a ≤ 10) (h : impl_AreTests.p_rising a l = true) : ∀ x ∈ l, 0 ≤ x ∧ x ≤ 9 := by
  intro x hx
  unfold impl_AreTests.p_rising at h
  rw [Bool.and_eq_true, List.all_eq_true] at h
  have := h.2 x hx
  rw [Bool.and_eq_true, decide_eq_true_eq, decide_eq_true_eq, w64 (by omega) (by omega)] at this
  omega
theorem tst_cases {a : Int} {l : List (List Int)} (h : tst a l = true) : 1 ≤ a ∧ a ≤ 10 ∧ l.length ≤ 12 ∧ ∀ c ∈ l, 1 ≤ c.length ∧ impl_AreTests.p_rising a c = true := by
  unfold tst impl_AreTests.p_all at h
  simp only [Bool.and_eq_true, decide_eq_true_eq, List.all_eq_true] at h
  refine ⟨h.1.1, h.1.2, h.2.1, fun c hc => ?_⟩
  have := h.2.2 c hc
  unfold impl_AreTests.p_bad at this
  simp only [Bool.not_or, Bool.not_not, Bool.and_eq_true, Bool.not_eq_true', decide_eq_false_iff_not] at this
  exact ⟨by omega, this.2⟩
/-- The bytes of the results up to test i. -/
def resN (l : List (List Int)) (s : Nat) : List Int := l.map fun c => if setN c &&& s = 0 then 48 else 49
theorem wiResults_l0 (l : List (List Int)) (s : Nat) (hs : s < 1024) (hn : l.length ≤ 12) (ht : ∀ c ∈ l, c.length ≤ 1048576 ∧ ∀ x ∈ c, 0 ≤ x ∧ x ≤ 9) : ∀ (d i k : Nat), i + d = l.length → d + 1048577 < k → spec_wiResults.l0 k (s : Nat) (strOfNums (resN (l.take i) s)) l (l.length : Int) (i : Int) = some (strOfNums (resN l s))
  | 0, i, k, hi, hk => by
    obtain ⟨k, rfl⟩ : ∃ q, k = q + 1 := ⟨k - 1, by omega⟩
    simp only [spec_wiResults.l0]
    rw [if_neg (by omega), List.take_of_length_le (by omega)]
  | d + 1, i, k, hi, hk => by
    obtain ⟨k, rfl⟩ : ∃ q, k = q + 1 := ⟨k - 1, by omega⟩
    have ha : i < l.length := by omega
    have hx := ht _ (List.getElem_mem ha)
    have ih := wiResults_l0 l s hs hn ht d (i + 1) k (by omega) (by omega)
    have e : rd_L1 l (i : Int) = l[i] := by unfold rd_L1; simp [List.getD_eq_getElem?_getD, ha]
    have hb := setN_lt l[i] hx.2
    have hsz : (strOfNums (resN (l.take i) s)).size ≤ 12 := by rw [strOfNums_size]; simp [resN]; omega
    simp only [spec_wiResults.l0]
    rw [if_pos (by omega), if_pos (by omega), if_pos (by omega), e, wiBits_f l[i] (by omega) hx.2 (by omega), up64 ha (by omega)]
    simp only [Option.bind_some]
    rw [and_i64 _ _ (by omega) (by omega), List.take_succ_eq_append_getElem ha] at *
    have hr : resN (l.take i ++ [l[i]]) s = resN (l.take i) s ++ [if setN l[i] &&& s = 0 then 48 else 49] := by unfold resN; rw [List.map_append]; rfl
    rw [hr] at ih
    by_cases hc : setN l[i] &&& s = 0
    · rw [if_pos (by omega), if_pos (by omega), ← ih, if_pos hc]
      congr 1
      apply ByteArray.ext
      apply Array.toList_inj.1
      simp [strOfNums, ByteArray.data_append]
    · rw [if_neg (by omega), if_pos (by omega), ← ih, if_neg hc]
      congr 1
      apply ByteArray.ext
      apply Array.toList_inj.1
      simp [strOfNums, ByteArray.data_append]
theorem wiResults_f (l : List (List Int)) (s : Nat) (hs : s < 1024) (hn : l.length ≤ 12) (ht : ∀ c ∈ l, c.length ≤ 1048576 ∧ ∀ x ∈ c, 0 ≤ x ∧ x ≤ 9) {k : Nat} (hk : 1100000 < k) : spec_wiResults.f k l (s : Nat) = some (strOfNums (resN l s)) := wiResults_l0 l s hs hn ht l.length 0 k (by omega) (by omega)
theorem results_l0 (l : List (List Int)) (s : Nat) (hs : s < 1024) (hn : l.length ≤ 12) (ht : ∀ c ∈ l, c.length ≤ 1048576 ∧ ∀ x ∈ c, 0 ≤ x ∧ x ≤ 9) : ∀ (d i k : Nat), i + d = l.length → d + 1048577 < k → impl_results.l0 k (s : Nat) (resN (l.take i) s) l (l.length : Int) (i : Int) = some (strOfNums (resN l s))
  | 0, i, k, hi, hk => by
    obtain ⟨k, rfl⟩ : ∃ q, k = q + 1 := ⟨k - 1, by omega⟩
    simp only [impl_results.l0]
    rw [if_neg (by omega), List.take_of_length_le (by omega)]
  | d + 1, i, k, hi, hk => by
    obtain ⟨k, rfl⟩ : ∃ q, k = q + 1 := ⟨k - 1, by omega⟩
    have ha : i < l.length := by omega
    have hx := ht _ (List.getElem_mem ha)
    have ih := results_l0 l s hs hn ht d (i + 1) k (by omega) (by omega)
    have e : rd_L1 l (i : Int) = l[i] := by unfold rd_L1; simp [List.getD_eq_getElem?_getD, ha]
    have hb := setN_lt l[i] hx.2
    have hsz : (resN (l.take i) s).length ≤ 12 := by simp [resN]; omega
    simp only [impl_results.l0]
    rw [if_pos (by omega), if_pos (by omega), if_pos (by omega), e, setOf_f l[i] (by omega) hx.2 (by omega), up64 ha (by omega)]
    simp only [Option.bind_some]
    rw [and_u16 _ _ (by omega) (by omega), List.take_succ_eq_append_getElem ha] at *
    have hr : resN (l.take i ++ [l[i]]) s = resN (l.take i) s ++ [if setN l[i] &&& s = 0 then 48 else 49] := by unfold resN; rw [List.map_append]; rfl
    rw [hr] at ih
    by_cases hc : setN l[i] &&& s = 0
    · rw [if_pos (by omega), if_pos (by omega), ← ih, if_pos hc]
    · rw [if_neg (by omega), if_pos (by omega), ← ih, if_neg hc]
theorem results_f (l : List (List Int)) (s : Nat) (hs : s < 1024) (hn : l.length ≤ 12) (ht : ∀ c ∈ l, c.length ≤ 1048576 ∧ ∀ x ∈ c, 0 ≤ x ∧ x ≤ 9) {k : Nat} (hk : 1100000 < k) : impl_results.f k l (s : Nat) = some (strOfNums (resN l s)) := results_l0 l s hs hn ht l.length 0 k (by omega) (by omega)
theorem FnExactResultsOf : ∀ (a0 : Int) (l1 : List (List Int)) (l2 : List Int), (Lit.int .i64 a0).wf = true → l1.length ≤ maxLen → (∀ x ∈ l1, (fun l => l.length ≤ maxLen ∧ ∀ x ∈ l, (fun n => (Lit.int .i64 n).wf = true) x) x) → l2.length ≤ maxLen → (∀ x ∈ l2, (fun n => (Lit.int .i64 n).wf = true) x) → ∃ k, laws_FnExactResultsOf.f k a0 l1 l2 = some true := by
  intro a l b _ hl hm _ _
  refine ⟨4000000 + 1, ?_⟩
  unfold laws_FnExactResultsOf.f
  simp only [maxLen] at hl hm
  by_cases hb : (b.length : Int) > 1048576
  · rw [if_pos hb]
  rw [if_neg hb, szIntSS_f l 1048576 (by omega) (by omega) (by omega) (fun x hx => by have := (hm x hx).1; omega) (by omega)]
  simp only [Option.bind_some]
  by_cases hs : (l.length : Int) + (tot l : Int) ≤ 1048576
  · have h1 : l.length ≤ 1048576 := by omega
    have h2 : ∀ x ∈ l, x.length ≤ 1048576 := fun x hx => by have := row_le_tot l x hx; omega
    rw [if_pos hs, if_neg (by omega), toIntSS_f l h1 h2 (by omega), toIntS_f b (by omega) (by omega)]
    unfold spec_ResultsOf.f impl_ResultsOf.f
    simp only [Option.bind_some]
    rw [wiGood_f a l h1 h2 (by omega), areTests_f a l h2]
    simp only [Option.bind_some]
    rw [l1Rising_f a b (by omega) (by omega), isRising_f a b (by omega) (by omega)]
    have fin : laws_FnExactResultsOf.j0 (4000000 + 1) l b l b (false) = some true := by
      simp only [laws_FnExactResultsOf.j0]
      rw [toIntSS_f l h1 h2 (by omega), toIntS_f b (by omega) (by omega)]
      simp only [Option.bind_some]
      rw [eqIntSS_f l h1 h2 (by omega), eqIntS_f b b (by omega) (by omega)]
      simp
    cases ht : tst a l with
    | false =>
      simp only [Bool.false_eq_true, if_false, spec_ResultsOf.j0, impl_ResultsOf.j0, if_true, Option.bind_some, bne_self_eq_false]
      exact fin
    | true =>
      cases hr : impl_AreTests.p_rising a b with
      | false =>
        simp only [Bool.not_false, if_true, spec_ResultsOf.j0, impl_ResultsOf.j0, Option.bind_some, bne_self_eq_false]
        exact fin
      | true =>
        obtain ⟨t1, t2, t3, t4⟩ := tst_cases ht
        have hw := rising_wires a b t1 t2 hr
        have hq := setN_lt b hw
        have hall : ∀ c ∈ l, c.length ≤ 1048576 ∧ ∀ x ∈ c, 0 ≤ x ∧ x ≤ 9 := fun c hc => ⟨h2 c hc, rising_wires a c t1 t2 (t4 c hc).2⟩
        simp only [Bool.not_true, Bool.false_eq_true, if_true, if_false, spec_ResultsOf.j0, impl_ResultsOf.j0, Option.bind_some]
        rw [wiBits_f b (by omega) hw (by omega), setOf_f b (by omega) hw (by omega)]
        simp only [Option.bind_some]
        rw [wiResults_f l _ hq t3 hall (by omega), results_f l _ hq t3 hall (by omega)]
        simp only [Option.bind_some, if_true, bne_self_eq_false]
        exact fin
  · rw [if_neg hs]
    simp

end Go.Proofs.Ythkoignldhocgab.Pure
