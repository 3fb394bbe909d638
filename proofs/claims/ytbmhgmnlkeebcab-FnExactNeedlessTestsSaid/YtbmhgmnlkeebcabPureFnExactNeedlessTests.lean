/- For every two numbers and list of lists the program's NeedlessTests and the reference's agree; no conditions. -/
import Derived.Test.YtbmhgmnlkeebcabPFnExactNeedlessTestsx7
import Derived.Laws.BitsLemmas
import Derived.Laws.BitsAllLaws
set_option linter.unusedSimpArgs false
set_option linter.unusedVariables false
namespace Go.Proofs.Ytbmhgmnlkeebcab.Pure
open Go.RowKit Go.Proofs.Ytbmhgmnlkeebcab.PFnExactNeedlessTests Go.Proofs.YtbmhgmnlkeebcabW.PrintWords Go.Proofs.YtbmhgmnlkeebcabW.PrintLast Go.Proofs.YtbmhgmnlkeebcabW.PrintMore

theorem w64 {x : Int} (h0 : -9223372036854775808 ≤ x) (h1 : x ≤ 9223372036854775807) : wrap64 x = x := by unfold wrap64; omega
theorem up64 {i n : Nat} (h : i < n) (hn : n ≤ 4611686018427387904) : wrap64 ((i : Int) + 1) = ((i + 1 : Nat) : Int) := by rw [w64 (by omega) (by omega)]; omega
theorem rd_lt {xs : List Int} {i : Nat} (h : i < xs.length) : rd xs (i : Int) = xs[i] := by unfold rd; simp [List.getD_eq_getElem?_getD, h]
theorem toIntS_l0 (a : List Int) (hn : a.length ≤ 4611686018427387904) : ∀ (d i k : Nat), i + d = a.length → d < k → laws_toIntS.l0 k a (a.take i ++ List.replicate d 0) (i : Int) = some a
  | 0, i, k, hi, hk => by
    obtain ⟨k, rfl⟩ : ∃ q, k = q + 1 := ⟨k - 1, by omega⟩
    simp only [laws_toIntS.l0]
    rw [if_neg (by omega), List.take_of_length_le (by omega)]
    simp
  | d + 1, i, k, hi, hk => by
    obtain ⟨k, rfl⟩ : ∃ q, k = q + 1 := ⟨k - 1, by omega⟩
    have ih := toIntS_l0 a hn d (i + 1) k (by omega) (by omega)
    have ha : i < a.length := by omega
    simp only [laws_toIntS.l0]
    rw [if_pos (by omega), if_pos (by omega), if_pos (by simp; omega), up64 ha hn, rd_lt ha]
    have he : (a.take i ++ List.replicate (d + 1) (0 : Int)).set ((i : Nat) : Int).toNat a[i] = a.take (i + 1) ++ List.replicate d 0 := by
      rw [List.set_append_right _ _ (by simp; omega), List.replicate_succ]
      have e : ((i : Nat) : Int).toNat - (a.take i).length = 0 := by simp; omega
      rw [e, List.set_cons_zero, List.take_succ_eq_append_getElem ha]
      simp only [List.append_assoc, List.singleton_append]
    rw [he]
    exact ih
theorem toIntS_f (a : List Int) (hn : a.length ≤ 1048576) {k : Nat} (hk : a.length < k) : laws_toIntS.f k a = some a := by
  unfold laws_toIntS.f
  rw [if_pos (by omega), if_pos (by omega)]
  exact toIntS_l0 a (by omega) a.length 0 k (by omega) hk
theorem eqIntS_l0 (a b : List Int) (hl : a.length = b.length) (hn : a.length ≤ 4611686018427387904) : ∀ (d i k : Nat), i + d = a.length → d < k → laws_eqIntS.l0 k a b (i : Int) = some (decide (a.drop i = b.drop i))
  | 0, i, k, hi, hk => by
    obtain ⟨k, rfl⟩ : ∃ q, k = q + 1 := ⟨k - 1, by omega⟩
    simp only [laws_eqIntS.l0]
    rw [if_neg (by omega), List.drop_eq_nil_of_le (by omega), List.drop_eq_nil_of_le (by omega)]
    simp
  | d + 1, i, k, hi, hk => by
    obtain ⟨k, rfl⟩ : ∃ q, k = q + 1 := ⟨k - 1, by omega⟩
    have ih := eqIntS_l0 a b hl hn d (i + 1) k (by omega) (by omega)
    have ha : i < a.length := by omega
    have hb : i < b.length := by omega
    simp only [laws_eqIntS.l0]
    rw [if_pos (by omega), if_pos (by omega), if_pos (by omega), up64 ha hn, ih, rd_lt ha, rd_lt hb, List.drop_eq_getElem_cons ha, List.drop_eq_getElem_cons hb]
    by_cases e : a[i] = b[i]
    · rw [if_pos e, e]; simp only [List.cons.injEq, true_and]
    · rw [if_neg e]; simp only [List.cons.injEq, e, false_and, decide_false]
theorem eqIntS_f (a b : List Int) (hn : a.length ≤ 4611686018427387904) {k : Nat} (hk : a.length < k) : laws_eqIntS.f k a b = some (decide (a = b)) := by
  unfold laws_eqIntS.f
  by_cases h : a.length = b.length
  · rw [if_pos (by omega)]
    exact eqIntS_l0 a b h hn a.length 0 k (by omega) hk
  · rw [if_neg (by omega), decide_eq_false (fun e => h (by rw [e]))]
/-- The length of all rows together. -/
def tot (l : List (List Int)) : Nat := (l.map List.length).sum
theorem tot_cons (x : List Int) (l : List (List Int)) : tot (x :: l) = x.length + tot l := by simp [tot]
theorem tot_drop (l : List (List Int)) (i : Nat) (h : i < l.length) : tot (l.drop i) = (l[i]).length + tot (l.drop (i + 1)) := by
  rw [List.drop_eq_getElem_cons h, tot_cons]
theorem szIntSS_l0 (l : List (List Int)) (hn : l.length ≤ 4000000) : ∀ (d i k : Nat) (left : Int), i + d = l.length → 0 ≤ left → left ≤ 1048576 → (∀ x ∈ l, x.length ≤ 9223372036854775807) → d < k → laws_szIntSS.l0 k l left (i : Int) = some (if (tot (l.drop i) : Int) ≤ left then left - (tot (l.drop i) : Int) else -1)
  | 0, i, k, left, hi, h0, h1, hm, hk => by
    obtain ⟨k, rfl⟩ : ∃ q, k = q + 1 := ⟨k - 1, by omega⟩
    simp only [laws_szIntSS.l0]
    rw [if_neg (by omega), List.drop_eq_nil_of_le (by omega)]
    simp [tot, h0]
  | d + 1, i, k, left, hi, h0, h1, hm, hk => by
    obtain ⟨k, rfl⟩ : ∃ q, k = q + 1 := ⟨k - 1, by omega⟩
    have ha : i < l.length := by omega
    have e : rd_L1 l (i : Int) = l[i] := by unfold rd_L1; simp [List.getD_eq_getElem?_getD, ha]
    have hlen := hm _ (List.getElem_mem ha)
    have ht := tot_drop l i ha
    have w : wrap64 (left - (l[i].length : Int)) = left - (l[i].length : Int) := w64 (by omega) (by omega)
    simp only [laws_szIntSS.l0]
    rw [if_pos (by omega), if_pos (by omega), e]
    unfold laws_szIntS.f
    rw [w]
    by_cases hc : left - (l[i].length : Int) < 0
    · rw [if_pos hc]
      simp only [Option.bind_some]
      rw [if_pos (by omega), if_neg (by omega)]
    · rw [if_neg hc]
      simp only [Option.bind_some]
      rw [if_neg hc, up64 ha (by omega), szIntSS_l0 l hn d (i + 1) k _ (by omega) (by omega) (by omega) hm (by omega), ht]
      by_cases h2 : ((tot (l.drop (i + 1)) : Nat) : Int) ≤ left - (l[i].length : Int)
      · rw [if_pos h2, if_pos (by omega)]; congr 1; omega
      · rw [if_neg h2, if_neg (by omega)]
theorem szIntSS_f (l : List (List Int)) (left : Int) (h0 : 0 ≤ left) (h1 : left ≤ 1048576) (hl : l.length ≤ 9223372036854775807) (hm : ∀ x ∈ l, x.length ≤ 9223372036854775807) {k : Nat} (hk : 2000000 < k) : laws_szIntSS.f k l left = some (if (l.length : Int) + (tot l : Int) ≤ left then left - (l.length : Int) - (tot l : Int) else -1) := by
  have w : wrap64 (left - (l.length : Int)) = left - (l.length : Int) := w64 (by omega) (by omega)
  unfold laws_szIntSS.f
  rw [w]
  by_cases hc : left - (l.length : Int) < 0
  · rw [if_pos hc, if_neg (by omega)]
  · rw [if_neg hc]
    have h := szIntSS_l0 l (by omega) l.length 0 k (left - (l.length : Int)) (by omega) (by omega) (by omega) hm (by omega)
    rw [List.drop_zero] at h
    rw [show (0 : Int) = ((0 : Nat) : Int) from rfl, h]
    by_cases h2 : ((tot l : Nat) : Int) ≤ left - (l.length : Int)
    · rw [if_pos h2, if_pos (by omega)]
    · rw [if_neg h2, if_neg (by omega)]
theorem row_le_tot (l : List (List Int)) (x : List Int) (h : x ∈ l) : x.length ≤ tot l := by
  induction l with
  | nil => cases h
  | cons y l ih =>
    rw [tot_cons]
    rcases List.mem_cons.1 h with rfl | h
    · omega
    · have := ih h; omega
theorem toIntSS_l0 (l : List (List Int)) (hn : l.length ≤ 1048576) (ht : ∀ x ∈ l, x.length ≤ 1048576) : ∀ (d i k : Nat), i + d = l.length → d + 1048577 < k → laws_toIntSS.l0 k l (l.take i ++ List.replicate d []) (i : Int) = some l
  | 0, i, k, hi, hk => by
    obtain ⟨k, rfl⟩ : ∃ q, k = q + 1 := ⟨k - 1, by omega⟩
    simp only [laws_toIntSS.l0]
    rw [if_neg (by omega), List.take_of_length_le (by omega)]
    simp
  | d + 1, i, k, hi, hk => by
    obtain ⟨k, rfl⟩ : ∃ q, k = q + 1 := ⟨k - 1, by omega⟩
    have ih := toIntSS_l0 l hn ht d (i + 1) k (by omega) (by omega)
    have ha : i < l.length := by omega
    have e : rd_L1 l (i : Int) = l[i] := by unfold rd_L1; simp [List.getD_eq_getElem?_getD, ha]
    have hlen := ht _ (List.getElem_mem ha)
    simp only [laws_toIntSS.l0]
    rw [if_pos (by omega), if_pos (by omega), e, toIntS_f _ hlen (by omega)]
    simp only [Option.bind_some]
    rw [if_pos (by simp; omega), up64 ha (by omega)]
    have he : (l.take i ++ List.replicate (d + 1) ([] : List Int)).set ((i : Nat) : Int).toNat l[i] = l.take (i + 1) ++ List.replicate d [] := by
      rw [List.set_append_right _ _ (by simp; omega), List.replicate_succ]
      have e : ((i : Nat) : Int).toNat - (l.take i).length = 0 := by simp; omega
      rw [e, List.set_cons_zero, List.take_succ_eq_append_getElem ha]
      simp only [List.append_assoc, List.singleton_append]
    rw [he]
    exact ih
theorem toIntSS_f (l : List (List Int)) (hn : l.length ≤ 1048576) (ht : ∀ x ∈ l, x.length ≤ 1048576) {k : Nat} (hk : 3000000 < k) : laws_toIntSS.f k l = some l := by
  unfold laws_toIntSS.f
  rw [if_pos (by omega), if_pos (by omega)]
  exact toIntSS_l0 l hn ht l.length 0 k (by omega) (by omega)
theorem eqIntSS_l0' (a : List (List Int)) (hn : a.length ≤ 1048576) (ht : ∀ x ∈ a, x.length ≤ 1048576) : ∀ (d i k : Nat), i + d = a.length → d + 1048577 < k → laws_eqIntSS.l0 k a a (i : Int) = some true
  | 0, i, k, hi, hk => by
    obtain ⟨k, rfl⟩ : ∃ q, k = q + 1 := ⟨k - 1, by omega⟩
    simp only [laws_eqIntSS.l0]
    rw [if_neg (by omega)]
  | d + 1, i, k, hi, hk => by
    obtain ⟨k, rfl⟩ : ∃ q, k = q + 1 := ⟨k - 1, by omega⟩
    have ih := eqIntSS_l0' a hn ht d (i + 1) k (by omega) (by omega)
    have ha : i < a.length := by omega
    have h1 := ht _ (List.getElem_mem ha)
    have e : rd_L1 a (i : Int) = a[i] := by unfold rd_L1; simp [List.getD_eq_getElem?_getD, ha]
    simp only [laws_eqIntSS.l0]
    rw [if_pos (by omega), if_pos (by omega), if_pos (by omega), e, eqIntS_f _ _ (by omega) (by omega), up64 ha (by omega)]
    simpa using ih
theorem eqIntSS_f (a : List (List Int)) (hn : a.length ≤ 1048576) (ht : ∀ x ∈ a, x.length ≤ 1048576) {k : Nat} (hk : 3000000 < k) : laws_eqIntSS.f k a a = some true := by
  unfold laws_eqIntSS.f
  rw [if_pos rfl]
  exact eqIntSS_l0' a hn ht a.length 0 _ (by omega) (by omega)
/-- Are these tests of so many wires? -/
def tst (a : Int) (l : List (List Int)) : Bool := impl_AreTests.p_all a l
theorem l1Rising_l0 (l : List Int) (lo hi : Int) (hn : l.length ≤ 4000000) : ∀ (d i k : Nat), i + d = l.length → d < k → spec_l1Rising.l0 k l lo hi l (l.length : Int) (i : Int) = some (Aux2.p_up (l.drop (i - 1)) && (l.drop i).all fun y => decide (lo ≤ y) && decide (y ≤ hi))
  | 0, i, k, hi', hk => by
    obtain ⟨k, rfl⟩ : ∃ q, k = q + 1 := ⟨k - 1, by omega⟩
    have e : Aux2.p_up (l.drop (i - 1)) = true := by
      have : (l.drop (i - 1)).length ≤ 1 := by rw [List.length_drop]; omega
      cases hq : l.drop (i - 1) with
      | nil => rfl
      | cons x t =>
        rw [hq] at this
        cases t with
        | nil => rfl
        | cons y t => simp at this
    simp only [spec_l1Rising.l0]
    rw [if_neg (by omega), e, List.drop_eq_nil_of_le (by omega)]
    rfl
  | d + 1, i, k, hi', hk => by
    obtain ⟨k, rfl⟩ : ∃ q, k = q + 1 := ⟨k - 1, by omega⟩
    have ha : i < l.length := by omega
    have ih := l1Rising_l0 l lo hi hn d (i + 1) k (by omega) (by omega)
    simp only [spec_l1Rising.l0]
    rw [if_pos (by omega), if_pos (by omega), if_pos (by omega), rd_lt ha, up64 ha (by omega)]
    unfold spec_l1In.f
    rw [show i + 1 - 1 = i by omega] at ih
    have hall : ((l.drop i).all fun y => decide (lo ≤ y) && decide (y ≤ hi)) = ((decide (lo ≤ l[i]) && decide (l[i] ≤ hi)) && (l.drop (i + 1)).all fun y => decide (lo ≤ y) && decide (y ≤ hi)) := by
      rw [List.drop_eq_getElem_cons ha, List.all_cons]
    rw [hall]
    clear hall
    by_cases h1 : lo ≤ l[i]
    · rw [if_pos (show l[i] ≥ lo from h1)]
      simp only [Option.bind_some]
      by_cases h2 : l[i] ≤ hi
      · rw [if_pos (by simpa using h2)]
        by_cases h0 : i = 0
        · subst h0
          rw [if_neg (by omega), ih]
          simp [h1, h2]
        · have hb : i - 1 < l.length := by omega
          have e1 : wrap64 ((i : Int) - 1) = ((i - 1 : Nat) : Int) := by rw [w64 (by omega) (by omega)]; omega
          have hup : Aux2.p_up (l.drop (i - 1)) = (decide (l[i - 1] < l[i]) && Aux2.p_up (l.drop i)) := by
            rw [List.drop_eq_getElem_cons hb, show i - 1 + 1 = i by omega, List.drop_eq_getElem_cons ha]
            rfl
          rw [if_pos (by omega), e1, if_pos (by omega), if_pos (by omega), rd_lt hb, ih, hup]
          by_cases e : l[i - 1] ≥ l[i]
          · rw [if_pos e]
            simp [show ¬ l[i - 1] < l[i] by omega]
          · rw [if_neg e]
            simp [show l[i - 1] < l[i] by omega, h1, h2]
      · rw [if_neg (by simpa using h2)]
        simp [h2]
    · rw [if_neg (show ¬ l[i] ≥ lo from h1)]
      simp [h1]
theorem l1Rising_f (a : Int) (l : List Int) (hn : l.length ≤ 4000000) {k : Nat} (hk : l.length < k) : spec_l1Rising.f k l 0 (wrap64 (a - 1)) = some (impl_AreTests.p_rising a l) := by
  unfold spec_l1Rising.f impl_AreTests.p_rising
  have := l1Rising_l0 l 0 (wrap64 (a - 1)) hn l.length 0 k (by omega) hk
  simpa using this
theorem wiGood_l0 (a : Int) (l : List (List Int)) (hn : l.length ≤ 1048576) (ht : ∀ x ∈ l, x.length ≤ 1048576) : ∀ (d i k : Nat), i + d = l.length → d + 1048577 < k → spec_wiGood.l0 k a l (l.length : Int) (i : Int) = some ((l.drop i).all fun c => !impl_AreTests.p_bad a c)
  | 0, i, k, hi, hk => by
    obtain ⟨k, rfl⟩ : ∃ q, k = q + 1 := ⟨k - 1, by omega⟩
    simp only [spec_wiGood.l0]
    rw [if_neg (by omega), List.drop_eq_nil_of_le (by omega)]
    rfl
  | d + 1, i, k, hi, hk => by
    obtain ⟨k, rfl⟩ : ∃ q, k = q + 1 := ⟨k - 1, by omega⟩
    have ha : i < l.length := by omega
    have ih := wiGood_l0 a l hn ht d (i + 1) k (by omega) (by omega)
    have e : rd_L1 l (i : Int) = l[i] := by unfold rd_L1; simp [List.getD_eq_getElem?_getD, ha]
    have hlen := ht _ (List.getElem_mem ha)
    simp only [spec_wiGood.l0]
    rw [if_pos (by omega), if_pos (by omega), if_pos (by omega), e, up64 ha (by omega), ih, l1Rising_f a _ (by omega) (by omega), List.drop_eq_getElem_cons ha, List.all_cons]
    unfold impl_AreTests.p_bad
    by_cases h0 : l[i].length = 0
    · rw [if_pos (by omega)]
      simp [h0]
    · rw [if_neg (by omega)]
      simp only [Option.bind_some]
      cases impl_AreTests.p_rising a l[i] with
      | true => rw [if_pos rfl]; simp [h0]
      | false => simp [h0]
theorem wiGood_f (a : Int) (l : List (List Int)) (hn : l.length ≤ 1048576) (ht : ∀ x ∈ l, x.length ≤ 1048576) {k : Nat} (hk : 3000000 < k) : spec_wiGood.f k a l = some (tst a l) := by
  obtain ⟨k, rfl⟩ : ∃ q, k = q + 1 := ⟨k - 1, by omega⟩
  have h := wiGood_l0 a l hn ht l.length 0 k (by omega) (by omega)
  rw [List.drop_zero, show ((0 : Nat) : Int) = 0 from rfl] at h
  unfold spec_wiGood.f spec_wiWires.f spec_l1In.f tst impl_AreTests.p_all
  by_cases h1 : 1 ≤ a
  · rw [if_pos (show a ≥ 1 from h1)]
    simp only [Option.bind_some]
    by_cases h2 : a ≤ 10
    · rw [if_pos (by simpa using h2)]
      simp only [spec_wiGood.j0]
      by_cases h3 : l.length ≤ 12
      · rw [if_neg (by simp; omega), h]
        simp [h1, h2, h3]
      · rw [if_pos (by simp; omega)]
        simp [h3]
    · rw [if_neg (by simpa using h2)]
      simp only [spec_wiGood.j0]
      simp [h2]
  · rw [if_neg (show ¬ a ≥ 1 from h1)]
    simp only [Option.bind_some, Bool.false_eq_true, if_false, spec_wiGood.j0]
    simp [h1]
theorem areTests_f (a : Int) (l : List (List Int)) (ht : ∀ x ∈ l, x.length ≤ 1048576) : impl_AreTests.f a l = some (tst a l) := by
  unfold impl_AreTests.f
  rw [if_pos ht]
  rfl
theorem wraps_i64' (n : Int) (h0 : 0 ≤ n) (h1 : n < 2 ^ 16) : IntKind.i64.wrap n = n := by
  rw [IntKind.wrap_i64]; simp at h1; omega
theorem wraps_u16' (n : Int) (h0 : 0 ≤ n) (h1 : n < 2 ^ 16) : IntKind.u16.wrap n = n := by
  rw [IntKind.wrap_u16]; simp at h1; omega
theorem or_i64 (a b : Nat) (ha : a < 65536) (hb : b < 65536) : Go.bits .or .i64 a b = ((a ||| b : Nat) : Int) := (bits_nat .i64 16 (by decide) wraps_i64' a b ha hb).2
theorem or_u16 (a b : Nat) (ha : a < 65536) (hb : b < 65536) : Go.bits .or .u16 a b = ((a ||| b : Nat) : Int) := (bits_nat .u16 16 (by decide) wraps_u16' a b ha hb).2
theorem and_i64 (a b : Nat) (ha : a < 65536) (hb : b < 65536) : Go.bits .and .i64 a b = ((a &&& b : Nat) : Int) := (bits_nat .i64 16 (by decide) wraps_i64' a b ha hb).1
theorem and_u16 (a b : Nat) (ha : a < 65536) (hb : b < 65536) : Go.bits .and .u16 a b = ((a &&& b : Nat) : Int) := (bits_nat .u16 16 (by decide) wraps_u16' a b ha hb).1
theorem pow_lt16 (y : Nat) (hy : y < 16) : (2 ^ y : Nat) < 65536 := Nat.pow_lt_pow_right (by decide) hy
theorem shl_i64 (y : Nat) (hy : y < 16) : shl .i64 1 (y : Int) = ((2 ^ y : Nat) : Int) := by
  unfold shl
  rw [show (y : Int).toNat = y from rfl, Nat.min_eq_left (by simp only [IntKind.bits]; omega), Int.one_mul, wraps_i64']
  · simp
  · exact Int.le_of_lt (Int.pow_pos (by decide))
  · exact_mod_cast Nat.pow_lt_pow_right (by decide) hy
theorem shl_u16 (y : Nat) (hy : y < 16) : shl .u16 1 (y : Int) = ((2 ^ y : Nat) : Int) := by
  unfold shl
  rw [show (y : Int).toNat = y from rfl, Nat.min_eq_left (by simp only [IntKind.bits]; omega), Int.one_mul, wraps_u16']
  · simp
  · exact Int.le_of_lt (Int.pow_pos (by decide))
  · exact_mod_cast Nat.pow_lt_pow_right (by decide) hy
/-- The set of these wires. -/
def setN (l : List Int) : Nat := l.foldl (fun n x => n ||| 2 ^ x.toNat) 0
theorem setN_go (l : List Int) (hl : ∀ x ∈ l, 0 ≤ x ∧ x ≤ 9) : ∀ n, n < 1024 → l.foldl (fun n x => n ||| 2 ^ x.toNat) n < 1024 := by
  induction l with
  | nil => intro n hn; exact hn
  | cons x l ih =>
    intro n hn
    refine ih (fun y hy => hl y (List.mem_cons_of_mem _ hy)) _ ?_
    have := hl x List.mem_cons_self
    exact Nat.or_lt_two_pow (n := 10) hn (Nat.pow_lt_pow_right (by decide) (by omega))
theorem setN_lt (l : List Int) (hl : ∀ x ∈ l, 0 ≤ x ∧ x ≤ 9) : setN l < 1024 := setN_go l hl 0 (by decide)
theorem setN_take (l : List Int) (i : Nat) (h : i < l.length) : (l.take (i + 1)).foldl (fun n x => n ||| 2 ^ x.toNat) 0 = setN (l.take i) ||| 2 ^ (l[i]).toNat := by
  rw [List.take_succ_eq_append_getElem h, List.foldl_append]
  rfl
theorem wiBits_l0 (l : List Int) (hn : l.length ≤ 4000000) (hl : ∀ x ∈ l, 0 ≤ x ∧ x ≤ 9) : ∀ (d i k : Nat), i + d = l.length → d < k → spec_wiBits.l0 k (setN (l.take i) : Nat) l (l.length : Int) (i : Int) = some ((setN l : Nat) : Int)
  | 0, i, k, hi, hk => by
    obtain ⟨k, rfl⟩ : ∃ q, k = q + 1 := ⟨k - 1, by omega⟩
    simp only [spec_wiBits.l0]
    rw [if_neg (by omega), List.take_of_length_le (by omega)]
  | d + 1, i, k, hi, hk => by
    obtain ⟨k, rfl⟩ : ∃ q, k = q + 1 := ⟨k - 1, by omega⟩
    have ha : i < l.length := by omega
    have hx := hl _ (List.getElem_mem ha)
    have ih := wiBits_l0 l hn hl d (i + 1) k (by omega) (by omega)
    have h1 := setN_lt (l.take i) (fun y hy => hl y (List.mem_of_mem_take hy))
    have e : shl .i64 1 l[i] = ((2 ^ (l[i]).toNat : Nat) : Int) := by
      have := shl_i64 (l[i]).toNat (by omega)
      rwa [Int.toNat_of_nonneg hx.1] at this
    simp only [spec_wiBits.l0]
    rw [if_pos (by omega), if_pos (by omega), if_pos (by omega), rd_lt ha, if_pos hx.1, up64 ha (by omega), e, or_i64 _ _ (by omega) (Nat.pow_lt_pow_right (n := 16) (by decide) (by omega)), ← setN_take l i ha]
    exact ih
theorem wiBits_f (l : List Int) (hn : l.length ≤ 4000000) (hl : ∀ x ∈ l, 0 ≤ x ∧ x ≤ 9) {k : Nat} (hk : l.length < k) : spec_wiBits.f k l = some ((setN l : Nat) : Int) := wiBits_l0 l hn hl l.length 0 k (by omega) hk
theorem setOf_l0 (l : List Int) (hn : l.length ≤ 4000000) (hl : ∀ x ∈ l, 0 ≤ x ∧ x ≤ 9) : ∀ (d i k : Nat), i + d = l.length → d < k → impl_setOf.l0 k (setN (l.take i) : Nat) l (l.length : Int) (i : Int) = some ((setN l : Nat) : Int)
  | 0, i, k, hi, hk => by
    obtain ⟨k, rfl⟩ : ∃ q, k = q + 1 := ⟨k - 1, by omega⟩
    simp only [impl_setOf.l0]
    rw [if_neg (by omega), List.take_of_length_le (by omega)]
  | d + 1, i, k, hi, hk => by
    obtain ⟨k, rfl⟩ : ∃ q, k = q + 1 := ⟨k - 1, by omega⟩
    have ha : i < l.length := by omega
    have hx := hl _ (List.getElem_mem ha)
    have ih := setOf_l0 l hn hl d (i + 1) k (by omega) (by omega)
    have h1 := setN_lt (l.take i) (fun y hy => hl y (List.mem_of_mem_take hy))
    have e : shl .u16 1 l[i] = ((2 ^ (l[i]).toNat : Nat) : Int) := by
      have := shl_u16 (l[i]).toNat (by omega)
      rwa [Int.toNat_of_nonneg hx.1] at this
    simp only [impl_setOf.l0]
    rw [if_pos (by omega), if_pos (by omega), if_pos (by omega), rd_lt ha, if_pos hx.1, up64 ha (by omega), e, or_u16 _ _ (by omega) (Nat.pow_lt_pow_right (n := 16) (by decide) (by omega)), ← setN_take l i ha]
    exact ih
theorem setOf_f (l : List Int) (hn : l.length ≤ 4000000) (hl : ∀ x ∈ l, 0 ≤ x ∧ x ≤ 9) {k : Nat} (hk : l.length < k) : impl_setOf.f k l = some ((setN l : Nat) : Int) := setOf_l0 l hn hl l.length 0 k (by omega) hk
theorem within_any (l : List Int) (lo hi : Int) : (!(l.any fun x => !impl_areWithin_1.in_ lo hi x)) = l.all fun y => decide (lo ≤ y) && decide (y ≤ hi) := by
  unfold impl_areWithin_1.in_
  induction l with
  | nil => rfl
  | cons x l ih => simp only [List.any_cons, List.all_cons, Bool.not_or, Bool.not_not, ih]
theorem p_up_drop (l : List Int) (i : Nat) (h1 : 1 ≤ i) (h : i < l.length) : Aux2.p_up (l.drop (i - 1)) = (decide (l[i - 1] < l[i]) && Aux2.p_up (l.drop i)) := by
  rw [List.drop_eq_getElem_cons (show i - 1 < l.length by omega), show i - 1 + 1 = i by omega, List.drop_eq_getElem_cons h]
  rfl
theorem isRising_l0 (a : Int) (l : List Int) (hn : l.length ≤ 4000000) : ∀ (d i k : Nat), i + d = l.length → 1 ≤ i → d < k → impl_isRising.l0 k a l (i : Int) = some (Aux2.p_up (l.drop (i - 1)) && l.all fun y => decide (0 ≤ y) && decide (y ≤ wrap64 (a - 1)))
  | 0, i, k, hi', h1, hk => by
    obtain ⟨k, rfl⟩ : ∃ q, k = q + 1 := ⟨k - 1, by omega⟩
    have e : Aux2.p_up (l.drop (i - 1)) = true := by
      have : (l.drop (i - 1)).length ≤ 1 := by rw [List.length_drop]; omega
      cases hq : l.drop (i - 1) with
      | nil => rfl
      | cons x t =>
        rw [hq] at this
        cases t with
        | nil => rfl
        | cons y t => simp at this
    simp only [impl_isRising.l0]
    rw [if_neg (by omega), e]
    unfold impl_areWithin.f impl_areWithin_1.f
    simp only [Option.bind_some, within_any]
    rfl
  | d + 1, i, k, hi', h1, hk => by
    obtain ⟨k, rfl⟩ : ∃ q, k = q + 1 := ⟨k - 1, by omega⟩
    have ha : i < l.length := by omega
    have hb : i - 1 < l.length := by omega
    have ih := isRising_l0 a l hn d (i + 1) k (by omega) (by omega) (by omega)
    rw [show i + 1 - 1 = i by omega] at ih
    have e1 : wrap64 ((i : Int) - 1) = ((i - 1 : Nat) : Int) := by rw [w64 (by omega) (by omega)]; omega
    simp only [impl_isRising.l0]
    rw [if_pos (by omega), if_pos (by omega), e1, if_pos (by omega), if_pos (by omega), rd_lt ha, rd_lt hb, up64 ha (by omega), ih, p_up_drop l i h1 ha]
    by_cases e : l[i] ≤ l[i - 1]
    · rw [if_pos e]
      simp [show ¬ l[i - 1] < l[i] by omega]
    · rw [if_neg e]
      simp [show l[i - 1] < l[i] by omega]
theorem isRising_f (a : Int) (l : List Int) (hn : l.length ≤ 4000000) {k : Nat} (hk : l.length + 1 < k) : impl_isRising.f k a l = some (impl_AreTests.p_rising a l) := by
  unfold impl_isRising.f impl_AreTests.p_rising
  by_cases h : l.length = 0
  · have : l = [] := List.length_eq_zero_iff.1 h
    subst this
    obtain ⟨k, rfl⟩ : ∃ q, k = q + 1 := ⟨k - 1, by omega⟩
    simp only [impl_isRising.l0]
    rw [if_neg (by simp)]
    unfold impl_areWithin.f impl_areWithin_1.f
    rfl
  · have := isRising_l0 a l hn (l.length - 1) 1 k (by omega) (by omega) (by omega)
    rw [show ((1 : Nat) : Int) = 1 from rfl] at this
    rw [this]
    rfl
/-- Wires that rise below ten wires. -/
theorem rising_wires (a : Int) (l : List Int) (h1 : 1 ≤ a) (h2 : a ≤ 10) (h : impl_AreTests.p_rising a l = true) : ∀ x ∈ l, 0 ≤ x ∧ x ≤ 9 := by
  intro x hx
  unfold impl_AreTests.p_rising at h
  rw [Bool.and_eq_true, List.all_eq_true] at h
  have := h.2 x hx
  rw [Bool.and_eq_true, decide_eq_true_eq, decide_eq_true_eq, w64 (by omega) (by omega)] at this
  omega
theorem tst_cases {a : Int} {l : List (List Int)} (h : tst a l = true) : 1 ≤ a ∧ a ≤ 10 ∧ l.length ≤ 12 ∧ ∀ c ∈ l, 1 ≤ c.length ∧ impl_AreTests.p_rising a c = true := by
  unfold tst impl_AreTests.p_all at h
  simp only [Bool.and_eq_true, decide_eq_true_eq, List.all_eq_true] at h
  refine ⟨h.1.1, h.1.2, h.2.1, fun c hc => ?_⟩
  have := h.2.2 c hc
  unfold impl_AreTests.p_bad at this
  simp only [Bool.not_or, Bool.not_not, Bool.and_eq_true, Bool.not_eq_true', decide_eq_false_iff_not] at this
  exact ⟨by omega, this.2⟩
/-- The bytes of the results up to test i. -/
def resN (l : List (List Int)) (s : Nat) : List Int := l.map fun c => if setN c &&& s = 0 then 48 else 49
theorem wiResults_l0 (l : List (List Int)) (s : Nat) (hs : s < 1024) (hn : l.length ≤ 12) (ht : ∀ c ∈ l, c.length ≤ 1048576 ∧ ∀ x ∈ c, 0 ≤ x ∧ x ≤ 9) : ∀ (d i k : Nat), i + d = l.length → d + 1048577 < k → spec_wiResults.l0 k (s : Nat) (strOfNums (resN (l.take i) s)) l (l.length : Int) (i : Int) = some (strOfNums (resN l s))
  | 0, i, k, hi, hk => by
    obtain ⟨k, rfl⟩ : ∃ q, k = q + 1 := ⟨k - 1, by omega⟩
    simp only [spec_wiResults.l0]
    rw [if_neg (by omega), List.take_of_length_le (by omega)]
  | d + 1, i, k, hi, hk => by
    obtain ⟨k, rfl⟩ : ∃ q, k = q + 1 := ⟨k - 1, by omega⟩
    have ha : i < l.length := by omega
    have hx := ht _ (List.getElem_mem ha)
    have ih := wiResults_l0 l s hs hn ht d (i + 1) k (by omega) (by omega)
    have e : rd_L1 l (i : Int) = l[i] := by unfold rd_L1; simp [List.getD_eq_getElem?_getD, ha]
    have hb := setN_lt l[i] hx.2
    have hsz : (strOfNums (resN (l.take i) s)).size ≤ 12 := by rw [strOfNums_size]; simp [resN]; omega
    simp only [spec_wiResults.l0]
    rw [if_pos (by omega), if_pos (by omega), if_pos (by omega), e, wiBits_f l[i] (by omega) hx.2 (by omega), up64 ha (by omega)]
    simp only [Option.bind_some]
    rw [and_i64 _ _ (by omega) (by omega), List.take_succ_eq_append_getElem ha] at *
    have hr : resN (l.take i ++ [l[i]]) s = resN (l.take i) s ++ [if setN l[i] &&& s = 0 then 48 else 49] := by unfold resN; rw [List.map_append]; rfl
    rw [hr] at ih
    by_cases hc : setN l[i] &&& s = 0
    · rw [if_pos (by omega), if_pos (by omega), ← ih, if_pos hc]
      congr 1
      apply ByteArray.ext
      apply Array.toList_inj.1
      simp [strOfNums, ByteArray.data_append]
    · rw [if_neg (by omega), if_pos (by omega), ← ih, if_neg hc]
      congr 1
      apply ByteArray.ext
      apply Array.toList_inj.1
      simp [strOfNums, ByteArray.data_append]
theorem wiResults_f (l : List (List Int)) (s : Nat) (hs : s < 1024) (hn : l.length ≤ 12) (ht : ∀ c ∈ l, c.length ≤ 1048576 ∧ ∀ x ∈ c, 0 ≤ x ∧ x ≤ 9) {k : Nat} (hk : 1100000 < k) : spec_wiResults.f k l (s : Nat) = some (strOfNums (resN l s)) := wiResults_l0 l s hs hn ht l.length 0 k (by omega) (by omega)
theorem results_l0 (l : List (List Int)) (s : Nat) (hs : s < 1024) (hn : l.length ≤ 12) (ht : ∀ c ∈ l, c.length ≤ 1048576 ∧ ∀ x ∈ c, 0 ≤ x ∧ x ≤ 9) : ∀ (d i k : Nat), i + d = l.length → d + 1048577 < k → impl_results.l0 k (s : Nat) (resN (l.take i) s) l (l.length : Int) (i : Int) = some (strOfNums (resN l s))
  | 0, i, k, hi, hk => by
    obtain ⟨k, rfl⟩ : ∃ q, k = q + 1 := ⟨k - 1, by omega⟩
    simp only [impl_results.l0]
    rw [if_neg (by omega), List.take_of_length_le (by omega)]
  | d + 1, i, k, hi, hk => by
    obtain ⟨k, rfl⟩ : ∃ q, k = q + 1 := ⟨k - 1, by omega⟩
    have ha : i < l.length := by omega
    have hx := ht _ (List.getElem_mem ha)
    have ih := results_l0 l s hs hn ht d (i + 1) k (by omega) (by omega)
    have e : rd_L1 l (i : Int) = l[i] := by unfold rd_L1; simp [List.getD_eq_getElem?_getD, ha]
    have hb := setN_lt l[i] hx.2
    have hsz : (resN (l.take i) s).length ≤ 12 := by simp [resN]; omega
    simp only [impl_results.l0]
    rw [if_pos (by omega), if_pos (by omega), if_pos (by omega), e, setOf_f l[i] (by omega) hx.2 (by omega), up64 ha (by omega)]
    simp only [Option.bind_some]
    rw [and_u16 _ _ (by omega) (by omega), List.take_succ_eq_append_getElem ha] at *
    have hr : resN (l.take i ++ [l[i]]) s = resN (l.take i) s ++ [if setN l[i] &&& s = 0 then 48 else 49] := by unfold resN; rw [List.map_append]; rfl
    rw [hr] at ih
    by_cases hc : setN l[i] &&& s = 0
    · rw [if_pos (by omega), if_pos (by omega), ← ih, if_pos hc]
    · rw [if_neg (by omega), if_pos (by omega), ← ih, if_neg hc]
theorem results_f (l : List (List Int)) (s : Nat) (hs : s < 1024) (hn : l.length ≤ 12) (ht : ∀ c ∈ l, c.length ≤ 1048576 ∧ ∀ x ∈ c, 0 ≤ x ∧ x ≤ 9) {k : Nat} (hk : 1100000 < k) : impl_results.f k l (s : Nat) = some (strOfNums (resN l s)) := results_l0 l s hs hn ht l.length 0 k (by omega) (by omega)
/-- All rising lists of so many wires, from a wire on, in order. -/
def lst (w : Nat) : Nat → Nat → List (List Int)
  | 0, _ => [[]]
  | m + 1, f => (List.range' f (w - f)).flatMap fun x => (lst w m (x + 1)).map (fun t => (x : Int) :: t)
/-- A list that rises, from a number on, below a bound. -/
def Up (w : Int) : Int → List Int → Prop
  | _, [] => True
  | f, x :: t => f ≤ x ∧ x < w ∧ Up w (x + 1) t
theorem mem_lst (w : Nat) : ∀ (m f : Nat) (t : List Int), t ∈ lst w m f ↔ t.length = m ∧ Up w f t
  | 0, f, t => by
    cases t with
    | nil => simp [lst, Up]
    | cons x t => simp [lst]
  | m + 1, f, t => by
    simp only [lst, List.mem_flatMap, List.mem_range'_1, List.mem_map]
    constructor
    · rintro ⟨x, hx, u, hu, rfl⟩
      obtain ⟨h1, h2⟩ := (mem_lst w m (x + 1) u).1 hu
      refine ⟨by simp [h1], by omega, by omega, ?_⟩
      exact h2
    · cases t with
      | nil => rintro ⟨h, _⟩; simp at h
      | cons x t =>
        rintro ⟨h, h1, h2, h3⟩
        refine ⟨x.toNat, by omega, t, (mem_lst w m _ t).2 ⟨by simpa using h, ?_⟩, by rw [Int.toNat_of_nonneg (by omega)]⟩
        rw [show ((x.toNat + 1 : Nat) : Int) = x + 1 by omega]
        exact h3
/-- The order of lists, number by number. -/
def lexlt : List Int → List Int → Bool
  | [], [] => false
  | [], _ :: _ => true
  | _ :: _, [] => false
  | x :: s, y :: t => if x < y then true else if y < x then false else lexlt s t
theorem lexlt_cons (x : Int) (s t : List Int) : lexlt (x :: s) (x :: t) = lexlt s t := by simp [lexlt]
theorem lst_sorted (w : Nat) : ∀ (m f : Nat), (lst w m f).Pairwise fun s t => lexlt s t = true
  | 0, f => by simp [lst]
  | m + 1, f => by
    simp only [lst, List.pairwise_flatMap]
    refine ⟨fun x _ => ?_, ?_⟩
    · rw [List.pairwise_map]
      refine (lst_sorted w m (x + 1)).imp ?_
      intro s t h
      rw [lexlt_cons]; exact h
    · refine List.Pairwise.imp ?_ (List.pairwise_lt_range' (s := f) (n := w - f) (step := 1))
      intro x y hxy s hs t ht
      obtain ⟨s, _, rfl⟩ := List.mem_map.1 hs
      obtain ⟨t, _, rfl⟩ := List.mem_map.1 ht
      simp only [lexlt]
      rw [if_pos (by omega)]
theorem lexlt_irrefl : ∀ s, lexlt s s = false
  | [] => rfl
  | x :: s => by rw [lexlt_cons]; exact lexlt_irrefl s
/-- All rising lists of at most so many wires, in order. -/
def alls (w m : Nat) : List (List Int) := (List.range (m + 1)).flatMap fun c => lst w c 0
theorem mem_alls (w m : Nat) (t : List Int) : t ∈ alls w m ↔ t.length ≤ m ∧ Up w 0 t := by
  unfold alls
  simp only [List.mem_flatMap, List.mem_range, mem_lst]
  constructor
  · rintro ⟨c, hc, h1, h2⟩; exact ⟨by omega, h2⟩
  · rintro ⟨h1, h2⟩; exact ⟨_, by omega, rfl, h2⟩
/-- Lists by how many numbers, then number by number. -/
def setlt (s t : List Int) : Bool := decide (s.length < t.length) || (decide (s.length = t.length) && lexlt s t)
theorem alls_sorted (w m : Nat) : (alls w m).Pairwise fun s t => setlt s t = true := by
  unfold alls
  rw [List.pairwise_flatMap]
  refine ⟨fun c _ => ?_, ?_⟩
  · refine List.Pairwise.imp_of_mem ?_ (lst_sorted w c 0)
    intro s t hs ht h
    have h1 := ((mem_lst w c 0 s).1 hs).1
    have h2 := ((mem_lst w c 0 t).1 ht).1
    simp [setlt, h1, h2, h]
  · refine List.Pairwise.imp ?_ (List.pairwise_lt_range (n := m + 1))
    intro x y hxy s hs t ht
    have h1 := ((mem_lst w x 0 s).1 hs).1
    have h2 := ((mem_lst w y 0 t).1 ht).1
    simp [setlt, h1, h2, hxy]
theorem alls_nodup (w m : Nat) : (alls w m).Nodup := by
  refine (alls_sorted w m).imp ?_
  intro s t h e
  subst e
  simp [setlt, lexlt_irrefl] at h
/-- Two lists that rise and hold the same numbers are the same. -/
theorem Up.lt {w : Int} : ∀ {f : Int} {t : List Int}, Up w f t → ∀ x ∈ t, f ≤ x ∧ x < w
  | _, [], _ => by simp
  | f, y :: t, h => by
    intro x hx
    rcases List.mem_cons.1 hx with rfl | hx
    · exact ⟨h.1, h.2.1⟩
    · have := Up.lt h.2.2 x hx
      have := h.1
      omega
theorem Up.ext {w : Int} : ∀ {f : Int} {s t : List Int}, Up w f s → Up w f t → (∀ x, x ∈ s ↔ x ∈ t) → s = t
  | _, [], [], _, _, _ => rfl
  | _, [], y :: t, _, _, h => by have := (h y).2 (by simp); simp at this
  | _, x :: s, [], _, _, h => by have := (h x).1 (by simp); simp at this
  | f, x :: s, y :: t, hs, ht, h => by
    have e : x = y := by
      have h1 := (h x).1 (by simp)
      have h2 := (h y).2 (by simp)
      rcases List.mem_cons.1 h1 with e | h1
      · exact e
      rcases List.mem_cons.1 h2 with e | h2
      · exact e.symm
      have := (Up.lt ht.2.2 x h1).1
      have := (Up.lt hs.2.2 y h2).1
      omega
    subst e
    rw [Up.ext hs.2.2 ht.2.2 ?_]
    intro z
    have hz := h z
    simp only [List.mem_cons] at hz
    constructor
    · intro hm
      rcases hz.1 (.inr hm) with e | e
      · have := (Up.lt hs.2.2 z hm).1; omega
      · exact e
    · intro hm
      rcases hz.2 (.inr hm) with e | e
      · have := (Up.lt ht.2.2 z hm).1; omega
      · exact e
/-- The numbers of the bits of a set. -/
def bitsOf (s : Nat) : List Int := ((List.range 16).filter fun i => s.testBit i).map fun (i : Nat) => (i : Int)
theorem mem_bitsOf (s : Nat) (x : Int) : x ∈ bitsOf s ↔ 0 ≤ x ∧ x < 16 ∧ s.testBit x.toNat = true := by
  unfold bitsOf
  simp only [List.mem_map, List.mem_filter, List.mem_range]
  constructor
  · rintro ⟨i, ⟨h1, h2⟩, rfl⟩
    exact ⟨by omega, by omega, by simpa using h2⟩
  · rintro ⟨h0, h1, h2⟩
    exact ⟨x.toNat, ⟨by omega, h2⟩, by omega⟩
theorem up_map (w : Int) : ∀ (l : List Nat) (f : Nat), l.Pairwise (· < ·) → (∀ x ∈ l, f ≤ x ∧ (x : Int) < w) → Up w f (l.map fun (i : Nat) => (i : Int))
  | [], _, _, _ => trivial
  | x :: l, f, hp, hb => by
    obtain ⟨h1, h2⟩ := List.pairwise_cons.1 hp
    have hx := hb x (by simp)
    refine ⟨by simpa using hx.1, hx.2, ?_⟩
    have := up_map w l (x + 1) h2 (fun y hy => ⟨h1 y hy, (hb y (by simp [hy])).2⟩)
    simpa using this
theorem bitsOf_up (s w : Nat) (hs : s < 2 ^ w) (hw : w ≤ 16) : Up (w : Int) 0 (bitsOf s) := by
  have := up_map (w : Int) ((List.range 16).filter fun i => s.testBit i) 0 (List.pairwise_lt_range.filter _) ?_
  · exact this
  · intro x hx
    simp only [List.mem_filter, List.mem_range] at hx
    refine ⟨Nat.zero_le _, ?_⟩
    have hx2 := Nat.ge_two_pow_of_testBit hx.2
    have : 2 ^ x < 2 ^ w := by omega
    have := (Nat.pow_lt_pow_iff_right (by decide : 1 < 2)).1 this
    omega
theorem testBit_fold : ∀ (l : List Int) (n i : Nat), (∀ x ∈ l, 0 ≤ x) → ((l.foldl (fun n x => n ||| 2 ^ x.toNat) n).testBit i = true ↔ n.testBit i = true ∨ (i : Int) ∈ l)
  | [], n, i, _ => by simp
  | x :: l, n, i, h => by
    rw [List.foldl_cons, testBit_fold l _ i (fun y hy => h y (by simp [hy])), Nat.testBit_or, Nat.testBit_two_pow]
    have := h x (by simp)
    simp only [Bool.or_eq_true, decide_eq_true_eq, List.mem_cons]
    constructor
    · rintro ((h | h) | h)
      · exact .inl h
      · exact .inr (.inl (by omega))
      · exact .inr (.inr h)
    · rintro (h | h | h)
      · exact .inl (.inl h)
      · exact .inl (.inr (by omega))
      · exact .inr h
theorem testBit_setN (l : List Int) (h : ∀ x ∈ l, 0 ≤ x) (i : Nat) : (setN l).testBit i = true ↔ (i : Int) ∈ l := by
  unfold setN
  rw [testBit_fold l 0 i h]
  simp
theorem bitsOf_setN (l : List Int) (h : Up 16 0 l) : bitsOf (setN l) = l := by
  have hl : ∀ x ∈ l, 0 ≤ x := fun x hx => (Up.lt h x hx).1
  have hb : setN l < 2 ^ 16 := by
    apply Nat.lt_pow_two_of_testBit
    intro i hi
    cases hq : (setN l).testBit i with
    | false => rfl
    | true => have := (Up.lt h _ ((testBit_setN l hl i).1 hq)).2; omega
  refine Up.ext (bitsOf_up _ 16 hb (by omega)) h ?_
  intro x
  rw [mem_bitsOf]
  constructor
  · rintro ⟨h0, h1, h2⟩
    have := (testBit_setN l hl _).1 h2
    rwa [Int.toNat_of_nonneg h0] at this
  · intro hx
    have hx' := Up.lt h x hx
    exact ⟨hx'.1, hx'.2, (testBit_setN l hl _).2 (by rwa [Int.toNat_of_nonneg hx'.1])⟩
theorem setN_bitsOf (s : Nat) (hs : s < 2 ^ 16) : setN (bitsOf s) = s := by
  apply Nat.eq_of_testBit_eq
  intro i
  have hl : ∀ x ∈ bitsOf s, 0 ≤ x := fun x hx => ((mem_bitsOf s x).1 hx).1
  have e := testBit_setN (bitsOf s) hl i
  rw [mem_bitsOf] at e
  cases hq : s.testBit i with
  | true =>
    refine e.2 ⟨by omega, ?_, by simpa using hq⟩
    have hx2 := Nat.ge_two_pow_of_testBit hq
    have : 2 ^ i < 2 ^ 16 := by omega
    have := (Nat.pow_lt_pow_iff_right (by decide : 1 < 2)).1 this
    omega
  | false =>
    cases hr : (setN (bitsOf s)).testBit i with
    | false => rfl
    | true => have := (e.1 hr).2.2; rw [show ((i : Nat) : Int).toNat = i from rfl, hq] at this; cases this
theorem Up.mono {w v : Int} (hv : w ≤ v) : ∀ {f : Int} {t : List Int}, Up w f t → Up v f t
  | _, [], _ => trivial
  | _, _ :: _, h => ⟨h.1, by have := h.2.1; omega, Up.mono hv h.2.2⟩
theorem setN_inj {s t : List Int} (hs : Up 16 0 s) (ht : Up 16 0 t) (e : setN s = setN t) : s = t := by rw [← bitsOf_setN s hs, ← bitsOf_setN t ht, e]
theorem setN_up_lt (w : Nat) (hw : w ≤ 16) {l : List Int} (h : Up w 0 l) : setN l < 2 ^ w := by
  have hl : ∀ x ∈ l, 0 ≤ x := fun x hx => (Up.lt h x hx).1
  apply Nat.lt_pow_two_of_testBit
  intro i hi
  cases hq : (setN l).testBit i with
  | false => rfl
  | true => have := (Up.lt h _ ((testBit_setN l hl i).1 hq)).2; omega
/-- The sets of at most so many wires, as numbers. -/
def sets (w m : Nat) : List Nat := (List.range (2 ^ w)).filter fun s => decide ((bitsOf s).length ≤ m)
theorem mem_sets (w m s : Nat) (hw : w ≤ 16) : s ∈ sets w m ↔ s ∈ (alls w m).map setN := by
  unfold sets
  simp only [List.mem_filter, List.mem_range, List.mem_map, mem_alls, decide_eq_true_eq]
  constructor
  · rintro ⟨h1, h2⟩
    exact ⟨bitsOf s, ⟨h2, bitsOf_up s w h1 hw⟩, setN_bitsOf s (Nat.lt_of_lt_of_le h1 (Nat.pow_le_pow_right (by decide) hw))⟩
  · rintro ⟨t, ⟨h1, h2⟩, rfl⟩
    exact ⟨setN_up_lt w hw h2, by rw [bitsOf_setN t (h2.mono (by omega))]; exact h1⟩
theorem sets_nodup (w m : Nat) : (sets w m).Nodup := List.Pairwise.filter _ List.nodup_range
theorem alls_sets_nodup (w m : Nat) (hw : w ≤ 16) : ((alls w m).map setN).Nodup := by
  unfold List.Nodup
  rw [List.pairwise_map]
  refine List.Pairwise.imp_of_mem ?_ (alls_nodup w m)
  intro s t hs ht h e
  have h1 := ((mem_alls w m s).1 hs).2
  have h2 := ((mem_alls w m t).1 ht).2
  exact h (setN_inj (h1.mono (by omega)) (h2.mono (by omega)) e)
theorem sets_perm (w m : Nat) (hw : w ≤ 16) : (sets w m).Perm ((alls w m).map setN) :=
  (List.perm_ext_iff_of_nodup (sets_nodup w m) (alls_sets_nodup w m hw)).2 fun s => mem_sets w m s hw
theorem ones_check : (List.range 1024).all (fun s => Lib.onesCount (s / 256) + Lib.onesCount (s % 256) == (bitsOf s).length) = true := by decide +kernel
theorem ones_f (s : Nat) (hs : s < 1024) : bits_OnesCount16.f (s : Int) = some (((bitsOf s).length : Nat) : Int) := by
  have h := List.all_eq_true.1 ones_check s (List.mem_range.2 hs)
  rw [beq_iff_eq] at h
  unfold bits_OnesCount16.f
  rw [if_pos (by omega), show ((s : Nat) : Int).toNat = s from rfl, h]
theorem u16_up (s : Nat) (hs : s < 65535) : IntKind.u16.wrap ((s : Int) + 1) = ((s + 1 : Nat) : Int) := by
  rw [wraps_u16' _ (by omega) (by simp; omega)]
  omega
theorem lst_go (w m : Nat) (h : ∀ f, (lst w m f).length ≤ 2 ^ (w - f)) : ∀ d x, x + d = w → ((List.range' x d).flatMap fun y => (lst w m (y + 1)).map (fun t => (y : Int) :: t)).length ≤ 2 ^ d
  | 0, x, _ => by simp
  | d + 1, x, hx => by
    have ih := lst_go w m h d (x + 1) (by omega)
    have h1 := h (x + 1)
    rw [show w - (x + 1) = d by omega] at h1
    rw [List.range'_succ, List.flatMap_cons, List.length_append, List.length_map, Nat.pow_succ]
    omega
theorem lst_len (w : Nat) : ∀ m f, (lst w m f).length ≤ 2 ^ (w - f)
  | 0, f => by
    simp only [lst, List.length_cons, List.length_nil]
    exact Nat.one_le_two_pow
  | m + 1, f => by
    by_cases hf : f ≤ w
    · exact lst_go w m (lst_len w m) (w - f) f (by omega)
    · simp only [lst]
      rw [show w - f = 0 by omega]
      simp
theorem own_f (l : List Int) (h : l.length ≤ 1000000) : spec_l1Own.f l = some l := by
  unfold spec_l1Own.f
  rw [Option.bind_some, if_pos (by simp; omega)]
  simp
theorem wiLists_l0 (w m : Nat) (b : List Int) (hw : w ≤ 10) (hm : m ≤ 100) (hb : b.length ≤ 1000) (ih : ∀ x : Nat, x < w → ∀ k, 20 * m + 20 ≤ k → spec_wiLists.f k (w : Int) (m : Int) (b ++ [(x : Int)]) = some ((lst w m (x + 1)).map fun t => (b ++ [(x : Int)]) ++ t)) : ∀ (d x k : Nat) (acc : List (List Int)), x + d = w → 20 * m + 21 + d ≤ k → acc.length + 2 ^ d ≤ 1000000 → spec_wiLists.l0 k (w : Int) ((m + 1 : Nat) : Int) b acc (x : Int) = some (acc ++ ((List.range' x d).flatMap fun y => (lst w m (y + 1)).map (fun t => (y : Int) :: t)).map fun t => b ++ t)
  | 0, x, k, acc, hx, hk, ha => by
    obtain ⟨k, rfl⟩ : ∃ q, k = q + 1 := ⟨k - 1, by omega⟩
    simp only [spec_wiLists.l0]
    rw [if_neg (by omega)]
    simp
  | d + 1, x, k, acc, hx, hk, ha => by
    obtain ⟨k, rfl⟩ : ∃ q, k = q + 1 := ⟨k - 1, by omega⟩
    have h1 := lst_len w m (x + 1)
    rw [show w - (x + 1) = d by omega] at h1
    rw [Nat.pow_succ] at ha
    have hr := wiLists_l0 w m b hw hm hb ih d (x + 1) k (acc ++ (lst w m (x + 1)).map fun t => (b ++ [(x : Int)]) ++ t) (by omega) (by omega) (by simp; omega)
    simp only [spec_wiLists.l0]
    rw [if_pos (by omega), own_f b (by omega), Option.bind_some, if_pos (by omega), show wrap64 (((m + 1 : Nat) : Int) - 1) = (m : Int) by rw [w64 (by omega) (by omega)]; omega, ih x (by omega) k (by omega), Option.bind_some, if_pos (by simp; omega), show wrap64 ((x : Int) + 1) = ((x + 1 : Nat) : Int) by rw [w64 (by omega) (by omega)]; omega, hr]
    rw [List.range'_succ, List.flatMap_cons, List.map_append, List.map_map, List.append_assoc]
    have e : (fun t : List Int => (b ++ [(x : Int)]) ++ t) = ((fun t => b ++ t) ∘ fun t => (x : Int) :: t) := by funext t; simp
    rw [e]
theorem wiLists_f (w : Nat) (hw : w ≤ 10) : ∀ (m : Nat) (b : List Int) (f k : Nat), m ≤ 100 → b.length + m ≤ 200 → f ≤ 1000 → ((b = [] ∧ f = 0) ∨ ∃ b' : List Int, ∃ y : Nat, b = b' ++ [(y : Int)] ∧ f = y + 1) → 20 * m + 20 ≤ k → spec_wiLists.f k (w : Int) (m : Int) b = some ((lst w m f).map fun t => b ++ t)
  | 0, b, f, k, _, _, _, _, hk => by
    obtain ⟨k, rfl⟩ : ∃ q, k = q + 1 := ⟨k - 1, by omega⟩
    simp only [spec_wiLists.f]
    rw [if_pos (by simp)]
    simp [lst]
  | m + 1, b, f, k, hm, hb, hf, hfr, hk => by
    obtain ⟨k, rfl⟩ : ∃ q, k = q + 2 := ⟨k - 2, by omega⟩
    have hl : spec_wiLists.l0 k (w : Int) ((m + 1 : Nat) : Int) b [] (f : Int) = some ((lst w (m + 1) f).map fun t => b ++ t) := by
      by_cases hfw : f ≤ w
      · have hp : (2 : Nat) ^ (w - f) ≤ 2 ^ 10 := Nat.pow_le_pow_right (by decide) (by omega)
        rw [wiLists_l0 w m b hw (by omega) (by omega) (fun x hx k hk => wiLists_f w hw m (b ++ [(x : Int)]) (x + 1) k (by omega) (by simp; omega) (by omega) (.inr ⟨b, x, rfl, rfl⟩) hk) (w - f) f k [] (by omega) (by omega) (by simp; omega)]
        simp only [lst, List.nil_append]
      · obtain ⟨k, rfl⟩ : ∃ q, k = q + 1 := ⟨k - 1, by omega⟩
        simp only [spec_wiLists.l0, lst]
        rw [if_neg (by omega), show w - f = 0 by omega]
        simp
    simp only [spec_wiLists.f, spec_wiLists.j0]
    rw [if_neg (by omega)]
    rcases hfr with ⟨rfl, rfl⟩ | ⟨b', y, rfl, rfl⟩
    · rw [if_neg (by simp)]
      exact hl
    · have e1 : wrap64 (((b' ++ [(y : Int)]).length : Int) - 1) = (b'.length : Int) := by
        rw [w64 (by rw [List.length_append]; simp <;> omega) (by simp at hb ⊢; omega)]; simp
      have e2 : rd (b' ++ [(y : Int)]) (b'.length : Int) = (y : Int) := by unfold rd; simp
      rw [if_pos (by rw [List.length_append]; simp <;> omega), e1, if_pos (by omega), if_pos (by rw [List.length_append]; simp <;> omega), e2, show wrap64 ((y : Int) + 1) = ((y + 1 : Nat) : Int) by rw [w64 (by omega) (by omega)]; omega]
      exact hl
theorem wiAll_l0 (w m : Nat) (hw : w ≤ 10) (hm : m ≤ 10) : ∀ (d c k : Nat) (acc : List (List Int)), c + d = m + 1 → 400 + d ≤ k → acc.length + d * 1024 ≤ 1000000 → spec_wiAll.l0 k (w : Int) (m : Int) acc (c : Int) = some (acc ++ (List.range' c d).flatMap fun c => lst w c 0)
  | 0, c, k, acc, hc, hk, ha => by
    obtain ⟨k, rfl⟩ : ∃ q, k = q + 1 := ⟨k - 1, by omega⟩
    simp only [spec_wiAll.l0]
    rw [if_neg (by omega)]
    simp
  | d + 1, c, k, acc, hc, hk, ha => by
    obtain ⟨k, rfl⟩ : ∃ q, k = q + 1 := ⟨k - 1, by omega⟩
    have h1 := lst_len w c 0
    have hp : (2 : Nat) ^ (w - 0) ≤ 2 ^ 10 := Nat.pow_le_pow_right (by decide) (by omega)
    have h2 := wiLists_f w hw c [] 0 k (by omega) (by simp; omega) (by omega) (.inl ⟨rfl, rfl⟩) (by omega)
    simp only [List.nil_append, List.map_id'] at h2
    simp only [spec_wiAll.l0]
    rw [if_pos (by omega), h2, Option.bind_some, if_pos (by omega), show wrap64 ((c : Int) + 1) = ((c + 1 : Nat) : Int) by rw [w64 (by omega) (by omega)]; omega, wiAll_l0 w m hw hm d (c + 1) k _ (by omega) (by omega) (by simp; omega), List.range'_succ, List.flatMap_cons, List.append_assoc]
theorem wiAll_f (w m : Nat) (hw : w ≤ 10) (hm : m ≤ 10) {k : Nat} (hk : 500 ≤ k) : spec_wiAll.f k (w : Int) (m : Int) = some (alls w m) := by
  unfold spec_wiAll.f alls
  have h := wiAll_l0 w m hw hm (m + 1) 0 k [] (by omega) (by omega) (by simp; omega)
  rw [show (0 : Int) = ((0 : Nat) : Int) from rfl, h, List.range_eq_range']
  simp
theorem alls_len (w m : Nat) (hw : w ≤ 10) : (alls w m).length ≤ 1024 := by
  have h1 := (sets_perm w m (by omega)).length_eq
  have h2 : (sets w m).length ≤ 2 ^ w := by
    unfold sets
    have := List.length_filter_le (fun s => decide ((bitsOf s).length ≤ m)) (List.range (2 ^ w))
    rwa [List.length_range] at this
  have hp : (2 : Nat) ^ w ≤ 2 ^ 10 := Nat.pow_le_pow_right (by decide) hw
  rw [List.length_map] at h1
  omega
theorem alls_up (w m : Nat) (c : List Int) (h : c ∈ alls w m) : c.length ≤ m ∧ ∀ x ∈ c, 0 ≤ x ∧ x < (w : Int) := by
  obtain ⟨h1, h2⟩ := (mem_alls w m c).1 h
  exact ⟨h1, fun x hx => Up.lt h2 x hx⟩
/-- No value of f stands twice, nor among those seen. -/
def nodF {α β : Type} [DecidableEq β] (f : α → β) (seen : List β) : List α → Bool
  | [] => true
  | x :: t => if f x ∈ seen then false else nodF f (seen ++ [f x]) t
theorem nodF_iff {α β : Type} [DecidableEq β] (f : α → β) : ∀ (L : List α) (seen : List β), nodF f seen L = true ↔ (L.map f).Nodup ∧ ∀ x ∈ L, f x ∉ seen
  | [], seen => by simp [nodF]
  | x :: t, seen => by
    simp only [nodF]
    by_cases h : f x ∈ seen
    · rw [if_pos h]; simp [h]
    · rw [if_neg h, nodF_iff f t]
      simp only [List.map_cons, List.nodup_cons, List.mem_map, List.mem_append, List.mem_cons, List.not_mem_nil, or_false]
      constructor
      · rintro ⟨h1, h2⟩
        refine ⟨⟨?_, h1⟩, ?_⟩
        · rintro ⟨y, hy, e⟩; exact h2 y hy (.inr e)
        · rintro y (rfl | hy)
          · exact h
          · exact fun hm => h2 y hy (.inl hm)
      · rintro ⟨⟨h1, h2⟩, h3⟩
        exact ⟨h2, fun y hy hm => hm.elim (h3 y (.inr hy)) (fun e => h1 ⟨y, hy, e⟩)⟩
/-- The results of tests for a set of broken wires, as bytes. -/
def key (l : List (List Int)) (s : Nat) : List UInt8 := (strOfNums (resN l s)).data.toList
/-- .. and as a number. -/
def val (l : List (List Int)) (s : Nat) : Nat := spec_wiTells.p_val (strOfNums (resN l s)) (strOfNums (resN l s)).size
theorem resN_len (l : List (List Int)) (s : Nat) : (resN l s).length = l.length := by simp [resN]
theorem pv_succ (s : ByteArray) (x : Nat) : spec_wiTells.p_val s (x + 1) = spec_wiTells.p_val s x + (if rd (bytesOf s) (x : Int) = 49 then 2 ^ x else 0) := by
  unfold spec_wiTells.p_val
  rw [List.range_succ, List.map_append, List.sum_append]
  simp
theorem pv_lt (s : ByteArray) : ∀ x : Nat, spec_wiTells.p_val s x < 2 ^ x
  | 0 => by simp [spec_wiTells.p_val]
  | x + 1 => by
    have ih := pv_lt s x
    have h2 : (2 : Nat) ^ (x + 1) = 2 ^ x + 2 ^ x := by rw [Nat.pow_succ]; omega
    rw [pv_succ]
    split <;> omega
theorem val_ltn (l : List (List Int)) (s : Nat) : val l s < 2 ^ l.length := by
  have h := pv_lt (strOfNums (resN l s)) (strOfNums (resN l s)).size
  rw [strOfNums_size, resN_len] at h
  unfold val
  rw [strOfNums_size, resN_len]
  exact h
theorem p_inj (a b : ByteArray) : ∀ x : Nat, spec_wiTells.p_val a x = spec_wiTells.p_val b x → ∀ j : Nat, j < x → (rd (bytesOf a) (j : Int) = 49 ↔ rd (bytesOf b) (j : Int) = 49)
  | 0, _, j, hj => by omega
  | x + 1, h, j, hj => by
    rw [pv_succ, pv_succ] at h
    have h1 := pv_lt a x
    have h2 := pv_lt b x
    have hx : spec_wiTells.p_val a x = spec_wiTells.p_val b x ∧ (rd (bytesOf a) (x : Int) = 49 ↔ rd (bytesOf b) (x : Int) = 49) := by
      by_cases ha : rd (bytesOf a) (x : Int) = 49 <;> by_cases hb : rd (bytesOf b) (x : Int) = 49 <;> simp only [ha, hb, if_true, if_false, true_and, and_true, iff_true, true_iff] at h ⊢ <;> first | omega | (exfalso; omega) | (refine ⟨by omega, ?_⟩; simp)
    by_cases e : j = x
    · subst e; exact hx.2
    · exact p_inj a b x hx.1 j (by omega)
theorem rd_res (l : List (List Int)) (s j : Nat) (hj : j < (resN l s).length) : rd (bytesOf (strOfNums (resN l s))) (j : Int) = (resN l s)[j] := by
  have hj' : j < l.length := by rwa [resN_len] at hj
  unfold rd bytesOf
  rw [strOfNums_data]
  simp only [resN, List.map_map, Int.toNat_natCast, List.getD_eq_getElem?_getD, List.getElem?_map, List.getElem_map, List.getElem?_eq_getElem hj', Option.map_some, Option.getD_some, Function.comp]
  split <;> rfl
theorem res_cases (l : List (List Int)) (s j : Nat) (hj : j < (resN l s).length) : (resN l s)[j] = 48 ∨ (resN l s)[j] = 49 := by
  simp only [resN, List.getElem_map]
  split
  · exact .inl rfl
  · exact .inr rfl
theorem key_val (l : List (List Int)) (s t : Nat) : key l s = key l t ↔ val l s = val l t := by
  constructor
  · intro h
    have e : strOfNums (resN l s) = strOfNums (resN l t) := by
      apply ByteArray.ext
      apply Array.toList_inj.1
      exact h
    unfold val
    rw [e]
  · intro h
    unfold val at h
    rw [strOfNums_size, strOfNums_size, resN_len, resN_len] at h
    have hi := p_inj _ _ _ h
    have e : resN l s = resN l t := by
      apply List.ext_getElem
      · rw [resN_len, resN_len]
      · intro j h1 h2
        have := hi j (by rwa [resN_len] at h1)
        rw [rd_res l s j h1, rd_res l t j h2] at this
        rcases res_cases l s j h1 with e1 | e1 <;> rcases res_cases l t j h2 with e2 | e2 <;> rw [e1, e2] at this ⊢ <;> simp at this
    unfold key
    rw [e]
/-- Do these tests tell the sets of at most so many wires? -/
def tol (l : List (List Int)) (w m : Nat) : Bool := nodF (key l) [] (sets w m)
theorem nodup_map_iff {α β γ : Type} (f : α → β) (g : α → γ) (h : ∀ s t, f s = f t ↔ g s = g t) (L : List α) : (L.map f).Nodup ↔ (L.map g).Nodup := by
  unfold List.Nodup
  rw [List.pairwise_map, List.pairwise_map]
  constructor
  · exact fun hp => hp.imp (fun hne e => hne ((h _ _).2 e))
  · exact fun hp => hp.imp (fun hne e => hne ((h _ _).1 e))
theorem tol_spec (l : List (List Int)) (w m : Nat) (hw : w ≤ 16) : nodF (fun c => val l (setN c)) [] (alls w m) = tol l w m := by
  rw [Bool.eq_iff_iff]
  unfold tol
  rw [nodF_iff, nodF_iff]
  simp only [List.not_mem_nil, not_false_eq_true, implies_true, and_true]
  have h1 := ((sets_perm w m hw).map (key l)).nodup_iff
  rw [h1, nodup_map_iff (key l) (val l) (key_val l), List.map_map]
  rfl
theorem getD_set (seen : List Bool) (a b : Nat) (ha : a < seen.length) : (seen.set a true).getD b false = if b = a then true else seen.getD b false := by
  rw [List.getD_eq_getElem?_getD, List.getD_eq_getElem?_getD, List.getElem?_set]
  by_cases e : a = b
  · subst e; simp [ha]
  · rw [if_neg e, if_neg (fun h => e h.symm)]
theorem wiTells_l0 (l : List (List Int)) (w m : Nat) (hw : w ≤ 10) (hm : m ≤ 10) (hn : l.length ≤ 12) (ht : ∀ c ∈ l, c.length ≤ 1048576 ∧ ∀ x ∈ c, 0 ≤ x ∧ x ≤ 9) : ∀ (d i k : Nat) (seen : List Bool) (vals : List Nat), i + d = (alls w m).length → 1100001 + d < k → seen.length = 2 ^ l.length → (∀ v, v < 2 ^ l.length → (seen.getD v false = true ↔ v ∈ vals)) → spec_wiTells.l0 k l (alls w m) seen i = some (nodF (fun c => val l (setN c)) vals ((alls w m).drop i))
  | 0, i, k, seen, vals, hi, hk, hs, hv => by
    obtain ⟨k, rfl⟩ : ∃ q, k = q + 1 := ⟨k - 1, by omega⟩
    simp only [spec_wiTells.l0]
    rw [if_neg (by omega), List.drop_eq_nil_of_le (by omega)]
    rfl
  | d + 1, i, k, seen, vals, hi, hk, hs, hv => by
    obtain ⟨k, rfl⟩ : ∃ q, k = q + 1 := ⟨k - 1, by omega⟩
    have ha : i < (alls w m).length := by omega
    have hup := alls_up w m _ (List.getElem_mem ha)
    have hup2 : ∀ x ∈ (alls w m)[i], 0 ≤ x ∧ x ≤ 9 := fun x hx => by have := hup.2 x hx; omega
    have hlt := setN_lt (alls w m)[i] hup2
    have e : (alls w m).getD i [] = (alls w m)[i] := by simp [List.getD_eq_getElem?_getD, ha]
    have hsz : (strOfNums (resN l (setN (alls w m)[i]))).size = l.length := by rw [strOfNums_size, resN_len]
    have hvl := val_ltn l (setN (alls w m)[i])
    simp only [spec_wiTells.l0]
    rw [if_pos ha, e, wiBits_f _ (by omega) hup2 (by omega), Option.bind_some, wiResults_f l _ hlt hn ht (by omega), Option.bind_some, if_pos (by omega)]
    show (if val l (setN (alls w m)[i]) < seen.length then (if seen.getD (val l (setN (alls w m)[i])) false = true then some false else spec_wiTells.l0 k l (alls w m) (seen.set (val l (setN (alls w m)[i])) true) (i + 1)) else none) = _
    rw [if_pos (by omega), List.drop_eq_getElem_cons ha]
    simp only [nodF]
    by_cases hc : val l (setN (alls w m)[i]) ∈ vals
    · rw [if_pos ((hv _ hvl).2 hc), if_pos hc]
    · rw [if_neg (fun h => hc ((hv _ hvl).1 h)), if_neg hc]
      refine wiTells_l0 l w m hw hm hn ht d (i + 1) k _ _ (by omega) (by omega) (by rw [List.length_set]; exact hs) ?_
      intro v hvv
      rw [getD_set _ _ _ (by omega)]
      by_cases e2 : v = val l (setN (alls w m)[i])
      · rw [if_pos e2]; simp [e2]
      · rw [if_neg e2, hv v hvv]; simp [e2]
theorem wiTells_f (l : List (List Int)) (w m : Nat) (hw : w ≤ 10) (hm : m ≤ 10) (hn : l.length ≤ 12) (ht : ∀ c ∈ l, c.length ≤ 1048576 ∧ ∀ x ∈ c, 0 ≤ x ∧ x ≤ 9) {k : Nat} (hk : 1200000 < k) : spec_wiTells.f k (w : Int) l (m : Int) = some (tol l w m) := by
  have hl := alls_len w m hw
  unfold spec_wiTells.f
  rw [if_pos (by omega), wiAll_f w m hw hm (by omega), Option.bind_some, if_pos (by omega), wiTells_l0 l w m hw hm hn ht (alls w m).length 0 k _ [] (by omega) (by omega) (by rw [List.length_replicate]) ?_, List.drop_zero, tol_spec l w m (by omega)]
  intro v hv
  simp [List.getD_eq_getElem?_getD, List.getElem?_replicate, hv]
theorem tellsUpTo_l0 (l : List (List Int)) (w m : Nat) (hw : w ≤ 10) (hn : l.length ≤ 12) (ht : ∀ c ∈ l, c.length ≤ 1048576 ∧ ∀ x ∈ c, 0 ≤ x ∧ x ≤ 9) : ∀ (d s k : Nat) (seen : List (List UInt8)), s + d = 2 ^ w → 1100001 + d < k → seen.length ≤ s → impl_tellsUpTo.l0 k l (m : Int) ((2 ^ w : Nat) : Int) seen (s : Int) = some (nodF (key l) seen ((List.range' s d).filter fun s => decide ((bitsOf s).length ≤ m)))
  | 0, s, k, seen, hs, hk, hl => by
    obtain ⟨k, rfl⟩ : ∃ q, k = q + 1 := ⟨k - 1, by omega⟩
    simp only [impl_tellsUpTo.l0]
    rw [if_neg (by omega)]
    rfl
  | d + 1, s, k, seen, hs, hk, hl => by
    obtain ⟨k, rfl⟩ : ∃ q, k = q + 1 := ⟨k - 1, by omega⟩
    have hp : (2 : Nat) ^ w ≤ 2 ^ 10 := Nat.pow_le_pow_right (by decide) hw
    simp only [impl_tellsUpTo.l0]
    rw [if_pos (by omega), ones_f s (by omega), Option.bind_some, u16_up s (by omega), List.range'_succ]
    by_cases hc : m < (bitsOf s).length
    · rw [if_pos (by omega), List.filter_cons_of_neg (by simp; omega)]
      exact tellsUpTo_l0 l w m hw hn ht d (s + 1) k seen (by omega) (by omega) (by omega)
    · rw [if_neg (by omega), List.filter_cons_of_pos (by simp; omega), results_f l s (by omega) hn ht (by omega), Option.bind_some, if_pos ⟨by rw [strOfNums_size, resN_len]; simp only [maxLen]; omega, by omega⟩]
      simp only [nodF]
      show (if key l s ∈ seen then some false else impl_tellsUpTo.l0 k l (m : Int) ((2 ^ w : Nat) : Int) (seen ++ [key l s]) ((s + 1 : Nat) : Int)) = _
      by_cases hm : key l s ∈ seen
      · rw [if_pos hm, if_pos hm]
      · rw [if_neg hm, if_neg hm]
        exact tellsUpTo_l0 l w m hw hn ht d (s + 1) k _ (by omega) (by omega) (by simp; omega)
theorem tellsUpTo_f (l : List (List Int)) (w m : Nat) (hw : w ≤ 10) (hn : l.length ≤ 12) (ht : ∀ c ∈ l, c.length ≤ 1048576 ∧ ∀ x ∈ c, 0 ≤ x ∧ x ≤ 9) {k : Nat} (hk : 1200000 < k) : impl_tellsUpTo.f k (w : Int) l (m : Int) = some (tol l w m) := by
  have hp : (2 : Nat) ^ w ≤ 2 ^ 10 := Nat.pow_le_pow_right (by decide) hw
  unfold impl_tellsUpTo.f
  rw [if_pos (by omega), shl_u16 w (by omega), show (0 : Int) = ((0 : Nat) : Int) from rfl, tellsUpTo_l0 l w m hw hn ht (2 ^ w) 0 k [] (by omega) (by omega) (by simp)]
  unfold tol sets
  rw [List.range_eq_range']
theorem l1In_f (a lo hi : Int) : spec_l1In.f a lo hi = some (decide (lo ≤ a) && decide (a ≤ hi)) := by
  unfold spec_l1In.f
  by_cases h : a ≥ lo
  · rw [if_pos h]; simp [show lo ≤ a from h]
  · rw [if_neg h]; simp [show ¬ lo ≤ a from h]
theorem within_f (a lo hi : Int) : impl_within.f a lo hi = some (decide (lo ≤ a) && decide (a ≤ hi)) := by
  unfold impl_within.f
  by_cases h : lo ≤ a
  · rw [if_pos h]; simp [h]
  · rw [if_neg h]; simp [h]
theorem nidx_succ (p : Nat → Bool) (n : Nat) : impl_NeedlessTests.p_idx p (n + 1) = if p n = true then impl_NeedlessTests.p_idx p n ++ [(n : Int)] else impl_NeedlessTests.p_idx p n := by
  unfold impl_NeedlessTests.p_idx
  rw [List.range_succ, List.filter_append, List.map_append]
  cases h : p n <;> simp [List.filter_cons, h]
theorem nidx_le (p : Nat → Bool) (n : Nat) : (impl_NeedlessTests.p_idx p n).length ≤ n := by
  unfold impl_NeedlessTests.p_idx
  rw [List.length_map]
  exact Nat.le_trans (List.length_filter_le _ _) (by simp)
theorem wiLess_f (l : List (List Int)) (i : Nat) (hn : l.length ≤ 1000) (hi : i < l.length) : spec_wiLess.f l (i : Int) = some (l.eraseIdx i) := by
  have e : wrap64 ((i : Int) + 1) = ((i + 1 : Nat) : Int) := by rw [w64 (by omega) (by omega)]; omega
  unfold spec_wiLess.f
  rw [Option.bind_some, if_pos (by omega), if_pos (by omega), Option.bind_some, Int.toNat_natCast, if_pos (by simp; omega), Option.bind_some, e, if_pos (by omega), if_pos (by omega), Option.bind_some, Int.toNat_natCast, if_pos (by simp; omega), List.nil_append, List.eraseIdx_eq_take_drop_succ]
theorem less_f (l : List (List Int)) (w m y : Nat) (hw : w ≤ 10) (hn : l.length ≤ 12) (ht : ∀ c ∈ l, c.length ≤ 1048576 ∧ ∀ x ∈ c, 0 ≤ x ∧ x ≤ 9) (hy : y < l.length) : impl_NeedlessTests.less (w : Int) l (m : Int) y = some (tol (l.eraseIdx y) w m) := by
  have hlen : (l.eraseIdx y).length ≤ 12 := by rw [List.length_eraseIdx]; split <;> omega
  unfold impl_NeedlessTests.less impl_without_int.f slices_Clone_int_int.f
  rw [if_pos (by omega), Option.bind_some, if_pos ⟨by omega, by omega, by omega⟩, Option.bind_some, Int.toNat_natCast]
  exact tellsUpTo_f (l.eraseIdx y) w m hw hlen (fun c hc => ht c (List.mem_of_mem_eraseIdx hc)) (by omega)
theorem need_l0 (l : List (List Int)) (w m : Nat) (hw : w ≤ 10) (hm : m ≤ 10) (hn : l.length ≤ 12) (ht : ∀ c ∈ l, c.length ≤ 1048576 ∧ ∀ x ∈ c, 0 ≤ x ∧ x ≤ 9) (B : Nat) (hB : 1200000 < B) (p : Nat → Bool) (hp : ∀ y, y < l.length → p y = tol (l.eraseIdx y) w m) : ∀ (d i k : Nat), i + d = l.length → d + B < k → spec_NeedlessTests.l0 k (w : Int) l (m : Int) (impl_NeedlessTests.p_idx p i) (l.length : Int) (i : Int) = some (impl_NeedlessTests.p_idx p l.length, true)
  | 0, i, k, hi, hk => by
    obtain ⟨k, rfl⟩ : ∃ q, k = q + 1 := ⟨k - 1, by omega⟩
    obtain rfl : i = l.length := by omega
    simp only [spec_NeedlessTests.l0]
    rw [if_neg (by omega)]
  | d + 1, i, k, hi, hk => by
    obtain ⟨k, rfl⟩ : ∃ q, k = q + 1 := ⟨k - 1, by omega⟩
    have ha : i < l.length := by omega
    have hlen : (l.eraseIdx i).length ≤ 12 := by rw [List.length_eraseIdx]; split <;> omega
    have hle := nidx_le p i
    have ih := need_l0 l w m hw hm hn ht B hB p hp d (i + 1) k (by omega) (by omega)
    have e : wrap64 ((i : Int) + 1) = ((i + 1 : Nat) : Int) := by rw [w64 (by omega) (by omega)]; omega
    rw [nidx_succ] at ih
    simp only [spec_NeedlessTests.l0]
    rw [if_pos (by omega), wiLess_f l i (by omega) ha, Option.bind_some, wiTells_f (l.eraseIdx i) w m hw hm hlen (fun c hc => ht c (List.mem_of_mem_eraseIdx hc)) (by omega), Option.bind_some, ← hp i ha, e]
    cases hq : p i with
    | true =>
      rw [hq, if_pos rfl] at ih
      rw [if_pos rfl, if_pos (by omega)]
      exact ih
    | false =>
      rw [hq, if_neg (by decide)] at ih
      rw [if_neg (by decide)]
      exact ih
theorem FnExactNeedlessTests : ∀ (a0 : Int) (l1 : List (List Int)) (a2 : Int), (Lit.int .i64 a0).wf = true → l1.length ≤ maxLen → (∀ x ∈ l1, (fun l => l.length ≤ maxLen ∧ ∀ x ∈ l, (fun n => (Lit.int .i64 n).wf = true) x) x) → (Lit.int .i64 a2).wf = true → ∃ k, laws_FnExactNeedlessTests.f k a0 l1 a2 = some true := by
  intro a l b _ _ _ _
  refine ⟨4000000 + 1, ?_⟩
  unfold laws_FnExactNeedlessTests.f
  by_cases z1 : 1048576 < l.length + Aux.tot l
  · rw [if_pos z1]
  rw [if_neg z1]
  have h1 : l.length ≤ 1048576 := by omega
  have h2 : ∀ x ∈ l, x.length ≤ 1048576 := fun x hx => by have := Aux.row_le_tot l x hx; omega
  have hj : ∀ k, spec_NeedlessTests.j0 (k + 1) a l b true = some (([] : List Int), false) := fun k => by simp only [spec_NeedlessTests.j0]; rw [if_pos trivial]
  unfold spec_NeedlessTests.f impl_NeedlessTests.f impl_TellsUpTo.f
  rw [wiGood_f a l h1 h2 (by omega), areTests_f a l h2, Option.bind_some, Option.bind_some]
  cases ht : tst a l with
  | false =>
    rw [if_neg (by decide), if_neg (by decide), hj]
    simp
  | true =>
    rw [if_pos rfl, if_pos rfl, l1In_f, within_f, Option.bind_some, Option.bind_some]
    cases hr : (decide (0 ≤ b) && decide (b ≤ a)) with
    | false =>
      rw [if_neg (by decide), if_neg (by decide), hj]
      simp
    | true =>
      obtain ⟨t1, t2, t3, t4⟩ := tst_cases ht
      have hall : ∀ c ∈ l, c.length ≤ 1048576 ∧ ∀ x ∈ c, 0 ≤ x ∧ x ≤ 9 := fun c hc => ⟨h2 c hc, rising_wires a c t1 t2 (t4 c hc).2⟩
      simp only [Bool.and_eq_true, decide_eq_true_eq] at hr
      obtain ⟨w, rfl⟩ : ∃ w : Nat, a = w := ⟨a.toNat, by omega⟩
      obtain ⟨m, rfl⟩ : ∃ m : Nat, b = m := ⟨b.toNat, by omega⟩
      rw [if_pos rfl, if_pos rfl, wiTells_f l w m (by omega) (by omega) t3 hall (by omega), tellsUpTo_f l w m (by omega) t3 hall (by omega), Option.bind_some, Option.bind_some]
      cases hq : tol l w m with
      | false =>
        rw [show (!false) = true from rfl, hj]
        simp
      | true =>
        obtain ⟨p, hpe⟩ : ∃ p : Nat → Bool, p = fun y => (impl_NeedlessTests.less (w : Int) l (m : Int) y).getD false := ⟨_, rfl⟩
        have hp : ∀ y, y < l.length → p y = tol (l.eraseIdx y) w m := fun y hy => by
          rw [hpe]
          show (impl_NeedlessTests.less (w : Int) l (m : Int) y).getD false = _
          rw [less_f l w m y (by omega) t3 hall hy]
          rfl
        have h := need_l0 l w m (by omega) (by omega) t3 hall 1200001 (by omega) p hp l.length 0 4000000 (by omega) (by omega)
        have e0 : impl_NeedlessTests.p_idx p 0 = [] := rfl
        rw [e0, show ((0 : Nat) : Int) = 0 from rfl] at h
        have hs : spec_NeedlessTests.j0 (4000000 + 1) (w : Int) l (m : Int) (!true) = some (impl_NeedlessTests.p_idx p l.length, true) := by
          simp only [spec_NeedlessTests.j0]
          rw [if_neg (by decide)]
          exact h
        have hle := nidx_le p l.length
        rw [hs, Option.bind_some, Option.bind_some, if_pos (show ((true, true) : Bool × Bool).1 = true from rfl), if_pos ⟨by omega, fun y hy => by rw [less_f l w m y (by omega) t3 hall hy]; rfl⟩, ← hpe, Option.bind_some, if_pos ⟨rfl, by show (impl_NeedlessTests.p_idx p l.length).length ≤ _; omega⟩]

end Go.Proofs.Ytbmhgmnlkeebcab.Pure
