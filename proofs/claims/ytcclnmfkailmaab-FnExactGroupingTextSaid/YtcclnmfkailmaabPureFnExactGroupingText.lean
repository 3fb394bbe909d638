/- For every list the program's GroupingText and the reference's agree; no conditions. -/
import Derived.Test.YtcclnmfkailmaabPFnExactGroupingTextx2
set_option linter.unusedSimpArgs false
set_option linter.unusedVariables false
namespace Go.Proofs.Ytcclnmfkailmaab.Pure
open Go.RowKit Go.Proofs.Ytcclnmfkailmaab.PFnExactGroupingText Go.Proofs.YtcclnmfkailmaabW.PrintWords Go.Proofs.YtcclnmfkailmaabW.PrintLast

theorem w64 {x : Int} (h0 : -9223372036854775808 ≤ x) (h1 : x ≤ 9223372036854775807) : wrap64 x = x := by unfold wrap64; omega
theorem up64 {i n : Nat} (h : i < n) (hn : n ≤ 4611686018427387904) : wrap64 ((i : Int) + 1) = ((i + 1 : Nat) : Int) := by rw [w64 (by omega) (by omega)]; omega
theorem rd_lt {xs : List Int} {i : Nat} (h : i < xs.length) : rd xs (i : Int) = xs[i] := by unfold rd; simp [List.getD_eq_getElem?_getD, h]
theorem eqIntS_l0 (a b : List Int) (hl : a.length = b.length) (hn : a.length ≤ 4611686018427387904) : ∀ (d i k : Nat), i + d = a.length → d < k → laws_eqIntS.l0 k a b (i : Int) = some (decide (a.drop i = b.drop i))
  | 0, i, k, hi, hk => by
    obtain ⟨k, rfl⟩ : ∃ q, k = q + 1 := ⟨k - 1, by omega⟩
    simp only [laws_eqIntS.l0]
    rw [if_neg (by omega), List.drop_eq_nil_of_le (by omega), List.drop_eq_nil_of_le (by omega)]
    simp
  | d + 1, i, k, hi, hk => by
    obtain ⟨k, rfl⟩ : ∃ q, k = q + 1 := ⟨k - 1, by omega⟩
    have ih := eqIntS_l0 a b hl hn d (i + 1) k (by omega) (by omega)
    have ha : i < a.length := by omega
    have hb : i < b.length := by omega
    simp only [laws_eqIntS.l0]
    rw [if_pos (by omega), if_pos (by omega), if_pos (by omega), up64 ha hn, ih, rd_lt ha, rd_lt hb, List.drop_eq_getElem_cons ha, List.drop_eq_getElem_cons hb]
    by_cases e : a[i] = b[i]
    · rw [if_pos e, e]; simp only [List.cons.injEq, true_and]
    · rw [if_neg e]; simp only [List.cons.injEq, e, false_and, decide_false]
theorem eqIntS_f (a b : List Int) (hn : a.length ≤ 4611686018427387904) {k : Nat} (hk : a.length < k) : laws_eqIntS.f k a b = some (decide (a = b)) := by
  unfold laws_eqIntS.f
  by_cases h : a.length = b.length
  · rw [if_pos (by omega)]
    exact eqIntS_l0 a b h hn a.length 0 k (by omega) hk
  · rw [if_neg (by omega), decide_eq_false (fun e => h (by rw [e]))]
theorem toIntS_l0 (a : List Int) (hn : a.length ≤ 4611686018427387904) : ∀ (d i k : Nat), i + d = a.length → d < k → laws_toIntS.l0 k a (a.take i ++ List.replicate d 0) (i : Int) = some a
  | 0, i, k, hi, hk => by
    obtain ⟨k, rfl⟩ : ∃ q, k = q + 1 := ⟨k - 1, by omega⟩
    simp only [laws_toIntS.l0]
    rw [if_neg (by omega), List.take_of_length_le (by omega)]
    simp
  | d + 1, i, k, hi, hk => by
    obtain ⟨k, rfl⟩ : ∃ q, k = q + 1 := ⟨k - 1, by omega⟩
    have ih := toIntS_l0 a hn d (i + 1) k (by omega) (by omega)
    have ha : i < a.length := by omega
    simp only [laws_toIntS.l0]
    rw [if_pos (by omega), if_pos (by omega), if_pos (by simp; omega), up64 ha hn, rd_lt ha]
    have he : (a.take i ++ List.replicate (d + 1) (0 : Int)).set ((i : Nat) : Int).toNat a[i] = a.take (i + 1) ++ List.replicate d 0 := by
      rw [List.set_append_right _ _ (by simp; omega), List.replicate_succ]
      have e : ((i : Nat) : Int).toNat - (a.take i).length = 0 := by simp; omega
      rw [e, List.set_cons_zero, List.take_succ_eq_append_getElem ha]
      simp only [List.append_assoc, List.singleton_append]
    rw [he]
    exact ih
theorem toIntS_f (a : List Int) (hn : a.length ≤ 1048576) {k : Nat} (hk : a.length < k) : laws_toIntS.f k a = some a := by
  unfold laws_toIntS.f
  rw [if_pos (by omega), if_pos (by omega)]
  exact toIntS_l0 a (by omega) a.length 0 k (by omega) hk
/-- The place of the first x in a list, or -1. -/
def ix (l : List Int) (x : Int) : Int := if x ∈ l then (l.idxOf x : Int) else -1
theorem index_l0 (a : List Int) (x : Int) (hn : a.length ≤ 4611686018427387904) : ∀ (d i k : Nat), i + d = a.length → d < k → x ∉ a.take i → slices_Index_int_int.l0 k a x (a.length : Int) (i : Int) = some (ix a x)
  | 0, i, k, hi, hk, hx => by
    obtain ⟨k, rfl⟩ : ∃ q, k = q + 1 := ⟨k - 1, by omega⟩
    simp only [slices_Index_int_int.l0]
    rw [List.take_of_length_le (by omega)] at hx
    rw [if_neg (by omega)]
    unfold ix
    rw [if_neg hx]
  | d + 1, i, k, hi, hk, hx => by
    obtain ⟨k, rfl⟩ : ∃ q, k = q + 1 := ⟨k - 1, by omega⟩
    have ha : i < a.length := by omega
    simp only [slices_Index_int_int.l0]
    rw [if_pos (by omega), if_pos (by omega), if_pos (by omega), up64 ha hn, rd_lt ha]
    by_cases e : x = a[i]
    · rw [if_pos e]
      unfold ix
      have hm : x ∈ a := by rw [e]; exact List.getElem_mem ha
      rw [if_pos hm]
      have h2 : a.idxOf x = i := by
        have h3 : a = a.take i ++ a[i] :: a.drop (i + 1) := by rw [← List.drop_eq_getElem_cons ha, List.take_append_drop]
        rw [h3, List.idxOf_append, if_neg hx, ← e, List.idxOf_cons_self]
        simp; omega
      rw [h2]
    · rw [if_neg e]
      refine index_l0 a x hn d (i + 1) k (by omega) (by omega) ?_
      rw [List.take_succ_eq_append_getElem ha, List.mem_append, List.mem_singleton]
      exact fun h => h.elim hx e
theorem index_f (a : List Int) (x : Int) (hn : a.length ≤ 4611686018427387904) {k : Nat} (hk : a.length < k) : slices_Index_int_int.f k a x = some (ix a x) :=
  index_l0 a x hn a.length 0 k (by omega) hk (by simp)
theorem ix_mem (l : List Int) (x : Int) : ix l x ≥ 0 ↔ x ∈ l := by
  unfold ix
  split <;> simp_all
theorem contains_f (a : List Int) (x : Int) (hn : a.length ≤ 4611686018427387904) {k : Nat} (hk : a.length < k) : slices_Contains_int_int.f k a x = some (decide (x ∈ a)) := by
  unfold slices_Contains_int_int.f
  rw [index_f a x hn hk]
  simp [ix_mem]
theorem equal_l0 (a b : List Int) (hl : a.length = b.length) (hn : a.length ≤ 4611686018427387904) : ∀ (d i k : Nat), i + d = a.length → d < k → slices_Equal_int_int.l0 k a b (a.length : Int) (i : Int) = some (decide (a.drop i = b.drop i))
  | 0, i, k, hi, hk => by
    obtain ⟨k, rfl⟩ : ∃ q, k = q + 1 := ⟨k - 1, by omega⟩
    simp only [slices_Equal_int_int.l0]
    rw [if_neg (by omega), List.drop_eq_nil_of_le (by omega), List.drop_eq_nil_of_le (by omega)]
    simp
  | d + 1, i, k, hi, hk => by
    obtain ⟨k, rfl⟩ : ∃ q, k = q + 1 := ⟨k - 1, by omega⟩
    have ih := equal_l0 a b hl hn d (i + 1) k (by omega) (by omega)
    have ha : i < a.length := by omega
    have hb : i < b.length := by omega
    simp only [slices_Equal_int_int.l0]
    rw [if_pos (by omega), if_pos (by omega), if_pos (by omega), if_pos (by omega), up64 ha hn, ih, rd_lt ha, rd_lt hb, List.drop_eq_getElem_cons ha, List.drop_eq_getElem_cons hb]
    by_cases e : a[i] = b[i]
    · rw [if_pos e, e]; simp only [List.cons.injEq, true_and]
    · rw [if_neg e]; simp only [List.cons.injEq, e, false_and, decide_false]
theorem equal_f (a b : List Int) (hn : a.length ≤ 4611686018427387904) {k : Nat} (hk : a.length < k) : slices_Equal_int_int.f k a b = some (decide (a = b)) := by
  unfold slices_Equal_int_int.f
  by_cases h : a.length = b.length
  · rw [if_pos (by omega)]
    exact equal_l0 a b h hn a.length 0 k (by omega) hk
  · rw [if_neg (by omega), decide_eq_false (fun e => h (by rw [e]))]
/-- The numbers 0, 1, .., n - 1. -/
def iot (n : Nat) : List Int := (List.range n).map (fun (j : Nat) => (j : Int))
theorem iot_len (n : Nat) : (iot n).length = n := by simp [iot]
theorem iot_succ (n : Nat) : iot (n + 1) = iot n ++ [(n : Int)] := by simp [iot, List.range_succ]
theorem iot_mem (n : Nat) (x : Int) : x ∈ iot n ↔ 0 ≤ x ∧ x < n := by
  simp only [iot, List.mem_map, List.mem_range]
  constructor
  · rintro ⟨j, h, rfl⟩; omega
  · rintro ⟨h0, h1⟩; exact ⟨x.toNat, by omega, by omega⟩
theorem ix_iot {n : Nat} {x : Int} (h0 : 0 ≤ x) (h1 : x < n) : ix (iot n) x = x := by
  induction n with
  | zero => omega
  | succ n ih =>
    unfold ix
    rw [if_pos ((iot_mem _ _).2 ⟨h0, h1⟩), iot_succ, List.idxOf_append]
    by_cases e : x < n
    · have h2 := ih e
      unfold ix at h2
      rw [if_pos ((iot_mem _ _).2 ⟨h0, e⟩)] at h2
      rw [if_pos ((iot_mem _ _).2 ⟨h0, e⟩)]
      exact h2
    · rw [if_neg (fun h => e ((iot_mem _ _).1 h).2)]
      have : x = (n : Int) := by omega
      rw [this, List.idxOf_cons_self, iot_len]
      omega
/-- Whatever the state, the list's begin stays. -/
theorem anew_any (l : List Int) (hn : l.length ≤ 4000000) : ∀ (d i k : Nat) (out seen : List Int), i + d = l.length → out.length = i → seen.length ≤ i → d + 2 * l.length + 5 < k →
    ∃ out', impl_anew.l0 k out seen l (l.length : Int) (i : Int) = some out' ∧ out'.take i = out ∧ out'.length = l.length
  | 0, i, k, out, seen, hi, ho, hs, hk => by
    obtain ⟨k, rfl⟩ : ∃ q, k = q + 1 := ⟨k - 1, by omega⟩
    refine ⟨out, ?_, List.take_of_length_le (by omega), by omega⟩
    simp only [impl_anew.l0]
    rw [if_neg (by omega)]
  | d + 1, i, k, out, seen, hi, ho, hs, hk => by
    obtain ⟨k, rfl⟩ : ∃ q, k = q + 1 := ⟨k - 1, by omega⟩
    have ha : i < l.length := by omega
    have more : ∀ (x : Int) (seen' : List Int), seen'.length ≤ i + 1 → ∃ out', impl_anew.l0 k (out ++ [x]) seen' l (l.length : Int) ((i + 1 : Nat) : Int) = some out' ∧ out'.take i = out ∧ out'.length = l.length := by
      intro x seen' hs'
      obtain ⟨o, h1, h2, h3⟩ := anew_any l hn d (i + 1) k (out ++ [x]) seen' (by omega) (by simp; omega) hs' (by omega)
      refine ⟨o, h1, ?_, h3⟩
      have h4 : o.take i = (o.take (i + 1)).take i := by rw [List.take_take]; congr 1; omega
      rw [h4, h2, List.take_append_of_le_length (by omega), List.take_of_length_le (by omega)]
    simp only [impl_anew.l0]
    rw [if_pos (by omega), if_pos (by omega), if_pos (by omega), up64 ha (by omega), contains_f _ _ (by omega) (by omega), rd_lt ha]
    simp only [Option.bind_some]
    by_cases e : l[i] ∈ seen
    · rw [if_pos (by simpa using e), index_f _ _ (by omega) (by omega)]
      simp only [Option.bind_some]
      rw [if_pos (by omega)]
      exact more _ _ (by omega)
    · rw [if_neg (by simpa using e), if_pos (by omega), index_f _ _ (by simp; omega) (by simp; omega)]
      simp only [Option.bind_some]
      rw [if_pos (by omega)]
      exact more _ _ (by simp; omega)
/-- The reference's loop and the program's, side by side: they agree as long as the groups come in order. -/
theorem good_both (l : List Int) (hn : l.length ≤ 4000000) : ∀ (d i k : Nat) (next : Nat), i + d = l.length → next ≤ i → d + 2 * l.length + 5 < k →
    ∃ g o, spec_cbGood.l0 k (next : Int) l (l.length : Int) (i : Int) = some g ∧ impl_anew.l0 k (l.take i) (iot next) l (l.length : Int) (i : Int) = some o ∧ o.length = l.length ∧ (g = true ↔ o = l) ∧ (g = true → ∀ x ∈ l.drop i, 0 ≤ x ∧ x < l.length)
  | 0, i, k, next, hi, hx, hk => by
    obtain ⟨k, rfl⟩ : ∃ q, k = q + 1 := ⟨k - 1, by omega⟩
    refine ⟨true, l.take i, ?_, ?_, by simp; omega, ⟨fun _ => List.take_of_length_le (by omega), fun _ => rfl⟩, fun _ x hx => by rw [List.drop_eq_nil_of_le (by omega)] at hx; cases hx⟩
    · simp only [spec_cbGood.l0]; rw [if_neg (by omega)]
    · simp only [impl_anew.l0]; rw [if_neg (by omega)]
  | d + 1, i, k, next, hi, hx, hk => by
    obtain ⟨k, rfl⟩ : ∃ q, k = q + 1 := ⟨k - 1, by omega⟩
    have ha : i < l.length := by omega
    have hlen : (l.take i).length = i := by simp; omega
    by_cases hin : 0 ≤ l[i] ∧ l[i] ≤ next
    · by_cases e : l[i] = (next : Int)
      · obtain ⟨g, o, h1, h2, h3, h4, h5⟩ := good_both l hn d (i + 1) k (next + 1) (by omega) (by omega) (by omega)
        refine ⟨g, o, ?_, ?_, h3, h4, fun hg x hx => by rw [List.drop_eq_getElem_cons ha] at hx; rcases List.mem_cons.1 hx with rfl | hx; exact ⟨hin.1, by omega⟩; exact h5 hg x hx⟩
        · simp only [spec_cbGood.l0]
          rw [if_pos (by omega), if_pos (by omega), if_pos (by omega), rd_lt ha]
          unfold spec_l1In.f
          rw [if_pos hin.1]
          simp only [Option.bind_some]
          rw [if_pos (by simpa using hin.2), if_pos e, up64 ha (by omega), up64 (n := l.length + 1) (i := next) (by omega) (by omega)]
          exact h1
        · simp only [impl_anew.l0]
          rw [if_pos (by omega), if_pos (by omega), if_pos (by omega), up64 ha (by omega), contains_f _ _ (by rw [iot_len]; omega) (by rw [iot_len]; omega), rd_lt ha]
          simp only [Option.bind_some]
          rw [if_neg (by simp only [decide_eq_true_eq, iot_mem]; omega), if_pos (by rw [iot_len]; omega), e, ← iot_succ, index_f _ _ (by rw [iot_len]; omega) (by rw [iot_len]; omega), ix_iot (by omega) (by omega)]
          simp only [Option.bind_some]
          rw [if_pos (by omega)]
          rw [List.take_succ_eq_append_getElem ha, e] at h2
          exact h2
      · obtain ⟨g, o, h1, h2, h3, h4, h5⟩ := good_both l hn d (i + 1) k next (by omega) (by omega) (by omega)
        refine ⟨g, o, ?_, ?_, h3, h4, fun hg x hx => by rw [List.drop_eq_getElem_cons ha] at hx; rcases List.mem_cons.1 hx with rfl | hx; exact ⟨hin.1, by omega⟩; exact h5 hg x hx⟩
        · simp only [spec_cbGood.l0]
          rw [if_pos (by omega), if_pos (by omega), if_pos (by omega), rd_lt ha]
          unfold spec_l1In.f
          rw [if_pos hin.1]
          simp only [Option.bind_some]
          rw [if_pos (by simpa using hin.2), if_neg e, up64 ha (by omega)]
          exact h1
        · simp only [impl_anew.l0]
          rw [if_pos (by omega), if_pos (by omega), if_pos (by omega), up64 ha (by omega), contains_f _ _ (by rw [iot_len]; omega) (by rw [iot_len]; omega), rd_lt ha]
          simp only [Option.bind_some]
          rw [if_pos (by simp only [decide_eq_true_eq, iot_mem]; omega), index_f _ _ (by rw [iot_len]; omega) (by rw [iot_len]; omega), ix_iot (by omega) (by omega)]
          simp only [Option.bind_some]
          rw [if_pos (by omega)]
          rw [List.take_succ_eq_append_getElem ha] at h2
          exact h2
    · obtain ⟨o, h1, h2, h3⟩ := anew_any l hn d (i + 1) k (l.take i ++ [(next : Int)]) (iot next ++ [l[i]]) (by omega) (by simp; omega) (by simp [iot_len]; omega) (by omega)
      refine ⟨false, o, ?_, ?_, h3, ?_, fun h => by cases h⟩
      · simp only [spec_cbGood.l0]
        rw [if_pos (by omega), if_pos (by omega), if_pos (by omega), rd_lt ha]
        unfold spec_l1In.f
        by_cases h0 : 0 ≤ l[i]
        · rw [if_pos h0]; simp only [Option.bind_some]; rw [if_neg (by simp; omega)]
        · rw [if_neg h0]; simp
      · simp only [impl_anew.l0]
        rw [if_pos (by omega), if_pos (by omega), if_pos (by omega), up64 ha (by omega), contains_f _ _ (by rw [iot_len]; omega) (by rw [iot_len]; omega), rd_lt ha]
        simp only [Option.bind_some]
        rw [if_neg (by simp only [decide_eq_true_eq, iot_mem]; omega), if_pos (by rw [iot_len]; omega), index_f _ _ (by simp [iot_len]; omega) (by simp [iot_len]; omega)]
        simp only [Option.bind_some]
        rw [if_pos (by omega)]
        have e : ix (iot next ++ [l[i]]) l[i] = (next : Int) := by
          unfold ix
          rw [if_pos (by simp), List.idxOf_append, if_neg (by rw [iot_mem]; omega), List.idxOf_cons_self, iot_len]
          omega
        rw [e]
        exact h1
      · constructor
        · intro h; cases h
        · intro h
          rw [h] at h2
          rw [List.take_succ_eq_append_getElem ha] at h2
          have h5 := List.append_cancel_left h2
          injection h5 with h5 _
          omega
theorem isGrouping_both (l : List Int) (hn : l.length ≤ 4000000) {k : Nat} (hk : 3 * l.length + 10 < k) : ∃ g, spec_cbGood.f k l = some g ∧ impl_IsGrouping.f k l = some g ∧ (g = true → 1 ≤ l.length ∧ l.length ≤ 12 ∧ ∀ x ∈ l, 0 ≤ x ∧ x < l.length) := by
  unfold spec_cbGood.f impl_IsGrouping.f impl_areWires.f spec_l1In.f impl_within.f
  by_cases h1 : (1 : Int) ≤ (l.length : Int)
  · by_cases h2 : (l.length : Int) ≤ 12
    · obtain ⟨g, o, e1, e2, e3, e4, e5⟩ := good_both l hn l.length 0 k 0 (by omega) (by omega) (by omega)
      have e2' : impl_anew.f k l = some o := e2
      refine ⟨g, ?_, ?_, ?_⟩
      · rw [if_pos h1]; simp only [Option.bind_some]; rw [if_pos (by simpa using h2)]; exact e1
      · rw [if_pos h1]; simp only [Option.bind_some]; rw [if_pos (by simpa using h2), e2']; simp only [Option.bind_some]; rw [equal_f _ _ (by omega) (by omega)]
        simp only [Option.bind_some, Option.some.injEq]
        rw [Bool.eq_iff_iff, decide_eq_true_eq, e4]
      · exact fun hg => ⟨by omega, by omega, e5 hg⟩
    · exact ⟨false, by rw [if_pos h1]; simp [h2], by rw [if_pos h1]; simp [h2], fun h => by cases h⟩
  · exact ⟨false, by rw [if_neg h1]; simp, by rw [if_neg h1]; simp, fun h => by cases h⟩
theorem strs_append (a b : List Int) : strOfNums a ++ strOfNums b = strOfNums (a ++ b) := by
  unfold strOfNums
  apply ByteArray.ext
  rw [ByteArray.data_append]
  simp
theorem letters : ∀ j ∈ List.range 12, ((⟨#[97, 98, 99, 100, 101, 102, 103, 104, 105, 106, 107, 108]⟩ : ByteArray).extract j (j + 1)) = strOfNums [97 + (j : Int)] := by decide +kernel
/-- The letters' numbers. -/
def lets (l : List Int) : List Int := l.map (fun x => 97 + x)
theorem lets_take {l : List Int} {i : Nat} (h : i < l.length) : lets (l.take (i + 1)) = lets (l.take i) ++ [97 + l[i]] := by
  rw [List.take_succ_eq_append_getElem h]
  simp only [lets, List.map_append, List.map_cons, List.map_nil]
theorem cbText_l0 (l : List Int) (hl : l.length ≤ 12) (hx : ∀ x ∈ l, 0 ≤ x ∧ x < l.length) : ∀ (d i k : Nat), i + d = l.length → d < k → spec_cbText.l0 k (strOfNums (lets (l.take i))) l (l.length : Int) (i : Int) = some (strOfNums (lets l))
  | 0, i, k, hi, hk => by
    obtain ⟨k, rfl⟩ : ∃ q, k = q + 1 := ⟨k - 1, by omega⟩
    simp only [spec_cbText.l0]
    rw [if_neg (by omega), List.take_of_length_le (by omega)]
  | d + 1, i, k, hi, hk => by
    obtain ⟨k, rfl⟩ : ∃ q, k = q + 1 := ⟨k - 1, by omega⟩
    have ha : i < l.length := by omega
    have hg := hx l[i] (List.getElem_mem ha)
    have ih := cbText_l0 l hl hx d (i + 1) k (by omega) (by omega)
    simp only [spec_cbText.l0]
    rw [if_pos (by omega), if_pos (by omega), if_pos (by omega), rd_lt ha, if_pos (by omega), w64 (x := l[i] + 1) (by omega) (by omega), if_pos (by omega), if_pos (by omega)]
    have e : (l[i] + 1).toNat = l[i].toNat + 1 := by omega
    have e2 := letters l[i].toNat (by rw [List.mem_range]; omega)
    rw [e, e2, show ((l[i].toNat : Nat) : Int) = l[i] by omega, strs_append, ← lets_take ha, up64 ha (by omega)]
    rw [if_pos (by rw [strOfNums_size, strOfNums_size]; simp [lets]; omega)]
    exact ih
theorem groupingText_l0 (l : List Int) (hl : l.length ≤ 12) (hx : ∀ x ∈ l, 0 ≤ x ∧ x < l.length) : ∀ (d i k : Nat), i + d = l.length → d < k → impl_groupingText.l0 k (lets (l.take i)) l (l.length : Int) (i : Int) = some (strOfNums (lets l))
  | 0, i, k, hi, hk => by
    obtain ⟨k, rfl⟩ : ∃ q, k = q + 1 := ⟨k - 1, by omega⟩
    simp only [impl_groupingText.l0]
    rw [if_neg (by omega), List.take_of_length_le (by omega)]
  | d + 1, i, k, hi, hk => by
    obtain ⟨k, rfl⟩ : ∃ q, k = q + 1 := ⟨k - 1, by omega⟩
    have ha : i < l.length := by omega
    have hg := hx l[i] (List.getElem_mem ha)
    have ih := groupingText_l0 l hl hx d (i + 1) k (by omega) (by omega)
    simp only [impl_groupingText.l0]
    rw [if_pos (by omega), if_pos (by omega), if_pos (by omega), rd_lt ha, if_pos (by simp [lets]; omega), w64 (x := 97 + l[i]) (by omega) (by omega), Int.emod_eq_of_lt (by omega) (by omega), ← lets_take ha, up64 ha (by omega)]
    exact ih
theorem FnExactGroupingText_all (l0 : List Int) : ∃ k, laws_FnExactGroupingText.f k l0 = some true := by
  refine ⟨3999999 + 1, ?_⟩
  unfold laws_FnExactGroupingText.f
  by_cases h : (l0.length : Int) > 1048576
  · rw [if_pos h]
  · obtain ⟨g, h1, h2, h3⟩ := isGrouping_both l0 (by omega) (k := 3999999 + 1) (by omega)
    rw [if_neg h, toIntS_f _ (by omega) (by omega)]
    have hj : laws_FnExactGroupingText.j0 (3999999 + 1) l0 l0 false = some true := by
      simp only [laws_FnExactGroupingText.j0]
      rw [if_neg (by simp), toIntS_f _ (by omega) (by omega)]
      simp only [Option.bind_some]
      rw [eqIntS_f _ _ (by omega) (by omega)]
      simp
    unfold spec_GroupingText.f impl_GroupingText.f
    simp only [Option.bind_some, h1, h2]
    cases g with
    | false => simpa using hj
    | true =>
      obtain ⟨h4, h5, h6⟩ := h3 rfl
      have t1 : spec_cbText.f (3999999 + 1) l0 = some (strOfNums (lets l0)) := cbText_l0 l0 h5 h6 l0.length 0 (3999999 + 1) (by omega) (by omega)
      have t2 : impl_groupingText.f (3999999 + 1) l0 = some (strOfNums (lets l0)) := groupingText_l0 l0 h5 h6 l0.length 0 (3999999 + 1) (by omega) (by omega)
      simp only [if_true, t1, t2, Option.bind_some, bne_self_eq_false]
      exact hj
theorem FnExactGroupingText : ∀ (l0 : List Int), l0.length ≤ maxLen → (∀ x ∈ l0, (fun n => (Lit.int .i64 n).wf = true) x) → ∃ k, laws_FnExactGroupingText.f k l0 = some true := fun l _ _ => FnExactGroupingText_all l

end Go.Proofs.Ytcclnmfkailmaab.Pure
