/- For every text the program's ParseGrouping and the reference's agree, and what is handed back is shared with nothing; no conditions. -/
import Derived.Test.YthkoignldhocgaaPFnExactParseGroupingx3
set_option linter.unusedSimpArgs false
set_option linter.unusedVariables false
namespace Go.Proofs.Ythkoignldhocgaa.Pure
open Go.RowKit Go.Proofs.Ythkoignldhocgaa.PFnExactParseGrouping Go.Proofs.YthkoignldhocgaaW.PrintWords Go.Proofs.YthkoignldhocgaaW.PrintLast

theorem w64 {x : Int} (h0 : -9223372036854775808 ≤ x) (h1 : x ≤ 9223372036854775807) : wrap64 x = x := by unfold wrap64; omega
theorem up64 {i n : Nat} (h : i < n) (hn : n ≤ 4611686018427387904) : wrap64 ((i : Int) + 1) = ((i + 1 : Nat) : Int) := by rw [w64 (by omega) (by omega)]; omega
theorem rd_lt {xs : List Int} {i : Nat} (h : i < xs.length) : rd xs (i : Int) = xs[i] := by unfold rd; simp [List.getD_eq_getElem?_getD, h]
theorem eqIntS_l0 (a b : List Int) (hl : a.length = b.length) (hn : a.length ≤ 4611686018427387904) : ∀ (d i k : Nat), i + d = a.length → d < k → laws_eqIntS.l0 k a b (i : Int) = some (decide (a.drop i = b.drop i))
  | 0, i, k, hi, hk => by
    obtain ⟨k, rfl⟩ : ∃ q, k = q + 1 := ⟨k - 1, by omega⟩
    simp only [laws_eqIntS.l0]
    rw [if_neg (by omega), List.drop_eq_nil_of_le (by omega), List.drop_eq_nil_of_le (by omega)]
    simp
  | d + 1, i, k, hi, hk => by
    obtain ⟨k, rfl⟩ : ∃ q, k = q + 1 := ⟨k - 1, by omega⟩
    have ih := eqIntS_l0 a b hl hn d (i + 1) k (by omega) (by omega)
    have ha : i < a.length := by omega
    have hb : i < b.length := by omega
    simp only [laws_eqIntS.l0]
    rw [if_pos (by omega), if_pos (by omega), if_pos (by omega), up64 ha hn, ih, rd_lt ha, rd_lt hb, List.drop_eq_getElem_cons ha, List.drop_eq_getElem_cons hb]
    by_cases e : a[i] = b[i]
    · rw [if_pos e, e]; simp only [List.cons.injEq, true_and]
    · rw [if_neg e]; simp only [List.cons.injEq, e, false_and, decide_false]
theorem eqIntS_f (a b : List Int) (hn : a.length ≤ 4611686018427387904) {k : Nat} (hk : a.length < k) : laws_eqIntS.f k a b = some (decide (a = b)) := by
  unfold laws_eqIntS.f
  by_cases h : a.length = b.length
  · rw [if_pos (by omega)]
    exact eqIntS_l0 a b h hn a.length 0 k (by omega) hk
  · rw [if_neg (by omega), decide_eq_false (fun e => h (by rw [e]))]
/-- The numbers a, a + 1, .. -/
def mk (a : Int) (n : Nat) : List Int := (List.range n).map (fun (j : Nat) => a + (j : Int))
theorem mk_len (a : Int) (n : Nat) : (mk a n).length = n := by simp [mk]
theorem mk_succ (a : Int) (n : Nat) : mk a (n + 1) = mk a n ++ [a + (n : Int)] := by simp [mk, List.range_succ]
theorem mk_rd (a : Int) {n i : Nat} (h : i < n) : rd (mk a n) (i : Int) = a + (i : Int) := by
  rw [rd_lt (by rw [mk_len]; exact h)]
  simp [mk]
theorem markIntS_l0 (l : List Int) (a : Int) (h0 : 0 ≤ a) (h1 : a ≤ 1000000000000) (hn : l.length ≤ 1000000000000) : ∀ (d i k : Nat), i + d = l.length → d < k → laws_markIntS.l0 k (mk a i ++ l.drop i) (a + (i : Int)) (i : Int) = some (a + (l.length : Int), mk a l.length)
  | 0, i, k, hi, hk => by
    obtain ⟨k, rfl⟩ : ∃ q, k = q + 1 := ⟨k - 1, by omega⟩
    have e : i = l.length := by omega
    subst e
    simp only [laws_markIntS.l0]
    rw [if_neg (by rw [List.length_append, mk_len, List.length_drop]; omega), List.drop_eq_nil_of_le (by omega), List.append_nil]
  | d + 1, i, k, hi, hk => by
    obtain ⟨k, rfl⟩ : ∃ q, k = q + 1 := ⟨k - 1, by omega⟩
    have ha : i < l.length := by omega
    have ih := markIntS_l0 l a h0 h1 hn d (i + 1) k (by omega) (by omega)
    simp only [laws_markIntS.l0]
    rw [if_pos (by rw [List.length_append, mk_len, List.length_drop]; omega), if_pos (by omega), up64 ha (by omega), w64 (x := a + (i : Int) + 1) (by omega) (by omega)]
    have he : (mk a i ++ l.drop i).set ((i : Nat) : Int).toNat (a + (i : Int)) = mk a (i + 1) ++ l.drop (i + 1) := by
      rw [List.set_append_right _ _ (by rw [mk_len]; omega), mk_len, mk_succ, List.drop_eq_getElem_cons ha]
      have e : ((i : Nat) : Int).toNat - i = 0 := by omega
      rw [e, List.set_cons_zero]
      simp only [List.append_assoc, List.singleton_append]
    rw [he, show a + (i : Int) + 1 = a + ((i + 1 : Nat) : Int) by omega]
    exact ih
theorem markIntS_f (l : List Int) (a : Int) (h0 : 0 ≤ a) (h1 : a ≤ 1000000000000) (hn : l.length ≤ 1000000000000) {k : Nat} (hk : l.length < k) : laws_markIntS.f k l a = some (a + (l.length : Int), mk a l.length) := by
  have h := markIntS_l0 l a h0 h1 hn l.length 0 k (by omega) hk
  unfold laws_markIntS.f
  simpa [mk] using h
theorem heldIntS_l0 (n : Nat) (a : Int) (h0 : 0 ≤ a) (h1 : a ≤ 1000000000000) (hn : n ≤ 1000000000000) : ∀ (d i k : Nat), i + d = n → d < k → laws_heldIntS.l0 k (mk a n) (a + (i : Int)) (i : Int) = some (a + (n : Int))
  | 0, i, k, hi, hk => by
    obtain ⟨k, rfl⟩ : ∃ q, k = q + 1 := ⟨k - 1, by omega⟩
    have e : i = n := by omega
    subst e
    simp only [laws_heldIntS.l0]
    rw [if_neg (by rw [mk_len]; omega)]
  | d + 1, i, k, hi, hk => by
    obtain ⟨k, rfl⟩ : ∃ q, k = q + 1 := ⟨k - 1, by omega⟩
    have ha : i < n := by omega
    have ih := heldIntS_l0 n a h0 h1 hn d (i + 1) k (by omega) (by omega)
    simp only [laws_heldIntS.l0]
    rw [if_pos (by rw [mk_len]; omega), if_pos (by omega), mk_rd a ha, if_pos rfl, up64 ha (by omega), w64 (x := a + (i : Int) + 1) (by omega) (by omega), show a + (i : Int) + 1 = a + ((i + 1 : Nat) : Int) by omega]
    exact ih
theorem heldIntS_f (n : Nat) (a : Int) (h0 : 0 ≤ a) (h1 : a ≤ 1000000000000) (hn : n ≤ 1000000000000) {k : Nat} (hk : n < k) : laws_heldIntS.f k (mk a n) a = some (a + (n : Int)) := by
  have h := heldIntS_l0 n a h0 h1 hn n 0 k (by omega) hk
  unfold laws_heldIntS.f
  simpa using h
/-- The place of the first x in a list, or -1. -/
def ix (l : List Int) (x : Int) : Int := if x ∈ l then (l.idxOf x : Int) else -1
theorem index_l0 (a : List Int) (x : Int) (hn : a.length ≤ 4611686018427387904) : ∀ (d i k : Nat), i + d = a.length → d < k → x ∉ a.take i → slices_Index_int_int.l0 k a x (a.length : Int) (i : Int) = some (ix a x)
  | 0, i, k, hi, hk, hx => by
    obtain ⟨k, rfl⟩ : ∃ q, k = q + 1 := ⟨k - 1, by omega⟩
    simp only [slices_Index_int_int.l0]
    rw [List.take_of_length_le (by omega)] at hx
    rw [if_neg (by omega)]
    unfold ix
    rw [if_neg hx]
  | d + 1, i, k, hi, hk, hx => by
    obtain ⟨k, rfl⟩ : ∃ q, k = q + 1 := ⟨k - 1, by omega⟩
    have ha : i < a.length := by omega
    simp only [slices_Index_int_int.l0]
    rw [if_pos (by omega), if_pos (by omega), if_pos (by omega), up64 ha hn, rd_lt ha]
    by_cases e : x = a[i]
    · rw [if_pos e]
      unfold ix
      have hm : x ∈ a := by rw [e]; exact List.getElem_mem ha
      rw [if_pos hm]
      have h2 : a.idxOf x = i := by
        have h3 : a = a.take i ++ a[i] :: a.drop (i + 1) := by rw [← List.drop_eq_getElem_cons ha, List.take_append_drop]
        rw [h3, List.idxOf_append, if_neg hx, ← e, List.idxOf_cons_self]
        simp; omega
      rw [h2]
    · rw [if_neg e]
      refine index_l0 a x hn d (i + 1) k (by omega) (by omega) ?_
      rw [List.take_succ_eq_append_getElem ha, List.mem_append, List.mem_singleton]
      exact fun h => h.elim hx e
theorem index_f (a : List Int) (x : Int) (hn : a.length ≤ 4611686018427387904) {k : Nat} (hk : a.length < k) : slices_Index_int_int.f k a x = some (ix a x) :=
  index_l0 a x hn a.length 0 k (by omega) hk (by simp)
theorem ix_mem (l : List Int) (x : Int) : ix l x ≥ 0 ↔ x ∈ l := by
  unfold ix
  split <;> simp_all
theorem contains_f (a : List Int) (x : Int) (hn : a.length ≤ 4611686018427387904) {k : Nat} (hk : a.length < k) : slices_Contains_int_int.f k a x = some (decide (x ∈ a)) := by
  unfold slices_Contains_int_int.f
  rw [index_f a x hn hk]
  simp [ix_mem]
theorem equal_l0 (a b : List Int) (hl : a.length = b.length) (hn : a.length ≤ 4611686018427387904) : ∀ (d i k : Nat), i + d = a.length → d < k → slices_Equal_int_int.l0 k a b (a.length : Int) (i : Int) = some (decide (a.drop i = b.drop i))
  | 0, i, k, hi, hk => by
    obtain ⟨k, rfl⟩ : ∃ q, k = q + 1 := ⟨k - 1, by omega⟩
    simp only [slices_Equal_int_int.l0]
    rw [if_neg (by omega), List.drop_eq_nil_of_le (by omega), List.drop_eq_nil_of_le (by omega)]
    simp
  | d + 1, i, k, hi, hk => by
    obtain ⟨k, rfl⟩ : ∃ q, k = q + 1 := ⟨k - 1, by omega⟩
    have ih := equal_l0 a b hl hn d (i + 1) k (by omega) (by omega)
    have ha : i < a.length := by omega
    have hb : i < b.length := by omega
    simp only [slices_Equal_int_int.l0]
    rw [if_pos (by omega), if_pos (by omega), if_pos (by omega), if_pos (by omega), up64 ha hn, ih, rd_lt ha, rd_lt hb, List.drop_eq_getElem_cons ha, List.drop_eq_getElem_cons hb]
    by_cases e : a[i] = b[i]
    · rw [if_pos e, e]; simp only [List.cons.injEq, true_and]
    · rw [if_neg e]; simp only [List.cons.injEq, e, false_and, decide_false]
theorem equal_f (a b : List Int) (hn : a.length ≤ 4611686018427387904) {k : Nat} (hk : a.length < k) : slices_Equal_int_int.f k a b = some (decide (a = b)) := by
  unfold slices_Equal_int_int.f
  by_cases h : a.length = b.length
  · rw [if_pos (by omega)]
    exact equal_l0 a b h hn a.length 0 k (by omega) hk
  · rw [if_neg (by omega), decide_eq_false (fun e => h (by rw [e]))]
/-- The numbers 0, 1, .., n - 1. -/
def iot (n : Nat) : List Int := (List.range n).map (fun (j : Nat) => (j : Int))
theorem iot_len (n : Nat) : (iot n).length = n := by simp [iot]
theorem iot_succ (n : Nat) : iot (n + 1) = iot n ++ [(n : Int)] := by simp [iot, List.range_succ]
theorem iot_mem (n : Nat) (x : Int) : x ∈ iot n ↔ 0 ≤ x ∧ x < n := by
  simp only [iot, List.mem_map, List.mem_range]
  constructor
  · rintro ⟨j, h, rfl⟩; omega
  · rintro ⟨h0, h1⟩; exact ⟨x.toNat, by omega, by omega⟩
theorem ix_iot {n : Nat} {x : Int} (h0 : 0 ≤ x) (h1 : x < n) : ix (iot n) x = x := by
  induction n with
  | zero => omega
  | succ n ih =>
    unfold ix
    rw [if_pos ((iot_mem _ _).2 ⟨h0, h1⟩), iot_succ, List.idxOf_append]
    by_cases e : x < n
    · have h2 := ih e
      unfold ix at h2
      rw [if_pos ((iot_mem _ _).2 ⟨h0, e⟩)] at h2
      rw [if_pos ((iot_mem _ _).2 ⟨h0, e⟩)]
      exact h2
    · rw [if_neg (fun h => e ((iot_mem _ _).1 h).2)]
      have : x = (n : Int) := by omega
      rw [this, List.idxOf_cons_self, iot_len]
      omega
/-- Whatever the state, the list's begin stays. -/
theorem anew_any (l : List Int) (hn : l.length ≤ 4000000) : ∀ (d i k : Nat) (out seen : List Int), i + d = l.length → out.length = i → seen.length ≤ i → d + 2 * l.length + 5 < k →
    ∃ out', impl_anew.l0 k out seen l (l.length : Int) (i : Int) = some out' ∧ out'.take i = out ∧ out'.length = l.length
  | 0, i, k, out, seen, hi, ho, hs, hk => by
    obtain ⟨k, rfl⟩ : ∃ q, k = q + 1 := ⟨k - 1, by omega⟩
    refine ⟨out, ?_, List.take_of_length_le (by omega), by omega⟩
    simp only [impl_anew.l0]
    rw [if_neg (by omega)]
  | d + 1, i, k, out, seen, hi, ho, hs, hk => by
    obtain ⟨k, rfl⟩ : ∃ q, k = q + 1 := ⟨k - 1, by omega⟩
    have ha : i < l.length := by omega
    have more : ∀ (x : Int) (seen' : List Int), seen'.length ≤ i + 1 → ∃ out', impl_anew.l0 k (out ++ [x]) seen' l (l.length : Int) ((i + 1 : Nat) : Int) = some out' ∧ out'.take i = out ∧ out'.length = l.length := by
      intro x seen' hs'
      obtain ⟨o, h1, h2, h3⟩ := anew_any l hn d (i + 1) k (out ++ [x]) seen' (by omega) (by simp; omega) hs' (by omega)
      refine ⟨o, h1, ?_, h3⟩
      have h4 : o.take i = (o.take (i + 1)).take i := by rw [List.take_take]; congr 1; omega
      rw [h4, h2, List.take_append_of_le_length (by omega), List.take_of_length_le (by omega)]
    simp only [impl_anew.l0]
    rw [if_pos (by omega), if_pos (by omega), if_pos (by omega), up64 ha (by omega), contains_f _ _ (by omega) (by omega), rd_lt ha]
    simp only [Option.bind_some]
    by_cases e : l[i] ∈ seen
    · rw [if_pos (by simpa using e), index_f _ _ (by omega) (by omega)]
      simp only [Option.bind_some]
      rw [if_pos (by omega)]
      exact more _ _ (by omega)
    · rw [if_neg (by simpa using e), if_pos (by omega), index_f _ _ (by simp; omega) (by simp; omega)]
      simp only [Option.bind_some]
      rw [if_pos (by omega)]
      exact more _ _ (by simp; omega)
/-- The reference's loop and the program's, side by side: they agree as long as the groups come in order. -/
theorem good_both (l : List Int) (hn : l.length ≤ 4000000) : ∀ (d i k : Nat) (next : Nat), i + d = l.length → next ≤ i → d + 2 * l.length + 5 < k →
    ∃ g o, spec_cbGood.l0 k (next : Int) l (l.length : Int) (i : Int) = some g ∧ impl_anew.l0 k (l.take i) (iot next) l (l.length : Int) (i : Int) = some o ∧ o.length = l.length ∧ (g = true ↔ o = l) ∧ (g = true → ∀ x ∈ l.drop i, 0 ≤ x ∧ x < l.length)
  | 0, i, k, next, hi, hx, hk => by
    obtain ⟨k, rfl⟩ : ∃ q, k = q + 1 := ⟨k - 1, by omega⟩
    refine ⟨true, l.take i, ?_, ?_, by simp; omega, ⟨fun _ => List.take_of_length_le (by omega), fun _ => rfl⟩, fun _ x hx => by rw [List.drop_eq_nil_of_le (by omega)] at hx; cases hx⟩
    · simp only [spec_cbGood.l0]; rw [if_neg (by omega)]
    · simp only [impl_anew.l0]; rw [if_neg (by omega)]
  | d + 1, i, k, next, hi, hx, hk => by
    obtain ⟨k, rfl⟩ : ∃ q, k = q + 1 := ⟨k - 1, by omega⟩
    have ha : i < l.length := by omega
    have hlen : (l.take i).length = i := by simp; omega
    by_cases hin : 0 ≤ l[i] ∧ l[i] ≤ next
    · by_cases e : l[i] = (next : Int)
      · obtain ⟨g, o, h1, h2, h3, h4, h5⟩ := good_both l hn d (i + 1) k (next + 1) (by omega) (by omega) (by omega)
        refine ⟨g, o, ?_, ?_, h3, h4, fun hg x hx => by rw [List.drop_eq_getElem_cons ha] at hx; rcases List.mem_cons.1 hx with rfl | hx; exact ⟨hin.1, by omega⟩; exact h5 hg x hx⟩
        · simp only [spec_cbGood.l0]
          rw [if_pos (by omega), if_pos (by omega), if_pos (by omega), rd_lt ha]
          unfold spec_l1In.f
          rw [if_pos hin.1]
          simp only [Option.bind_some]
          rw [if_pos (by simpa using hin.2), if_pos e, up64 ha (by omega), up64 (n := l.length + 1) (i := next) (by omega) (by omega)]
          exact h1
        · simp only [impl_anew.l0]
          rw [if_pos (by omega), if_pos (by omega), if_pos (by omega), up64 ha (by omega), contains_f _ _ (by rw [iot_len]; omega) (by rw [iot_len]; omega), rd_lt ha]
          simp only [Option.bind_some]
          rw [if_neg (by simp only [decide_eq_true_eq, iot_mem]; omega), if_pos (by rw [iot_len]; omega), e, ← iot_succ, index_f _ _ (by rw [iot_len]; omega) (by rw [iot_len]; omega), ix_iot (by omega) (by omega)]
          simp only [Option.bind_some]
          rw [if_pos (by omega)]
          rw [List.take_succ_eq_append_getElem ha, e] at h2
          exact h2
      · obtain ⟨g, o, h1, h2, h3, h4, h5⟩ := good_both l hn d (i + 1) k next (by omega) (by omega) (by omega)
        refine ⟨g, o, ?_, ?_, h3, h4, fun hg x hx => by rw [List.drop_eq_getElem_cons ha] at hx; rcases List.mem_cons.1 hx with rfl | hx; exact ⟨hin.1, by omega⟩; exact h5 hg x hx⟩
        · simp only [spec_cbGood.l0]
          rw [if_pos (by omega), if_pos (by omega), if_pos (by omega), rd_lt ha]
          unfold spec_l1In.f
          rw [if_pos hin.1]
          simp only [Option.bind_some]
          rw [if_pos (by simpa using hin.2), if_neg e, up64 ha (by omega)]
          exact h1
        · simp only [impl_anew.l0]
          rw [if_pos (by omega), if_pos (by omega), if_pos (by omega), up64 ha (by omega), contains_f _ _ (by rw [iot_len]; omega) (by rw [iot_len]; omega), rd_lt ha]
          simp only [Option.bind_some]
          rw [if_pos (by simp only [decide_eq_true_eq, iot_mem]; omega), index_f _ _ (by rw [iot_len]; omega) (by rw [iot_len]; omega), ix_iot (by omega) (by omega)]
          simp only [Option.bind_some]
          rw [if_pos (by omega)]
          rw [List.take_succ_eq_append_getElem ha] at h2
          exact h2
    · obtain ⟨o, h1, h2, h3⟩ := anew_any l hn d (i + 1) k (l.take i ++ [(next : Int)]) (iot next ++ [l[i]]) (by omega) (by simp; omega) (by simp [iot_len]; omega) (by omega)
      refine ⟨false, o, ?_, ?_, h3, ?_, fun h => by cases h⟩
      · simp only [spec_cbGood.l0]
        rw [if_pos (by omega), if_pos (by omega), if_pos (by omega), rd_lt ha]
        unfold spec_l1In.f
        by_cases h0 : 0 ≤ l[i]
        · rw [if_pos h0]; simp only [Option.bind_some]; rw [if_neg (by simp; omega)]
        · rw [if_neg h0]; simp
      · simp only [impl_anew.l0]
        rw [if_pos (by omega), if_pos (by omega), if_pos (by omega), up64 ha (by omega), contains_f _ _ (by rw [iot_len]; omega) (by rw [iot_len]; omega), rd_lt ha]
        simp only [Option.bind_some]
        rw [if_neg (by simp only [decide_eq_true_eq, iot_mem]; omega), if_pos (by rw [iot_len]; omega), index_f _ _ (by simp [iot_len]; omega) (by simp [iot_len]; omega)]
        simp only [Option.bind_some]
        rw [if_pos (by omega)]
        have e : ix (iot next ++ [l[i]]) l[i] = (next : Int) := by
          unfold ix
          rw [if_pos (by simp), List.idxOf_append, if_neg (by rw [iot_mem]; omega), List.idxOf_cons_self, iot_len]
          omega
        rw [e]
        exact h1
      · constructor
        · intro h; cases h
        · intro h
          rw [h] at h2
          rw [List.take_succ_eq_append_getElem ha] at h2
          have h5 := List.append_cancel_left h2
          injection h5 with h5 _
          omega
theorem isGrouping_both (l : List Int) (hn : l.length ≤ 4000000) {k : Nat} (hk : 3 * l.length + 10 < k) : ∃ g, spec_cbGood.f k l = some g ∧ impl_IsGrouping.f k l = some g ∧ (g = true → 1 ≤ l.length ∧ l.length ≤ 12 ∧ ∀ x ∈ l, 0 ≤ x ∧ x < l.length) := by
  unfold spec_cbGood.f impl_IsGrouping.f impl_areWires.f spec_l1In.f impl_within.f
  by_cases h1 : (1 : Int) ≤ (l.length : Int)
  · by_cases h2 : (l.length : Int) ≤ 12
    · obtain ⟨g, o, e1, e2, e3, e4, e5⟩ := good_both l hn l.length 0 k 0 (by omega) (by omega) (by omega)
      have e2' : impl_anew.f k l = some o := e2
      refine ⟨g, ?_, ?_, ?_⟩
      · rw [if_pos h1]; simp only [Option.bind_some]; rw [if_pos (by simpa using h2)]; exact e1
      · rw [if_pos h1]; simp only [Option.bind_some]; rw [if_pos (by simpa using h2), e2']; simp only [Option.bind_some]; rw [equal_f _ _ (by omega) (by omega)]
        simp only [Option.bind_some, Option.some.injEq]
        rw [Bool.eq_iff_iff, decide_eq_true_eq, e4]
      · exact fun hg => ⟨by omega, by omega, e5 hg⟩
    · exact ⟨false, by rw [if_pos h1]; simp [h2], by rw [if_pos h1]; simp [h2], fun h => by cases h⟩
  · exact ⟨false, by rw [if_neg h1]; simp, by rw [if_neg h1]; simp, fun h => by cases h⟩
/-- The number of groups, where n have been met. -/
def nx : Nat → List Int → Nat
  | n, [] => n
  | n, x :: l => nx (if x = (n : Int) then n + 1 else n) l
/-- Are these groups in the order in which they come, where n have been met? -/
def rg : Nat → List Int → Bool
  | _, [] => true
  | n, x :: l => decide (0 ≤ x) && decide (x ≤ (n : Int)) && rg (if x = (n : Int) then n + 1 else n) l
theorem nx_ge (l : List Int) : ∀ n, n ≤ nx n l := by
  induction l with
  | nil => intro n; exact Nat.le_refl _
  | cons x l ih =>
    intro n
    simp only [nx]
    split
    · exact Nat.le_trans (Nat.le_succ _) (ih _)
    · exact ih _
theorem nx_le (l : List Int) : ∀ n, nx n l ≤ n + l.length := by
  induction l with
  | nil => intro n; simp [nx]
  | cons x l ih =>
    intro n
    simp only [nx, List.length_cons]
    split
    · have := ih (n + 1); omega
    · have := ih n; omega
theorem rg_lt (l : List Int) : ∀ n, rg n l = true → ∀ x ∈ l, 0 ≤ x ∧ x < (nx n l : Int) := by
  induction l with
  | nil => intro n _ x hx; cases hx
  | cons y l ih =>
    intro n h x hx
    simp only [rg, Bool.and_eq_true, decide_eq_true_eq] at h
    obtain ⟨⟨h0, h1⟩, h2⟩ := h
    simp only [nx]
    rcases List.mem_cons.1 hx with rfl | hx
    · refine ⟨h0, ?_⟩
      split
      · have := nx_ge l (n + 1); omega
      · have := nx_ge l n; omega
    · exact ih _ h2 x hx
theorem nx_append (a b : List Int) : ∀ n, nx n (a ++ b) = nx (nx n a) b := by
  induction a with
  | nil => intro n; rfl
  | cons x l ih => intro n; simp only [List.cons_append, nx]; exact ih _
theorem rg_append (a b : List Int) : ∀ n, rg n (a ++ b) = (rg n a && rg (nx n a) b) := by
  induction a with
  | nil => intro n; simp [rg, nx]
  | cons x l ih => intro n; simp only [List.cons_append, nx, rg, ih, Bool.and_assoc]
theorem cbGood_l0 (l : List Int) (hn : l.length ≤ 4000000) : ∀ (d i k : Nat) (next : Nat), i + d = l.length → next ≤ i → d < k → spec_cbGood.l0 k (next : Int) l (l.length : Int) (i : Int) = some (rg next (l.drop i))
  | 0, i, k, next, hi, hx, hk => by
    obtain ⟨k, rfl⟩ : ∃ q, k = q + 1 := ⟨k - 1, by omega⟩
    simp only [spec_cbGood.l0]
    rw [if_neg (by omega), List.drop_eq_nil_of_le (by omega)]
    rfl
  | d + 1, i, k, next, hi, hx, hk => by
    obtain ⟨k, rfl⟩ : ∃ q, k = q + 1 := ⟨k - 1, by omega⟩
    have ha : i < l.length := by omega
    simp only [spec_cbGood.l0]
    rw [if_pos (by omega), if_pos (by omega), if_pos (by omega), rd_lt ha, List.drop_eq_getElem_cons ha]
    unfold spec_l1In.f
    simp only [rg]
    by_cases h0 : 0 ≤ l[i]
    · rw [if_pos h0]
      simp only [Option.bind_some, h0, decide_true, Bool.true_and]
      by_cases h1 : l[i] ≤ (next : Int)
      · rw [if_pos (by simpa using h1)]
        simp only [h1, decide_true, Bool.true_and]
        by_cases e : l[i] = (next : Int)
        · rw [if_pos e, if_pos e, up64 ha (by omega), up64 (n := l.length + 1) (i := next) (by omega) (by omega)]
          exact cbGood_l0 l hn d (i + 1) k (next + 1) (by omega) (by omega) (by omega)
        · rw [if_neg e, if_neg e, up64 ha (by omega)]
          exact cbGood_l0 l hn d (i + 1) k next (by omega) (by omega) (by omega)
      · rw [if_neg (by simpa using h1)]
        simp [h1]
    · rw [if_neg h0]
      simp [h0]
/-- Is a list a grouping? -/
def good (l : List Int) : Bool := decide (1 ≤ l.length) && decide (l.length ≤ 12) && rg 0 l
theorem cbGood_f (l : List Int) (hn : l.length ≤ 4000000) {k : Nat} (hk : l.length < k) : spec_cbGood.f k l = some (good l) := by
  unfold spec_cbGood.f spec_l1In.f good
  by_cases h1 : (1 : Int) ≤ (l.length : Int)
  · rw [if_pos h1]
    by_cases h2 : (l.length : Int) ≤ 12
    · simp only [Option.bind_some]
      rw [if_pos (by simpa using h2)]
      have := cbGood_l0 l hn l.length 0 k 0 (by omega) (by omega) hk
      have e1 : decide (1 ≤ l.length) = true := by simp; omega
      have e2 : decide (l.length ≤ 12) = true := by simp; omega
      rw [e1, e2]
      simpa using this
    · have e2 : decide (l.length ≤ 12) = false := by simp; omega
      simp [h2, e2]
  · have e1 : decide (1 ≤ l.length) = false := decide_eq_false (by omega)
    rw [if_neg h1]
    simp [e1]
theorem isGrouping_f (l : List Int) (hn : l.length ≤ 4000000) {k : Nat} (hk : 3 * l.length + 10 < k) : impl_IsGrouping.f k l = some (good l) := by
  obtain ⟨g, h1, h2, _⟩ := isGrouping_both l hn hk
  rw [cbGood_f l hn (by omega)] at h1
  rw [h2, ← h1]
theorem good_cases {l : List Int} (h : good l = true) : 1 ≤ l.length ∧ l.length ≤ 12 ∧ rg 0 l = true := by
  unfold good at h
  simp only [Bool.and_eq_true, decide_eq_true_eq] at h
  exact ⟨h.1.1, h.1.2, h.2⟩
theorem cbParse_l0 (s : ByteArray) (hs : s.size ≤ 12) : ∀ (d i k : Nat), i + d = s.size → d + 20 < k → spec_cbParse.l0 k s ((impl_ParseGrouping.p_nums s).take i) (i : Int) = some (if good (impl_ParseGrouping.p_nums s) = true then (impl_ParseGrouping.p_nums s, true) else ([], false))
  | 0, i, k, hi, hk => by
    obtain ⟨k, rfl⟩ : ∃ q, k = q + 1 := ⟨k - 1, by omega⟩
    have hl := impl_ParseGrouping.nums_len s
    simp only [spec_cbParse.l0]
    rw [if_neg (by omega), List.take_of_length_le (by omega), cbGood_f _ (by omega) (by omega)]
    simp only [Option.bind_some]
    cases good (impl_ParseGrouping.p_nums s) <;> simp
  | d + 1, i, k, hi, hk => by
    obtain ⟨k, rfl⟩ : ∃ q, k = q + 1 := ⟨k - 1, by omega⟩
    have ha : i < s.size := by omega
    have ih := cbParse_l0 s hs d (i + 1) k (by omega) (by omega)
    obtain ⟨r0, r1⟩ := impl_ParseGrouping.rd_range s i ha
    have ht := impl_ParseGrouping.nums_take s i ha
    have hl : ((impl_ParseGrouping.p_nums s).take i).length = i := by rw [List.length_take, impl_ParseGrouping.nums_len]; omega
    simp only [spec_cbParse.l0]
    rw [← rd_bytesOf, if_pos (by omega), if_pos (by omega), if_pos (by omega), w64 (x := rd (bytesOf s) (i : Int)) (by omega) (by omega), w64 (by omega) (by omega), ← ht, up64 (n := s.size) (by omega) (by omega)]
    exact ih
theorem both (s : ByteArray) (hn : s.size ≤ 1048576) : ∃ (o : List Int) (b : Bool), o.length ≤ 12 ∧ (∀ k, 4000000 ≤ k → spec_ParseGrouping.f k s = some (o, b)) ∧ (∀ k, 4000000 ≤ k → impl_ParseGrouping.f k s = some (o, b)) := by
  have hl := impl_ParseGrouping.nums_len s
  have hi : ∀ k, 4000000 ≤ k → impl_ParseGrouping.f k s = some (if good (impl_ParseGrouping.p_nums s) = true then (impl_ParseGrouping.p_nums s, true) else ([], false)) := by
    intro k hk
    unfold impl_ParseGrouping.f
    rw [if_pos (by omega), isGrouping_f _ (by omega) (by omega)]
    simp only [Option.bind_some]
    cases good (impl_ParseGrouping.p_nums s) <;> simp
  by_cases h12 : s.size ≤ 12
  · refine ⟨(if good (impl_ParseGrouping.p_nums s) = true then (impl_ParseGrouping.p_nums s, true) else ([], false)).1, (if good (impl_ParseGrouping.p_nums s) = true then (impl_ParseGrouping.p_nums s, true) else ([], false)).2, ?_, fun k hk => ?_, fun k hk => hi k hk⟩
    · split
      · show (impl_ParseGrouping.p_nums s).length ≤ 12
        omega
      · simp
    · unfold spec_ParseGrouping.f spec_cbParse.f
      have := cbParse_l0 s h12 s.size 0 k (by omega) (by omega)
      rw [show ((0 : Nat) : Int) = 0 from rfl, List.take_zero] at this
      rw [if_neg (by omega), this]
      rfl
  · have hg : good (impl_ParseGrouping.p_nums s) = false := by
      unfold good
      rw [decide_eq_false (show ¬ (impl_ParseGrouping.p_nums s).length ≤ 12 by omega)]
      simp
    refine ⟨[], false, by simp, fun k hk => ?_, fun k hk => ?_⟩
    · unfold spec_ParseGrouping.f spec_cbParse.f
      rw [if_pos (by omega)]
      rfl
    · rw [hi k hk, hg]
      rfl
theorem FnExactParseGrouping_all (a0 : ByteArray) : ∃ k, laws_FnExactParseGrouping.f k a0 = some true := by
  refine ⟨5000003, ?_⟩
  unfold laws_FnExactParseGrouping.f
  by_cases h : (a0.size : Int) > 1048576
  · rw [if_pos h]
  · obtain ⟨o, b, ho, hs, hi⟩ := both a0 (by omega)
    have q1 : ∀ k, 4000000 ≤ k → laws_eqIntS.f k o o = some true := fun k hk => by rw [eqIntS_f _ _ (by omega) (by omega)]; simp
    have m2 : ∀ k, 4000000 ≤ k → laws_markIntS.f k o 1 = some (1 + (o.length : Int), mk 1 o.length) := fun k hk => markIntS_f _ _ (by omega) (by omega) (by omega) (by omega)
    have d2 : ∀ k, 4000000 ≤ k → laws_heldIntS.f k (mk 1 o.length) 1 = some (1 + (o.length : Int)) := fun k hk => heldIntS_f _ _ (by omega) (by omega) (by omega) (by omega)
    have n2 : ¬ (1 + (o.length : Int) < 0) := by omega
    rw [if_neg h]
    simp (disch := omega) only [hs, hi, q1, Option.bind_some, if_true, bne_self_eq_false]
    rw [laws_FnExactParseGrouping.j0.eq_def]
    simp (disch := omega) only [hs, hi, q1, m2, d2, n2, Option.bind_some, if_true, if_false, bne_self_eq_false, Bool.false_eq_true]
    rw [laws_FnExactParseGrouping.j1.eq_def]
    simp (disch := omega) only [d2, n2, Option.bind_some, if_true, if_false, Bool.false_eq_true]
theorem FnExactParseGrouping : laws_FnExactParseGrouping.Pure := fun a _ => FnExactParseGrouping_all a

end Go.Proofs.Ythkoignldhocgaa.Pure
