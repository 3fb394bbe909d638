/- For every list the program's SizesOf and the reference's agree, and what is handed back is shared with nothing; no conditions. -/
import Derived.Test.YthkoignldhocgafPFnExactSizesOfx5
set_option linter.unusedSimpArgs false
set_option linter.unusedVariables false
namespace Go.Proofs.Ythkoignldhocgaf.Pure
open Go.RowKit Go.Proofs.Ythkoignldhocgaf.PFnExactSizesOf Go.Proofs.YthkoignldhocgafW.PrintWords Go.Proofs.YthkoignldhocgafW.PrintLast Go.Proofs.YthkoignldhocgafW.PrintMore

theorem w64 {x : Int} (h0 : -9223372036854775808 ≤ x) (h1 : x ≤ 9223372036854775807) : wrap64 x = x := by unfold wrap64; omega
theorem up64 {i n : Nat} (h : i < n) (hn : n ≤ 4611686018427387904) : wrap64 ((i : Int) + 1) = ((i + 1 : Nat) : Int) := by rw [w64 (by omega) (by omega)]; omega
theorem rd_lt {xs : List Int} {i : Nat} (h : i < xs.length) : rd xs (i : Int) = xs[i] := by unfold rd; simp [List.getD_eq_getElem?_getD, h]
theorem eqIntS_l0 (a b : List Int) (hl : a.length = b.length) (hn : a.length ≤ 4611686018427387904) : ∀ (d i k : Nat), i + d = a.length → d < k → laws_eqIntS.l0 k a b (i : Int) = some (decide (a.drop i = b.drop i))
  | 0, i, k, hi, hk => by
    obtain ⟨k, rfl⟩ : ∃ q, k = q + 1 := ⟨k - 1, by omega⟩
    simp only [laws_eqIntS.l0]
    rw [if_neg (by omega), List.drop_eq_nil_of_le (by omega), List.drop_eq_nil_of_le (by omega)]
    simp
  | d + 1, i, k, hi, hk => by
    obtain ⟨k, rfl⟩ : ∃ q, k = q + 1 := ⟨k - 1, by omega⟩
    have ih := eqIntS_l0 a b hl hn d (i + 1) k (by omega) (by omega)
    have ha : i < a.length := by omega
    have hb : i < b.length := by omega
    simp only [laws_eqIntS.l0]
    rw [if_pos (by omega), if_pos (by omega), if_pos (by omega), up64 ha hn, ih, rd_lt ha, rd_lt hb, List.drop_eq_getElem_cons ha, List.drop_eq_getElem_cons hb]
    by_cases e : a[i] = b[i]
    · rw [if_pos e, e]; simp only [List.cons.injEq, true_and]
    · rw [if_neg e]; simp only [List.cons.injEq, e, false_and, decide_false]
theorem eqIntS_f (a b : List Int) (hn : a.length ≤ 4611686018427387904) {k : Nat} (hk : a.length < k) : laws_eqIntS.f k a b = some (decide (a = b)) := by
  unfold laws_eqIntS.f
  by_cases h : a.length = b.length
  · rw [if_pos (by omega)]
    exact eqIntS_l0 a b h hn a.length 0 k (by omega) hk
  · rw [if_neg (by omega), decide_eq_false (fun e => h (by rw [e]))]
theorem toIntS_l0 (a : List Int) (hn : a.length ≤ 4611686018427387904) : ∀ (d i k : Nat), i + d = a.length → d < k → laws_toIntS.l0 k a (a.take i ++ List.replicate d 0) (i : Int) = some a
  | 0, i, k, hi, hk => by
    obtain ⟨k, rfl⟩ : ∃ q, k = q + 1 := ⟨k - 1, by omega⟩
    simp only [laws_toIntS.l0]
    rw [if_neg (by omega), List.take_of_length_le (by omega)]
    simp
  | d + 1, i, k, hi, hk => by
    obtain ⟨k, rfl⟩ : ∃ q, k = q + 1 := ⟨k - 1, by omega⟩
    have ih := toIntS_l0 a hn d (i + 1) k (by omega) (by omega)
    have ha : i < a.length := by omega
    simp only [laws_toIntS.l0]
    rw [if_pos (by omega), if_pos (by omega), if_pos (by simp; omega), up64 ha hn, rd_lt ha]
    have he : (a.take i ++ List.replicate (d + 1) (0 : Int)).set ((i : Nat) : Int).toNat a[i] = a.take (i + 1) ++ List.replicate d 0 := by
      rw [List.set_append_right _ _ (by simp; omega), List.replicate_succ]
      have e : ((i : Nat) : Int).toNat - (a.take i).length = 0 := by simp; omega
      rw [e, List.set_cons_zero, List.take_succ_eq_append_getElem ha]
      simp only [List.append_assoc, List.singleton_append]
    rw [he]
    exact ih
theorem toIntS_f (a : List Int) (hn : a.length ≤ 1048576) {k : Nat} (hk : a.length < k) : laws_toIntS.f k a = some a := by
  unfold laws_toIntS.f
  rw [if_pos (by omega), if_pos (by omega)]
  exact toIntS_l0 a (by omega) a.length 0 k (by omega) hk
/-- The numbers a, a + 1, .. -/
def mk (a : Int) (n : Nat) : List Int := (List.range n).map (fun (j : Nat) => a + (j : Int))
theorem mk_len (a : Int) (n : Nat) : (mk a n).length = n := by simp [mk]
theorem mk_succ (a : Int) (n : Nat) : mk a (n + 1) = mk a n ++ [a + (n : Int)] := by simp [mk, List.range_succ]
theorem mk_rd (a : Int) {n i : Nat} (h : i < n) : rd (mk a n) (i : Int) = a + (i : Int) := by
  rw [rd_lt (by rw [mk_len]; exact h)]
  simp [mk]
theorem markIntS_l0 (l : List Int) (a : Int) (h0 : 0 ≤ a) (h1 : a ≤ 1000000000000) (hn : l.length ≤ 1000000000000) : ∀ (d i k : Nat), i + d = l.length → d < k → laws_markIntS.l0 k (mk a i ++ l.drop i) (a + (i : Int)) (i : Int) = some (a + (l.length : Int), mk a l.length)
  | 0, i, k, hi, hk => by
    obtain ⟨k, rfl⟩ : ∃ q, k = q + 1 := ⟨k - 1, by omega⟩
    have e : i = l.length := by omega
    subst e
    simp only [laws_markIntS.l0]
    rw [if_neg (by rw [List.length_append, mk_len, List.length_drop]; omega), List.drop_eq_nil_of_le (by omega), List.append_nil]
  | d + 1, i, k, hi, hk => by
    obtain ⟨k, rfl⟩ : ∃ q, k = q + 1 := ⟨k - 1, by omega⟩
    have ha : i < l.length := by omega
    have ih := markIntS_l0 l a h0 h1 hn d (i + 1) k (by omega) (by omega)
    simp only [laws_markIntS.l0]
    rw [if_pos (by rw [List.length_append, mk_len, List.length_drop]; omega), if_pos (by omega), up64 ha (by omega), w64 (x := a + (i : Int) + 1) (by omega) (by omega)]
    have he : (mk a i ++ l.drop i).set ((i : Nat) : Int).toNat (a + (i : Int)) = mk a (i + 1) ++ l.drop (i + 1) := by
      rw [List.set_append_right _ _ (by rw [mk_len]; omega), mk_len, mk_succ, List.drop_eq_getElem_cons ha]
      have e : ((i : Nat) : Int).toNat - i = 0 := by omega
      rw [e, List.set_cons_zero]
      simp only [List.append_assoc, List.singleton_append]
    rw [he, show a + (i : Int) + 1 = a + ((i + 1 : Nat) : Int) by omega]
    exact ih
theorem markIntS_f (l : List Int) (a : Int) (h0 : 0 ≤ a) (h1 : a ≤ 1000000000000) (hn : l.length ≤ 1000000000000) {k : Nat} (hk : l.length < k) : laws_markIntS.f k l a = some (a + (l.length : Int), mk a l.length) := by
  have h := markIntS_l0 l a h0 h1 hn l.length 0 k (by omega) hk
  unfold laws_markIntS.f
  simpa [mk] using h
theorem heldIntS_l0 (n : Nat) (a : Int) (h0 : 0 ≤ a) (h1 : a ≤ 1000000000000) (hn : n ≤ 1000000000000) : ∀ (d i k : Nat), i + d = n → d < k → laws_heldIntS.l0 k (mk a n) (a + (i : Int)) (i : Int) = some (a + (n : Int))
  | 0, i, k, hi, hk => by
    obtain ⟨k, rfl⟩ : ∃ q, k = q + 1 := ⟨k - 1, by omega⟩
    have e : i = n := by omega
    subst e
    simp only [laws_heldIntS.l0]
    rw [if_neg (by rw [mk_len]; omega)]
  | d + 1, i, k, hi, hk => by
    obtain ⟨k, rfl⟩ : ∃ q, k = q + 1 := ⟨k - 1, by omega⟩
    have ha : i < n := by omega
    have ih := heldIntS_l0 n a h0 h1 hn d (i + 1) k (by omega) (by omega)
    simp only [laws_heldIntS.l0]
    rw [if_pos (by rw [mk_len]; omega), if_pos (by omega), mk_rd a ha, if_pos rfl, up64 ha (by omega), w64 (x := a + (i : Int) + 1) (by omega) (by omega), show a + (i : Int) + 1 = a + ((i + 1 : Nat) : Int) by omega]
    exact ih
theorem heldIntS_f (n : Nat) (a : Int) (h0 : 0 ≤ a) (h1 : a ≤ 1000000000000) (hn : n ≤ 1000000000000) {k : Nat} (hk : n < k) : laws_heldIntS.f k (mk a n) a = some (a + (n : Int)) := by
  have h := heldIntS_l0 n a h0 h1 hn n 0 k (by omega) hk
  unfold laws_heldIntS.f
  simpa using h
/-- The place of the first x in a list, or -1. -/
def ix (l : List Int) (x : Int) : Int := if x ∈ l then (l.idxOf x : Int) else -1
theorem index_l0 (a : List Int) (x : Int) (hn : a.length ≤ 4611686018427387904) : ∀ (d i k : Nat), i + d = a.length → d < k → x ∉ a.take i → slices_Index_int_int.l0 k a x (a.length : Int) (i : Int) = some (ix a x)
  | 0, i, k, hi, hk, hx => by
    obtain ⟨k, rfl⟩ : ∃ q, k = q + 1 := ⟨k - 1, by omega⟩
    simp only [slices_Index_int_int.l0]
    rw [List.take_of_length_le (by omega)] at hx
    rw [if_neg (by omega)]
    unfold ix
    rw [if_neg hx]
  | d + 1, i, k, hi, hk, hx => by
    obtain ⟨k, rfl⟩ : ∃ q, k = q + 1 := ⟨k - 1, by omega⟩
    have ha : i < a.length := by omega
    simp only [slices_Index_int_int.l0]
    rw [if_pos (by omega), if_pos (by omega), if_pos (by omega), up64 ha hn, rd_lt ha]
    by_cases e : x = a[i]
    · rw [if_pos e]
      unfold ix
      have hm : x ∈ a := by rw [e]; exact List.getElem_mem ha
      rw [if_pos hm]
      have h2 : a.idxOf x = i := by
        have h3 : a = a.take i ++ a[i] :: a.drop (i + 1) := by rw [← List.drop_eq_getElem_cons ha, List.take_append_drop]
        rw [h3, List.idxOf_append, if_neg hx, ← e, List.idxOf_cons_self]
        simp; omega
      rw [h2]
    · rw [if_neg e]
      refine index_l0 a x hn d (i + 1) k (by omega) (by omega) ?_
      rw [List.take_succ_eq_append_getElem ha, List.mem_append, List.mem_singleton]
      exact fun h => h.elim hx e
theorem index_f (a : List Int) (x : Int) (hn : a.length ≤ 4611686018427387904) {k : Nat} (hk : a.length < k) : slices_Index_int_int.f k a x = some (ix a x) :=
  index_l0 a x hn a.length 0 k (by omega) hk (by simp)
theorem ix_mem (l : List Int) (x : Int) : ix l x ≥ 0 ↔ x ∈ l := by
  unfold ix
  split <;> simp_all
theorem contains_f (a : List Int) (x : Int) (hn : a.length ≤ 4611686018427387904) {k : Nat} (hk : a.length < k) : slices_Contains_int_int.f k a x = some (decide (x ∈ a)) := by
  unfold slices_Contains_int_int.f
  rw [index_f a x hn hk]
  simp [ix_mem]
theorem equal_l0 (a b : List Int) (hl : a.length = b.length) (hn : a.length ≤ 4611686018427387904) : ∀ (d i k : Nat), i + d = a.length → d < k → slices_Equal_int_int.l0 k a b (a.length : Int) (i : Int) = some (decide (a.drop i = b.drop i))
  | 0, i, k, hi, hk => by
    obtain ⟨k, rfl⟩ : ∃ q, k = q + 1 := ⟨k - 1, by omega⟩
    simp only [slices_Equal_int_int.l0]
    rw [if_neg (by omega), List.drop_eq_nil_of_le (by omega), List.drop_eq_nil_of_le (by omega)]
    simp
  | d + 1, i, k, hi, hk => by
    obtain ⟨k, rfl⟩ : ∃ q, k = q + 1 := ⟨k - 1, by omega⟩
    have ih := equal_l0 a b hl hn d (i + 1) k (by omega) (by omega)
    have ha : i < a.length := by omega
    have hb : i < b.length := by omega
    simp only [slices_Equal_int_int.l0]
    rw [if_pos (by omega), if_pos (by omega), if_pos (by omega), if_pos (by omega), up64 ha hn, ih, rd_lt ha, rd_lt hb, List.drop_eq_getElem_cons ha, List.drop_eq_getElem_cons hb]
    by_cases e : a[i] = b[i]
    · rw [if_pos e, e]; simp only [List.cons.injEq, true_and]
    · rw [if_neg e]; simp only [List.cons.injEq, e, false_and, decide_false]
theorem equal_f (a b : List Int) (hn : a.length ≤ 4611686018427387904) {k : Nat} (hk : a.length < k) : slices_Equal_int_int.f k a b = some (decide (a = b)) := by
  unfold slices_Equal_int_int.f
  by_cases h : a.length = b.length
  · rw [if_pos (by omega)]
    exact equal_l0 a b h hn a.length 0 k (by omega) hk
  · rw [if_neg (by omega), decide_eq_false (fun e => h (by rw [e]))]
/-- The numbers 0, 1, .., n - 1. -/
def iot (n : Nat) : List Int := (List.range n).map (fun (j : Nat) => (j : Int))
theorem iot_len (n : Nat) : (iot n).length = n := by simp [iot]
theorem iot_succ (n : Nat) : iot (n + 1) = iot n ++ [(n : Int)] := by simp [iot, List.range_succ]
theorem iot_mem (n : Nat) (x : Int) : x ∈ iot n ↔ 0 ≤ x ∧ x < n := by
  simp only [iot, List.mem_map, List.mem_range]
  constructor
  · rintro ⟨j, h, rfl⟩; omega
  · rintro ⟨h0, h1⟩; exact ⟨x.toNat, by omega, by omega⟩
theorem ix_iot {n : Nat} {x : Int} (h0 : 0 ≤ x) (h1 : x < n) : ix (iot n) x = x := by
  induction n with
  | zero => omega
  | succ n ih =>
    unfold ix
    rw [if_pos ((iot_mem _ _).2 ⟨h0, h1⟩), iot_succ, List.idxOf_append]
    by_cases e : x < n
    · have h2 := ih e
      unfold ix at h2
      rw [if_pos ((iot_mem _ _).2 ⟨h0, e⟩)] at h2
      rw [if_pos ((iot_mem _ _).2 ⟨h0, e⟩)]
      exact h2
    · rw [if_neg (fun h => e ((iot_mem _ _).1 h).2)]
      have : x = (n : Int) := by omega
      rw [this, List.idxOf_cons_self, iot_len]
      omega
/-- Whatever the state, the list's begin stays. -/
theorem anew_any (l : List Int) (hn : l.length ≤ 4000000) : ∀ (d i k : Nat) (out seen : List Int), i + d = l.length → out.length = i → seen.length ≤ i → d + 2 * l.length + 5 < k →
    ∃ out', impl_anew.l0 k out seen l (l.length : Int) (i : Int) = some out' ∧ out'.take i = out ∧ out'.length = l.length
  | 0, i, k, out, seen, hi, ho, hs, hk => by
    obtain ⟨k, rfl⟩ : ∃ q, k = q + 1 := ⟨k - 1, by omega⟩
    refine ⟨out, ?_, List.take_of_length_le (by omega), by omega⟩
    simp only [impl_anew.l0]
    rw [if_neg (by omega)]
  | d + 1, i, k, out, seen, hi, ho, hs, hk => by
    obtain ⟨k, rfl⟩ : ∃ q, k = q + 1 := ⟨k - 1, by omega⟩
    have ha : i < l.length := by omega
    have more : ∀ (x : Int) (seen' : List Int), seen'.length ≤ i + 1 → ∃ out', impl_anew.l0 k (out ++ [x]) seen' l (l.length : Int) ((i + 1 : Nat) : Int) = some out' ∧ out'.take i = out ∧ out'.length = l.length := by
      intro x seen' hs'
      obtain ⟨o, h1, h2, h3⟩ := anew_any l hn d (i + 1) k (out ++ [x]) seen' (by omega) (by simp; omega) hs' (by omega)
      refine ⟨o, h1, ?_, h3⟩
      have h4 : o.take i = (o.take (i + 1)).take i := by rw [List.take_take]; congr 1; omega
      rw [h4, h2, List.take_append_of_le_length (by omega), List.take_of_length_le (by omega)]
    simp only [impl_anew.l0]
    rw [if_pos (by omega), if_pos (by omega), if_pos (by omega), up64 ha (by omega), contains_f _ _ (by omega) (by omega), rd_lt ha]
    simp only [Option.bind_some]
    by_cases e : l[i] ∈ seen
    · rw [if_pos (by simpa using e), index_f _ _ (by omega) (by omega)]
      simp only [Option.bind_some]
      rw [if_pos (by omega)]
      exact more _ _ (by omega)
    · rw [if_neg (by simpa using e), if_pos (by omega), index_f _ _ (by simp; omega) (by simp; omega)]
      simp only [Option.bind_some]
      rw [if_pos (by omega)]
      exact more _ _ (by simp; omega)
/-- The reference's loop and the program's, side by side: they agree as long as the groups come in order. -/
theorem good_both (l : List Int) (hn : l.length ≤ 4000000) : ∀ (d i k : Nat) (next : Nat), i + d = l.length → next ≤ i → d + 2 * l.length + 5 < k →
    ∃ g o, spec_cbGood.l0 k (next : Int) l (l.length : Int) (i : Int) = some g ∧ impl_anew.l0 k (l.take i) (iot next) l (l.length : Int) (i : Int) = some o ∧ o.length = l.length ∧ (g = true ↔ o = l) ∧ (g = true → ∀ x ∈ l.drop i, 0 ≤ x ∧ x < l.length)
  | 0, i, k, next, hi, hx, hk => by
    obtain ⟨k, rfl⟩ : ∃ q, k = q + 1 := ⟨k - 1, by omega⟩
    refine ⟨true, l.take i, ?_, ?_, by simp; omega, ⟨fun _ => List.take_of_length_le (by omega), fun _ => rfl⟩, fun _ x hx => by rw [List.drop_eq_nil_of_le (by omega)] at hx; cases hx⟩
    · simp only [spec_cbGood.l0]; rw [if_neg (by omega)]
    · simp only [impl_anew.l0]; rw [if_neg (by omega)]
  | d + 1, i, k, next, hi, hx, hk => by
    obtain ⟨k, rfl⟩ : ∃ q, k = q + 1 := ⟨k - 1, by omega⟩
    have ha : i < l.length := by omega
    have hlen : (l.take i).length = i := by simp; omega
    by_cases hin : 0 ≤ l[i] ∧ l[i] ≤ next
    · by_cases e : l[i] = (next : Int)
      · obtain ⟨g, o, h1, h2, h3, h4, h5⟩ := good_both l hn d (i + 1) k (next + 1) (by omega) (by omega) (by omega)
        refine ⟨g, o, ?_, ?_, h3, h4, fun hg x hx => by rw [List.drop_eq_getElem_cons ha] at hx; rcases List.mem_cons.1 hx with rfl | hx; exact ⟨hin.1, by omega⟩; exact h5 hg x hx⟩
        · simp only [spec_cbGood.l0]
          rw [if_pos (by omega), if_pos (by omega), if_pos (by omega), rd_lt ha]
          unfold spec_l1In.f
          rw [if_pos hin.1]
          simp only [Option.bind_some]
          rw [if_pos (by simpa using hin.2), if_pos e, up64 ha (by omega), up64 (n := l.length + 1) (i := next) (by omega) (by omega)]
          exact h1
        · simp only [impl_anew.l0]
          rw [if_pos (by omega), if_pos (by omega), if_pos (by omega), up64 ha (by omega), contains_f _ _ (by rw [iot_len]; omega) (by rw [iot_len]; omega), rd_lt ha]
          simp only [Option.bind_some]
          rw [if_neg (by simp only [decide_eq_true_eq, iot_mem]; omega), if_pos (by rw [iot_len]; omega), e, ← iot_succ, index_f _ _ (by rw [iot_len]; omega) (by rw [iot_len]; omega), ix_iot (by omega) (by omega)]
          simp only [Option.bind_some]
          rw [if_pos (by omega)]
          rw [List.take_succ_eq_append_getElem ha, e] at h2
          exact h2
      · obtain ⟨g, o, h1, h2, h3, h4, h5⟩ := good_both l hn d (i + 1) k next (by omega) (by omega) (by omega)
        refine ⟨g, o, ?_, ?_, h3, h4, fun hg x hx => by rw [List.drop_eq_getElem_cons ha] at hx; rcases List.mem_cons.1 hx with rfl | hx; exact ⟨hin.1, by omega⟩; exact h5 hg x hx⟩
        · simp only [spec_cbGood.l0]
          rw [if_pos (by omega), if_pos (by omega), if_pos (by omega), rd_lt ha]
          unfold spec_l1In.f
          rw [if_pos hin.1]
          simp only [Option.bind_some]
          rw [if_pos (by simpa using hin.2), if_neg e, up64 ha (by omega)]
          exact h1
        · simp only [impl_anew.l0]
          rw [if_pos (by omega), if_pos (by omega), if_pos (by omega), up64 ha (by omega), contains_f _ _ (by rw [iot_len]; omega) (by rw [iot_len]; omega), rd_lt ha]
          simp only [Option.bind_some]
          rw [if_pos (by simp only [decide_eq_true_eq, iot_mem]; omega), index_f _ _ (by rw [iot_len]; omega) (by rw [iot_len]; omega), ix_iot (by omega) (by omega)]
          simp only [Option.bind_some]
          rw [if_pos (by omega)]
          rw [List.take_succ_eq_append_getElem ha] at h2
          exact h2
    · obtain ⟨o, h1, h2, h3⟩ := anew_any l hn d (i + 1) k (l.take i ++ [(next : Int)]) (iot next ++ [l[i]]) (by omega) (by simp; omega) (by simp [iot_len]; omega) (by omega)
      refine ⟨false, o, ?_, ?_, h3, ?_, fun h => by cases h⟩
      · simp only [spec_cbGood.l0]
        rw [if_pos (by omega), if_pos (by omega), if_pos (by omega), rd_lt ha]
        unfold spec_l1In.f
        by_cases h0 : 0 ≤ l[i]
        · rw [if_pos h0]; simp only [Option.bind_some]; rw [if_neg (by simp; omega)]
        · rw [if_neg h0]; simp
      · simp only [impl_anew.l0]
        rw [if_pos (by omega), if_pos (by omega), if_pos (by omega), up64 ha (by omega), contains_f _ _ (by rw [iot_len]; omega) (by rw [iot_len]; omega), rd_lt ha]
        simp only [Option.bind_some]
        rw [if_neg (by simp only [decide_eq_true_eq, iot_mem]; omega), if_pos (by rw [iot_len]; omega), index_f _ _ (by simp [iot_len]; omega) (by simp [iot_len]; omega)]
        simp only [Option.bind_some]
        rw [if_pos (by omega)]
        have e : ix (iot next ++ [l[i]]) l[i] = (next : Int) := by
          unfold ix
          rw [if_pos (by simp), List.idxOf_append, if_neg (by rw [iot_mem]; omega), List.idxOf_cons_self, iot_len]
          omega
        rw [e]
        exact h1
      · constructor
        · intro h; cases h
        · intro h
          rw [h] at h2
          rw [List.take_succ_eq_append_getElem ha] at h2
          have h5 := List.append_cancel_left h2
          injection h5 with h5 _
          omega
theorem isGrouping_both (l : List Int) (hn : l.length ≤ 4000000) {k : Nat} (hk : 3 * l.length + 10 < k) : ∃ g, spec_cbGood.f k l = some g ∧ impl_IsGrouping.f k l = some g ∧ (g = true → 1 ≤ l.length ∧ l.length ≤ 12 ∧ ∀ x ∈ l, 0 ≤ x ∧ x < l.length) := by
  unfold spec_cbGood.f impl_IsGrouping.f impl_areWires.f spec_l1In.f impl_within.f
  by_cases h1 : (1 : Int) ≤ (l.length : Int)
  · by_cases h2 : (l.length : Int) ≤ 12
    · obtain ⟨g, o, e1, e2, e3, e4, e5⟩ := good_both l hn l.length 0 k 0 (by omega) (by omega) (by omega)
      have e2' : impl_anew.f k l = some o := e2
      refine ⟨g, ?_, ?_, ?_⟩
      · rw [if_pos h1]; simp only [Option.bind_some]; rw [if_pos (by simpa using h2)]; exact e1
      · rw [if_pos h1]; simp only [Option.bind_some]; rw [if_pos (by simpa using h2), e2']; simp only [Option.bind_some]; rw [equal_f _ _ (by omega) (by omega)]
        simp only [Option.bind_some, Option.some.injEq]
        rw [Bool.eq_iff_iff, decide_eq_true_eq, e4]
      · exact fun hg => ⟨by omega, by omega, e5 hg⟩
    · exact ⟨false, by rw [if_pos h1]; simp [h2], by rw [if_pos h1]; simp [h2], fun h => by cases h⟩
  · exact ⟨false, by rw [if_neg h1]; simp, by rw [if_neg h1]; simp, fun h => by cases h⟩
/-- The number of groups, where n have been met. -/
def nx : Nat → List Int → Nat
  | n, [] => n
  | n, x :: l => nx (if x = (n : Int) then n + 1 else n) l
/-- Are these groups in the order in which they come, where n have been met? -/
def rg : Nat → List Int → Bool
  | _, [] => true
  | n, x :: l => decide (0 ≤ x) && decide (x ≤ (n : Int)) && rg (if x = (n : Int) then n + 1 else n) l
theorem nx_ge (l : List Int) : ∀ n, n ≤ nx n l := by
  induction l with
  | nil => intro n; exact Nat.le_refl _
  | cons x l ih =>
    intro n
    simp only [nx]
    split
    · exact Nat.le_trans (Nat.le_succ _) (ih _)
    · exact ih _
theorem nx_le (l : List Int) : ∀ n, nx n l ≤ n + l.length := by
  induction l with
  | nil => intro n; simp [nx]
  | cons x l ih =>
    intro n
    simp only [nx, List.length_cons]
    split
    · have := ih (n + 1); omega
    · have := ih n; omega
theorem rg_lt (l : List Int) : ∀ n, rg n l = true → ∀ x ∈ l, 0 ≤ x ∧ x < (nx n l : Int) := by
  induction l with
  | nil => intro n _ x hx; cases hx
  | cons y l ih =>
    intro n h x hx
    simp only [rg, Bool.and_eq_true, decide_eq_true_eq] at h
    obtain ⟨⟨h0, h1⟩, h2⟩ := h
    simp only [nx]
    rcases List.mem_cons.1 hx with rfl | hx
    · refine ⟨h0, ?_⟩
      split
      · have := nx_ge l (n + 1); omega
      · have := nx_ge l n; omega
    · exact ih _ h2 x hx
theorem nx_append (a b : List Int) : ∀ n, nx n (a ++ b) = nx (nx n a) b := by
  induction a with
  | nil => intro n; rfl
  | cons x l ih => intro n; simp only [List.cons_append, nx]; exact ih _
theorem rg_append (a b : List Int) : ∀ n, rg n (a ++ b) = (rg n a && rg (nx n a) b) := by
  induction a with
  | nil => intro n; simp [rg, nx]
  | cons x l ih => intro n; simp only [List.cons_append, nx, rg, ih, Bool.and_assoc]
theorem cbGood_l0 (l : List Int) (hn : l.length ≤ 4000000) : ∀ (d i k : Nat) (next : Nat), i + d = l.length → next ≤ i → d < k → spec_cbGood.l0 k (next : Int) l (l.length : Int) (i : Int) = some (rg next (l.drop i))
  | 0, i, k, next, hi, hx, hk => by
    obtain ⟨k, rfl⟩ : ∃ q, k = q + 1 := ⟨k - 1, by omega⟩
    simp only [spec_cbGood.l0]
    rw [if_neg (by omega), List.drop_eq_nil_of_le (by omega)]
    rfl
  | d + 1, i, k, next, hi, hx, hk => by
    obtain ⟨k, rfl⟩ : ∃ q, k = q + 1 := ⟨k - 1, by omega⟩
    have ha : i < l.length := by omega
    simp only [spec_cbGood.l0]
    rw [if_pos (by omega), if_pos (by omega), if_pos (by omega), rd_lt ha, List.drop_eq_getElem_cons ha]
    unfold spec_l1In.f
    simp only [rg]
    by_cases h0 : 0 ≤ l[i]
    · rw [if_pos h0]
      simp only [Option.bind_some, h0, decide_true, Bool.true_and]
      by_cases h1 : l[i] ≤ (next : Int)
      · rw [if_pos (by simpa using h1)]
        simp only [h1, decide_true, Bool.true_and]
        by_cases e : l[i] = (next : Int)
        · rw [if_pos e, if_pos e, up64 ha (by omega), up64 (n := l.length + 1) (i := next) (by omega) (by omega)]
          exact cbGood_l0 l hn d (i + 1) k (next + 1) (by omega) (by omega) (by omega)
        · rw [if_neg e, if_neg e, up64 ha (by omega)]
          exact cbGood_l0 l hn d (i + 1) k next (by omega) (by omega) (by omega)
      · rw [if_neg (by simpa using h1)]
        simp [h1]
    · rw [if_neg h0]
      simp [h0]
/-- Is a list a grouping? -/
def good (l : List Int) : Bool := decide (1 ≤ l.length) && decide (l.length ≤ 12) && rg 0 l
theorem cbGood_f (l : List Int) (hn : l.length ≤ 4000000) {k : Nat} (hk : l.length < k) : spec_cbGood.f k l = some (good l) := by
  unfold spec_cbGood.f spec_l1In.f good
  by_cases h1 : (1 : Int) ≤ (l.length : Int)
  · rw [if_pos h1]
    by_cases h2 : (l.length : Int) ≤ 12
    · simp only [Option.bind_some]
      rw [if_pos (by simpa using h2)]
      have := cbGood_l0 l hn l.length 0 k 0 (by omega) (by omega) hk
      have e1 : decide (1 ≤ l.length) = true := by simp; omega
      have e2 : decide (l.length ≤ 12) = true := by simp; omega
      rw [e1, e2]
      simpa using this
    · have e2 : decide (l.length ≤ 12) = false := by simp; omega
      simp [h2, e2]
  · have e1 : decide (1 ≤ l.length) = false := decide_eq_false (by omega)
    rw [if_neg h1]
    simp [e1]
theorem isGrouping_f (l : List Int) (hn : l.length ≤ 4000000) {k : Nat} (hk : 3 * l.length + 10 < k) : impl_IsGrouping.f k l = some (good l) := by
  obtain ⟨g, h1, h2, _⟩ := isGrouping_both l hn hk
  rw [cbGood_f l hn (by omega)] at h1
  rw [h2, ← h1]
theorem good_cases {l : List Int} (h : good l = true) : 1 ≤ l.length ∧ l.length ≤ 12 ∧ rg 0 l = true := by
  unfold good at h
  simp only [Bool.and_eq_true, decide_eq_true_eq] at h
  exact ⟨h.1.1, h.1.2, h.2⟩
/-- The places before i at which g stands. -/
def pos (l : List Int) (i : Nat) (g : Int) : List Int := ((List.range i).filter (fun j => l.getD j 0 == g)).map (fun (j : Nat) => (j : Int))
def grp (l : List Int) (m i : Nat) : List (List Int) := (List.range m).map (fun (g : Nat) => pos l i (g : Int))
/-- The places of each group. -/
def groups (l : List Int) : List (List Int) := grp l (nx 0 l) l.length
theorem pos_succ (l : List Int) {i : Nat} (h : i < l.length) (g : Int) : pos l (i + 1) g = pos l i g ++ if l[i] = g then [(i : Int)] else [] := by
  unfold pos
  rw [List.range_succ, List.filter_append, List.map_append]
  congr 1
  have e : l.getD i 0 = l[i] := by simp [List.getD_eq_getElem?_getD, h]
  simp only [List.filter_cons, e, List.filter_nil]
  by_cases hg : l[i] = g <;> simp [hg]
theorem pos_le (l : List Int) (i : Nat) (g : Int) : (pos l i g).length ≤ i := by
  unfold pos
  rw [List.length_map]
  exact Nat.le_trans (List.length_filter_le _ _) (by simp)
theorem grp_len (l : List Int) (m i : Nat) : (grp l m i).length = m := by simp [grp]
theorem grp_rd (l : List Int) {m i g : Nat} (h : g < m) : rd_L1 (grp l m i) (g : Int) = pos l i (g : Int) := by
  unfold rd_L1 grp
  simp [List.getD_eq_getElem?_getD, h]
theorem grp_set (l : List Int) {m i g : Nat} (hi : i < l.length) (hg : g < m) (e : l[i] = (g : Int)) : (grp l m i).set g (pos l i (g : Int) ++ [(i : Int)]) = grp l m (i + 1) := by
  apply List.ext_getElem
  · simp [grp]
  · intro n h1 h2
    simp only [grp_len, List.length_set] at h1 h2
    rw [List.getElem_set]
    simp only [grp, List.getElem_map, List.getElem_range]
    rw [pos_succ l hi]
    by_cases hn : g = n
    · subst hn; simp [e]
    · rw [if_neg hn, if_neg (by omega)]; simp
theorem grp_more (l : List Int) {m i : Nat} (hi : i ≤ l.length) (h : ∀ x ∈ l.take i, x < (m : Int)) : grp l m i ++ [[]] = grp l (m + 1) i := by
  unfold grp
  rw [List.range_succ, List.map_append]
  congr 1
  simp only [List.map_cons, List.map_nil, List.cons.injEq, and_true]
  unfold pos
  symm
  rw [List.map_eq_nil_iff, List.filter_eq_nil_iff]
  intro j hj
  rw [List.mem_range] at hj
  have hj2 : j < l.length := by omega
  have := h l[j] (by rw [List.mem_take_iff_getElem]; exact ⟨j, by omega, rfl⟩)
  simp only [List.getD_eq_getElem?_getD, List.getElem?_eq_getElem hj2, Option.getD_some, beq_iff_eq]
  omega
theorem rg_take {l : List Int} (h : rg 0 l = true) (i : Nat) : rg 0 (l.take i) = true ∧ rg (nx 0 (l.take i)) (l.drop i) = true ∧ nx (nx 0 (l.take i)) (l.drop i) = nx 0 l := by
  have h1 : l.take i ++ l.drop i = l := List.take_append_drop i l
  have h2 := rg_append (l.take i) (l.drop i) 0
  have h3 := nx_append (l.take i) (l.drop i) 0
  rw [h1] at h2 h3
  rw [h2, Bool.and_eq_true] at h
  exact ⟨h.1, h.2, h3.symm⟩
theorem nx_take_succ (l : List Int) {i : Nat} (h : i < l.length) : nx 0 (l.take (i + 1)) = if l[i] = (nx 0 (l.take i) : Int) then nx 0 (l.take i) + 1 else nx 0 (l.take i) := by
  rw [List.take_succ_eq_append_getElem h, nx_append]
  simp [nx]
theorem cbGroups_l0 (l : List Int) (hn : l.length ≤ 4000000) (hr : rg 0 l = true) : ∀ (d i k : Nat), i + d = l.length → d < k → spec_cbGroups.l0 k (grp l (nx 0 (l.take i)) i) l (l.length : Int) (i : Int) = some (groups l)
  | 0, i, k, hi, hk => by
    obtain ⟨k, rfl⟩ : ∃ q, k = q + 1 := ⟨k - 1, by omega⟩
    simp only [spec_cbGroups.l0]
    rw [if_neg (by omega), List.take_of_length_le (by omega)]
    unfold groups
    rw [show i = l.length by omega]
  | d + 1, i, k, hi, hk => by
    obtain ⟨k, rfl⟩ : ∃ q, k = q + 1 := ⟨k - 1, by omega⟩
    have ha : i < l.length := by omega
    have ih := cbGroups_l0 l hn hr d (i + 1) k (by omega) (by omega)
    obtain ⟨t1, t2, t3⟩ := rg_take hr i
    have hle : nx 0 (l.take i) ≤ i := by have := nx_le (l.take i) 0; simp at this; omega
    rw [nx_take_succ l ha] at ih
    rw [List.drop_eq_getElem_cons ha] at t2
    simp only [rg, Bool.and_eq_true, decide_eq_true_eq] at t2
    obtain ⟨⟨g0, g1⟩, _⟩ := t2
    have hp := pos_le l i l[i]
    simp only [spec_cbGroups.l0]
    rw [if_pos (by omega), if_pos (by omega), if_pos (by omega), rd_lt ha, grp_len, up64 ha (by omega)]
    obtain ⟨g, eg⟩ : ∃ g : Nat, l[i] = (g : Int) := ⟨l[i].toNat, by omega⟩
    by_cases e : l[i] = (nx 0 (l.take i) : Int)
    · have hall : ∀ x ∈ l.take i, x < ((nx 0 (l.take i) : Nat) : Int) := fun x hx => (rg_lt _ 0 t1 x hx).2
      have hgn : g = nx 0 (l.take i) := by omega
      rw [if_pos e] at ih
      rw [if_pos e, if_pos (by omega)]
      simp only [Option.bind_some]
      rw [grp_more l (by omega) hall, grp_len, eg, if_pos (by omega), if_pos (by omega), grp_rd l (by omega), if_pos (by rw [← eg]; omega), Int.toNat_natCast, grp_set l ha (by omega) eg]
      exact ih
    · rw [if_neg e] at ih
      rw [if_neg e, eg, if_pos (by omega), if_pos (by omega), grp_rd l (by omega), if_pos (by rw [← eg]; omega), Int.toNat_natCast, grp_set l ha (by omega) eg]
      exact ih
theorem cbGroups_f (l : List Int) (hn : l.length ≤ 4000000) (hr : rg 0 l = true) {k : Nat} (hk : l.length < k) : spec_cbGroups.f k l = some (groups l) := by
  have := cbGroups_l0 l hn hr l.length 0 k (by omega) hk
  unfold spec_cbGroups.f
  simpa [grp, nx] using this
theorem max_l0 (l : List Int) (hn : l.length ≤ 4000000) : ∀ (d i k : Nat) (m : Int), i + d = l.length → d < k → slices_Max_int_int.l0 k l m (i : Int) = some ((l.drop i).foldl mx m)
  | 0, i, k, m, hi, hk => by
    obtain ⟨k, rfl⟩ : ∃ q, k = q + 1 := ⟨k - 1, by omega⟩
    simp only [slices_Max_int_int.l0]
    rw [if_neg (by omega), List.drop_eq_nil_of_le (by omega)]
    rfl
  | d + 1, i, k, m, hi, hk => by
    obtain ⟨k, rfl⟩ : ∃ q, k = q + 1 := ⟨k - 1, by omega⟩
    have ha : i < l.length := by omega
    simp only [slices_Max_int_int.l0]
    rw [if_pos (by omega), if_pos (by omega), rd_lt ha, up64 ha (by omega), List.drop_eq_getElem_cons ha, List.foldl_cons]
    exact max_l0 l hn d (i + 1) k _ (by omega) (by omega)
theorem max_nx (l : List Int) : ∀ (n : Nat), 1 ≤ n → rg n l = true → l.foldl mx ((n : Int) - 1) = (nx n l : Int) - 1 := by
  induction l with
  | nil => intro n _ _; rfl
  | cons x l ih =>
    intro n hn h
    simp only [rg, Bool.and_eq_true, decide_eq_true_eq] at h
    obtain ⟨⟨h0, h1⟩, h2⟩ := h
    rw [List.foldl_cons]
    simp only [nx]
    by_cases e : x = (n : Int)
    · rw [if_pos e] at h2 ⊢
      have e2 : mx ((n : Int) - 1) x = ((n + 1 : Nat) : Int) - 1 := by unfold mx; rw [if_pos (by omega)]; omega
      rw [e2]
      exact ih (n + 1) (by omega) h2
    · rw [if_neg e] at h2 ⊢
      have e2 : mx ((n : Int) - 1) x = (n : Int) - 1 := by unfold mx; rw [if_neg (by omega)]
      rw [e2]
      exact ih n hn h2
theorem max_f (l : List Int) (hn : l.length ≤ 4000000) (h1 : 1 ≤ l.length) (hr : rg 0 l = true) {k : Nat} (hk : l.length < k) : slices_Max_int_int.f k l = some ((nx 0 l : Int) - 1) := by
  cases l with
  | nil => simp at h1
  | cons x l =>
    simp only [rg, Bool.and_eq_true, decide_eq_true_eq] at hr
    obtain ⟨⟨h2, h3⟩, h4⟩ := hr
    have hx : x = 0 := by omega
    subst hx
    unfold slices_Max_int_int.f
    rw [if_neg (by simp only [List.length_cons]; omega), if_pos (by simp only [List.length_cons]; omega)]
    have e : rd ((0 : Int) :: l) 0 = 0 := rfl
    have := max_l0 ((0 : Int) :: l) hn (((0 : Int) :: l).length - 1) 1 k 0 (by simp only [List.length_cons]; omega) (by omega)
    rw [e]
    rw [show ((1 : Nat) : Int) = 1 from rfl] at this
    rw [this]
    have h5 := max_nx l 1 (by omega) (by simpa using h4)
    simpa [nx] using h5
theorem groupsOf_l0 (l : List Int) (hn : l.length ≤ 4000000) (m : Nat) (hm : ∀ x ∈ l, 0 ≤ x ∧ x < (m : Int)) : ∀ (d i k : Nat), i + d = l.length → d < k → impl_groupsOf.l0 k (grp l m i) l (l.length : Int) (i : Int) = some (grp l m l.length)
  | 0, i, k, hi, hk => by
    obtain ⟨k, rfl⟩ : ∃ q, k = q + 1 := ⟨k - 1, by omega⟩
    simp only [impl_groupsOf.l0]
    rw [if_neg (by omega), show i = l.length by omega]
  | d + 1, i, k, hi, hk => by
    obtain ⟨k, rfl⟩ : ∃ q, k = q + 1 := ⟨k - 1, by omega⟩
    have ha : i < l.length := by omega
    have ih := groupsOf_l0 l hn m hm d (i + 1) k (by omega) (by omega)
    obtain ⟨g0, g1⟩ := hm l[i] (List.getElem_mem ha)
    have hp := pos_le l i l[i]
    simp only [impl_groupsOf.l0]
    rw [if_pos (by omega), if_pos (by omega), if_pos (by omega), rd_lt ha, grp_len, up64 ha (by omega)]
    obtain ⟨g, eg⟩ : ∃ g : Nat, l[i] = (g : Int) := ⟨l[i].toNat, by omega⟩
    rw [eg, if_pos (by omega), if_pos (by omega), grp_rd l (by omega), if_pos (by rw [← eg]; omega), Int.toNat_natCast, grp_set l ha (by omega) eg]
    exact ih
theorem groupsOf_f (l : List Int) (hn : l.length ≤ 4000000) (h1 : 1 ≤ l.length) (hr : rg 0 l = true) {k : Nat} (hk : l.length < k) : impl_groupsOf.f k l = some (groups l) := by
  have hle := nx_le l 0
  have hm := fun x hx => rg_lt l 0 hr x hx
  unfold impl_groupsOf.f
  rw [max_f l hn h1 hr hk]
  simp only [Option.bind_some]
  rw [w64 (by omega) (by omega), show (nx 0 l : Int) - 1 + 1 = (nx 0 l : Int) by omega, if_pos (by omega), if_pos (by omega), Int.toNat_natCast]
  have := groupsOf_l0 l hn (nx 0 l) hm l.length 0 k (by omega) hk
  have e : grp l (nx 0 l) 0 = List.replicate (nx 0 l) [] := by
    unfold grp pos
    simp
    rw [List.eq_replicate_iff]
    simp
  rw [e] at this
  exact this
theorem groups_tot (l : List Int) (h : rg 0 l = true) : (groups l).length ≤ l.length ∧ ∀ x ∈ groups l, x.length ≤ l.length := by
  have hle := nx_le l 0
  refine ⟨by unfold groups; rw [grp_len]; omega, fun x hx => ?_⟩
  unfold groups grp at hx
  obtain ⟨g, _, rfl⟩ := List.mem_map.1 hx
  exact pos_le _ _ _
/-- The list l, with what stands before place i changed for what stands as far from the end. -/
def flp (l : List Int) (i : Nat) : List Int := (List.range l.length).map fun p => if p < i ∨ l.length - i ≤ p then l.getD (l.length - 1 - p) 0 else l.getD p 0
theorem flp_len (l : List Int) (i : Nat) : (flp l i).length = l.length := by simp [flp]
theorem flp_get (l : List Int) (i p : Nat) (h : p < l.length) : (flp l i)[p]? = some (if p < i ∨ l.length - i ≤ p then l.getD (l.length - 1 - p) 0 else l.getD p 0) := by
  simp [flp, h]
theorem flp_rd (l : List Int) (i p : Nat) (h : p < l.length) : rd (flp l i) (p : Int) = if p < i ∨ l.length - i ≤ p then l.getD (l.length - 1 - p) 0 else l.getD p 0 := by
  unfold rd
  rw [Int.toNat_natCast, List.getD_eq_getElem?_getD, flp_get l i p h]
  rfl
theorem flp_zero (l : List Int) : flp l 0 = l := by
  apply List.ext_getElem?
  intro p
  by_cases h : p < l.length
  · rw [flp_get l 0 p h, if_neg (by omega), List.getElem?_eq_getElem h]
    simp [List.getD_eq_getElem?_getD, h]
  · rw [List.getElem?_eq_none (by rw [flp_len]; omega), List.getElem?_eq_none (by omega)]
theorem flp_full (l : List Int) (i : Nat) (hi : l.length ≤ 2 * i + 1) : flp l i = l.reverse := by
  apply List.ext_getElem?
  intro p
  by_cases h : p < l.length
  · rw [flp_get l i p h, List.getElem?_reverse h, List.getElem?_eq_getElem (by omega)]
    by_cases hc : p < i ∨ l.length - i ≤ p
    · rw [if_pos hc]
      simp [List.getD_eq_getElem?_getD, show l.length - 1 - p < l.length by omega]
    · rw [if_neg hc]
      have : l.length - 1 - p = p := by omega
      simp [List.getD_eq_getElem?_getD, this, h]
  · rw [List.getElem?_eq_none (by rw [flp_len]; omega), List.getElem?_eq_none (by simp; omega)]
theorem flp_step (l : List Int) (i : Nat) (h : 2 * i + 1 < l.length) : ((flp l i).set i (l.getD (l.length - 1 - i) 0)).set (l.length - 1 - i) (l.getD i 0) = flp l (i + 1) := by
  apply List.ext_getElem?
  intro p
  by_cases hp : p < l.length
  · rw [List.getElem?_set, List.getElem?_set, flp_get l i p hp, flp_get l (i + 1) p hp]
    by_cases e1 : l.length - 1 - i = p
    · rw [if_pos e1, if_pos (by rw [List.length_set, flp_len]; omega), if_pos (by omega)]
      congr 2
      omega
    · rw [if_neg e1]
      by_cases e2 : i = p
      · rw [if_pos e2, if_pos (by rw [flp_len]; omega), if_pos (by omega)]
        subst e2
        rfl
      · rw [if_neg e2]
        by_cases hc : p < i ∨ l.length - i ≤ p
        · rw [if_pos hc, if_pos (by omega)]
        · rw [if_neg hc, if_neg (by omega)]
  · rw [List.getElem?_eq_none (by simp only [List.length_set, flp_len]; omega), List.getElem?_eq_none (by rw [flp_len]; omega)]
theorem reverse_l0 (l : List Int) (hn : l.length ≤ 4000000) : ∀ (d i k : Nat), l.length ≤ 2 * i + d → 2 * i ≤ l.length + 1 → d < k → slices_Reverse_int_int.l0 k (flp l i) (i : Int) ((l.length : Int) - 1 - (i : Int)) = some l.reverse
  | 0, i, k, h1, h2, hk => by
    obtain ⟨k, rfl⟩ : ∃ q, k = q + 1 := ⟨k - 1, by omega⟩
    simp only [slices_Reverse_int_int.l0]
    rw [if_neg (by omega), flp_full l i (by omega)]
  | d + 1, i, k, h1, h2, hk => by
    obtain ⟨k, rfl⟩ : ∃ q, k = q + 1 := ⟨k - 1, by omega⟩
    simp only [slices_Reverse_int_int.l0]
    by_cases hc : (i : Int) < (l.length : Int) - 1 - (i : Int)
    · have hi : 2 * i + 1 < l.length := by omega
      have e1 : (l.length : Int) - 1 - (i : Int) = ((l.length - 1 - i : Nat) : Int) := by omega
      have ih := reverse_l0 l hn d (i + 1) k (by omega) (by omega) (by omega)
      have e2 : (l.length : Int) - 1 - ((i + 1 : Nat) : Int) = wrap64 (((l.length - 1 - i : Nat) : Int) - 1) := by rw [w64 (by omega) (by omega)]; omega
      rw [if_pos hc, if_pos (by omega), flp_len, if_pos (by omega), if_pos (by omega), if_pos (by omega), e1, flp_rd l i i (by omega), flp_rd l i (l.length - 1 - i) (by omega), if_neg (by omega), if_neg (by omega), Int.toNat_natCast, Int.toNat_natCast, flp_step l i hi, up64 (n := l.length) (by omega) (by omega), ← e2]
      exact ih
    · rw [if_neg hc, flp_full l i (by omega)]
theorem reverse_f (l : List Int) (hn : l.length ≤ 4000000) {k : Nat} (hk : l.length < k) : slices_Reverse_int_int.f k l = some l.reverse := by
  unfold slices_Reverse_int_int.f
  have h := reverse_l0 l hn l.length 0 k (by omega) (by omega) hk
  rw [flp_zero] at h
  rw [w64 (by omega) (by omega)]
  simpa using h
theorem sorted_eq {a b : List Int} (ha : a.Pairwise (fun x y => y ≤ x)) (hb : b.Pairwise (fun x y => y ≤ x)) (hp : a.Perm b) : a = b :=
  List.Perm.eq_of_pairwise (fun x y _ _ h1 h2 => Int.le_antisymm h2 h1) ha hb hp
theorem sort_rev (l : List Int) : (l.mergeSort fun x y => decide (x ≤ y)).reverse.Pairwise (fun x y => y ≤ x) ∧ (l.mergeSort fun x y => decide (x ≤ y)).reverse.Perm l := by
  refine ⟨?_, (List.reverse_perm _).trans (List.mergeSort_perm l _)⟩
  rw [List.pairwise_reverse]
  have := List.pairwise_mergeSort (le := fun x y : Int => decide (x ≤ y)) (fun a b c h1 h2 => by simp only [decide_eq_true_eq] at *; omega) (fun a b => by simp only [Bool.or_eq_true, decide_eq_true_eq]; omega) l
  refine this.imp (fun h => ?_)
  simpa using h
/-- The sizes of the groups. -/
def lens (G : List (List Int)) : List Int := G.map fun x => (x.length : Int)
theorem ins_sorted (o : List Int) (v : Int) (m : Nat) (hm : m ≤ o.length) (ho : o.Pairwise (fun x y => y ≤ x)) (h1 : ∀ x ∈ o.drop m, x < v) (h2 : ∀ x, m ≠ 0 → o[m - 1]? = some x → v ≤ x) : ((o.take m ++ [v]) ++ o.drop m).Pairwise (fun x y => y ≤ x) := by
  rw [List.append_assoc]
  have hd := ho
  rw [← List.take_append_drop m o, List.pairwise_append] at hd
  rw [List.pairwise_append]
  have key : ∀ x ∈ o.take m, v ≤ x := by
    intro x hx
    obtain ⟨j, hj, rfl⟩ := List.mem_iff_getElem.1 hx
    have hj' : j < m := by simp at hj; omega
    have hjo : j < o.length := by omega
    have hmo : m - 1 < o.length := by omega
    have hv := h2 _ (by omega) (List.getElem?_eq_getElem hmo)
    rw [List.getElem_take]
    by_cases e : j = m - 1
    · subst e; exact hv
    · have := List.pairwise_iff_getElem.1 ho j (m - 1) hjo hmo (by omega)
      omega
  refine ⟨hd.1, ?_, ?_⟩
  · rw [List.singleton_append, List.pairwise_cons]
    exact ⟨fun x hx => Int.le_of_lt (h1 x hx), hd.2.1⟩
  · intro x hx y hy
    rw [List.singleton_append] at hy
    rcases List.mem_cons.1 hy with rfl | hy
    · exact key x hx
    · exact hd.2.2 x hx y hy
theorem ins_perm (o : List Int) (v : Int) (m : Nat) : ((o.take m ++ [v]) ++ o.drop m).Perm (o ++ [v]) := by
  rw [List.append_assoc, List.singleton_append]
  refine List.perm_middle.trans ?_
  rw [List.take_append_drop]
  exact (List.perm_append_singleton v o).symm
theorem cbSizes_l1 (G : List (List Int)) (o w : List Int) (ho : o.Pairwise (fun x y => y ≤ x)) (hl : o.length ≤ 1000) (n t : Int) (C : Nat) (R : List Int → Prop)
    (cont : ∀ q o', C < q → o'.Pairwise (fun x y => y ≤ x) → o'.Perm (o ++ [(w.length : Int)]) → ∃ r, spec_cbSizes.l0 q o' G n (wrap64 (t + 1)) = some r ∧ R r) :
    ∀ (m k : Nat), m ≤ o.length → (∀ x ∈ o.drop m, x < (w.length : Int)) → m + C + 1 < k → ∃ r, spec_cbSizes.l1 k o w (m : Int) G n t = some r ∧ R r := by
  intro m
  induction m with
  | zero =>
    intro k hm hd hk
    obtain ⟨k, rfl⟩ : ∃ q, k = q + 1 := ⟨k - 1, by omega⟩
    obtain ⟨r, e, hr⟩ := cont k _ (by omega) (ins_sorted o (w.length : Int) 0 hm ho hd (fun _ h => absurd rfl h)) (ins_perm o _ 0)
    refine ⟨r, ?_, hr⟩
    simp only [spec_cbSizes.l1, spec_l1Own.f]
    rw [if_neg (by omega), if_pos (by omega), if_pos (by omega)]
    simp only [Option.bind_some, List.nil_append]
    rw [if_pos (by simp), Option.bind_some, if_pos (by simp), if_pos (by simp; omega)]
    exact e
  | succ m ih =>
    intro k hm hd hk
    obtain ⟨k, rfl⟩ : ∃ q, k = q + 1 := ⟨k - 1, by omega⟩
    have hmo : m < o.length := by omega
    have e1 : wrap64 (((m + 1 : Nat) : Int) - 1) = (m : Int) := by rw [w64 (by omega) (by omega)]; omega
    simp only [spec_cbSizes.l1, spec_l1Own.f]
    rw [if_pos (by omega), e1, if_pos (by omega), if_pos (by omega), rd_lt hmo]
    by_cases hc : o[m] < (w.length : Int)
    · rw [if_pos hc]
      refine ih k (by omega) (fun x hx => ?_) (by omega)
      rw [List.drop_eq_getElem_cons hmo] at hx
      rcases List.mem_cons.1 hx with rfl | hx
      · exact hc
      · exact hd x hx
    · obtain ⟨r, e, hr⟩ := cont k _ (by omega) (ins_sorted o (w.length : Int) (m + 1) hm ho hd (fun x _ hx => by
        rw [Nat.add_sub_cancel, List.getElem?_eq_getElem hmo] at hx
        injection hx with hx
        omega)) (ins_perm o _ (m + 1))
      refine ⟨r, ?_, hr⟩
      rw [if_neg hc, if_pos (by omega), if_pos (by omega), Int.toNat_natCast]
      simp only [Option.bind_some, List.nil_append]
      rw [if_pos (by simp; omega), Option.bind_some, if_pos (by simp; omega), if_pos (by simp; omega)]
      exact e
theorem cbSizes_l0 (G : List (List Int)) (hG : G.length ≤ 12) : ∀ (d i k : Nat) (o : List Int), i + d = G.length → o.Pairwise (fun x y => y ≤ x) → o.Perm (lens (G.take i)) → d * 20 + 20 < k → ∃ r, spec_cbSizes.l0 k o G (G.length : Int) (i : Int) = some r ∧ (r.Pairwise (fun x y => y ≤ x) ∧ r.Perm (lens G))
  | 0, i, k, o, hi, ho, hp, hk => by
    obtain ⟨k, rfl⟩ : ∃ q, k = q + 1 := ⟨k - 1, by omega⟩
    simp only [spec_cbSizes.l0]
    rw [if_neg (by omega)]
    rw [List.take_of_length_le (by omega)] at hp
    exact ⟨o, rfl, ho, hp⟩
  | d + 1, i, k, o, hi, ho, hp, hk => by
    obtain ⟨k, rfl⟩ : ∃ q, k = q + 1 := ⟨k - 1, by omega⟩
    have ha : i < G.length := by omega
    have hol : o.length = i := by rw [hp.length_eq]; simp [lens]; omega
    have e : rd_L1 G (i : Int) = G[i] := by unfold rd_L1; simp [List.getD_eq_getElem?_getD, ha]
    simp only [spec_cbSizes.l0]
    rw [if_pos (by omega), if_pos (by omega), if_pos (by omega), e]
    refine cbSizes_l1 G o G[i] ho (by omega) (G.length : Int) (i : Int) (d * 20 + 20) _ (fun q o' hq h1 h2 => ?_) o.length k (Nat.le_refl _) (fun x hx => by rw [List.drop_length] at hx; cases hx) (by omega)
    rw [up64 ha (by omega)]
    refine cbSizes_l0 G hG d (i + 1) q o' (by omega) h1 (h2.trans ?_) (by omega)
    rw [List.take_succ_eq_append_getElem ha]
    unfold lens at hp ⊢
    rw [List.map_append]
    exact List.Perm.append_right _ hp
theorem sizesOf_l0 (G : List (List Int)) (hG : G.length ≤ 12) : ∀ (d i k : Nat), i + d = G.length → d + 20 < k → impl_sizesOf.l0 k (lens (G.take i)) G (G.length : Int) (i : Int) = some ((lens G).mergeSort fun x y => decide (x ≤ y)).reverse
  | 0, i, k, hi, hk => by
    obtain ⟨k, rfl⟩ : ∃ q, k = q + 1 := ⟨k - 1, by omega⟩
    simp only [impl_sizesOf.l0]
    have hl : (lens G).length = G.length := by simp [lens]
    rw [if_neg (by omega), List.take_of_length_le (by omega)]
    unfold slices_Sort_int_int.f impl_turned_int.f slices_Clone_int_int.f
    rw [if_pos (by omega)]
    simp only [Option.bind_some]
    rw [if_pos (by rw [List.length_mergeSort]; omega)]
    simp only [Option.bind_some]
    rw [reverse_f _ (by rw [List.length_mergeSort]; omega) (by rw [List.length_mergeSort]; omega)]
    rfl
  | d + 1, i, k, hi, hk => by
    obtain ⟨k, rfl⟩ : ∃ q, k = q + 1 := ⟨k - 1, by omega⟩
    have ha : i < G.length := by omega
    have ih := sizesOf_l0 G hG d (i + 1) k (by omega) (by omega)
    have e : rd_L1 G (i : Int) = G[i] := by unfold rd_L1; simp [List.getD_eq_getElem?_getD, ha]
    have hl : (lens (G.take i)).length ≤ 12 := by simp [lens]; omega
    simp only [impl_sizesOf.l0]
    rw [if_pos (by omega), if_pos (by omega), if_pos (by omega), if_pos (by omega), e, up64 ha (by omega)]
    rw [List.take_succ_eq_append_getElem ha] at ih
    unfold lens at ih ⊢
    rw [List.map_append] at ih
    exact ih
theorem both (l : List Int) (hn : l.length ≤ 1048576) : ∃ (o : List Int) (b : Bool), o.length ≤ 12 ∧ (∀ k, 4000000 ≤ k → spec_SizesOf.f k l = some (o, b)) ∧ (∀ k, 4000000 ≤ k → impl_SizesOf.f k l = some (o, b)) := by
  cases hg : good l with
  | false =>
    refine ⟨[], false, by simp, fun k hk => ?_, fun k hk => ?_⟩
    · unfold spec_SizesOf.f
      rw [cbGood_f l (by omega) (by omega), hg]
      simp
    · unfold impl_SizesOf.f
      rw [isGrouping_f l (by omega) (by omega), hg]
      simp
  | true =>
    obtain ⟨h1, h2, h3⟩ := good_cases hg
    obtain ⟨t1, t2⟩ := groups_tot l h3
    refine ⟨((lens (groups l)).mergeSort fun x y => decide (x ≤ y)).reverse, true, by rw [List.length_reverse, List.length_mergeSort]; simp [lens]; omega, fun k hk => ?_, fun k hk => ?_⟩
    · unfold spec_SizesOf.f
      rw [cbGood_f l (by omega) (by omega), hg]
      simp only [Option.bind_some, if_true]
      unfold spec_cbSizes.f
      rw [cbGroups_f l (by omega) h3 (by omega)]
      simp only [Option.bind_some]
      obtain ⟨r, e, hs, hp⟩ := cbSizes_l0 (groups l) (by omega) (groups l).length 0 k [] (by omega) List.Pairwise.nil (by simp [lens]) (by omega)
      rw [show ((0 : Nat) : Int) = 0 from rfl] at e
      rw [e, sorted_eq hs (sort_rev (lens (groups l))).1 (hp.trans (sort_rev (lens (groups l))).2.symm)]
      rfl
    · unfold impl_SizesOf.f
      rw [isGrouping_f l (by omega) (by omega), hg]
      simp only [Option.bind_some, if_true]
      unfold impl_sizesOf.f
      rw [groupsOf_f l (by omega) h1 h3 (by omega)]
      simp only [Option.bind_some]
      have := sizesOf_l0 (groups l) (by omega) (groups l).length 0 k (by omega) (by omega)
      rw [show ((0 : Nat) : Int) = 0 from rfl] at this
      rw [List.take_zero] at this
      unfold lens at this ⊢
      rw [List.map_nil] at this
      rw [this]
      rfl
theorem FnExactSizesOf_all (l0 : List Int) : ∃ k, laws_FnExactSizesOf.f k l0 = some true := by
  refine ⟨5000003, ?_⟩
  unfold laws_FnExactSizesOf.f
  by_cases h : (l0.length : Int) > 1048576
  · rw [if_pos h]
  · obtain ⟨o, b, ho, hs, hi⟩ := both l0 (by omega)
    have t1 : ∀ k, 4000000 ≤ k → laws_toIntS.f k l0 = some l0 := fun k hk => toIntS_f _ (by omega) (by omega)
    have q1 : ∀ k, 4000000 ≤ k → laws_eqIntS.f k o o = some true := fun k hk => by rw [eqIntS_f _ _ (by omega) (by omega)]; simp
    have q2 : ∀ k, 4000000 ≤ k → laws_eqIntS.f k l0 l0 = some true := fun k hk => by rw [eqIntS_f _ _ (by omega) (by omega)]; simp
    have m1 : ∀ k, 4000000 ≤ k → laws_markIntS.f k l0 1 = some (1 + (l0.length : Int), mk 1 l0.length) := fun k hk => markIntS_f _ _ (by omega) (by omega) (by omega) (by omega)
    have m2 : ∀ k, 4000000 ≤ k → laws_markIntS.f k o 1 = some (1 + (o.length : Int), mk 1 o.length) := fun k hk => markIntS_f _ _ (by omega) (by omega) (by omega) (by omega)
    have d2 : ∀ k, 4000000 ≤ k → laws_heldIntS.f k (mk 1 o.length) 1 = some (1 + (o.length : Int)) := fun k hk => heldIntS_f _ _ (by omega) (by omega) (by omega) (by omega)
    have n1 : ¬ (1 + (l0.length : Int) < 0) := by omega
    have n2 : ¬ (1 + (o.length : Int) < 0) := by omega
    rw [if_neg h]
    simp (disch := omega) only [t1, hs, hi, q1, q2, Option.bind_some, if_true, bne_self_eq_false]
    rw [laws_FnExactSizesOf.j0.eq_def]
    simp (disch := omega) only [t1, hs, hi, q1, q2, m1, m2, d2, n1, n2, Option.bind_some, if_true, if_false, bne_self_eq_false, Bool.false_eq_true]
    rw [laws_FnExactSizesOf.j1.eq_def]
    simp (disch := omega) only [t1, hs, hi, q1, q2, m1, m2, d2, n1, n2, Option.bind_some, if_true, if_false, bne_self_eq_false, Bool.false_eq_true]
    rw [laws_FnExactSizesOf.j2.eq_def]
    simp (disch := omega) only [d2, n2, Option.bind_some, if_true, if_false, Bool.false_eq_true]
theorem FnExactSizesOf : ∀ (l0 : List Int), l0.length ≤ maxLen → (∀ x ∈ l0, (fun n => (Lit.int .i64 n).wf = true) x) → ∃ k, laws_FnExactSizesOf.f k l0 = some true := fun l _ _ => FnExactSizesOf_all l

end Go.Proofs.Ythkoignldhocgaf.Pure
