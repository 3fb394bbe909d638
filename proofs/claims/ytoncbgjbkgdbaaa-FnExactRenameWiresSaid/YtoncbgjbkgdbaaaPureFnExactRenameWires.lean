/- For every two lists of numbers the program's RenameWires and the reference's agree; no conditions. -/
import Derived.Test.YtoncbgjbkgdbaaaPFnExactRenameWiresx5
set_option linter.unusedSimpArgs false
set_option linter.unusedVariables false
namespace Go.Proofs.Ytoncbgjbkgdbaaa.Pure
open Go.RowKit Go.Proofs.Ytoncbgjbkgdbaaa.PFnExactRenameWires Go.Proofs.YtoncbgjbkgdbaaaW.PrintWords Go.Proofs.YtoncbgjbkgdbaaaW.PrintLast Go.Proofs.YtoncbgjbkgdbaaaW.PrintMore

theorem w64 {x : Int} (h0 : -9223372036854775808 ≤ x) (h1 : x ≤ 9223372036854775807) : wrap64 x = x := by unfold wrap64; omega
theorem up64 {i n : Nat} (h : i < n) (hn : n ≤ 4611686018427387904) : wrap64 ((i : Int) + 1) = ((i + 1 : Nat) : Int) := by rw [w64 (by omega) (by omega)]; omega
theorem rd_lt {xs : List Int} {i : Nat} (h : i < xs.length) : rd xs (i : Int) = xs[i] := by unfold rd; simp [List.getD_eq_getElem?_getD, h]
theorem eqIntS_l0 (a b : List Int) (hl : a.length = b.length) (hn : a.length ≤ 4611686018427387904) : ∀ (d i k : Nat), i + d = a.length → d < k → laws_eqIntS.l0 k a b (i : Int) = some (decide (a.drop i = b.drop i))
  | 0, i, k, hi, hk => by
    obtain ⟨k, rfl⟩ : ∃ q, k = q + 1 := ⟨k - 1, by omega⟩
    simp only [laws_eqIntS.l0]
    rw [if_neg (by omega), List.drop_eq_nil_of_le (by omega), List.drop_eq_nil_of_le (by omega)]
    simp
  | d + 1, i, k, hi, hk => by
    obtain ⟨k, rfl⟩ : ∃ q, k = q + 1 := ⟨k - 1, by omega⟩
    have ih := eqIntS_l0 a b hl hn d (i + 1) k (by omega) (by omega)
    have ha : i < a.length := by omega
    have hb : i < b.length := by omega
    simp only [laws_eqIntS.l0]
    rw [if_pos (by omega), if_pos (by omega), if_pos (by omega), up64 ha hn, ih, rd_lt ha, rd_lt hb, List.drop_eq_getElem_cons ha, List.drop_eq_getElem_cons hb]
    by_cases e : a[i] = b[i]
    · rw [if_pos e, e]; simp only [List.cons.injEq, true_and]
    · rw [if_neg e]; simp only [List.cons.injEq, e, false_and, decide_false]
theorem eqIntS_f (a b : List Int) (hn : a.length ≤ 4611686018427387904) {k : Nat} (hk : a.length < k) : laws_eqIntS.f k a b = some (decide (a = b)) := by
  unfold laws_eqIntS.f
  by_cases h : a.length = b.length
  · rw [if_pos (by omega)]
    exact eqIntS_l0 a b h hn a.length 0 k (by omega) hk
  · rw [if_neg (by omega), decide_eq_false (fun e => h (by rw [e]))]
theorem toIntS_l0 (a : List Int) (hn : a.length ≤ 4611686018427387904) : ∀ (d i k : Nat), i + d = a.length → d < k → laws_toIntS.l0 k a (a.take i ++ List.replicate d 0) (i : Int) = some a
  | 0, i, k, hi, hk => by
    obtain ⟨k, rfl⟩ : ∃ q, k = q + 1 := ⟨k - 1, by omega⟩
    simp only [laws_toIntS.l0]
    rw [if_neg (by omega), List.take_of_length_le (by omega)]
    simp
  | d + 1, i, k, hi, hk => by
    obtain ⟨k, rfl⟩ : ∃ q, k = q + 1 := ⟨k - 1, by omega⟩
    have ih := toIntS_l0 a hn d (i + 1) k (by omega) (by omega)
    have ha : i < a.length := by omega
    simp only [laws_toIntS.l0]
    rw [if_pos (by omega), if_pos (by omega), if_pos (by simp; omega), up64 ha hn, rd_lt ha]
    have he : (a.take i ++ List.replicate (d + 1) (0 : Int)).set ((i : Nat) : Int).toNat a[i] = a.take (i + 1) ++ List.replicate d 0 := by
      rw [List.set_append_right _ _ (by simp; omega), List.replicate_succ]
      have e : ((i : Nat) : Int).toNat - (a.take i).length = 0 := by simp; omega
      rw [e, List.set_cons_zero, List.take_succ_eq_append_getElem ha]
      simp only [List.append_assoc, List.singleton_append]
    rw [he]
    exact ih
theorem toIntS_f (a : List Int) (hn : a.length ≤ 1048576) {k : Nat} (hk : a.length < k) : laws_toIntS.f k a = some a := by
  unfold laws_toIntS.f
  rw [if_pos (by omega), if_pos (by omega)]
  exact toIntS_l0 a (by omega) a.length 0 k (by omega) hk
/-- The numbers a, a + 1, .. -/
def mk (a : Int) (n : Nat) : List Int := (List.range n).map (fun (j : Nat) => a + (j : Int))
theorem mk_len (a : Int) (n : Nat) : (mk a n).length = n := by simp [mk]
theorem mk_succ (a : Int) (n : Nat) : mk a (n + 1) = mk a n ++ [a + (n : Int)] := by simp [mk, List.range_succ]
theorem mk_rd (a : Int) {n i : Nat} (h : i < n) : rd (mk a n) (i : Int) = a + (i : Int) := by
  rw [rd_lt (by rw [mk_len]; exact h)]
  simp [mk]
theorem markIntS_l0 (l : List Int) (a : Int) (h0 : 0 ≤ a) (h1 : a ≤ 1000000000000) (hn : l.length ≤ 1000000000000) : ∀ (d i k : Nat), i + d = l.length → d < k → laws_markIntS.l0 k (mk a i ++ l.drop i) (a + (i : Int)) (i : Int) = some (a + (l.length : Int), mk a l.length)
  | 0, i, k, hi, hk => by
    obtain ⟨k, rfl⟩ : ∃ q, k = q + 1 := ⟨k - 1, by omega⟩
    have e : i = l.length := by omega
    subst e
    simp only [laws_markIntS.l0]
    rw [if_neg (by rw [List.length_append, mk_len, List.length_drop]; omega), List.drop_eq_nil_of_le (by omega), List.append_nil]
  | d + 1, i, k, hi, hk => by
    obtain ⟨k, rfl⟩ : ∃ q, k = q + 1 := ⟨k - 1, by omega⟩
    have ha : i < l.length := by omega
    have ih := markIntS_l0 l a h0 h1 hn d (i + 1) k (by omega) (by omega)
    simp only [laws_markIntS.l0]
    rw [if_pos (by rw [List.length_append, mk_len, List.length_drop]; omega), if_pos (by omega), up64 ha (by omega), w64 (x := a + (i : Int) + 1) (by omega) (by omega)]
    have he : (mk a i ++ l.drop i).set ((i : Nat) : Int).toNat (a + (i : Int)) = mk a (i + 1) ++ l.drop (i + 1) := by
      rw [List.set_append_right _ _ (by rw [mk_len]; omega), mk_len, mk_succ, List.drop_eq_getElem_cons ha]
      have e : ((i : Nat) : Int).toNat - i = 0 := by omega
      rw [e, List.set_cons_zero]
      simp only [List.append_assoc, List.singleton_append]
    rw [he, show a + (i : Int) + 1 = a + ((i + 1 : Nat) : Int) by omega]
    exact ih
theorem markIntS_f (l : List Int) (a : Int) (h0 : 0 ≤ a) (h1 : a ≤ 1000000000000) (hn : l.length ≤ 1000000000000) {k : Nat} (hk : l.length < k) : laws_markIntS.f k l a = some (a + (l.length : Int), mk a l.length) := by
  have h := markIntS_l0 l a h0 h1 hn l.length 0 k (by omega) hk
  unfold laws_markIntS.f
  simpa [mk] using h
theorem heldIntS_l0 (n : Nat) (a : Int) (h0 : 0 ≤ a) (h1 : a ≤ 1000000000000) (hn : n ≤ 1000000000000) : ∀ (d i k : Nat), i + d = n → d < k → laws_heldIntS.l0 k (mk a n) (a + (i : Int)) (i : Int) = some (a + (n : Int))
  | 0, i, k, hi, hk => by
    obtain ⟨k, rfl⟩ : ∃ q, k = q + 1 := ⟨k - 1, by omega⟩
    have e : i = n := by omega
    subst e
    simp only [laws_heldIntS.l0]
    rw [if_neg (by rw [mk_len]; omega)]
  | d + 1, i, k, hi, hk => by
    obtain ⟨k, rfl⟩ : ∃ q, k = q + 1 := ⟨k - 1, by omega⟩
    have ha : i < n := by omega
    have ih := heldIntS_l0 n a h0 h1 hn d (i + 1) k (by omega) (by omega)
    simp only [laws_heldIntS.l0]
    rw [if_pos (by rw [mk_len]; omega), if_pos (by omega), mk_rd a ha, if_pos rfl, up64 ha (by omega), w64 (x := a + (i : Int) + 1) (by omega) (by omega), show a + (i : Int) + 1 = a + ((i + 1 : Nat) : Int) by omega]
    exact ih
theorem heldIntS_f (n : Nat) (a : Int) (h0 : 0 ≤ a) (h1 : a ≤ 1000000000000) (hn : n ≤ 1000000000000) {k : Nat} (hk : n < k) : laws_heldIntS.f k (mk a n) a = some (a + (n : Int)) := by
  have h := heldIntS_l0 n a h0 h1 hn n 0 k (by omega) hk
  unfold laws_heldIntS.f
  simpa using h
/-- The place of the first x in a list, or -1. -/
def ix (l : List Int) (x : Int) : Int := if x ∈ l then (l.idxOf x : Int) else -1
theorem index_l0 (a : List Int) (x : Int) (hn : a.length ≤ 4611686018427387904) : ∀ (d i k : Nat), i + d = a.length → d < k → x ∉ a.take i → slices_Index_int_int.l0 k a x (a.length : Int) (i : Int) = some (ix a x)
  | 0, i, k, hi, hk, hx => by
    obtain ⟨k, rfl⟩ : ∃ q, k = q + 1 := ⟨k - 1, by omega⟩
    simp only [slices_Index_int_int.l0]
    rw [List.take_of_length_le (by omega)] at hx
    rw [if_neg (by omega)]
    unfold ix
    rw [if_neg hx]
  | d + 1, i, k, hi, hk, hx => by
    obtain ⟨k, rfl⟩ : ∃ q, k = q + 1 := ⟨k - 1, by omega⟩
    have ha : i < a.length := by omega
    simp only [slices_Index_int_int.l0]
    rw [if_pos (by omega), if_pos (by omega), if_pos (by omega), up64 ha hn, rd_lt ha]
    by_cases e : x = a[i]
    · rw [if_pos e]
      unfold ix
      have hm : x ∈ a := by rw [e]; exact List.getElem_mem ha
      rw [if_pos hm]
      have h2 : a.idxOf x = i := by
        have h3 : a = a.take i ++ a[i] :: a.drop (i + 1) := by rw [← List.drop_eq_getElem_cons ha, List.take_append_drop]
        rw [h3, List.idxOf_append, if_neg hx, ← e, List.idxOf_cons_self]
        simp; omega
      rw [h2]
    · rw [if_neg e]
      refine index_l0 a x hn d (i + 1) k (by omega) (by omega) ?_
      rw [List.take_succ_eq_append_getElem ha, List.mem_append, List.mem_singleton]
      exact fun h => h.elim hx e
theorem index_f (a : List Int) (x : Int) (hn : a.length ≤ 4611686018427387904) {k : Nat} (hk : a.length < k) : slices_Index_int_int.f k a x = some (ix a x) :=
  index_l0 a x hn a.length 0 k (by omega) hk (by simp)
theorem ix_mem (l : List Int) (x : Int) : ix l x ≥ 0 ↔ x ∈ l := by
  unfold ix
  split <;> simp_all
theorem contains_f (a : List Int) (x : Int) (hn : a.length ≤ 4611686018427387904) {k : Nat} (hk : a.length < k) : slices_Contains_int_int.f k a x = some (decide (x ∈ a)) := by
  unfold slices_Contains_int_int.f
  rw [index_f a x hn hk]
  simp [ix_mem]
theorem equal_l0 (a b : List Int) (hl : a.length = b.length) (hn : a.length ≤ 4611686018427387904) : ∀ (d i k : Nat), i + d = a.length → d < k → slices_Equal_int_int.l0 k a b (a.length : Int) (i : Int) = some (decide (a.drop i = b.drop i))
  | 0, i, k, hi, hk => by
    obtain ⟨k, rfl⟩ : ∃ q, k = q + 1 := ⟨k - 1, by omega⟩
    simp only [slices_Equal_int_int.l0]
    rw [if_neg (by omega), List.drop_eq_nil_of_le (by omega), List.drop_eq_nil_of_le (by omega)]
    simp
  | d + 1, i, k, hi, hk => by
    obtain ⟨k, rfl⟩ : ∃ q, k = q + 1 := ⟨k - 1, by omega⟩
    have ih := equal_l0 a b hl hn d (i + 1) k (by omega) (by omega)
    have ha : i < a.length := by omega
    have hb : i < b.length := by omega
    simp only [slices_Equal_int_int.l0]
    rw [if_pos (by omega), if_pos (by omega), if_pos (by omega), if_pos (by omega), up64 ha hn, ih, rd_lt ha, rd_lt hb, List.drop_eq_getElem_cons ha, List.drop_eq_getElem_cons hb]
    by_cases e : a[i] = b[i]
    · rw [if_pos e, e]; simp only [List.cons.injEq, true_and]
    · rw [if_neg e]; simp only [List.cons.injEq, e, false_and, decide_false]
theorem equal_f (a b : List Int) (hn : a.length ≤ 4611686018427387904) {k : Nat} (hk : a.length < k) : slices_Equal_int_int.f k a b = some (decide (a = b)) := by
  unfold slices_Equal_int_int.f
  by_cases h : a.length = b.length
  · rw [if_pos (by omega)]
    exact equal_l0 a b h hn a.length 0 k (by omega) hk
  · rw [if_neg (by omega), decide_eq_false (fun e => h (by rw [e]))]
/-- The numbers 0, 1, .., n - 1. -/
def iot (n : Nat) : List Int := (List.range n).map (fun (j : Nat) => (j : Int))
theorem iot_len (n : Nat) : (iot n).length = n := by simp [iot]
theorem iot_succ (n : Nat) : iot (n + 1) = iot n ++ [(n : Int)] := by simp [iot, List.range_succ]
theorem iot_mem (n : Nat) (x : Int) : x ∈ iot n ↔ 0 ≤ x ∧ x < n := by
  simp only [iot, List.mem_map, List.mem_range]
  constructor
  · rintro ⟨j, h, rfl⟩; omega
  · rintro ⟨h0, h1⟩; exact ⟨x.toNat, by omega, by omega⟩
theorem ix_iot {n : Nat} {x : Int} (h0 : 0 ≤ x) (h1 : x < n) : ix (iot n) x = x := by
  induction n with
  | zero => omega
  | succ n ih =>
    unfold ix
    rw [if_pos ((iot_mem _ _).2 ⟨h0, h1⟩), iot_succ, List.idxOf_append]
    by_cases e : x < n
    · have h2 := ih e
      unfold ix at h2
      rw [if_pos ((iot_mem _ _).2 ⟨h0, e⟩)] at h2
      rw [if_pos ((iot_mem _ _).2 ⟨h0, e⟩)]
      exact h2
    · rw [if_neg (fun h => e ((iot_mem _ _).1 h).2)]
      have : x = (n : Int) := by omega
      rw [this, List.idxOf_cons_self, iot_len]
      omega
/-- Whatever the state, the list's begin stays. -/
theorem anew_any (l : List Int) (hn : l.length ≤ 4000000) : ∀ (d i k : Nat) (out seen : List Int), i + d = l.length → out.length = i → seen.length ≤ i → d + 2 * l.length + 5 < k →
    ∃ out', impl_anew.l0 k out seen l (l.length : Int) (i : Int) = some out' ∧ out'.take i = out ∧ out'.length = l.length
  | 0, i, k, out, seen, hi, ho, hs, hk => by
    obtain ⟨k, rfl⟩ : ∃ q, k = q + 1 := ⟨k - 1, by omega⟩
    refine ⟨out, ?_, List.take_of_length_le (by omega), by omega⟩
    simp only [impl_anew.l0]
    rw [if_neg (by omega)]
  | d + 1, i, k, out, seen, hi, ho, hs, hk => by
    obtain ⟨k, rfl⟩ : ∃ q, k = q + 1 := ⟨k - 1, by omega⟩
    have ha : i < l.length := by omega
    have more : ∀ (x : Int) (seen' : List Int), seen'.length ≤ i + 1 → ∃ out', impl_anew.l0 k (out ++ [x]) seen' l (l.length : Int) ((i + 1 : Nat) : Int) = some out' ∧ out'.take i = out ∧ out'.length = l.length := by
      intro x seen' hs'
      obtain ⟨o, h1, h2, h3⟩ := anew_any l hn d (i + 1) k (out ++ [x]) seen' (by omega) (by simp; omega) hs' (by omega)
      refine ⟨o, h1, ?_, h3⟩
      have h4 : o.take i = (o.take (i + 1)).take i := by rw [List.take_take]; congr 1; omega
      rw [h4, h2, List.take_append_of_le_length (by omega), List.take_of_length_le (by omega)]
    simp only [impl_anew.l0]
    rw [if_pos (by omega), if_pos (by omega), if_pos (by omega), up64 ha (by omega), contains_f _ _ (by omega) (by omega), rd_lt ha]
    simp only [Option.bind_some]
    by_cases e : l[i] ∈ seen
    · rw [if_pos (by simpa using e), index_f _ _ (by omega) (by omega)]
      simp only [Option.bind_some]
      rw [if_pos (by omega)]
      exact more _ _ (by omega)
    · rw [if_neg (by simpa using e), if_pos (by omega), index_f _ _ (by simp; omega) (by simp; omega)]
      simp only [Option.bind_some]
      rw [if_pos (by omega)]
      exact more _ _ (by simp; omega)
/-- The reference's loop and the program's, side by side: they agree as long as the groups come in order. -/
theorem good_both (l : List Int) (hn : l.length ≤ 4000000) : ∀ (d i k : Nat) (next : Nat), i + d = l.length → next ≤ i → d + 2 * l.length + 5 < k →
    ∃ g o, spec_cbGood.l0 k (next : Int) l (l.length : Int) (i : Int) = some g ∧ impl_anew.l0 k (l.take i) (iot next) l (l.length : Int) (i : Int) = some o ∧ o.length = l.length ∧ (g = true ↔ o = l) ∧ (g = true → ∀ x ∈ l.drop i, 0 ≤ x ∧ x < l.length)
  | 0, i, k, next, hi, hx, hk => by
    obtain ⟨k, rfl⟩ : ∃ q, k = q + 1 := ⟨k - 1, by omega⟩
    refine ⟨true, l.take i, ?_, ?_, by simp; omega, ⟨fun _ => List.take_of_length_le (by omega), fun _ => rfl⟩, fun _ x hx => by rw [List.drop_eq_nil_of_le (by omega)] at hx; cases hx⟩
    · simp only [spec_cbGood.l0]; rw [if_neg (by omega)]
    · simp only [impl_anew.l0]; rw [if_neg (by omega)]
  | d + 1, i, k, next, hi, hx, hk => by
    obtain ⟨k, rfl⟩ : ∃ q, k = q + 1 := ⟨k - 1, by omega⟩
    have ha : i < l.length := by omega
    have hlen : (l.take i).length = i := by simp; omega
    by_cases hin : 0 ≤ l[i] ∧ l[i] ≤ next
    · by_cases e : l[i] = (next : Int)
      · obtain ⟨g, o, h1, h2, h3, h4, h5⟩ := good_both l hn d (i + 1) k (next + 1) (by omega) (by omega) (by omega)
        refine ⟨g, o, ?_, ?_, h3, h4, fun hg x hx => by rw [List.drop_eq_getElem_cons ha] at hx; rcases List.mem_cons.1 hx with rfl | hx; exact ⟨hin.1, by omega⟩; exact h5 hg x hx⟩
        · simp only [spec_cbGood.l0]
          rw [if_pos (by omega), if_pos (by omega), if_pos (by omega), rd_lt ha]
          unfold spec_l1In.f
          rw [if_pos hin.1]
          simp only [Option.bind_some]
          rw [if_pos (by simpa using hin.2), if_pos e, up64 ha (by omega), up64 (n := l.length + 1) (i := next) (by omega) (by omega)]
          exact h1
        · simp only [impl_anew.l0]
          rw [if_pos (by omega), if_pos (by omega), if_pos (by omega), up64 ha (by omega), contains_f _ _ (by rw [iot_len]; omega) (by rw [iot_len]; omega), rd_lt ha]
          simp only [Option.bind_some]
          rw [if_neg (by simp only [decide_eq_true_eq, iot_mem]; omega), if_pos (by rw [iot_len]; omega), e, ← iot_succ, index_f _ _ (by rw [iot_len]; omega) (by rw [iot_len]; omega), ix_iot (by omega) (by omega)]
          simp only [Option.bind_some]
          rw [if_pos (by omega)]
          rw [List.take_succ_eq_append_getElem ha, e] at h2
          exact h2
      · obtain ⟨g, o, h1, h2, h3, h4, h5⟩ := good_both l hn d (i + 1) k next (by omega) (by omega) (by omega)
        refine ⟨g, o, ?_, ?_, h3, h4, fun hg x hx => by rw [List.drop_eq_getElem_cons ha] at hx; rcases List.mem_cons.1 hx with rfl | hx; exact ⟨hin.1, by omega⟩; exact h5 hg x hx⟩
        · simp only [spec_cbGood.l0]
          rw [if_pos (by omega), if_pos (by omega), if_pos (by omega), rd_lt ha]
          unfold spec_l1In.f
          rw [if_pos hin.1]
          simp only [Option.bind_some]
          rw [if_pos (by simpa using hin.2), if_neg e, up64 ha (by omega)]
          exact h1
        · simp only [impl_anew.l0]
          rw [if_pos (by omega), if_pos (by omega), if_pos (by omega), up64 ha (by omega), contains_f _ _ (by rw [iot_len]; omega) (by rw [iot_len]; omega), rd_lt ha]
          simp only [Option.bind_some]
          rw [if_pos (by simp only [decide_eq_true_eq, iot_mem]; omega), index_f _ _ (by rw [iot_len]; omega) (by rw [iot_len]; omega), ix_iot (by omega) (by omega)]
          simp only [Option.bind_some]
          rw [if_pos (by omega)]
          rw [List.take_succ_eq_append_getElem ha] at h2
          exact h2
    · obtain ⟨o, h1, h2, h3⟩ := anew_any l hn d (i + 1) k (l.take i ++ [(next : Int)]) (iot next ++ [l[i]]) (by omega) (by simp; omega) (by simp [iot_len]; omega) (by omega)
      refine ⟨false, o, ?_, ?_, h3, ?_, fun h => by cases h⟩
      · simp only [spec_cbGood.l0]
        rw [if_pos (by omega), if_pos (by omega), if_pos (by omega), rd_lt ha]
        unfold spec_l1In.f
        by_cases h0 : 0 ≤ l[i]
        · rw [if_pos h0]; simp only [Option.bind_some]; rw [if_neg (by simp; omega)]
        · rw [if_neg h0]; simp
      · simp only [impl_anew.l0]
        rw [if_pos (by omega), if_pos (by omega), if_pos (by omega), up64 ha (by omega), contains_f _ _ (by rw [iot_len]; omega) (by rw [iot_len]; omega), rd_lt ha]
        simp only [Option.bind_some]
        rw [if_neg (by simp only [decide_eq_true_eq, iot_mem]; omega), if_pos (by rw [iot_len]; omega), index_f _ _ (by simp [iot_len]; omega) (by simp [iot_len]; omega)]
        simp only [Option.bind_some]
        rw [if_pos (by omega)]
        have e : ix (iot next ++ [l[i]]) l[i] = (next : Int) := by
          unfold ix
          rw [if_pos (by simp), List.idxOf_append, if_neg (by rw [iot_mem]; omega), List.idxOf_cons_self, iot_len]
          omega
        rw [e]
        exact h1
      · constructor
        · intro h; cases h
        · intro h
          rw [h] at h2
          rw [List.take_succ_eq_append_getElem ha] at h2
          have h5 := List.append_cancel_left h2
          injection h5 with h5 _
          omega
theorem isGrouping_both (l : List Int) (hn : l.length ≤ 4000000) {k : Nat} (hk : 3 * l.length + 10 < k) : ∃ g, spec_cbGood.f k l = some g ∧ impl_IsGrouping.f k l = some g ∧ (g = true → 1 ≤ l.length ∧ l.length ≤ 12 ∧ ∀ x ∈ l, 0 ≤ x ∧ x < l.length) := by
  unfold spec_cbGood.f impl_IsGrouping.f impl_areWires.f spec_l1In.f impl_within.f
  by_cases h1 : (1 : Int) ≤ (l.length : Int)
  · by_cases h2 : (l.length : Int) ≤ 12
    · obtain ⟨g, o, e1, e2, e3, e4, e5⟩ := good_both l hn l.length 0 k 0 (by omega) (by omega) (by omega)
      have e2' : impl_anew.f k l = some o := e2
      refine ⟨g, ?_, ?_, ?_⟩
      · rw [if_pos h1]; simp only [Option.bind_some]; rw [if_pos (by simpa using h2)]; exact e1
      · rw [if_pos h1]; simp only [Option.bind_some]; rw [if_pos (by simpa using h2), e2']; simp only [Option.bind_some]; rw [equal_f _ _ (by omega) (by omega)]
        simp only [Option.bind_some, Option.some.injEq]
        rw [Bool.eq_iff_iff, decide_eq_true_eq, e4]
      · exact fun hg => ⟨by omega, by omega, e5 hg⟩
    · exact ⟨false, by rw [if_pos h1]; simp [h2], by rw [if_pos h1]; simp [h2], fun h => by cases h⟩
  · exact ⟨false, by rw [if_neg h1]; simp, by rw [if_neg h1]; simp, fun h => by cases h⟩
/-- The number of groups, where n have been met. -/
def nx : Nat → List Int → Nat
  | n, [] => n
  | n, x :: l => nx (if x = (n : Int) then n + 1 else n) l
/-- Are these groups in the order in which they come, where n have been met? -/
def rg : Nat → List Int → Bool
  | _, [] => true
  | n, x :: l => decide (0 ≤ x) && decide (x ≤ (n : Int)) && rg (if x = (n : Int) then n + 1 else n) l
theorem nx_ge (l : List Int) : ∀ n, n ≤ nx n l := by
  induction l with
  | nil => intro n; exact Nat.le_refl _
  | cons x l ih =>
    intro n
    simp only [nx]
    split
    · exact Nat.le_trans (Nat.le_succ _) (ih _)
    · exact ih _
theorem nx_le (l : List Int) : ∀ n, nx n l ≤ n + l.length := by
  induction l with
  | nil => intro n; simp [nx]
  | cons x l ih =>
    intro n
    simp only [nx, List.length_cons]
    split
    · have := ih (n + 1); omega
    · have := ih n; omega
theorem rg_lt (l : List Int) : ∀ n, rg n l = true → ∀ x ∈ l, 0 ≤ x ∧ x < (nx n l : Int) := by
  induction l with
  | nil => intro n _ x hx; cases hx
  | cons y l ih =>
    intro n h x hx
    simp only [rg, Bool.and_eq_true, decide_eq_true_eq] at h
    obtain ⟨⟨h0, h1⟩, h2⟩ := h
    simp only [nx]
    rcases List.mem_cons.1 hx with rfl | hx
    · refine ⟨h0, ?_⟩
      split
      · have := nx_ge l (n + 1); omega
      · have := nx_ge l n; omega
    · exact ih _ h2 x hx
theorem nx_append (a b : List Int) : ∀ n, nx n (a ++ b) = nx (nx n a) b := by
  induction a with
  | nil => intro n; rfl
  | cons x l ih => intro n; simp only [List.cons_append, nx]; exact ih _
theorem rg_append (a b : List Int) : ∀ n, rg n (a ++ b) = (rg n a && rg (nx n a) b) := by
  induction a with
  | nil => intro n; simp [rg, nx]
  | cons x l ih => intro n; simp only [List.cons_append, nx, rg, ih, Bool.and_assoc]
theorem cbGood_l0 (l : List Int) (hn : l.length ≤ 4000000) : ∀ (d i k : Nat) (next : Nat), i + d = l.length → next ≤ i → d < k → spec_cbGood.l0 k (next : Int) l (l.length : Int) (i : Int) = some (rg next (l.drop i))
  | 0, i, k, next, hi, hx, hk => by
    obtain ⟨k, rfl⟩ : ∃ q, k = q + 1 := ⟨k - 1, by omega⟩
    simp only [spec_cbGood.l0]
    rw [if_neg (by omega), List.drop_eq_nil_of_le (by omega)]
    rfl
  | d + 1, i, k, next, hi, hx, hk => by
    obtain ⟨k, rfl⟩ : ∃ q, k = q + 1 := ⟨k - 1, by omega⟩
    have ha : i < l.length := by omega
    simp only [spec_cbGood.l0]
    rw [if_pos (by omega), if_pos (by omega), if_pos (by omega), rd_lt ha, List.drop_eq_getElem_cons ha]
    unfold spec_l1In.f
    simp only [rg]
    by_cases h0 : 0 ≤ l[i]
    · rw [if_pos h0]
      simp only [Option.bind_some, h0, decide_true, Bool.true_and]
      by_cases h1 : l[i] ≤ (next : Int)
      · rw [if_pos (by simpa using h1)]
        simp only [h1, decide_true, Bool.true_and]
        by_cases e : l[i] = (next : Int)
        · rw [if_pos e, if_pos e, up64 ha (by omega), up64 (n := l.length + 1) (i := next) (by omega) (by omega)]
          exact cbGood_l0 l hn d (i + 1) k (next + 1) (by omega) (by omega) (by omega)
        · rw [if_neg e, if_neg e, up64 ha (by omega)]
          exact cbGood_l0 l hn d (i + 1) k next (by omega) (by omega) (by omega)
      · rw [if_neg (by simpa using h1)]
        simp [h1]
    · rw [if_neg h0]
      simp [h0]
/-- Is a list a grouping? -/
def good (l : List Int) : Bool := decide (1 ≤ l.length) && decide (l.length ≤ 12) && rg 0 l
theorem cbGood_f (l : List Int) (hn : l.length ≤ 4000000) {k : Nat} (hk : l.length < k) : spec_cbGood.f k l = some (good l) := by
  unfold spec_cbGood.f spec_l1In.f good
  by_cases h1 : (1 : Int) ≤ (l.length : Int)
  · rw [if_pos h1]
    by_cases h2 : (l.length : Int) ≤ 12
    · simp only [Option.bind_some]
      rw [if_pos (by simpa using h2)]
      have := cbGood_l0 l hn l.length 0 k 0 (by omega) (by omega) hk
      have e1 : decide (1 ≤ l.length) = true := by simp; omega
      have e2 : decide (l.length ≤ 12) = true := by simp; omega
      rw [e1, e2]
      simpa using this
    · have e2 : decide (l.length ≤ 12) = false := by simp; omega
      simp [h2, e2]
  · have e1 : decide (1 ≤ l.length) = false := decide_eq_false (by omega)
    rw [if_neg h1]
    simp [e1]
theorem isGrouping_f (l : List Int) (hn : l.length ≤ 4000000) {k : Nat} (hk : 3 * l.length + 10 < k) : impl_IsGrouping.f k l = some (good l) := by
  obtain ⟨g, h1, h2, _⟩ := isGrouping_both l hn hk
  rw [cbGood_f l hn (by omega)] at h1
  rw [h2, ← h1]
theorem good_cases {l : List Int} (h : good l = true) : 1 ≤ l.length ∧ l.length ≤ 12 ∧ rg 0 l = true := by
  unfold good at h
  simp only [Bool.and_eq_true, decide_eq_true_eq] at h
  exact ⟨h.1.1, h.1.2, h.2⟩
/-- The numbers below n. -/
def upto (n : Nat) : List Int := (List.range n).map fun (i : Nat) => (i : Int)
theorem upto_mem (n : Nat) (x : Int) : x ∈ upto n ↔ 0 ≤ x ∧ x < n := by
  unfold upto
  simp only [List.mem_map, List.mem_range]
  constructor
  · rintro ⟨j, h1, rfl⟩; omega
  · rintro ⟨h0, h1⟩; exact ⟨x.toNat, by omega, by omega⟩
theorem upto_lt (n : Nat) : (upto n).Pairwise (· < ·) := by
  unfold upto
  rw [List.pairwise_map]
  exact List.pairwise_lt_range.imp (fun h => by omega)
theorem upto_nodup (n : Nat) : (upto n).Nodup := (upto_lt n).imp (fun h => by omega)
/-- Are these the names 0 .. n - 1, each once? -/
def nms (l : List Int) (n : Nat) : Bool := decide (l.length = n) && (l.all (fun x => decide (0 ≤ x) && decide (x < (n : Int))) && decide l.Nodup)
theorem nms_iff (l : List Int) (n : Nat) : nms l n = true ↔ l.length = n ∧ (∀ x ∈ l, 0 ≤ x ∧ x < (n : Int)) ∧ l.Nodup := by
  unfold nms
  simp
theorem eq_of_lt : ∀ s t : List Int, s.Pairwise (· < ·) → t.Pairwise (· < ·) → (∀ x, x ∈ s ↔ x ∈ t) → s = t
  | [], [], _, _, _ => rfl
  | [], y :: t, _, _, h => by have := (h y).2 (by simp); simp at this
  | x :: s, [], _, _, h => by have := (h x).1 (by simp); simp at this
  | x :: s, y :: t, hs, htt, h => by
    obtain ⟨s1, s2⟩ := List.pairwise_cons.1 hs
    obtain ⟨t1, t2⟩ := List.pairwise_cons.1 htt
    have e : x = y := by
      rcases List.mem_cons.1 ((h x).1 (by simp)) with e | h1
      · exact e
      rcases List.mem_cons.1 ((h y).2 (by simp)) with e | h2
      · exact e.symm
      have := s1 y h2
      have := t1 x h1
      omega
    subst e
    rw [eq_of_lt s t s2 t2 ?_]
    intro z
    have hz := h z
    simp only [List.mem_cons] at hz
    constructor
    · intro hm
      rcases hz.1 (.inr hm) with e | e
      · subst e; have := s1 z hm; omega
      · exact e
    · intro hm
      rcases hz.2 (.inr hm) with e | e
      · subst e; have := t1 z hm; omega
      · exact e
theorem perm_f (l : List Int) (n : Nat) (hl : l.length ≤ 1048576) : impl_isPermutation.f l (n : Int) = some (nms l n) := by
  unfold impl_isPermutation.f
  rw [if_pos (by omega)]
  congr 1
  rw [Bool.eq_iff_iff, nms_iff, Bool.and_eq_true, decide_eq_true_eq, decide_eq_true_eq]
  have hp := List.mergeSort_perm l (fun x y => decide (x ≤ y))
  constructor
  · rintro ⟨h1, h2⟩
    rw [h1] at hp
    obtain rfl : l.length = n := by omega
    refine ⟨rfl, fun x hx => (upto_mem _ _).1 (hp.mem_iff.2 hx), hp.nodup_iff.1 (upto_nodup _)⟩
  · rintro ⟨rfl, h1, h2⟩
    refine ⟨?_, rfl⟩
    have hsub : l ⊆ upto l.length := fun x hx => (upto_mem _ _).2 (h1 x hx)
    have hmem : ∀ x, x ∈ l ↔ x ∈ upto l.length := fun x => by
      refine ⟨fun h => hsub h, fun h => Classical.byContradiction fun hn => ?_⟩
      have h3 : (x :: l).Nodup := List.nodup_cons.2 ⟨hn, h2⟩
      have h4 := h3.length_le_of_subset (l₂ := upto l.length) (fun y hy => by
        rcases List.mem_cons.1 hy with rfl | hy
        · exact h
        · exact hsub hy)
      unfold upto at h4
      simp at h4
      omega
    refine eq_of_lt _ (upto l.length) ?_ (upto_lt _) (fun x => by rw [hp.mem_iff, hmem])
    have s1 : (l.mergeSort fun x y => decide (x ≤ y)).Pairwise fun x y => decide (x ≤ y) = true := List.pairwise_mergeSort (fun a b c h1 h2 => by simp at *; omega) (fun a b => by simp; omega) _
    have s2 : (l.mergeSort fun x y => decide (x ≤ y)).Nodup := hp.nodup_iff.2 h2
    refine (s1.and s2).imp ?_
    rintro a b ⟨h3, h4⟩
    have : a ≤ b := by simpa using h3
    omega
theorem in_f (x a b : Int) : spec_l1In.f x a b = some (decide (a ≤ x ∧ x ≤ b)) := by
  unfold spec_l1In.f
  by_cases h : x ≥ a
  · rw [if_pos h]; simp [h]
  · rw [if_neg h]; simp [h]
theorem l1All_l0 (l : List Int) (a b : Int) (hn : l.length ≤ 1048576) : ∀ (d i k : Nat), i + d = l.length → d < k → spec_l1All.l0 k a b l (l.length : Int) (i : Int) = some ((l.drop i).all fun x => decide (a ≤ x ∧ x ≤ b))
  | 0, i, k, hi, hk => by
    obtain ⟨k, rfl⟩ : ∃ q, k = q + 1 := ⟨k - 1, by omega⟩
    simp only [spec_l1All.l0]
    rw [if_neg (by omega), List.drop_eq_nil_of_le (by omega)]
    rfl
  | d + 1, i, k, hi, hk => by
    obtain ⟨k, rfl⟩ : ∃ q, k = q + 1 := ⟨k - 1, by omega⟩
    have ha : i < l.length := by omega
    have ih := l1All_l0 l a b hn d (i + 1) k (by omega) (by omega)
    simp only [spec_l1All.l0]
    rw [if_pos (by omega), if_pos (by omega), if_pos (by omega), in_f, rd_lt ha, List.drop_eq_getElem_cons ha, up64 ha (by omega), Option.bind_some, ih, List.all_cons]
    by_cases hx : a ≤ l[i] ∧ l[i] ≤ b
    · rw [if_pos (by simpa using hx), decide_eq_true hx, Bool.true_and]
    · rw [if_neg (by simpa using hx), decide_eq_false hx, Bool.false_and]
theorem has_l0 (l : List Int) (x : Int) (hn : l.length ≤ 1048576) : ∀ (d i k : Nat), i + d = l.length → d < k → spec_l1Has.l0 k x l (l.length : Int) (i : Int) = some (decide (x ∈ l.drop i))
  | 0, i, k, hi, hk => by
    obtain ⟨k, rfl⟩ : ∃ q, k = q + 1 := ⟨k - 1, by omega⟩
    simp only [spec_l1Has.l0]
    rw [if_neg (by omega), List.drop_eq_nil_of_le (by omega)]
    simp
  | d + 1, i, k, hi, hk => by
    obtain ⟨k, rfl⟩ : ∃ q, k = q + 1 := ⟨k - 1, by omega⟩
    have ha : i < l.length := by omega
    have ih := has_l0 l x hn d (i + 1) k (by omega) (by omega)
    simp only [spec_l1Has.l0]
    rw [if_pos (by omega), if_pos (by omega), if_pos (by omega), rd_lt ha, List.drop_eq_getElem_cons ha, up64 ha (by omega), ih]
    by_cases hx : l[i] = x
    · rw [if_pos hx]; simp [hx]
    · rw [if_neg hx]
      congr 1
      rw [decide_eq_decide, List.mem_cons]
      exact ⟨.inr, fun h => h.resolve_left (fun e => hx e.symm)⟩
theorem has_f (l : List Int) (x : Int) (hn : l.length ≤ 1048576) {k : Nat} (hk : l.length < k) : spec_l1Has.f k l x = some (decide (x ∈ l)) := by
  have h := has_l0 l x hn l.length 0 k (by omega) hk
  rw [List.drop_zero] at h
  exact h
/-- From place i on, no number stood before. -/
theorem names_l0 (l : List Int) (hn : l.length ≤ 1048576) : ∀ (d i k : Nat), i + d = l.length → d + l.length + 1 < k → (l.take i).Nodup → spec_caNames.l0 k l l (l.length : Int) (i : Int) = some (decide l.Nodup)
  | 0, i, k, hi, hk, hd => by
    obtain ⟨k, rfl⟩ : ∃ q, k = q + 1 := ⟨k - 1, by omega⟩
    simp only [spec_caNames.l0]
    rw [List.take_of_length_le (by omega)] at hd
    rw [if_neg (by omega), decide_eq_true hd]
  | d + 1, i, k, hi, hk, hd => by
    obtain ⟨k, rfl⟩ : ∃ q, k = q + 1 := ⟨k - 1, by omega⟩
    have ha : i < l.length := by omega
    simp only [spec_caNames.l0]
    rw [if_pos (by omega), if_pos (by omega), if_pos (by omega), if_pos (by omega), Int.toNat_natCast, rd_lt ha, has_f _ _ (by rw [List.length_take]; omega) (by rw [List.length_take]; omega), Option.bind_some, up64 ha (by omega)]
    by_cases hx : l[i] ∈ l.take i
    · rw [if_pos (by simpa using hx), decide_eq_false]
      intro h
      rw [← List.take_append_drop (i + 1) l, List.take_succ_eq_append_getElem ha, List.append_assoc] at h
      obtain ⟨_, _, h3⟩ := List.nodup_append.1 h
      exact h3 _ hx l[i] (List.mem_append_left _ (List.mem_singleton.2 rfl)) rfl
    · rw [if_neg (by simpa using hx)]
      refine names_l0 l hn d (i + 1) k (by omega) (by omega) ?_
      rw [List.take_succ_eq_append_getElem ha, List.nodup_append]
      refine ⟨hd, by simp, fun a h1 b h2 => ?_⟩
      rw [List.mem_singleton] at h2
      subst h2
      intro e
      subst e
      exact hx h1
theorem names_f (l : List Int) (n : Nat) (hn : n ≤ 1048576) (hl : l.length ≤ 1048576) {k : Nat} (hk : 2 * l.length + 3 < k) : spec_caNames.f k (n : Int) l = some (nms l n) := by
  obtain ⟨k, rfl⟩ : ∃ q, k = q + 1 := ⟨k - 1, by omega⟩
  unfold spec_caNames.f nms
  by_cases h : l.length = n
  · subst h
    have h1 := l1All_l0 l 0 ((l.length : Int) - 1) (by omega) l.length 0 (k + 1) (by omega) (by omega)
    rw [List.drop_zero] at h1
    have e : (l.all fun x => decide (0 ≤ x ∧ x ≤ (l.length : Int) - 1)) = l.all fun x => decide (0 ≤ x) && decide (x < (l.length : Int)) := by
      congr 1
      funext x
      rw [Bool.eq_iff_iff]
      simp
      omega
    rw [if_pos rfl, w64 (by omega) (by omega)]
    unfold spec_l1All.f
    rw [show (0 : Int) = ((0 : Nat) : Int) from rfl] at h1 ⊢
    rw [h1, Option.bind_some, show ((0 : Nat) : Int) = 0 from rfl, e]
    simp only [spec_caNames.j0]
    cases hq : (l.all fun x => decide (0 ≤ x) && decide (x < (l.length : Int))) with
    | false => simp
    | true =>
      rw [if_neg (by decide)]
      have h2 := names_l0 l hl l.length 0 k (by omega) (by omega) (by simp)
      rw [show ((0 : Nat) : Int) = 0 from rfl] at h2
      rw [h2]
      simp
  · rw [if_neg (by omega)]
    simp only [spec_caNames.j0, if_true]
    simp [h]
/-- The groups in the order of the names. -/
def st (g names : List Int) : Nat → Nat → List Int → List Int
  | 0, _, o => o
  | d + 1, i, o => st g names d (i + 1) (o.set (rd names (i : Int)).toNat (rd g (i : Int)))
theorem st_len (g names : List Int) : ∀ d i o, (st g names d i o).length = o.length
  | 0, _, _ => rfl
  | d + 1, i, o => by
    show (st g names d (i + 1) _).length = _
    rw [st_len]
    simp
theorem spec_ren (g l : List Int) (hg : g.length ≤ 1048576) (hl : l.length = g.length) (hr : ∀ x ∈ l, 0 ≤ x ∧ x < (g.length : Int)) : ∀ (d i K : Nat) (o : List Int), i + d = l.length → o.length = g.length → spec_RenameWires.l0 (K + d + 1) g o l (l.length : Int) (i : Int) = (spec_cbAnew.f K (st g l d i o)).bind fun t => some (t, true)
  | 0, i, K, o, hi, ho => by
    simp only [spec_RenameWires.l0]
    rw [if_neg (by omega)]
    rfl
  | d + 1, i, K, o, hi, ho => by
    have ha : i < l.length := by omega
    have hx := hr _ (List.getElem_mem ha)
    obtain ⟨Q, hQ⟩ : ∃ Q, Q = K + d + 1 := ⟨_, rfl⟩
    rw [show K + (d + 1) + 1 = Q + 1 by omega]
    simp only [spec_RenameWires.l0]
    rw [if_pos (by omega), if_pos (by omega), if_pos (by omega), if_pos (by omega), rd_lt ha, if_pos (by omega), if_pos (by omega), up64 ha (by omega), hQ, spec_ren g l hg hl hr d (i + 1) K _ (by omega) (by simp; omega)]
    show _ = (spec_cbAnew.f K (st g l d (i + 1) (o.set (rd l (i : Int)).toNat (rd g (i : Int))))).bind _
    rw [rd_lt ha]
theorem impl_ren (g l : List Int) (hg : g.length ≤ 1048576) (hl : l.length = g.length) (hr : ∀ x ∈ l, 0 ≤ x ∧ x < (g.length : Int)) : ∀ (d i K : Nat) (o : List Int), i + d = l.length → o.length = g.length → impl_RenameWires.l0 (K + d + 1) g o l (l.length : Int) (i : Int) = (impl_anew.f K (st g l d i o)).bind fun t => some (t, true)
  | 0, i, K, o, hi, ho => by
    simp only [impl_RenameWires.l0]
    rw [if_neg (by omega)]
    rfl
  | d + 1, i, K, o, hi, ho => by
    have ha : i < l.length := by omega
    have hx := hr _ (List.getElem_mem ha)
    obtain ⟨Q, hQ⟩ : ∃ Q, Q = K + d + 1 := ⟨_, rfl⟩
    rw [show K + (d + 1) + 1 = Q + 1 by omega]
    simp only [impl_RenameWires.l0]
    rw [if_pos (by omega), if_pos (by omega), if_pos (by omega), if_pos (by omega), rd_lt ha, if_pos (by omega), if_pos (by omega), up64 ha (by omega), hQ, impl_ren g l hg hl hr d (i + 1) K _ (by omega) (by simp; omega)]
    show _ = (impl_anew.f K (st g l d (i + 1) (o.set (rd l (i : Int)).toNat (rd g (i : Int))))).bind _
    rw [rd_lt ha]
/-- Groups anew, in the order in which they come. -/
def an : List Int → List Int → List Int → List Int
  | [], _, out => out
  | g :: t, seen, out => an t (if g ∈ seen then seen else seen ++ [g]) (out ++ [ix (if g ∈ seen then seen else seen ++ [g]) g])
theorem an_len : ∀ (l seen out : List Int), (an l seen out).length = out.length + l.length
  | [], _, _ => rfl
  | g :: t, seen, out => by
    show (an t _ _).length = _
    rw [an_len]
    simp
    omega
theorem anew_l0 (l : List Int) (hn : l.length ≤ 1000) : ∀ (d i k : Nat) (seen out : List Int), i + d = l.length → out.length = i → seen.length ≤ i → d + l.length + 5 < k → impl_anew.l0 k out seen l (l.length : Int) (i : Int) = some (an (l.drop i) seen out)
  | 0, i, k, seen, out, hi, ho, hs, hk => by
    obtain ⟨k, rfl⟩ : ∃ q, k = q + 1 := ⟨k - 1, by omega⟩
    simp only [impl_anew.l0]
    rw [if_neg (by omega), List.drop_eq_nil_of_le (by omega)]
    rfl
  | d + 1, i, k, seen, out, hi, ho, hs, hk => by
    obtain ⟨k, rfl⟩ : ∃ q, k = q + 1 := ⟨k - 1, by omega⟩
    have ha : i < l.length := by omega
    have ih := fun seen out h1 h2 => anew_l0 l hn d (i + 1) k seen out (by omega) h1 h2 (by omega)
    simp only [impl_anew.l0]
    rw [if_pos (by omega), if_pos (by omega), if_pos (by omega), up64 ha (by omega), contains_f _ _ (by omega) (by omega), rd_lt ha, List.drop_eq_getElem_cons ha, Option.bind_some]
    unfold an
    by_cases e : l[i] ∈ seen
    · rw [if_pos (by simpa using e), if_pos e, index_f _ _ (by omega) (by omega), Option.bind_some, if_pos (by omega), ih _ _ (by simp; omega) (by omega)]
    · rw [if_neg (by simpa using e), if_neg e, if_pos (by omega), Option.bind_some, index_f _ _ (by simp; omega) (by simp; omega), Option.bind_some, if_pos (by omega), ih _ _ (by simp; omega) (by simp; omega)]
theorem anew_f (l : List Int) (hn : l.length ≤ 1000) {k : Nat} (hk : 2 * l.length + 5 < k) : impl_anew.f k l = some (an l [] []) := by
  have h := anew_l0 l hn l.length 0 k [] [] (by omega) rfl (by simp) (by omega)
  rw [List.drop_zero] at h
  exact h
/-- Among different names, one place. -/
theorem cbAnew_l1 (l : List Int) (hn : l.length ≤ 1000) (seen : List Int) (hs : seen.length ≤ 1000) (hd : seen.Nodup) (x : Int) (i : Int) : ∀ (d j K : Nat) (out : List Int), j + d = seen.length → out.length ≤ 2000 → spec_cbAnew.l1 (K + d + 1) seen out x l (l.length : Int) i seen (seen.length : Int) (j : Int) = spec_cbAnew.l0 K seen (out ++ if x ∈ seen.drop j then [((seen.drop j).idxOf x : Int) + (j : Int)] else []) l (l.length : Int) (wrap64 (i + 1))
  | 0, j, K, out, hj, ho => by
    simp only [spec_cbAnew.l1]
    rw [if_neg (by omega), List.drop_eq_nil_of_le (by omega)]
    simp
  | d + 1, j, K, out, hj, ho => by
    have ha : j < seen.length := by omega
    obtain ⟨Q, hQ⟩ : ∃ Q, Q = K + d + 1 := ⟨_, rfl⟩
    rw [show K + (d + 1) + 1 = Q + 1 by omega]
    simp only [spec_cbAnew.l1]
    rw [if_pos (by omega), if_pos (by omega), if_pos (by omega), rd_lt ha, up64 ha (by omega)]
    have hnd : (seen.drop j).Nodup := hd.sublist (List.drop_sublist j seen)
    rw [List.drop_eq_getElem_cons ha] at hnd ⊢
    obtain ⟨n1, n2⟩ := List.nodup_cons.1 hnd
    by_cases e : seen[j] = x
    · rw [if_pos e, if_pos (by omega)]
      have hmore : ∀ (d j K : Nat) (out : List Int), j + d = seen.length → x ∉ seen.drop j → spec_cbAnew.l1 (K + d + 1) seen out x l (l.length : Int) i seen (seen.length : Int) (j : Int) = spec_cbAnew.l0 K seen out l (l.length : Int) (wrap64 (i + 1)) := by
        intro d
        induction d with
        | zero =>
          intro j K out hj _
          simp only [spec_cbAnew.l1]
          rw [if_neg (by omega)]
        | succ d ih =>
          intro j K out hj hx
          have ha : j < seen.length := by omega
          obtain ⟨Q, hQ⟩ : ∃ Q, Q = K + d + 1 := ⟨_, rfl⟩
          rw [show K + (d + 1) + 1 = Q + 1 by omega]
          simp only [spec_cbAnew.l1]
          rw [List.drop_eq_getElem_cons ha, List.mem_cons, not_or] at hx
          rw [if_pos (by omega), if_pos (by omega), if_pos (by omega), rd_lt ha, up64 ha (by omega), if_neg (fun h => hx.1 h.symm), hQ, ih (j + 1) K out (by omega) hx.2]
      rw [hQ, hmore d (j + 1) K _ (by omega) (by rw [← e]; exact n1)]
      rw [if_pos (by rw [e]; simp), e, List.idxOf_cons_self]
      simp
    · rw [if_neg e, hQ, cbAnew_l1 l hn seen hs hd x i d (j + 1) K out (by omega) ho]
      congr 2
      by_cases hx : x ∈ seen.drop (j + 1)
      · rw [if_pos hx, if_pos (List.mem_cons_of_mem _ hx), List.idxOf_cons, show (seen[j] == x) = false from beq_eq_false_iff_ne.mpr e]
        simp only [cond_false]
        congr 1
        omega
      · rw [if_neg hx, if_neg (by rw [List.mem_cons, not_or]; exact ⟨fun h => e h.symm, hx⟩)]
theorem cbAnew_l0 (l : List Int) (hn : l.length ≤ 1000) : ∀ (d i K : Nat) (seen out : List Int), i + d = l.length → out.length = i → seen.length ≤ i → seen.Nodup → d * (l.length + 5) + 1500 < K → spec_cbAnew.l0 K seen out l (l.length : Int) (i : Int) = some (an (l.drop i) seen out)
  | 0, i, k, seen, out, hi, ho, hs, hd, hk => by
    obtain ⟨k, rfl⟩ : ∃ q, k = q + 1 := ⟨k - 1, by omega⟩
    simp only [spec_cbAnew.l0]
    rw [if_neg (by omega), List.drop_eq_nil_of_le (by omega)]
    rfl
  | d + 1, i, k, seen, out, hi, ho, hs, hd, hk => by
    rw [Nat.succ_mul] at hk
    have ha : i < l.length := by omega
    obtain ⟨S, hS⟩ : ∃ S, S = if l[i] ∈ seen then seen else seen ++ [l[i]] := ⟨_, rfl⟩
    have hSl : S.length ≤ i + 1 := by
      rw [hS]
      split
      · omega
      · simp; omega
    have hSd : S.Nodup := by
      rw [hS]
      split
      · exact hd
      · rename_i h
        rw [List.nodup_append]
        refine ⟨hd, by simp, fun a h1 b h2 => ?_⟩
        rw [List.mem_singleton] at h2
        subst h2
        intro e
        subst e
        exact h h1
    have hSm : l[i] ∈ S := by
      rw [hS]
      split
      · assumption
      · simp
    obtain ⟨q, hq⟩ : ∃ q, k = (q + S.length + 1) + 1 + 1 := ⟨k - S.length - 3, by omega⟩
    obtain ⟨Q, hQ⟩ : ∃ Q, Q = q + S.length + 1 := ⟨_, rfl⟩
    obtain rfl : k = Q + 1 + 1 := by omega
    clear hq
    have hin := cbAnew_l1 l hn S (by omega) hSd l[i] (i : Int) S.length 0 q out (by omega) (by omega)
    rw [List.drop_zero, if_pos hSm, show ((0 : Nat) : Int) = 0 from rfl, Int.add_zero, up64 ha (by omega), show ((S.idxOf l[i] : Nat) : Int) = ix S l[i] by unfold ix; rw [if_pos hSm], ← hQ] at hin
    have ih := cbAnew_l0 l hn d (i + 1) q S (out ++ [ix S l[i]]) (by omega) (by simp; omega) hSl hSd (by omega)
    rw [List.drop_eq_getElem_cons ha]
    unfold an
    rw [← hS, ← ih]
    simp only [spec_cbAnew.l0]
    rw [if_pos (by omega), if_pos (by omega), if_pos (by omega), has_f _ _ (by omega) (by omega), rd_lt ha, Option.bind_some]
    by_cases e : l[i] ∈ seen
    · rw [if_pos (by simpa using e)]
      rw [if_pos e] at hS
      subst hS
      simp only [spec_cbAnew.j1]
      exact hin
    · rw [if_neg (by simpa using e), if_pos (by omega)]
      rw [if_neg e] at hS
      rw [← hS]
      simp only [spec_cbAnew.j1]
      exact hin
theorem cbAnew_f (l : List Int) (hn : l.length ≤ 12) {k : Nat} (hk : 2000 < k) : spec_cbAnew.f k l = some (an l [] []) := by
  have hb : l.length * (l.length + 5) ≤ 12 * 17 := Nat.mul_le_mul hn (by omega)
  have h := cbAnew_l0 l (by omega) l.length 0 k [] [] (by omega) rfl (by simp) (by simp) (by omega)
  rw [List.drop_zero] at h
  exact h
/-- What both answer. -/
def ren (g l : List Int) : List Int × Bool := if good g = true ∧ nms l g.length = true then (an (st g l l.length 0 (List.replicate g.length 0)) [] [], true) else ([], false)
theorem ren_len (g l : List Int) : (ren g l).1.length ≤ 12 := by
  unfold ren
  split
  · rename_i h
    have := (good_cases h.1).2.1
    simp only [an_len, st_len, List.length_replicate, List.length_nil]
    omega
  · simp
theorem specRen_f (g l : List Int) (hg : g.length ≤ 1048576) (hl : l.length ≤ 1048576) {k : Nat} (hk : 4000000 < k) : spec_RenameWires.f k g l = some (ren g l) := by
  obtain ⟨k, rfl⟩ : ∃ q, k = q + 1 := ⟨k - 1, by omega⟩
  unfold spec_RenameWires.f ren
  rw [cbGood_f g (by omega) (by omega), Option.bind_some]
  cases hq : good g with
  | false =>
    rw [if_neg (by decide), if_neg (by simp)]
    simp only [spec_RenameWires.j0, if_true]
  | true =>
    rw [if_pos rfl, names_f l g.length hg hl (by omega), Option.bind_some]
    cases hm : nms l g.length with
    | false =>
      rw [if_neg (by simp)]
      simp only [spec_RenameWires.j0, Bool.not_false, if_true]
    | true =>
      obtain ⟨m1, m2, m3⟩ := (nms_iff _ _).1 hm
      have hc := (good_cases hq).2.1
      rw [if_pos (by simp)]
      simp only [spec_RenameWires.j0, Bool.not_true, Bool.false_eq_true, if_false, Int.toNat_natCast]
      rw [if_pos (by omega), if_pos (by omega)]
      obtain ⟨q, rfl⟩ : ∃ q, k = q + l.length + 1 := ⟨k - l.length - 1, by omega⟩
      have h := spec_ren g l hg m1 m2 l.length 0 q (List.replicate g.length 0) (by omega) (by simp)
      rw [show ((0 : Nat) : Int) = 0 from rfl] at h
      rw [h, cbAnew_f _ (by rw [st_len]; simp; omega) (by omega), Option.bind_some]
theorem implRen_f (g l : List Int) (hg : g.length ≤ 1048576) (hl : l.length ≤ 1048576) {k : Nat} (hk : 4000000 < k) : impl_RenameWires.f k g l = some (ren g l) := by
  obtain ⟨k, rfl⟩ : ∃ q, k = q + 1 := ⟨k - 1, by omega⟩
  unfold impl_RenameWires.f ren
  rw [isGrouping_f g (by omega) (by omega), Option.bind_some]
  cases hq : good g with
  | false =>
    rw [if_neg (by decide), if_neg (by simp)]
    simp only [impl_RenameWires.j0, if_true]
  | true =>
    rw [if_pos rfl, perm_f l g.length hl, Option.bind_some]
    cases hm : nms l g.length with
    | false =>
      rw [if_neg (by simp)]
      simp only [impl_RenameWires.j0, Bool.not_false, if_true]
    | true =>
      obtain ⟨m1, m2, m3⟩ := (nms_iff _ _).1 hm
      have hc := (good_cases hq).2.1
      rw [if_pos (by simp)]
      simp only [impl_RenameWires.j0, Bool.not_true, Bool.false_eq_true, if_false, Int.toNat_natCast]
      rw [if_pos (by omega), if_pos (by omega)]
      obtain ⟨q, rfl⟩ : ∃ q, k = q + l.length + 1 := ⟨k - l.length - 1, by omega⟩
      have h := impl_ren g l hg m1 m2 l.length 0 q (List.replicate g.length 0) (by omega) (by simp)
      rw [show ((0 : Nat) : Int) = 0 from rfl] at h
      rw [h, anew_f _ (by rw [st_len]; simp; omega) (by rw [st_len]; simp; omega), Option.bind_some]
theorem FnExactRenameWires : ∀ (l0 : List Int) (l1 : List Int), l0.length ≤ maxLen → (∀ x ∈ l0, (fun n => (Lit.int .i64 n).wf = true) x) → l1.length ≤ maxLen → (∀ x ∈ l1, (fun n => (Lit.int .i64 n).wf = true) x) → ∃ k, laws_FnExactRenameWires.f k l0 l1 = some true := by
  intro l0 l1 c1 c2 c3 c4
  clear c1 c2 c3 c4
  refine ⟨5000003, ?_⟩
  unfold laws_FnExactRenameWires.f
  by_cases z0 : (l0.length : Int) > 1048576
  · rw [if_pos z0]
  rw [if_neg z0]
  by_cases z1 : (l1.length : Int) > 1048576
  · rw [if_pos z1]
  rw [if_neg z1]
  have hl := ren_len l0 l1
  obtain ⟨r, b, hr⟩ : ∃ r b, ren l0 l1 = (r, b) := ⟨_, _, rfl⟩
  rw [hr] at hl
  have hl : r.length ≤ 12 := hl
  have t1 : ∀ k, 2000000 < k → laws_toIntS.f k l0 = some l0 := fun k hk => toIntS_f l0 (by omega) (by omega)
  have t2 : ∀ k, 2000000 < k → laws_toIntS.f k l1 = some l1 := fun k hk => toIntS_f l1 (by omega) (by omega)
  have s1 : ∀ k, 4000000 < k → spec_RenameWires.f k l0 l1 = some (r, b) := fun k hk => by rw [specRen_f l0 l1 (by omega) (by omega) hk, hr]
  have s2 : ∀ k, 4000000 < k → impl_RenameWires.f k l0 l1 = some (r, b) := fun k hk => by rw [implRen_f l0 l1 (by omega) (by omega) hk, hr]
  have e0 : ∀ k, 2000000 < k → laws_eqIntS.f k r r = some true := fun k hk => by rw [eqIntS_f r r (by omega) (by omega)]; simp
  have e1 : ∀ k, 2000000 < k → laws_eqIntS.f k l0 l0 = some true := fun k hk => by rw [eqIntS_f l0 l0 (by omega) (by omega)]; simp
  have e2 : ∀ k, 2000000 < k → laws_eqIntS.f k l1 l1 = some true := fun k hk => by rw [eqIntS_f l1 l1 (by omega) (by omega)]; simp
  have m1 : ∀ k, 2000000 < k → laws_markIntS.f k l0 1 = some (1 + (l0.length : Int), mk 1 l0.length) := fun k hk => markIntS_f l0 1 (by omega) (by omega) (by omega) (by omega)
  have m2 : ∀ k, 2000000 < k → laws_markIntS.f k l1 (1 + (l0.length : Int)) = some (1 + (l0.length : Int) + (l1.length : Int), mk (1 + (l0.length : Int)) l1.length) := fun k hk => markIntS_f l1 _ (by omega) (by omega) (by omega) (by omega)
  have m3 : ∀ k, 2000000 < k → laws_markIntS.f k r 1 = some (1 + (r.length : Int), mk 1 r.length) := fun k hk => markIntS_f r 1 (by omega) (by omega) (by omega) (by omega)
  have g1 : ∀ k, 2000000 < k → laws_heldIntS.f k (mk 1 r.length) 1 = some (1 + (r.length : Int)) := fun k hk => heldIntS_f r.length 1 (by omega) (by omega) (by omega) (by omega)
  have n1 : ¬ (1 + (r.length : Int) < 0) := by omega
  have n2 : ¬ (1 + (l0.length : Int) + (l1.length : Int) < 0) := by omega
  have j2 : ∀ k, 4000000 < k → laws_FnExactRenameWires.j2 (k + 1) (mk 1 r.length) (1 + (r.length : Int)) false = some true := fun k hk => by
    simp (disch := omega) only [laws_FnExactRenameWires.j2, g1, Option.bind_some, Bool.false_eq_true, if_false, if_neg n1, if_true]
  have j1 : ∀ k, 4000000 < k → laws_FnExactRenameWires.j1 (k + 2) l0 l1 r b r false = some true := fun k hk => by
    rw [show k + 2 = (k + 1) + 1 by omega]
    simp (disch := omega) only [laws_FnExactRenameWires.j1, t1, t2, s2, e0, m3, g1, Option.bind_some, Bool.false_eq_true, if_false, if_neg n1, if_true, bne_self_eq_false]
    exact j2 k hk
  have j0 : ∀ k, 4000000 < k → laws_FnExactRenameWires.j0 (k + 3) l0 l1 r b l0 l1 r b false = some true := fun k hk => by
    rw [show k + 3 = (k + 2) + 1 by omega]
    simp (disch := omega) only [laws_FnExactRenameWires.j0, t1, t2, e0, e1, e2, m1, m2, Option.bind_some, Bool.false_eq_true, if_false, if_neg n2, if_true, bne_self_eq_false]
    exact j1 k hk
  simp (disch := omega) only [t1, t2, s1, s2, e0, Option.bind_some, if_true, bne_self_eq_false]
  exact j0 5000000 (by omega)

end Go.Proofs.Ytoncbgjbkgdbaaa.Pure
