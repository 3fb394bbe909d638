/- For every list of sizes the program's FirstBySizes and the reference's agree; no conditions. -/
import Derived.Test.YthkoignldhocgaaPFnExactFirstBySizesx3
set_option linter.unusedSimpArgs false
set_option linter.unusedVariables false
namespace Go.Proofs.Ythkoignldhocgaa.Pure
open Go.RowKit Go.Proofs.Ythkoignldhocgaa.PFnExactFirstBySizes Go.Proofs.YthkoignldhocgaaW.PrintWords Go.Proofs.YthkoignldhocgaaW.PrintLast Go.Proofs.YthkoignldhocgaaW.PrintMore

theorem w64 {x : Int} (h0 : -9223372036854775808 ≤ x) (h1 : x ≤ 9223372036854775807) : wrap64 x = x := by unfold wrap64; omega
theorem up64 {i n : Nat} (h : i < n) (hn : n ≤ 4611686018427387904) : wrap64 ((i : Int) + 1) = ((i + 1 : Nat) : Int) := by rw [w64 (by omega) (by omega)]; omega
theorem rd_lt {xs : List Int} {i : Nat} (h : i < xs.length) : rd xs (i : Int) = xs[i] := by unfold rd; simp [List.getD_eq_getElem?_getD, h]
theorem eqIntS_l0 (a b : List Int) (hl : a.length = b.length) (hn : a.length ≤ 4611686018427387904) : ∀ (d i k : Nat), i + d = a.length → d < k → laws_eqIntS.l0 k a b (i : Int) = some (decide (a.drop i = b.drop i))
  | 0, i, k, hi, hk => by
    obtain ⟨k, rfl⟩ : ∃ q, k = q + 1 := ⟨k - 1, by omega⟩
    simp only [laws_eqIntS.l0]
    rw [if_neg (by omega), List.drop_eq_nil_of_le (by omega), List.drop_eq_nil_of_le (by omega)]
    simp
  | d + 1, i, k, hi, hk => by
    obtain ⟨k, rfl⟩ : ∃ q, k = q + 1 := ⟨k - 1, by omega⟩
    have ih := eqIntS_l0 a b hl hn d (i + 1) k (by omega) (by omega)
    have ha : i < a.length := by omega
    have hb : i < b.length := by omega
    simp only [laws_eqIntS.l0]
    rw [if_pos (by omega), if_pos (by omega), if_pos (by omega), up64 ha hn, ih, rd_lt ha, rd_lt hb, List.drop_eq_getElem_cons ha, List.drop_eq_getElem_cons hb]
    by_cases e : a[i] = b[i]
    · rw [if_pos e, e]; simp only [List.cons.injEq, true_and]
    · rw [if_neg e]; simp only [List.cons.injEq, e, false_and, decide_false]
theorem eqIntS_f (a b : List Int) (hn : a.length ≤ 4611686018427387904) {k : Nat} (hk : a.length < k) : laws_eqIntS.f k a b = some (decide (a = b)) := by
  unfold laws_eqIntS.f
  by_cases h : a.length = b.length
  · rw [if_pos (by omega)]
    exact eqIntS_l0 a b h hn a.length 0 k (by omega) hk
  · rw [if_neg (by omega), decide_eq_false (fun e => h (by rw [e]))]
theorem toIntS_l0 (a : List Int) (hn : a.length ≤ 4611686018427387904) : ∀ (d i k : Nat), i + d = a.length → d < k → laws_toIntS.l0 k a (a.take i ++ List.replicate d 0) (i : Int) = some a
  | 0, i, k, hi, hk => by
    obtain ⟨k, rfl⟩ : ∃ q, k = q + 1 := ⟨k - 1, by omega⟩
    simp only [laws_toIntS.l0]
    rw [if_neg (by omega), List.take_of_length_le (by omega)]
    simp
  | d + 1, i, k, hi, hk => by
    obtain ⟨k, rfl⟩ : ∃ q, k = q + 1 := ⟨k - 1, by omega⟩
    have ih := toIntS_l0 a hn d (i + 1) k (by omega) (by omega)
    have ha : i < a.length := by omega
    simp only [laws_toIntS.l0]
    rw [if_pos (by omega), if_pos (by omega), if_pos (by simp; omega), up64 ha hn, rd_lt ha]
    have he : (a.take i ++ List.replicate (d + 1) (0 : Int)).set ((i : Nat) : Int).toNat a[i] = a.take (i + 1) ++ List.replicate d 0 := by
      rw [List.set_append_right _ _ (by simp; omega), List.replicate_succ]
      have e : ((i : Nat) : Int).toNat - (a.take i).length = 0 := by simp; omega
      rw [e, List.set_cons_zero, List.take_succ_eq_append_getElem ha]
      simp only [List.append_assoc, List.singleton_append]
    rw [he]
    exact ih
theorem toIntS_f (a : List Int) (hn : a.length ≤ 1048576) {k : Nat} (hk : a.length < k) : laws_toIntS.f k a = some a := by
  unfold laws_toIntS.f
  rw [if_pos (by omega), if_pos (by omega)]
  exact toIntS_l0 a (by omega) a.length 0 k (by omega) hk
/-- The numbers a, a + 1, .. -/
def mk (a : Int) (n : Nat) : List Int := (List.range n).map (fun (j : Nat) => a + (j : Int))
theorem mk_len (a : Int) (n : Nat) : (mk a n).length = n := by simp [mk]
theorem mk_succ (a : Int) (n : Nat) : mk a (n + 1) = mk a n ++ [a + (n : Int)] := by simp [mk, List.range_succ]
theorem mk_rd (a : Int) {n i : Nat} (h : i < n) : rd (mk a n) (i : Int) = a + (i : Int) := by
  rw [rd_lt (by rw [mk_len]; exact h)]
  simp [mk]
theorem markIntS_l0 (l : List Int) (a : Int) (h0 : 0 ≤ a) (h1 : a ≤ 1000000000000) (hn : l.length ≤ 1000000000000) : ∀ (d i k : Nat), i + d = l.length → d < k → laws_markIntS.l0 k (mk a i ++ l.drop i) (a + (i : Int)) (i : Int) = some (a + (l.length : Int), mk a l.length)
  | 0, i, k, hi, hk => by
    obtain ⟨k, rfl⟩ : ∃ q, k = q + 1 := ⟨k - 1, by omega⟩
    have e : i = l.length := by omega
    subst e
    simp only [laws_markIntS.l0]
    rw [if_neg (by rw [List.length_append, mk_len, List.length_drop]; omega), List.drop_eq_nil_of_le (by omega), List.append_nil]
  | d + 1, i, k, hi, hk => by
    obtain ⟨k, rfl⟩ : ∃ q, k = q + 1 := ⟨k - 1, by omega⟩
    have ha : i < l.length := by omega
    have ih := markIntS_l0 l a h0 h1 hn d (i + 1) k (by omega) (by omega)
    simp only [laws_markIntS.l0]
    rw [if_pos (by rw [List.length_append, mk_len, List.length_drop]; omega), if_pos (by omega), up64 ha (by omega), w64 (x := a + (i : Int) + 1) (by omega) (by omega)]
    have he : (mk a i ++ l.drop i).set ((i : Nat) : Int).toNat (a + (i : Int)) = mk a (i + 1) ++ l.drop (i + 1) := by
      rw [List.set_append_right _ _ (by rw [mk_len]; omega), mk_len, mk_succ, List.drop_eq_getElem_cons ha]
      have e : ((i : Nat) : Int).toNat - i = 0 := by omega
      rw [e, List.set_cons_zero]
      simp only [List.append_assoc, List.singleton_append]
    rw [he, show a + (i : Int) + 1 = a + ((i + 1 : Nat) : Int) by omega]
    exact ih
theorem markIntS_f (l : List Int) (a : Int) (h0 : 0 ≤ a) (h1 : a ≤ 1000000000000) (hn : l.length ≤ 1000000000000) {k : Nat} (hk : l.length < k) : laws_markIntS.f k l a = some (a + (l.length : Int), mk a l.length) := by
  have h := markIntS_l0 l a h0 h1 hn l.length 0 k (by omega) hk
  unfold laws_markIntS.f
  simpa [mk] using h
theorem heldIntS_l0 (n : Nat) (a : Int) (h0 : 0 ≤ a) (h1 : a ≤ 1000000000000) (hn : n ≤ 1000000000000) : ∀ (d i k : Nat), i + d = n → d < k → laws_heldIntS.l0 k (mk a n) (a + (i : Int)) (i : Int) = some (a + (n : Int))
  | 0, i, k, hi, hk => by
    obtain ⟨k, rfl⟩ : ∃ q, k = q + 1 := ⟨k - 1, by omega⟩
    have e : i = n := by omega
    subst e
    simp only [laws_heldIntS.l0]
    rw [if_neg (by rw [mk_len]; omega)]
  | d + 1, i, k, hi, hk => by
    obtain ⟨k, rfl⟩ : ∃ q, k = q + 1 := ⟨k - 1, by omega⟩
    have ha : i < n := by omega
    have ih := heldIntS_l0 n a h0 h1 hn d (i + 1) k (by omega) (by omega)
    simp only [laws_heldIntS.l0]
    rw [if_pos (by rw [mk_len]; omega), if_pos (by omega), mk_rd a ha, if_pos rfl, up64 ha (by omega), w64 (x := a + (i : Int) + 1) (by omega) (by omega), show a + (i : Int) + 1 = a + ((i + 1 : Nat) : Int) by omega]
    exact ih
theorem heldIntS_f (n : Nat) (a : Int) (h0 : 0 ≤ a) (h1 : a ≤ 1000000000000) (hn : n ≤ 1000000000000) {k : Nat} (hk : n < k) : laws_heldIntS.f k (mk a n) a = some (a + (n : Int)) := by
  have h := heldIntS_l0 n a h0 h1 hn n 0 k (by omega) hk
  unfold laws_heldIntS.f
  simpa using h
/-- From place i on, no size is greater than the one before. -/
def dsc (l : List Int) (i : Nat) : Prop := ∀ j, i ≤ j → 0 < j → j < l.length → rd l (j : Int) ≤ rd l ((j - 1 : Nat) : Int)
theorem dsc_step {l : List Int} {i : Nat} (hi : i < l.length) : dsc l i ↔ (0 < i → rd l (i : Int) ≤ rd l ((i - 1 : Nat) : Int)) ∧ dsc l (i + 1) := by
  constructor
  · exact fun h => ⟨fun h0 => h i (Nat.le_refl _) h0 hi, fun j h1 h2 h3 => h j (by omega) h2 h3⟩
  · rintro ⟨h1, h2⟩ j hj h0 hl
    by_cases e : j = i
    · subst e; exact h1 h0
    · exact h2 j (by omega) h0 hl
theorem dsc_end {l : List Int} {i : Nat} (hi : l.length ≤ i) : dsc l i := fun j h1 _ h3 => by omega
theorem within_f (x a b : Int) : impl_within.f x a b = some (decide (a ≤ x ∧ x ≤ b)) := by
  unfold impl_within.f
  by_cases h : a ≤ x
  · rw [if_pos h]; simp [h]
  · rw [if_neg h]; simp [h]
theorem in_f (x a b : Int) : spec_l1In.f x a b = some (decide (a ≤ x ∧ x ≤ b)) := by
  unfold spec_l1In.f
  by_cases h : x ≥ a
  · rw [if_pos h]; simp [h]
  · rw [if_neg h]; simp [h]
theorem areSizes_l0 (l : List Int) (hn : l.length ≤ 1048576) : ∀ (d i k : Nat) (s : Int), i + d = l.length → d < k → 0 ≤ s → s ≤ 12 * (i : Int) →
    ∃ q b, impl_areSizes.l0 k l s l (l.length : Int) (i : Int) = some (q, b) ∧ (b = true ↔ (∀ x ∈ l.drop i, 1 ≤ x ∧ x ≤ 12) ∧ dsc l i ∧ l.length ≤ 12 ∧ 1 ≤ s + (l.drop i).sum ∧ s + (l.drop i).sum ≤ 12)
  | 0, i, k, s, hi, hk, h0, h1 => by
    obtain ⟨k, rfl⟩ : ∃ q, k = q + 1 := ⟨k - 1, by omega⟩
    have hd : l.drop i = [] := List.drop_eq_nil_of_le (by omega)
    simp only [impl_areSizes.l0]
    rw [if_neg (by omega), hd]
    unfold impl_areWires.f
    rw [within_f]
    by_cases h : (l.length : Int) ≤ 12
    · rw [if_pos h]
      exact ⟨s, _, rfl, by simp [dsc_end (l := l) (i := i) (by omega)]; omega⟩
    · rw [if_neg h]
      exact ⟨s, false, rfl, by simp; omega⟩
  | d + 1, i, k, s, hi, hk, h0, h1 => by
    obtain ⟨k, rfl⟩ : ∃ q, k = q + 1 := ⟨k - 1, by omega⟩
    have ha : i < l.length := by omega
    have hdr : l.drop i = l[i] :: l.drop (i + 1) := List.drop_eq_getElem_cons ha
    simp only [impl_areSizes.l0]
    rw [if_pos (by omega), if_pos (by omega), if_pos (by omega), within_f, rd_lt ha, hdr, dsc_step ha, rd_lt ha]
    simp only [Option.bind_some]
    by_cases hx : 1 ≤ l[i] ∧ l[i] ≤ 12
    · rw [if_pos (by simpa using hx)]
      obtain ⟨q, b, h2, h3⟩ := areSizes_l0 l hn d (i + 1) k (s + l[i]) (by omega) (by omega) (by omega) (by omega)
      have he : wrap64 (s + l[i]) = s + l[i] := w64 (by omega) (by omega)
      by_cases hi0 : 0 < i
      · have hp : i - 1 < l.length := by omega
        rw [if_pos (by omega), w64 (x := (i : Int) - 1) (by omega) (by omega), if_pos (by omega), if_pos (by omega), show (i : Int) - 1 = ((i - 1 : Nat) : Int) by omega, rd_lt hp, he, up64 ha (by omega)]
        by_cases hg : l[i] > l[i - 1]
        · rw [if_pos hg]
          exact ⟨0, false, rfl, by simp only [Bool.false_eq_true, false_iff]; rintro ⟨_, ⟨h4, _⟩, _⟩; have := h4 hi0; omega⟩
        · rw [if_neg hg]
          refine ⟨q, b, h2, h3.trans ?_⟩
          simp only [List.mem_cons, forall_eq_or_imp, List.sum_cons]
          constructor
          · rintro ⟨a1, a2, a3, a4, a5⟩; exact ⟨⟨hx, a1⟩, ⟨fun _ => by omega, a2⟩, a3, by omega, by omega⟩
          · rintro ⟨⟨_, a1⟩, ⟨_, a2⟩, a3, a4, a5⟩; exact ⟨a1, a2, a3, by omega, by omega⟩
      · rw [if_neg (by omega), he, up64 ha (by omega)]
        refine ⟨q, b, h2, h3.trans ?_⟩
        simp only [List.mem_cons, forall_eq_or_imp, List.sum_cons]
        constructor
        · rintro ⟨a1, a2, a3, a4, a5⟩; exact ⟨⟨hx, a1⟩, ⟨fun h => by omega, a2⟩, a3, by omega, by omega⟩
        · rintro ⟨⟨_, a1⟩, ⟨_, a2⟩, a3, a4, a5⟩; exact ⟨a1, a2, a3, by omega, by omega⟩
    · rw [if_neg (by simpa using hx)]
      refine ⟨0, false, rfl, ?_⟩
      simp only [Bool.false_eq_true, false_iff, List.mem_cons, forall_eq_or_imp]
      rintro ⟨⟨h4, _⟩, _⟩
      exact hx h4
theorem l1All_l0 (l : List Int) (a b : Int) (hn : l.length ≤ 1048576) : ∀ (d i k : Nat), i + d = l.length → d < k → ∃ r, spec_l1All.l0 k a b l (l.length : Int) (i : Int) = some r ∧ (r = true ↔ ∀ x ∈ l.drop i, a ≤ x ∧ x ≤ b)
  | 0, i, k, hi, hk => by
    obtain ⟨k, rfl⟩ : ∃ q, k = q + 1 := ⟨k - 1, by omega⟩
    simp only [spec_l1All.l0]
    rw [if_neg (by omega), List.drop_eq_nil_of_le (by omega)]
    exact ⟨true, rfl, by simp⟩
  | d + 1, i, k, hi, hk => by
    obtain ⟨k, rfl⟩ : ∃ q, k = q + 1 := ⟨k - 1, by omega⟩
    have ha : i < l.length := by omega
    obtain ⟨r, h1, h2⟩ := l1All_l0 l a b hn d (i + 1) k (by omega) (by omega)
    simp only [spec_l1All.l0]
    rw [if_pos (by omega), if_pos (by omega), if_pos (by omega), in_f, rd_lt ha, List.drop_eq_getElem_cons ha, up64 ha (by omega)]
    simp only [Option.bind_some]
    by_cases hx : a ≤ l[i] ∧ l[i] ≤ b
    · rw [if_pos (by simpa using hx)]
      exact ⟨r, h1, by rw [h2]; simp only [List.mem_cons, forall_eq_or_imp]; exact ⟨fun h => ⟨hx, h⟩, fun h => h.2⟩⟩
    · rw [if_neg (by simpa using hx)]
      exact ⟨false, rfl, by simp only [Bool.false_eq_true, false_iff, List.mem_cons, forall_eq_or_imp]; exact fun h => hx h.1⟩
theorem cbKinds_l0 (l : List Int) (hn : l.length ≤ 12) (hin : ∀ x ∈ l, 1 ≤ x ∧ x ≤ 12) : ∀ (d i k : Nat) (s : Int), i + d = l.length → d < k → 0 ≤ s → s ≤ 12 * (i : Int) →
    ∃ b, spec_cbKinds.l0 k l s l (l.length : Int) (i : Int) = some b ∧ (b = true ↔ dsc l i ∧ s + (l.drop i).sum ≤ 12)
  | 0, i, k, s, hi, hk, h0, h1 => by
    obtain ⟨k, rfl⟩ : ∃ q, k = q + 1 := ⟨k - 1, by omega⟩
    simp only [spec_cbKinds.l0]
    rw [if_neg (by omega), List.drop_eq_nil_of_le (by omega)]
    exact ⟨_, rfl, by simp [dsc_end (l := l) (i := i) (by omega)]⟩
  | d + 1, i, k, s, hi, hk, h0, h1 => by
    obtain ⟨k, rfl⟩ : ∃ q, k = q + 1 := ⟨k - 1, by omega⟩
    have ha : i < l.length := by omega
    have hx := hin l[i] (List.getElem_mem ha)
    obtain ⟨b, h2, h3⟩ := cbKinds_l0 l hn hin d (i + 1) k (s + l[i]) (by omega) (by omega) (by omega) (by omega)
    have he : wrap64 (s + l[i]) = s + l[i] := w64 (by omega) (by omega)
    simp only [spec_cbKinds.l0]
    rw [if_pos (by omega), if_pos (by omega), if_pos (by omega), rd_lt ha, List.drop_eq_getElem_cons ha, dsc_step ha, rd_lt ha, he, up64 ha (by omega)]
    by_cases hi0 : 0 < i
    · have hp : i - 1 < l.length := by omega
      rw [if_pos (by omega), w64 (x := (i : Int) - 1) (by omega) (by omega), if_pos (by omega), if_pos (by omega), show (i : Int) - 1 = ((i - 1 : Nat) : Int) by omega, rd_lt hp]
      by_cases hg : l[i - 1] < l[i]
      · rw [if_pos hg]
        exact ⟨false, rfl, by simp only [Bool.false_eq_true, false_iff]; rintro ⟨⟨h4, _⟩, _⟩; have := h4 hi0; omega⟩
      · rw [if_neg hg]
        refine ⟨b, h2, h3.trans ?_⟩
        rw [List.sum_cons]
        constructor
        · rintro ⟨a1, a2⟩; exact ⟨⟨fun _ => by omega, a1⟩, by omega⟩
        · rintro ⟨⟨_, a1⟩, a2⟩; exact ⟨a1, by omega⟩
    · rw [if_neg (by omega)]
      refine ⟨b, h2, h3.trans ?_⟩
      rw [List.sum_cons]
      constructor
      · rintro ⟨a1, a2⟩; exact ⟨⟨fun h => by omega, a1⟩, by omega⟩
      · rintro ⟨⟨_, a1⟩, a2⟩; exact ⟨a1, by omega⟩
/-- What valid sizes are. -/
def good (l : List Int) : Prop := l.length ≤ 12 ∧ (∀ x ∈ l, 1 ≤ x ∧ x ≤ 12) ∧ dsc l 0 ∧ 1 ≤ l.sum ∧ l.sum ≤ 12
theorem areSizes_f (l : List Int) (hn : l.length ≤ 1048576) {k : Nat} (hk : l.length < k) : ∃ q b, impl_areSizes.f k l = some (q, b) ∧ (b = true ↔ good l) := by
  obtain ⟨q, b, h1, h2⟩ := areSizes_l0 l hn l.length 0 k 0 (by omega) hk (by omega) (by omega)
  refine ⟨q, b, h1, h2.trans ?_⟩
  rw [List.drop_zero, Int.zero_add]
  exact ⟨fun ⟨a, b, c, d, e⟩ => ⟨c, a, b, d, e⟩, fun ⟨c, a, b, d, e⟩ => ⟨a, b, c, d, e⟩⟩
theorem sum_pos : ∀ (l : List Int), (∀ x ∈ l, 1 ≤ x ∧ x ≤ 12) → (l.length : Int) ≤ l.sum
  | [], _ => by simp
  | x :: l, h => by
    have h1 := sum_pos l (fun y hy => h y (List.mem_cons_of_mem _ hy))
    have h2 := h x List.mem_cons_self
    rw [List.sum_cons, List.length_cons]
    omega
theorem cbKinds_f (l : List Int) (hn : l.length ≤ 1048576) {k : Nat} (hk : l.length + 2 < k) : ∃ b, spec_cbKinds.f k l = some b ∧ (b = true ↔ good l) := by
  obtain ⟨k, rfl⟩ : ∃ q, k = q + 1 := ⟨k - 1, by omega⟩
  unfold spec_cbKinds.f
  rw [in_f]
  simp only [Option.bind_some]
  by_cases h : 1 ≤ (l.length : Int) ∧ (l.length : Int) ≤ 12
  · rw [if_pos (by simpa using h)]
    obtain ⟨r, h1, h2⟩ := l1All_l0 l 1 12 hn l.length 0 (k + 1) (by omega) (by omega)
    have h1' : spec_l1All.f (k + 1) l 1 12 = some r := h1
    rw [h1']
    simp only [Option.bind_some, spec_cbKinds.j0]
    rw [List.drop_zero] at h2
    cases r with
    | false => exact ⟨false, by simp, by simp only [Bool.false_eq_true, false_iff]; exact fun hg => by have := h2.2 hg.2.1; cases this⟩
    | true =>
      have hin := h2.1 rfl
      obtain ⟨b, h3, h4⟩ := cbKinds_l0 l (by omega) hin l.length 0 k 0 (by omega) (by omega) (by omega) (by omega)
      refine ⟨b, by simpa using h3, h4.trans ?_⟩
      rw [List.drop_zero, Int.zero_add]
      have := sum_pos l hin
      exact ⟨fun ⟨a, b⟩ => ⟨by omega, hin, a, by omega, b⟩, fun ⟨_, _, a, _, b⟩ => ⟨a, b⟩⟩
  · rw [if_neg (by simpa using h)]
    refine ⟨false, by simp [spec_cbKinds.j0], ?_⟩
    simp only [Bool.false_eq_true, false_iff]
    rintro ⟨a, _, _, c, _⟩
    apply h
    refine ⟨?_, by omega⟩
    cases l with
    | nil => simp at c
    | cons x l => simp; omega
/-- Each group's number, as often as its size. -/
def fb : List Int → Nat → List Int
  | [], _ => []
  | n :: ns, g => List.replicate n.toNat (g : Int) ++ fb ns (g + 1)
theorem rep_l1 (l : List Int) (g : Nat) : ∀ (m : Nat) (k : Nat) (out : List Int), m < k → m ≤ 12 → out.length + m ≤ 1000000 → spec_FirstBySizes.l1 k out (g : Int) (m : Int) l (l.length : Int) (g : Int) = spec_FirstBySizes.l0 (k - m - 1) (out ++ List.replicate m (g : Int)) l (l.length : Int) (wrap64 ((g : Int) + 1))
  | 0, k, out, hk, hm, ho => by
    obtain ⟨k, rfl⟩ : ∃ q, k = q + 1 := ⟨k - 1, by omega⟩
    simp only [spec_FirstBySizes.l1]
    rw [if_neg (by omega)]
    simp
  | m + 1, k, out, hk, hm, ho => by
    obtain ⟨k, rfl⟩ : ∃ q, k = q + 1 := ⟨k - 1, by omega⟩
    simp only [spec_FirstBySizes.l1]
    rw [if_pos (by omega), if_pos (by omega), w64 (x := ((m + 1 : Nat) : Int) - 1) (by omega) (by omega), show ((m + 1 : Nat) : Int) - 1 = (m : Int) by omega]
    rw [rep_l1 l g m k (out ++ [(g : Int)]) (by omega) (by omega) (by simp; omega)]
    rw [List.append_assoc, show k + 1 - (m + 1) - 1 = k - m - 1 by omega, List.replicate_succ]
    rfl
theorem spec_fb (l : List Int) (hn : l.length ≤ 12) (hin : ∀ x ∈ l, 1 ≤ x ∧ x ≤ 12) : ∀ (d i k : Nat) (out : List Int), i + d = l.length → 20 * d < k → out.length ≤ 12 * i → spec_FirstBySizes.l0 k out l (l.length : Int) (i : Int) = some (out ++ fb (l.drop i) i, true)
  | 0, i, k, out, hi, hk, ho => by
    obtain ⟨k, rfl⟩ : ∃ q, k = q + 1 := ⟨k - 1, by omega⟩
    simp only [spec_FirstBySizes.l0]
    rw [if_neg (by omega), List.drop_eq_nil_of_le (by omega)]
    simp [fb]
  | d + 1, i, k, out, hi, hk, ho => by
    obtain ⟨k, rfl⟩ : ∃ q, k = q + 1 := ⟨k - 1, by omega⟩
    have ha : i < l.length := by omega
    have hx := hin l[i] (List.getElem_mem ha)
    simp only [spec_FirstBySizes.l0]
    rw [if_pos (by omega), if_pos (by omega), if_pos (by omega), rd_lt ha]
    have e : l[i] = ((l[i].toNat : Nat) : Int) := by omega
    rw [e, rep_l1 l i l[i].toNat k out (by omega) (by omega) (by omega), up64 ha (by omega)]
    rw [spec_fb l hn hin d (i + 1) _ _ (by omega) (by omega) (by simp; omega), List.drop_eq_getElem_cons ha, List.append_assoc]
    simp only [fb]
theorem impl_fb (l : List Int) (hn : l.length ≤ 12) (hin : ∀ x ∈ l, 1 ≤ x ∧ x ≤ 12) : ∀ (d i k : Nat) (out : List Int), i + d = l.length → d < k → out.length ≤ 12 * i → impl_bySizes.l0 k out l (l.length : Int) (i : Int) = some (out ++ fb (l.drop i) i)
  | 0, i, k, out, hi, hk, ho => by
    obtain ⟨k, rfl⟩ : ∃ q, k = q + 1 := ⟨k - 1, by omega⟩
    simp only [impl_bySizes.l0]
    rw [if_neg (by omega), List.drop_eq_nil_of_le (by omega)]
    simp [fb]
  | d + 1, i, k, out, hi, hk, ho => by
    obtain ⟨k, rfl⟩ : ∃ q, k = q + 1 := ⟨k - 1, by omega⟩
    have ha : i < l.length := by omega
    have hx := hin l[i] (List.getElem_mem ha)
    have hr : slices_Repeat_int_int.f [(i : Int)] l[i] = some (List.replicate l[i].toNat (i : Int)) := by
      unfold slices_Repeat_int_int.f
      rw [if_pos ⟨rfl, by omega, by omega⟩]
      rfl
    simp only [impl_bySizes.l0]
    rw [if_pos (by omega), if_pos (by omega), if_pos (by omega), rd_lt ha, hr]
    simp only [Option.bind_some]
    rw [if_pos (by simp; omega), up64 ha (by omega)]
    rw [impl_fb l hn hin d (i + 1) _ _ (by omega) (by omega) (by simp; omega), List.drop_eq_getElem_cons ha, List.append_assoc]
    simp only [fb]
theorem both (l : List Int) (hn : l.length ≤ 1048576) : ∃ o b, o.length ≤ 1000 ∧ (∀ k, 1100000 ≤ k → spec_FirstBySizes.f k l = some (o, b)) ∧ ∀ k, 1100000 ≤ k → impl_FirstBySizes.f k l = some (o, b) := by
  by_cases hg : good l
  · obtain ⟨h1, h2, _⟩ := id hg
    refine ⟨fb l 0, true, ?_, fun k hk => ?_, fun k hk => ?_⟩
    · have hlen : ∀ (l : List Int) (g : Nat), (∀ x ∈ l, 1 ≤ x ∧ x ≤ 12) → (fb l g).length ≤ 12 * l.length := by
        intro l
        induction l with
        | nil => intro g _; simp [fb]
        | cons x l ih =>
          intro g h
          have h3 := ih (g + 1) (fun y hy => h y (List.mem_cons_of_mem _ hy))
          have h4 := h x List.mem_cons_self
          simp only [fb, List.length_append, List.length_replicate, List.length_cons]
          omega
      have := hlen l 0 h2
      omega
    · obtain ⟨b, e1, e2⟩ := cbKinds_f l hn (k := k) (by omega)
      obtain rfl : b = true := e2.2 hg
      unfold spec_FirstBySizes.f
      rw [e1]
      simp only [Option.bind_some, if_true]
      have := spec_fb l h1 h2 l.length 0 k [] (by omega) (by omega) (by simp)
      simpa using this
    · obtain ⟨q, b, e1, e2⟩ := areSizes_f l hn (k := k) (by omega)
      obtain rfl : b = true := e2.2 hg
      unfold impl_FirstBySizes.f
      rw [e1]
      simp only [Option.bind_some, if_true]
      have h3 : impl_bySizes.f k l = some (fb l 0) := by
        have := impl_fb l h1 h2 l.length 0 k [] (by omega) (by omega) (by simp)
        unfold impl_bySizes.f
        simpa using this
      rw [h3]
      rfl
  · refine ⟨[], false, by simp, fun k hk => ?_, fun k hk => ?_⟩
    · obtain ⟨b, e1, e2⟩ := cbKinds_f l hn (k := k) (by omega)
      obtain rfl : b = false := by cases b; rfl; exact absurd (e2.1 rfl) hg
      unfold spec_FirstBySizes.f
      rw [e1]
      simp
    · obtain ⟨q, b, e1, e2⟩ := areSizes_f l hn (k := k) (by omega)
      obtain rfl : b = false := by cases b; rfl; exact absurd (e2.1 rfl) hg
      unfold impl_FirstBySizes.f
      rw [e1]
      simp
theorem FnExactFirstBySizes_all (l0 : List Int) : ∃ k, laws_FnExactFirstBySizes.f k l0 = some true := by
  refine ⟨2000003, ?_⟩
  unfold laws_FnExactFirstBySizes.f
  by_cases h : (l0.length : Int) > 1048576
  · rw [if_pos h]
  · obtain ⟨o, b, ho, hs, hi⟩ := both l0 (by omega)
    have t1 : ∀ k, 1100000 ≤ k → laws_toIntS.f k l0 = some l0 := fun k hk => toIntS_f _ (by omega) (by omega)
    have q1 : ∀ k, 1100000 ≤ k → laws_eqIntS.f k o o = some true := fun k hk => by rw [eqIntS_f _ _ (by omega) (by omega)]; simp
    have q2 : ∀ k, 1100000 ≤ k → laws_eqIntS.f k l0 l0 = some true := fun k hk => by rw [eqIntS_f _ _ (by omega) (by omega)]; simp
    have m1 : ∀ k, 1100000 ≤ k → laws_markIntS.f k l0 1 = some (1 + (l0.length : Int), mk 1 l0.length) := fun k hk => markIntS_f _ _ (by omega) (by omega) (by omega) (by omega)
    have m2 : ∀ k, 1100000 ≤ k → laws_markIntS.f k o 1 = some (1 + (o.length : Int), mk 1 o.length) := fun k hk => markIntS_f _ _ (by omega) (by omega) (by omega) (by omega)
    have d2 : ∀ k, 1100000 ≤ k → laws_heldIntS.f k (mk 1 o.length) 1 = some (1 + (o.length : Int)) := fun k hk => heldIntS_f _ _ (by omega) (by omega) (by omega) (by omega)
    have n1 : ¬ (1 + (l0.length : Int) < 0) := by omega
    have n2 : ¬ (1 + (o.length : Int) < 0) := by omega
    rw [if_neg h]
    simp (disch := omega) only [t1, hs, hi, q1, q2, Option.bind_some, if_true, bne_self_eq_false]
    rw [laws_FnExactFirstBySizes.j0.eq_def]
    simp (disch := omega) only [t1, hs, hi, q1, q2, m1, m2, d2, n1, n2, Option.bind_some, if_true, if_false, bne_self_eq_false, Bool.false_eq_true]
    rw [laws_FnExactFirstBySizes.j1.eq_def]
    simp (disch := omega) only [t1, hs, hi, q1, q2, m1, m2, d2, n1, n2, Option.bind_some, if_true, if_false, bne_self_eq_false, Bool.false_eq_true]
    rw [laws_FnExactFirstBySizes.j2.eq_def]
    simp (disch := omega) only [d2, n2, Option.bind_some, if_true, if_false, Bool.false_eq_true]
theorem FnExactFirstBySizes : ∀ (l0 : List Int), l0.length ≤ maxLen → (∀ x ∈ l0, (fun n => (Lit.int .i64 n).wf = true) x) → ∃ k, laws_FnExactFirstBySizes.f k l0 = some true := fun l _ _ => FnExactFirstBySizes_all l

end Go.Proofs.Ythkoignldhocgaa.Pure
