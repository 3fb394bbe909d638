/- For every list of lists the program's TestsText and the reference's agree; no conditions. -/
import Derived.Test.YtbghdbpaihkcjabDoorPFnExactTestsTextx4
set_option linter.unusedSimpArgs false
set_option linter.unusedVariables false
namespace Go.Proofs.YtbghdbpaihkcjabDoor.Pure
open Go.RowKit Go.Proofs.YtbghdbpaihkcjabDoor.PFnExactTestsText Go.Proofs.YtbghdbpaihkcjabDoorW.PrintWords Go.Proofs.YtbghdbpaihkcjabDoorW.PrintLast Go.Proofs.YtbghdbpaihkcjabDoorW.PrintMore

theorem w64 {x : Int} (h0 : -9223372036854775808 ≤ x) (h1 : x ≤ 9223372036854775807) : wrap64 x = x := by unfold wrap64; omega
theorem up64 {i n : Nat} (h : i < n) (hn : n ≤ 4611686018427387904) : wrap64 ((i : Int) + 1) = ((i + 1 : Nat) : Int) := by rw [w64 (by omega) (by omega)]; omega
theorem rd_lt {xs : List Int} {i : Nat} (h : i < xs.length) : rd xs (i : Int) = xs[i] := by unfold rd; simp [List.getD_eq_getElem?_getD, h]
theorem toIntS_l0 (a : List Int) (hn : a.length ≤ 4611686018427387904) : ∀ (d i k : Nat), i + d = a.length → d < k → laws_toIntS.l0 k a (a.take i ++ List.replicate d 0) (i : Int) = some a
  | 0, i, k, hi, hk => by
    obtain ⟨k, rfl⟩ : ∃ q, k = q + 1 := ⟨k - 1, by omega⟩
    simp only [laws_toIntS.l0]
    rw [if_neg (by omega), List.take_of_length_le (by omega)]
    simp
  | d + 1, i, k, hi, hk => by
    obtain ⟨k, rfl⟩ : ∃ q, k = q + 1 := ⟨k - 1, by omega⟩
    have ih := toIntS_l0 a hn d (i + 1) k (by omega) (by omega)
    have ha : i < a.length := by omega
    simp only [laws_toIntS.l0]
    rw [if_pos (by omega), if_pos (by omega), if_pos (by simp; omega), up64 ha hn, rd_lt ha]
    have he : (a.take i ++ List.replicate (d + 1) (0 : Int)).set ((i : Nat) : Int).toNat a[i] = a.take (i + 1) ++ List.replicate d 0 := by
      rw [List.set_append_right _ _ (by simp; omega), List.replicate_succ]
      have e : ((i : Nat) : Int).toNat - (a.take i).length = 0 := by simp; omega
      rw [e, List.set_cons_zero, List.take_succ_eq_append_getElem ha]
      simp only [List.append_assoc, List.singleton_append]
    rw [he]
    exact ih
theorem toIntS_f (a : List Int) (hn : a.length ≤ 1048576) {k : Nat} (hk : a.length < k) : laws_toIntS.f k a = some a := by
  unfold laws_toIntS.f
  rw [if_pos (by omega), if_pos (by omega)]
  exact toIntS_l0 a (by omega) a.length 0 k (by omega) hk
theorem eqIntS_l0 (a b : List Int) (hl : a.length = b.length) (hn : a.length ≤ 4611686018427387904) : ∀ (d i k : Nat), i + d = a.length → d < k → laws_eqIntS.l0 k a b (i : Int) = some (decide (a.drop i = b.drop i))
  | 0, i, k, hi, hk => by
    obtain ⟨k, rfl⟩ : ∃ q, k = q + 1 := ⟨k - 1, by omega⟩
    simp only [laws_eqIntS.l0]
    rw [if_neg (by omega), List.drop_eq_nil_of_le (by omega), List.drop_eq_nil_of_le (by omega)]
    simp
  | d + 1, i, k, hi, hk => by
    obtain ⟨k, rfl⟩ : ∃ q, k = q + 1 := ⟨k - 1, by omega⟩
    have ih := eqIntS_l0 a b hl hn d (i + 1) k (by omega) (by omega)
    have ha : i < a.length := by omega
    have hb : i < b.length := by omega
    simp only [laws_eqIntS.l0]
    rw [if_pos (by omega), if_pos (by omega), if_pos (by omega), up64 ha hn, ih, rd_lt ha, rd_lt hb, List.drop_eq_getElem_cons ha, List.drop_eq_getElem_cons hb]
    by_cases e : a[i] = b[i]
    · rw [if_pos e, e]; simp only [List.cons.injEq, true_and]
    · rw [if_neg e]; simp only [List.cons.injEq, e, false_and, decide_false]
theorem eqIntS_f (a b : List Int) (hn : a.length ≤ 4611686018427387904) {k : Nat} (hk : a.length < k) : laws_eqIntS.f k a b = some (decide (a = b)) := by
  unfold laws_eqIntS.f
  by_cases h : a.length = b.length
  · rw [if_pos (by omega)]
    exact eqIntS_l0 a b h hn a.length 0 k (by omega) hk
  · rw [if_neg (by omega), decide_eq_false (fun e => h (by rw [e]))]
/-- The length of all rows together. -/
def tot (l : List (List Int)) : Nat := (l.map List.length).sum
theorem tot_cons (x : List Int) (l : List (List Int)) : tot (x :: l) = x.length + tot l := by simp [tot]
theorem tot_drop (l : List (List Int)) (i : Nat) (h : i < l.length) : tot (l.drop i) = (l[i]).length + tot (l.drop (i + 1)) := by
  rw [List.drop_eq_getElem_cons h, tot_cons]
theorem szIntSS_l0 (l : List (List Int)) (hn : l.length ≤ 4000000) : ∀ (d i k : Nat) (left : Int), i + d = l.length → 0 ≤ left → left ≤ 1048576 → (∀ x ∈ l, x.length ≤ 9223372036854775807) → d < k → laws_szIntSS.l0 k l left (i : Int) = some (if (tot (l.drop i) : Int) ≤ left then left - (tot (l.drop i) : Int) else -1)
  | 0, i, k, left, hi, h0, h1, hm, hk => by
    obtain ⟨k, rfl⟩ : ∃ q, k = q + 1 := ⟨k - 1, by omega⟩
    simp only [laws_szIntSS.l0]
    rw [if_neg (by omega), List.drop_eq_nil_of_le (by omega)]
    simp [tot, h0]
  | d + 1, i, k, left, hi, h0, h1, hm, hk => by
    obtain ⟨k, rfl⟩ : ∃ q, k = q + 1 := ⟨k - 1, by omega⟩
    have ha : i < l.length := by omega
    have e : rd_L1 l (i : Int) = l[i] := by unfold rd_L1; simp [List.getD_eq_getElem?_getD, ha]
    have hlen := hm _ (List.getElem_mem ha)
    have ht := tot_drop l i ha
    have w : wrap64 (left - (l[i].length : Int)) = left - (l[i].length : Int) := w64 (by omega) (by omega)
    simp only [laws_szIntSS.l0]
    rw [if_pos (by omega), if_pos (by omega), e]
    unfold laws_szIntS.f
    rw [w]
    by_cases hc : left - (l[i].length : Int) < 0
    · rw [if_pos hc]
      simp only [Option.bind_some]
      rw [if_pos (by omega), if_neg (by omega)]
    · rw [if_neg hc]
      simp only [Option.bind_some]
      rw [if_neg hc, up64 ha (by omega), szIntSS_l0 l hn d (i + 1) k _ (by omega) (by omega) (by omega) hm (by omega), ht]
      by_cases h2 : ((tot (l.drop (i + 1)) : Nat) : Int) ≤ left - (l[i].length : Int)
      · rw [if_pos h2, if_pos (by omega)]; congr 1; omega
      · rw [if_neg h2, if_neg (by omega)]
theorem szIntSS_f (l : List (List Int)) (left : Int) (h0 : 0 ≤ left) (h1 : left ≤ 1048576) (hl : l.length ≤ 9223372036854775807) (hm : ∀ x ∈ l, x.length ≤ 9223372036854775807) {k : Nat} (hk : 2000000 < k) : laws_szIntSS.f k l left = some (if (l.length : Int) + (tot l : Int) ≤ left then left - (l.length : Int) - (tot l : Int) else -1) := by
  have w : wrap64 (left - (l.length : Int)) = left - (l.length : Int) := w64 (by omega) (by omega)
  unfold laws_szIntSS.f
  rw [w]
  by_cases hc : left - (l.length : Int) < 0
  · rw [if_pos hc, if_neg (by omega)]
  · rw [if_neg hc]
    have h := szIntSS_l0 l (by omega) l.length 0 k (left - (l.length : Int)) (by omega) (by omega) (by omega) hm (by omega)
    rw [List.drop_zero] at h
    rw [show (0 : Int) = ((0 : Nat) : Int) from rfl, h]
    by_cases h2 : ((tot l : Nat) : Int) ≤ left - (l.length : Int)
    · rw [if_pos h2, if_pos (by omega)]
    · rw [if_neg h2, if_neg (by omega)]
theorem row_le_tot (l : List (List Int)) (x : List Int) (h : x ∈ l) : x.length ≤ tot l := by
  induction l with
  | nil => cases h
  | cons y l ih =>
    rw [tot_cons]
    rcases List.mem_cons.1 h with rfl | h
    · omega
    · have := ih h; omega
theorem toIntSS_l0 (l : List (List Int)) (hn : l.length ≤ 1048576) (ht : ∀ x ∈ l, x.length ≤ 1048576) : ∀ (d i k : Nat), i + d = l.length → d + 1048577 < k → laws_toIntSS.l0 k l (l.take i ++ List.replicate d []) (i : Int) = some l
  | 0, i, k, hi, hk => by
    obtain ⟨k, rfl⟩ : ∃ q, k = q + 1 := ⟨k - 1, by omega⟩
    simp only [laws_toIntSS.l0]
    rw [if_neg (by omega), List.take_of_length_le (by omega)]
    simp
  | d + 1, i, k, hi, hk => by
    obtain ⟨k, rfl⟩ : ∃ q, k = q + 1 := ⟨k - 1, by omega⟩
    have ih := toIntSS_l0 l hn ht d (i + 1) k (by omega) (by omega)
    have ha : i < l.length := by omega
    have e : rd_L1 l (i : Int) = l[i] := by unfold rd_L1; simp [List.getD_eq_getElem?_getD, ha]
    have hlen := ht _ (List.getElem_mem ha)
    simp only [laws_toIntSS.l0]
    rw [if_pos (by omega), if_pos (by omega), e, toIntS_f _ hlen (by omega)]
    simp only [Option.bind_some]
    rw [if_pos (by simp; omega), up64 ha (by omega)]
    have he : (l.take i ++ List.replicate (d + 1) ([] : List Int)).set ((i : Nat) : Int).toNat l[i] = l.take (i + 1) ++ List.replicate d [] := by
      rw [List.set_append_right _ _ (by simp; omega), List.replicate_succ]
      have e : ((i : Nat) : Int).toNat - (l.take i).length = 0 := by simp; omega
      rw [e, List.set_cons_zero, List.take_succ_eq_append_getElem ha]
      simp only [List.append_assoc, List.singleton_append]
    rw [he]
    exact ih
theorem toIntSS_f (l : List (List Int)) (hn : l.length ≤ 1048576) (ht : ∀ x ∈ l, x.length ≤ 1048576) {k : Nat} (hk : 3000000 < k) : laws_toIntSS.f k l = some l := by
  unfold laws_toIntSS.f
  rw [if_pos (by omega), if_pos (by omega)]
  exact toIntSS_l0 l hn ht l.length 0 k (by omega) (by omega)
theorem eqIntSS_l0' (a : List (List Int)) (hn : a.length ≤ 1048576) (ht : ∀ x ∈ a, x.length ≤ 1048576) : ∀ (d i k : Nat), i + d = a.length → d + 1048577 < k → laws_eqIntSS.l0 k a a (i : Int) = some true
  | 0, i, k, hi, hk => by
    obtain ⟨k, rfl⟩ : ∃ q, k = q + 1 := ⟨k - 1, by omega⟩
    simp only [laws_eqIntSS.l0]
    rw [if_neg (by omega)]
  | d + 1, i, k, hi, hk => by
    obtain ⟨k, rfl⟩ : ∃ q, k = q + 1 := ⟨k - 1, by omega⟩
    have ih := eqIntSS_l0' a hn ht d (i + 1) k (by omega) (by omega)
    have ha : i < a.length := by omega
    have h1 := ht _ (List.getElem_mem ha)
    have e : rd_L1 a (i : Int) = a[i] := by unfold rd_L1; simp [List.getD_eq_getElem?_getD, ha]
    simp only [laws_eqIntSS.l0]
    rw [if_pos (by omega), if_pos (by omega), if_pos (by omega), e, eqIntS_f _ _ (by omega) (by omega), up64 ha (by omega)]
    simpa using ih
theorem eqIntSS_f (a : List (List Int)) (hn : a.length ≤ 1048576) (ht : ∀ x ∈ a, x.length ≤ 1048576) {k : Nat} (hk : 3000000 < k) : laws_eqIntSS.f k a a = some true := by
  unfold laws_eqIntSS.f
  rw [if_pos rfl]
  exact eqIntSS_l0' a hn ht a.length 0 _ (by omega) (by omega)
/-- Are these tests of so many wires? -/
def tst (a : Int) (l : List (List Int)) : Bool := impl_AreTests.p_all a l
theorem l1Rising_l0 (l : List Int) (lo hi : Int) (hn : l.length ≤ 4000000) : ∀ (d i k : Nat), i + d = l.length → d < k → spec_l1Rising.l0 k l lo hi l (l.length : Int) (i : Int) = some (Aux2.p_up (l.drop (i - 1)) && (l.drop i).all fun y => decide (lo ≤ y) && decide (y ≤ hi))
  | 0, i, k, hi', hk => by
    obtain ⟨k, rfl⟩ : ∃ q, k = q + 1 := ⟨k - 1, by omega⟩
    have e : Aux2.p_up (l.drop (i - 1)) = true := by
      have : (l.drop (i - 1)).length ≤ 1 := by rw [List.length_drop]; omega
      cases hq : l.drop (i - 1) with
      | nil => rfl
      | cons x t =>
        rw [hq] at this
        cases t with
        | nil => rfl
        | cons y t => simp at this
    simp only [spec_l1Rising.l0]
    rw [if_neg (by omega), e, List.drop_eq_nil_of_le (by omega)]
    rfl
  | d + 1, i, k, hi', hk => by
    obtain ⟨k, rfl⟩ : ∃ q, k = q + 1 := ⟨k - 1, by omega⟩
    have ha : i < l.length := by omega
    have ih := l1Rising_l0 l lo hi hn d (i + 1) k (by omega) (by omega)
    simp only [spec_l1Rising.l0]
    rw [if_pos (by omega), if_pos (by omega), if_pos (by omega), rd_lt ha, up64 ha (by omega)]
    unfold spec_l1In.f
    rw [show i + 1 - 1 = i by omega] at ih
    have hall : ((l.drop i).all fun y => decide (lo ≤ y) && decide (y ≤ hi)) = ((decide (lo ≤ l[i]) && decide (l[i] ≤ hi)) && (l.drop (i + 1)).all fun y => decide (lo ≤ y) && decide (y ≤ hi)) := by
      rw [List.drop_eq_getElem_cons ha, List.all_cons]
    rw [hall]
    clear hall
    by_cases h1 : lo ≤ l[i]
    · rw [if_pos (show l[i] ≥ lo from h1)]
      simp only [Option.bind_some]
      by_cases h2 : l[i] ≤ hi
      · rw [if_pos (by simpa using h2)]
        by_cases h0 : i = 0
        · subst h0
          rw [if_neg (by omega), ih]
          simp [h1, h2]
        · have hb : i - 1 < l.length := by omega
          have e1 : wrap64 ((i : Int) - 1) = ((i - 1 : Nat) : Int) := by rw [w64 (by omega) (by omega)]; omega
          have hup : Aux2.p_up (l.drop (i - 1)) = (decide (l[i - 1] < l[i]) && Aux2.p_up (l.drop i)) := by
            rw [List.drop_eq_getElem_cons hb, show i - 1 + 1 = i by omega, List.drop_eq_getElem_cons ha]
            rfl
          rw [if_pos (by omega), e1, if_pos (by omega), if_pos (by omega), rd_lt hb, ih, hup]
          by_cases e : l[i - 1] ≥ l[i]
          · rw [if_pos e]
            simp [show ¬ l[i - 1] < l[i] by omega]
          · rw [if_neg e]
            simp [show l[i - 1] < l[i] by omega, h1, h2]
      · rw [if_neg (by simpa using h2)]
        simp [h2]
    · rw [if_neg (show ¬ l[i] ≥ lo from h1)]
      simp [h1]
theorem l1Rising_f (a : Int) (l : List Int) (hn : l.length ≤ 4000000) {k : Nat} (hk : l.length < k) : spec_l1Rising.f k l 0 (wrap64 (a - 1)) = some (impl_AreTests.p_rising a l) := by
  unfold spec_l1Rising.f impl_AreTests.p_rising
  have := l1Rising_l0 l 0 (wrap64 (a - 1)) hn l.length 0 k (by omega) hk
  simpa using this
theorem wiGood_l0 (a : Int) (l : List (List Int)) (hn : l.length ≤ 1048576) (ht : ∀ x ∈ l, x.length ≤ 1048576) : ∀ (d i k : Nat), i + d = l.length → d + 1048577 < k → spec_wiGood.l0 k a l (l.length : Int) (i : Int) = some ((l.drop i).all fun c => !impl_AreTests.p_bad a c)
  | 0, i, k, hi, hk => by
    obtain ⟨k, rfl⟩ : ∃ q, k = q + 1 := ⟨k - 1, by omega⟩
    simp only [spec_wiGood.l0]
    rw [if_neg (by omega), List.drop_eq_nil_of_le (by omega)]
    rfl
  | d + 1, i, k, hi, hk => by
    obtain ⟨k, rfl⟩ : ∃ q, k = q + 1 := ⟨k - 1, by omega⟩
    have ha : i < l.length := by omega
    have ih := wiGood_l0 a l hn ht d (i + 1) k (by omega) (by omega)
    have e : rd_L1 l (i : Int) = l[i] := by unfold rd_L1; simp [List.getD_eq_getElem?_getD, ha]
    have hlen := ht _ (List.getElem_mem ha)
    simp only [spec_wiGood.l0]
    rw [if_pos (by omega), if_pos (by omega), if_pos (by omega), e, up64 ha (by omega), ih, l1Rising_f a _ (by omega) (by omega), List.drop_eq_getElem_cons ha, List.all_cons]
    unfold impl_AreTests.p_bad
    by_cases h0 : l[i].length = 0
    · rw [if_pos (by omega)]
      simp [h0]
    · rw [if_neg (by omega)]
      simp only [Option.bind_some]
      cases impl_AreTests.p_rising a l[i] with
      | true => rw [if_pos rfl]; simp [h0]
      | false => simp [h0]
theorem wiGood_f (a : Int) (l : List (List Int)) (hn : l.length ≤ 1048576) (ht : ∀ x ∈ l, x.length ≤ 1048576) {k : Nat} (hk : 3000000 < k) : spec_wiGood.f k a l = some (tst a l) := by
  obtain ⟨k, rfl⟩ : ∃ q, k = q + 1 := ⟨k - 1, by omega⟩
  have h := wiGood_l0 a l hn ht l.length 0 k (by omega) (by omega)
  rw [List.drop_zero, show ((0 : Nat) : Int) = 0 from rfl] at h
  unfold spec_wiGood.f spec_wiWires.f spec_l1In.f tst impl_AreTests.p_all
  by_cases h1 : 1 ≤ a
  · rw [if_pos (show a ≥ 1 from h1)]
    simp only [Option.bind_some]
    by_cases h2 : a ≤ 10
    · rw [if_pos (by simpa using h2)]
      simp only [spec_wiGood.j0]
      by_cases h3 : l.length ≤ 12
      · rw [if_neg (by simp; omega), h]
        simp [h1, h2, h3]
      · rw [if_pos (by simp; omega)]
        simp [h3]
    · rw [if_neg (by simpa using h2)]
      simp only [spec_wiGood.j0]
      simp [h2]
  · rw [if_neg (show ¬ a ≥ 1 from h1)]
    simp only [Option.bind_some, Bool.false_eq_true, if_false, spec_wiGood.j0]
    simp [h1]
theorem areTests_f (a : Int) (l : List (List Int)) (ht : ∀ x ∈ l, x.length ≤ 1048576) : impl_AreTests.f a l = some (tst a l) := by
  unfold impl_AreTests.f
  rw [if_pos ht]
  rfl
/-- The set of these wires. -/
def setN (l : List Int) : Nat := l.foldl (fun n x => n ||| 2 ^ x.toNat) 0
theorem setN_go (l : List Int) (hl : ∀ x ∈ l, 0 ≤ x ∧ x ≤ 9) : ∀ n, n < 1024 → l.foldl (fun n x => n ||| 2 ^ x.toNat) n < 1024 := by
  induction l with
  | nil => intro n hn; exact hn
  | cons x l ih =>
    intro n hn
    refine ih (fun y hy => hl y (List.mem_cons_of_mem _ hy)) _ ?_
    have := hl x List.mem_cons_self
    exact Nat.or_lt_two_pow (n := 10) hn (Nat.pow_lt_pow_right (by decide) (by omega))
theorem setN_lt (l : List Int) (hl : ∀ x ∈ l, 0 ≤ x ∧ x ≤ 9) : setN l < 1024 := setN_go l hl 0 (by decide)
theorem setN_take (l : List Int) (i : Nat) (h : i < l.length) : (l.take (i + 1)).foldl (fun n x => n ||| 2 ^ x.toNat) 0 = setN (l.take i) ||| 2 ^ (l[i]).toNat := by
  rw [List.take_succ_eq_append_getElem h, List.foldl_append]
  rfl
theorem within_any (l : List Int) (lo hi : Int) : (!(l.any fun x => !impl_areWithin_1.in_ lo hi x)) = l.all fun y => decide (lo ≤ y) && decide (y ≤ hi) := by
  unfold impl_areWithin_1.in_
  induction l with
  | nil => rfl
  | cons x l ih => simp only [List.any_cons, List.all_cons, Bool.not_or, Bool.not_not, ih]
theorem p_up_drop (l : List Int) (i : Nat) (h1 : 1 ≤ i) (h : i < l.length) : Aux2.p_up (l.drop (i - 1)) = (decide (l[i - 1] < l[i]) && Aux2.p_up (l.drop i)) := by
  rw [List.drop_eq_getElem_cons (show i - 1 < l.length by omega), show i - 1 + 1 = i by omega, List.drop_eq_getElem_cons h]
  rfl
theorem isRising_l0 (a : Int) (l : List Int) (hn : l.length ≤ 4000000) : ∀ (d i k : Nat), i + d = l.length → 1 ≤ i → d < k → impl_isRising.l0 k a l (i : Int) = some (Aux2.p_up (l.drop (i - 1)) && l.all fun y => decide (0 ≤ y) && decide (y ≤ wrap64 (a - 1)))
  | 0, i, k, hi', h1, hk => by
    obtain ⟨k, rfl⟩ : ∃ q, k = q + 1 := ⟨k - 1, by omega⟩
    have e : Aux2.p_up (l.drop (i - 1)) = true := by
      have : (l.drop (i - 1)).length ≤ 1 := by rw [List.length_drop]; omega
      cases hq : l.drop (i - 1) with
      | nil => rfl
      | cons x t =>
        rw [hq] at this
        cases t with
        | nil => rfl
        | cons y t => simp at this
    simp only [impl_isRising.l0]
    rw [if_neg (by omega), e]
    unfold impl_areWithin.f impl_areWithin_1.f
    simp only [Option.bind_some, within_any]
    rfl
  | d + 1, i, k, hi', h1, hk => by
    obtain ⟨k, rfl⟩ : ∃ q, k = q + 1 := ⟨k - 1, by omega⟩
    have ha : i < l.length := by omega
    have hb : i - 1 < l.length := by omega
    have ih := isRising_l0 a l hn d (i + 1) k (by omega) (by omega) (by omega)
    rw [show i + 1 - 1 = i by omega] at ih
    have e1 : wrap64 ((i : Int) - 1) = ((i - 1 : Nat) : Int) := by rw [w64 (by omega) (by omega)]; omega
    simp only [impl_isRising.l0]
    rw [if_pos (by omega), if_pos (by omega), e1, if_pos (by omega), if_pos (by omega), rd_lt ha, rd_lt hb, up64 ha (by omega), ih, p_up_drop l i h1 ha]
    by_cases e : l[i] ≤ l[i - 1]
    · rw [if_pos e]
      simp [show ¬ l[i - 1] < l[i] by omega]
    · rw [if_neg e]
      simp [show l[i - 1] < l[i] by omega]
theorem isRising_f (a : Int) (l : List Int) (hn : l.length ≤ 4000000) {k : Nat} (hk : l.length + 1 < k) : impl_isRising.f k a l = some (impl_AreTests.p_rising a l) := by
  unfold impl_isRising.f impl_AreTests.p_rising
  by_cases h : l.length = 0
  · have : l = [] := List.length_eq_zero_iff.1 h
    subst this
    obtain ⟨k, rfl⟩ : ∃ q, k = q + 1 := ⟨k - 1, by omega⟩
    simp only [impl_isRising.l0]
    rw [if_neg (by simp)]
    unfold impl_areWithin.f impl_areWithin_1.f
    rfl
  · have := isRising_l0 a l hn (l.length - 1) 1 k (by omega) (by omega) (by omega)
    rw [show ((1 : Nat) : Int) = 1 from rfl] at this
    rw [this]
    rfl
/-- Wires that rise below ten wires. -/
theorem rising_wires (a : Int) (l : List Int) (h1 : 1 ≤ a) (h2 : a ≤ 10) (h : impl_AreTests.p_rising a l = true) : ∀ x ∈ l, 0 ≤ x ∧ x ≤ 9 := by
  intro x hx
  unfold impl_AreTests.p_rising at h
  rw [Bool.and_eq_true, List.all_eq_true] at h
  have := h.2 x hx
  rw [Bool.and_eq_true, decide_eq_true_eq, decide_eq_true_eq, w64 (by omega) (by omega)] at this
  omega
theorem tst_cases {a : Int} {l : List (List Int)} (h : tst a l = true) : 1 ≤ a ∧ a ≤ 10 ∧ l.length ≤ 12 ∧ ∀ c ∈ l, 1 ≤ c.length ∧ impl_AreTests.p_rising a c = true := by
  unfold tst impl_AreTests.p_all at h
  simp only [Bool.and_eq_true, decide_eq_true_eq, List.all_eq_true] at h
  refine ⟨h.1.1, h.1.2, h.2.1, fun c hc => ?_⟩
  have := h.2.2 c hc
  unfold impl_AreTests.p_bad at this
  simp only [Bool.not_or, Bool.not_not, Bool.and_eq_true, Bool.not_eq_true', decide_eq_false_iff_not] at this
  exact ⟨by omega, this.2⟩
/-- All rising lists of so many wires, from a wire on, in order. -/
def lst (w : Nat) : Nat → Nat → List (List Int)
  | 0, _ => [[]]
  | m + 1, f => (List.range' f (w - f)).flatMap fun x => (lst w m (x + 1)).map (fun t => (x : Int) :: t)
/-- A list that rises, from a number on, below a bound. -/
def Up (w : Int) : Int → List Int → Prop
  | _, [] => True
  | f, x :: t => f ≤ x ∧ x < w ∧ Up w (x + 1) t
theorem mem_lst (w : Nat) : ∀ (m f : Nat) (t : List Int), t ∈ lst w m f ↔ t.length = m ∧ Up w f t
  | 0, f, t => by
    cases t with
    | nil => simp [lst, Up]
    | cons x t => simp [lst]
  | m + 1, f, t => by
    simp only [lst, List.mem_flatMap, List.mem_range'_1, List.mem_map]
    constructor
    · rintro ⟨x, hx, u, hu, rfl⟩
      obtain ⟨h1, h2⟩ := (mem_lst w m (x + 1) u).1 hu
      refine ⟨by simp [h1], by omega, by omega, ?_⟩
      exact h2
    · cases t with
      | nil => rintro ⟨h, _⟩; simp at h
      | cons x t =>
        rintro ⟨h, h1, h2, h3⟩
        refine ⟨x.toNat, by omega, t, (mem_lst w m _ t).2 ⟨by simpa using h, ?_⟩, by rw [Int.toNat_of_nonneg (by omega)]⟩
        rw [show ((x.toNat + 1 : Nat) : Int) = x + 1 by omega]
        exact h3
/-- The order of lists, number by number. -/
def lexlt : List Int → List Int → Bool
  | [], [] => false
  | [], _ :: _ => true
  | _ :: _, [] => false
  | x :: s, y :: t => if x < y then true else if y < x then false else lexlt s t
theorem lexlt_cons (x : Int) (s t : List Int) : lexlt (x :: s) (x :: t) = lexlt s t := by simp [lexlt]
theorem lst_sorted (w : Nat) : ∀ (m f : Nat), (lst w m f).Pairwise fun s t => lexlt s t = true
  | 0, f => by simp [lst]
  | m + 1, f => by
    simp only [lst, List.pairwise_flatMap]
    refine ⟨fun x _ => ?_, ?_⟩
    · rw [List.pairwise_map]
      refine (lst_sorted w m (x + 1)).imp ?_
      intro s t h
      rw [lexlt_cons]; exact h
    · refine List.Pairwise.imp ?_ (List.pairwise_lt_range' (s := f) (n := w - f) (step := 1))
      intro x y hxy s hs t ht
      obtain ⟨s, _, rfl⟩ := List.mem_map.1 hs
      obtain ⟨t, _, rfl⟩ := List.mem_map.1 ht
      simp only [lexlt]
      rw [if_pos (by omega)]
theorem lexlt_irrefl : ∀ s, lexlt s s = false
  | [] => rfl
  | x :: s => by rw [lexlt_cons]; exact lexlt_irrefl s
/-- All rising lists of at most so many wires, in order. -/
def alls (w m : Nat) : List (List Int) := (List.range (m + 1)).flatMap fun c => lst w c 0
theorem mem_alls (w m : Nat) (t : List Int) : t ∈ alls w m ↔ t.length ≤ m ∧ Up w 0 t := by
  unfold alls
  simp only [List.mem_flatMap, List.mem_range, mem_lst]
  constructor
  · rintro ⟨c, hc, h1, h2⟩; exact ⟨by omega, h2⟩
  · rintro ⟨h1, h2⟩; exact ⟨_, by omega, rfl, h2⟩
/-- Lists by how many numbers, then number by number. -/
def setlt (s t : List Int) : Bool := decide (s.length < t.length) || (decide (s.length = t.length) && lexlt s t)
theorem alls_sorted (w m : Nat) : (alls w m).Pairwise fun s t => setlt s t = true := by
  unfold alls
  rw [List.pairwise_flatMap]
  refine ⟨fun c _ => ?_, ?_⟩
  · refine List.Pairwise.imp_of_mem ?_ (lst_sorted w c 0)
    intro s t hs ht h
    have h1 := ((mem_lst w c 0 s).1 hs).1
    have h2 := ((mem_lst w c 0 t).1 ht).1
    simp [setlt, h1, h2, h]
  · refine List.Pairwise.imp ?_ (List.pairwise_lt_range (n := m + 1))
    intro x y hxy s hs t ht
    have h1 := ((mem_lst w x 0 s).1 hs).1
    have h2 := ((mem_lst w y 0 t).1 ht).1
    simp [setlt, h1, h2, hxy]
theorem alls_nodup (w m : Nat) : (alls w m).Nodup := by
  refine (alls_sorted w m).imp ?_
  intro s t h e
  subst e
  simp [setlt, lexlt_irrefl] at h
/-- Two lists that rise and hold the same numbers are the same. -/
theorem Up.lt {w : Int} : ∀ {f : Int} {t : List Int}, Up w f t → ∀ x ∈ t, f ≤ x ∧ x < w
  | _, [], _ => by simp
  | f, y :: t, h => by
    intro x hx
    rcases List.mem_cons.1 hx with rfl | hx
    · exact ⟨h.1, h.2.1⟩
    · have := Up.lt h.2.2 x hx
      have := h.1
      omega
theorem Up.ext {w : Int} : ∀ {f : Int} {s t : List Int}, Up w f s → Up w f t → (∀ x, x ∈ s ↔ x ∈ t) → s = t
  | _, [], [], _, _, _ => rfl
  | _, [], y :: t, _, _, h => by have := (h y).2 (by simp); simp at this
  | _, x :: s, [], _, _, h => by have := (h x).1 (by simp); simp at this
  | f, x :: s, y :: t, hs, ht, h => by
    have e : x = y := by
      have h1 := (h x).1 (by simp)
      have h2 := (h y).2 (by simp)
      rcases List.mem_cons.1 h1 with e | h1
      · exact e
      rcases List.mem_cons.1 h2 with e | h2
      · exact e.symm
      have := (Up.lt ht.2.2 x h1).1
      have := (Up.lt hs.2.2 y h2).1
      omega
    subst e
    rw [Up.ext hs.2.2 ht.2.2 ?_]
    intro z
    have hz := h z
    simp only [List.mem_cons] at hz
    constructor
    · intro hm
      rcases hz.1 (.inr hm) with e | e
      · have := (Up.lt hs.2.2 z hm).1; omega
      · exact e
    · intro hm
      rcases hz.2 (.inr hm) with e | e
      · have := (Up.lt ht.2.2 z hm).1; omega
      · exact e
/-- The numbers of the bits of a set. -/
def bitsOf (s : Nat) : List Int := ((List.range 16).filter fun i => s.testBit i).map fun (i : Nat) => (i : Int)
theorem mem_bitsOf (s : Nat) (x : Int) : x ∈ bitsOf s ↔ 0 ≤ x ∧ x < 16 ∧ s.testBit x.toNat = true := by
  unfold bitsOf
  simp only [List.mem_map, List.mem_filter, List.mem_range]
  constructor
  · rintro ⟨i, ⟨h1, h2⟩, rfl⟩
    exact ⟨by omega, by omega, by simpa using h2⟩
  · rintro ⟨h0, h1, h2⟩
    exact ⟨x.toNat, ⟨by omega, h2⟩, by omega⟩
theorem up_map (w : Int) : ∀ (l : List Nat) (f : Nat), l.Pairwise (· < ·) → (∀ x ∈ l, f ≤ x ∧ (x : Int) < w) → Up w f (l.map fun (i : Nat) => (i : Int))
  | [], _, _, _ => trivial
  | x :: l, f, hp, hb => by
    obtain ⟨h1, h2⟩ := List.pairwise_cons.1 hp
    have hx := hb x (by simp)
    refine ⟨by simpa using hx.1, hx.2, ?_⟩
    have := up_map w l (x + 1) h2 (fun y hy => ⟨h1 y hy, (hb y (by simp [hy])).2⟩)
    simpa using this
theorem bitsOf_up (s w : Nat) (hs : s < 2 ^ w) (hw : w ≤ 16) : Up (w : Int) 0 (bitsOf s) := by
  have := up_map (w : Int) ((List.range 16).filter fun i => s.testBit i) 0 (List.pairwise_lt_range.filter _) ?_
  · exact this
  · intro x hx
    simp only [List.mem_filter, List.mem_range] at hx
    refine ⟨Nat.zero_le _, ?_⟩
    have hx2 := Nat.ge_two_pow_of_testBit hx.2
    have : 2 ^ x < 2 ^ w := by omega
    have := (Nat.pow_lt_pow_iff_right (by decide : 1 < 2)).1 this
    omega
theorem testBit_fold : ∀ (l : List Int) (n i : Nat), (∀ x ∈ l, 0 ≤ x) → ((l.foldl (fun n x => n ||| 2 ^ x.toNat) n).testBit i = true ↔ n.testBit i = true ∨ (i : Int) ∈ l)
  | [], n, i, _ => by simp
  | x :: l, n, i, h => by
    rw [List.foldl_cons, testBit_fold l _ i (fun y hy => h y (by simp [hy])), Nat.testBit_or, Nat.testBit_two_pow]
    have := h x (by simp)
    simp only [Bool.or_eq_true, decide_eq_true_eq, List.mem_cons]
    constructor
    · rintro ((h | h) | h)
      · exact .inl h
      · exact .inr (.inl (by omega))
      · exact .inr (.inr h)
    · rintro (h | h | h)
      · exact .inl (.inl h)
      · exact .inl (.inr (by omega))
      · exact .inr h
theorem testBit_setN (l : List Int) (h : ∀ x ∈ l, 0 ≤ x) (i : Nat) : (setN l).testBit i = true ↔ (i : Int) ∈ l := by
  unfold setN
  rw [testBit_fold l 0 i h]
  simp
theorem bitsOf_setN (l : List Int) (h : Up 16 0 l) : bitsOf (setN l) = l := by
  have hl : ∀ x ∈ l, 0 ≤ x := fun x hx => (Up.lt h x hx).1
  have hb : setN l < 2 ^ 16 := by
    apply Nat.lt_pow_two_of_testBit
    intro i hi
    cases hq : (setN l).testBit i with
    | false => rfl
    | true => have := (Up.lt h _ ((testBit_setN l hl i).1 hq)).2; omega
  refine Up.ext (bitsOf_up _ 16 hb (by omega)) h ?_
  intro x
  rw [mem_bitsOf]
  constructor
  · rintro ⟨h0, h1, h2⟩
    have := (testBit_setN l hl _).1 h2
    rwa [Int.toNat_of_nonneg h0] at this
  · intro hx
    have hx' := Up.lt h x hx
    exact ⟨hx'.1, hx'.2, (testBit_setN l hl _).2 (by rwa [Int.toNat_of_nonneg hx'.1])⟩
theorem setN_bitsOf (s : Nat) (hs : s < 2 ^ 16) : setN (bitsOf s) = s := by
  apply Nat.eq_of_testBit_eq
  intro i
  have hl : ∀ x ∈ bitsOf s, 0 ≤ x := fun x hx => ((mem_bitsOf s x).1 hx).1
  have e := testBit_setN (bitsOf s) hl i
  rw [mem_bitsOf] at e
  cases hq : s.testBit i with
  | true =>
    refine e.2 ⟨by omega, ?_, by simpa using hq⟩
    have hx2 := Nat.ge_two_pow_of_testBit hq
    have : 2 ^ i < 2 ^ 16 := by omega
    have := (Nat.pow_lt_pow_iff_right (by decide : 1 < 2)).1 this
    omega
  | false =>
    cases hr : (setN (bitsOf s)).testBit i with
    | false => rfl
    | true => have := (e.1 hr).2.2; rw [show ((i : Nat) : Int).toNat = i from rfl, hq] at this; cases this
theorem Up.mono {w v : Int} (hv : w ≤ v) : ∀ {f : Int} {t : List Int}, Up w f t → Up v f t
  | _, [], _ => trivial
  | _, _ :: _, h => ⟨h.1, by have := h.2.1; omega, Up.mono hv h.2.2⟩
theorem setN_inj {s t : List Int} (hs : Up 16 0 s) (ht : Up 16 0 t) (e : setN s = setN t) : s = t := by rw [← bitsOf_setN s hs, ← bitsOf_setN t ht, e]
theorem setN_up_lt (w : Nat) (hw : w ≤ 16) {l : List Int} (h : Up w 0 l) : setN l < 2 ^ w := by
  have hl : ∀ x ∈ l, 0 ≤ x := fun x hx => (Up.lt h x hx).1
  apply Nat.lt_pow_two_of_testBit
  intro i hi
  cases hq : (setN l).testBit i with
  | false => rfl
  | true => have := (Up.lt h _ ((testBit_setN l hl i).1 hq)).2; omega
/-- The sets of at most so many wires, as numbers. -/
def sets (w m : Nat) : List Nat := (List.range (2 ^ w)).filter fun s => decide ((bitsOf s).length ≤ m)
theorem mem_sets (w m s : Nat) (hw : w ≤ 16) : s ∈ sets w m ↔ s ∈ (alls w m).map setN := by
  unfold sets
  simp only [List.mem_filter, List.mem_range, List.mem_map, mem_alls, decide_eq_true_eq]
  constructor
  · rintro ⟨h1, h2⟩
    exact ⟨bitsOf s, ⟨h2, bitsOf_up s w h1 hw⟩, setN_bitsOf s (Nat.lt_of_lt_of_le h1 (Nat.pow_le_pow_right (by decide) hw))⟩
  · rintro ⟨t, ⟨h1, h2⟩, rfl⟩
    exact ⟨setN_up_lt w hw h2, by rw [bitsOf_setN t (h2.mono (by omega))]; exact h1⟩
theorem sets_nodup (w m : Nat) : (sets w m).Nodup := List.Pairwise.filter _ List.nodup_range
theorem alls_sets_nodup (w m : Nat) (hw : w ≤ 16) : ((alls w m).map setN).Nodup := by
  unfold List.Nodup
  rw [List.pairwise_map]
  refine List.Pairwise.imp_of_mem ?_ (alls_nodup w m)
  intro s t hs ht h e
  have h1 := ((mem_alls w m s).1 hs).2
  have h2 := ((mem_alls w m t).1 ht).2
  exact h (setN_inj (h1.mono (by omega)) (h2.mono (by omega)) e)
theorem sets_perm (w m : Nat) (hw : w ≤ 16) : (sets w m).Perm ((alls w m).map setN) :=
  (List.perm_ext_iff_of_nodup (sets_nodup w m) (alls_sets_nodup w m hw)).2 fun s => mem_sets w m s hw
theorem up_of (w : Int) : ∀ (l : List Int) (f : Int), Aux2.p_up l = true → (∀ x, l.head? = some x → f ≤ x) → (∀ x ∈ l, x < w) → Up w f l
  | [], _, _, _, _ => trivial
  | [x], f, _, hf, hw => ⟨hf x rfl, hw x (by simp), trivial⟩
  | x :: y :: t, f, h, hf, hw => by
    have h' : (decide (x < y) && Aux2.p_up (y :: t)) = true := h
    rw [Bool.and_eq_true, decide_eq_true_eq] at h'
    refine ⟨hf x rfl, hw x (by simp), up_of w (y :: t) (x + 1) h'.2 ?_ (fun z hz => hw z (by simp at hz ⊢; exact .inr hz))⟩
    intro z hz
    simp at hz
    omega
theorem rising_up (a : Int) (l : List Int) (h1 : 1 ≤ a) (h2 : a ≤ 10) (h : impl_AreTests.p_rising a l = true) : Up a 0 l := by
  unfold impl_AreTests.p_rising at h
  rw [Bool.and_eq_true, List.all_eq_true] at h
  have hx : ∀ x ∈ l, 0 ≤ x ∧ x < a := fun x hx => by
    have := h.2 x hx
    rw [Bool.and_eq_true, decide_eq_true_eq, decide_eq_true_eq, w64 (by omega) (by omega)] at this
    omega
  refine up_of a l 0 h.1 (fun x hh => (hx x (List.mem_of_mem_head? hh)).1) (fun x hh => (hx x hh).2)
theorem up_len {w : Int} : ∀ {f : Int} {t : List Int}, Up w f t → (t.length : Int) ≤ if f ≤ w then w - f else 0
  | f, [], _ => by split <;> simp; omega
  | f, x :: t, h => by
    have := up_len h.2.2
    have h1 := h.1
    have h2 := h.2.1
    rw [if_pos (by omega)] at this
    rw [if_pos (by omega)]
    simp
    omega
theorem rising_len (a : Int) (l : List Int) (h1 : 1 ≤ a) (h2 : a ≤ 10) (h : impl_AreTests.p_rising a l = true) : l.length ≤ 10 := by
  have := up_len (rising_up a l h1 h2 h)
  rw [if_pos (by omega)] at this
  omega
def ba (L : List UInt8) : ByteArray := ⟨L.toArray⟩
theorem ba_app (L M : List UInt8) : ba L ++ ba M = ba (L ++ M) := by
  apply ByteArray.ext
  apply Array.toList_inj.1
  simp [ba, ByteArray.data_append]
theorem ba_size (L : List UInt8) : (ba L).size = L.length := by simp [ba, ByteArray.size]
theorem ba_list (L : List UInt8) : (ba L).data.toList = L := by simp [ba]
/-- A digit. -/
def dg (x : Int) : List UInt8 := [UInt8.ofNat (48 + x.toNat)]
/-- Texts, each behind a sign. -/
def tl (s : UInt8) (xs : List (List UInt8)) : List UInt8 := (xs.map (fun y => s :: y)).flatten
/-- Texts with a sign between them. -/
def jn (s : UInt8) : List (List UInt8) → List UInt8
  | [] => []
  | x :: r => x ++ tl s r
theorem join_jn (s : UInt8) : ∀ xs : List (List UInt8), Lib.join xs [s] = jn s xs
  | [] => rfl
  | [x] => by simp [Lib.join, jn, tl, List.intercalate, List.intersperse]
  | x :: y :: r => by
    have ih := join_jn s (y :: r)
    have e : Lib.join (x :: y :: r) [s] = x ++ ([s] ++ Lib.join (y :: r) [s]) := by
      simp [Lib.join, List.intercalate, List.intersperse]
    rw [e, ih]
    simp [jn, tl]
theorem tl_len (s : UInt8) (B : Nat) : ∀ xs : List (List UInt8), (∀ y ∈ xs, y.length ≤ B) → (tl s xs).length ≤ (B + 1) * xs.length
  | [], _ => by simp [tl]
  | x :: r, h => by
    have h1 := h x (by simp)
    have h2 := tl_len s B r (fun y hy => h y (by simp [hy]))
    have e : (tl s (x :: r)).length = 1 + x.length + (tl s r).length := by simp [tl]; omega
    rw [e, List.length_cons, Nat.mul_add]
    omega
theorem jn_len (s : UInt8) (B : Nat) (xs : List (List UInt8)) (h : ∀ y ∈ xs, y.length ≤ B) : (jn s xs).length ≤ (B + 1) * xs.length := by
  cases xs with
  | nil => simp [jn]
  | cons x r =>
    have h1 := h x (by simp)
    have h2 := tl_len s B r (fun y hy => h y (by simp [hy]))
    simp only [jn, List.length_append, List.length_cons, Nat.mul_add]
    omega
theorem num_f (x : Int) (h0 : 0 ≤ x) (h1 : x ≤ 9) {k : Nat} (hk : 0 < k) : spec_l1Num.f k x = some (ba (dg x)) := by
  obtain ⟨k, rfl⟩ : ∃ q, k = q + 1 := ⟨k - 1, by omega⟩
  unfold spec_l1Num.f
  rw [if_pos (by omega)]
  have e : wrap64 (48 + x) % 256 = 48 + x := by rw [w64 (by omega) (by omega)]; omega
  rw [e]
  congr 1
  apply ByteArray.ext
  apply Array.toList_inj.1
  simp only [strOfNums, ba, dg, List.map_cons, List.map_nil]
  rw [show (48 + x).toNat = 48 + x.toNat by omega]
theorem dec_small (n : Nat) (h : n < 10) : Lib.decDigits n = [UInt8.ofNat (48 + n)] := by
  rw [Lib.decDigits, dif_pos h]
theorem itoa_f (x : Int) (h0 : 0 ≤ x) (h1 : x ≤ 9) : strconv_Itoa.f x = some (ba (dg x)) := by
  unfold strconv_Itoa.f
  rw [if_pos (by omega), dec_small _ (by omega)]
  rfl
theorem join_f (xs : List (List UInt8)) (s : UInt8) (hn : xs.length ≤ 1000) (hl : ∀ y ∈ xs, y.length ≤ 1000) : strings_Join.f (xs.map ba) (ba [s]) = some (ba (jn s xs), xs.map ba) := by
  have e : strings_Join.p_join (xs.map ba) (ba [s]) = ba (jn s xs) := by
    unfold strings_Join.p_join
    rw [ba_list, List.map_map, show ((fun x : ByteArray => x.data.toList) ∘ ba) = id by funext L; exact ba_list L, List.map_id, join_jn]
    rfl
  have hj := jn_len s 1000 xs hl
  have hm : 1001 * xs.length ≤ 1001 * 1000 := Nat.mul_le_mul_left _ hn
  unfold strings_Join.f
  rw [e, if_pos ⟨by rw [List.length_map]; omega, by rw [ba_size]; omega⟩]
theorem joined_l0 (row : List Int) (hr : row.length ≤ 500) (hx : ∀ x ∈ row, 0 ≤ x ∧ x ≤ 9) : ∀ (d i k : Nat), i + d = row.length → d < k → impl_joined.l0 k (ba [43]) (((row.take i).map dg).map ba) row (row.length : Int) (i : Int) = some (ba (jn 43 (row.map dg)))
  | 0, i, k, hi, hk => by
    obtain ⟨k, rfl⟩ : ∃ q, k = q + 1 := ⟨k - 1, by omega⟩
    simp only [impl_joined.l0]
    rw [if_neg (by omega), List.take_of_length_le (by omega), join_f _ 43 (by rw [List.length_map]; omega) (fun y hy => by obtain ⟨x, _, rfl⟩ := List.mem_map.1 hy; simp [dg])]
    rfl
  | d + 1, i, k, hi, hk => by
    obtain ⟨k, rfl⟩ : ∃ q, k = q + 1 := ⟨k - 1, by omega⟩
    have ha : i < row.length := by omega
    have hb := hx _ (List.getElem_mem ha)
    have ih := joined_l0 row hr hx d (i + 1) k (by omega) (by omega)
    rw [List.take_succ_eq_append_getElem ha, List.map_append, List.map_append] at ih
    simp only [impl_joined.l0]
    rw [if_pos (by omega), if_pos (by omega), if_pos (by omega), rd_lt ha, itoa_f _ hb.1 hb.2, Option.bind_some, if_pos (by simp; omega), up64 ha (by omega)]
    exact ih
theorem joined_f (row : List Int) (hr : row.length ≤ 500) (hx : ∀ x ∈ row, 0 ≤ x ∧ x ≤ 9) {k : Nat} (hk : row.length < k) : impl_joined.f k row (⟨#[43]⟩ : ByteArray) = some (ba (jn 43 (row.map dg))) := joined_l0 row hr hx row.length 0 k (by omega) hk
/-- The texts of the tests. -/
def rows (l : List (List Int)) : List (List UInt8) := l.map fun r => jn 43 (r.map dg)
theorem row_len (r : List Int) (h : r.length ≤ 10) : (jn 43 (r.map dg)).length ≤ 20 := by
  have h1 := jn_len 43 1 (r.map dg) (fun y hy => by obtain ⟨x, _, rfl⟩ := List.mem_map.1 hy; simp [dg])
  rw [List.length_map] at h1
  omega
theorem ttext_l0 (l : List (List Int)) (hn : l.length ≤ 100) (hr : ∀ c ∈ l, c.length ≤ 10 ∧ ∀ x ∈ c, 0 ≤ x ∧ x ≤ 9) : ∀ (d i k : Nat), i + d = l.length → d + 20 < k → impl_testsText.l0 k (((rows l).take i).map ba) l (l.length : Int) (i : Int) = some (ba (jn 47 (rows l)))
  | 0, i, k, hi, hk => by
    obtain ⟨k, rfl⟩ : ∃ q, k = q + 1 := ⟨k - 1, by omega⟩
    simp only [impl_testsText.l0]
    rw [if_neg (by omega), List.take_of_length_le (by simp [rows]; omega)]
    have h := join_f (rows l) 47 (by simp [rows]; omega) (fun y hy => by
      obtain ⟨r, hr', rfl⟩ := List.mem_map.1 hy
      have := row_len r (hr r hr').1
      omega)
    rw [show (⟨#[47]⟩ : ByteArray) = ba [47] from rfl, h]
    rfl
  | d + 1, i, k, hi, hk => by
    obtain ⟨k, rfl⟩ : ∃ q, k = q + 1 := ⟨k - 1, by omega⟩
    have ha : i < l.length := by omega
    have hb := hr _ (List.getElem_mem ha)
    have e : rd_L1 l (i : Int) = l[i] := by unfold rd_L1; simp [List.getD_eq_getElem?_getD, ha]
    have ih := ttext_l0 l hn hr d (i + 1) k (by omega) (by omega)
    have ha' : i < (rows l).length := by simpa [rows] using ha
    rw [List.take_succ_eq_append_getElem ha', List.map_append] at ih
    have er : (rows l)[i] = jn 43 (l[i].map dg) := by simp [rows]
    rw [er] at ih
    simp only [impl_testsText.l0]
    rw [if_pos (by omega), if_pos (by omega), if_pos (by omega), e, joined_f _ (by omega) hb.2 (by omega), Option.bind_some, if_pos (by simp; omega), up64 ha (by omega)]
    exact ih
theorem wt_l1 (T : List (List Int)) (n x : Int) (row : List Int) (hr : row.length ≤ 10) (hx : ∀ y ∈ row, 0 ≤ y ∧ y ≤ 9) : ∀ (d i q : Nat) (L : List UInt8), 1 ≤ i → i + d = row.length → 5 < q → L.length + 2 * d ≤ 10000 → spec_wiText.l1 (q + d + 1) (ba L) T n x row (row.length : Int) (i : Int) = spec_wiText.l0 q (ba (L ++ tl 43 ((row.drop i).map dg))) T n (wrap64 (x + 1))
  | 0, i, q, L, h1, hi, hq, hL => by
    simp only [spec_wiText.l1]
    rw [if_neg (by omega), List.drop_eq_nil_of_le (by omega)]
    simp [tl]
  | d + 1, i, q, L, h1, hi, hq, hL => by
    have ha : i < row.length := by omega
    have hb := hx _ (List.getElem_mem ha)
    obtain ⟨K, hK⟩ : ∃ K, K = q + (d + 1) := ⟨_, rfl⟩
    have hK2 : K = q + d + 1 := by omega
    have e : ba L ++ (⟨#[43]⟩ : ByteArray) ++ ba (dg row[i]) = ba (L ++ 43 :: dg row[i]) := by
      rw [show (⟨#[43]⟩ : ByteArray) = ba [43] from rfl, ba_app, ba_app]
      simp
    have es : (ba L ++ (⟨#[43]⟩ : ByteArray)).size = L.length + 1 := by
      rw [show (⟨#[43]⟩ : ByteArray) = ba [43] from rfl, ba_app, ba_size]
      simp
    rw [← hK]
    simp only [spec_wiText.l1]
    rw [if_pos (by omega), if_pos (by omega), if_pos (by omega), if_pos (by omega), if_pos (by rw [ba_size]; omega), rd_lt ha, num_f _ hb.1 hb.2 (by omega), Option.bind_some, if_pos (by rw [es, ba_size]; simp [dg]; omega), e, up64 ha (by omega), hK2, wt_l1 T n x row hr hx d (i + 1) q _ (by omega) (by omega) hq (by simp [dg]; omega), List.drop_eq_getElem_cons ha, List.map_cons]
    congr 2
    simp [tl]
theorem wt_row (T : List (List Int)) (n x : Int) (row : List Int) (h0 : 1 ≤ row.length) (hr : row.length ≤ 10) (hx : ∀ y ∈ row, 0 ≤ y ∧ y ≤ 9) (q : Nat) (L : List UInt8) (hq : 5 < q) (hL : L.length ≤ 9000) : spec_wiText.j1 (q + row.length + 2) (ba L) row T n x = spec_wiText.l0 q (ba (L ++ jn 43 (row.map dg))) T n (wrap64 (x + 1)) := by
  have hb := hx _ (List.getElem_mem (show 0 < row.length by omega))
  obtain ⟨K, hK⟩ : ∃ K, K = q + row.length := ⟨_, rfl⟩
  have hK2 : K = q + (row.length - 1) + 1 := by omega
  have hr0 : rd row 0 = row[0] := rd_lt (show 0 < row.length by omega)
  rw [← hK]
  simp only [spec_wiText.j1, spec_wiText.l1]
  rw [if_pos (by omega), if_pos (by omega), if_pos (by omega), if_neg (by omega), hr0, num_f _ hb.1 hb.2 (by omega), Option.bind_some, if_pos (by rw [ba_size, ba_size]; simp [dg]; omega), ba_app, show wrap64 (0 + 1) = ((1 : Nat) : Int) by unfold wrap64; omega, hK2, wt_l1 T n x row hr hx (row.length - 1) 1 q _ (by omega) (by omega) hq (by simp [dg]; omega)]
  congr 2
  cases row with
  | nil => simp at h0
  | cons y r => simp [jn]
theorem wt_l0 (l : List (List Int)) (hn : l.length ≤ 100) (hr : ∀ c ∈ l, 1 ≤ c.length ∧ c.length ≤ 10 ∧ ∀ x ∈ c, 0 ≤ x ∧ x ≤ 9) : ∀ (d i k : Nat) (L : List UInt8), i + d = l.length → 20 * d + 20 ≤ k → L.length ≤ 21 * i → spec_wiText.l0 k (ba L) l (l.length : Int) (i : Int) = some (ba (L ++ (if i = 0 then jn 47 (rows l) else tl 47 ((rows l).drop i))))
  | 0, i, k, L, hi, hk, hL => by
    obtain ⟨k, rfl⟩ : ∃ q, k = q + 1 := ⟨k - 1, by omega⟩
    simp only [spec_wiText.l0]
    rw [if_neg (by omega)]
    by_cases h : i = 0
    · have : l = [] := List.length_eq_zero_iff.1 (by omega)
      subst this
      rw [if_pos h]
      simp [rows, jn]
    · rw [if_neg h, List.drop_eq_nil_of_le (by simp [rows]; omega)]
      simp [tl]
  | d + 1, i, k, L, hi, hk, hL => by
    have ha : i < l.length := by omega
    have hb := hr _ (List.getElem_mem ha)
    have hrl := row_len l[i] hb.2.1
    have e : rd_L1 l (i : Int) = l[i] := by unfold rd_L1; simp [List.getD_eq_getElem?_getD, ha]
    have ha' : i < (rows l).length := by simpa [rows] using ha
    have er : (rows l)[i] = jn 43 (l[i].map dg) := by simp [rows]
    obtain ⟨q, hq⟩ : ∃ q, k = q + l[i].length + 2 + 1 := ⟨k - l[i].length - 3, by omega⟩
    obtain ⟨K, rfl⟩ : ∃ K, k = K + 1 := ⟨k - 1, by omega⟩
    have hK : K = q + l[i].length + 2 := by omega
    simp only [spec_wiText.l0]
    rw [if_pos (by omega), if_pos (by omega), if_pos (by omega), e]
    by_cases h0 : i = 0
    · subst h0
      rw [if_neg (by omega), hK, wt_row l _ _ l[0] hb.1 hb.2.1 hb.2.2 q L (by omega) (by omega), up64 ha (by omega), wt_l0 l hn hr d 1 q _ (by omega) (by omega) (by simp; omega), if_neg (by decide), if_pos rfl, List.append_assoc]
      congr 3
      cases l with
      | nil => simp at ha
      | cons r t => simp [rows, jn]
    · have e2 : ba L ++ (⟨#[47]⟩ : ByteArray) = ba (L ++ [47]) := by rw [show (⟨#[47]⟩ : ByteArray) = ba [47] from rfl, ba_app]
      rw [if_pos (by omega), if_pos (by rw [ba_size]; omega), e2, hK, wt_row l _ _ l[i] hb.1 hb.2.1 hb.2.2 q _ (by omega) (by simp; omega), up64 ha (by omega), wt_l0 l hn hr d (i + 1) q _ (by omega) (by omega) (by simp; omega), if_neg (by omega), if_neg h0, List.drop_eq_getElem_cons ha', er]
      congr 2
      simp [tl]
theorem wiText_f (l : List (List Int)) (hn : l.length ≤ 100) (hr : ∀ c ∈ l, 1 ≤ c.length ∧ c.length ≤ 10 ∧ ∀ x ∈ c, 0 ≤ x ∧ x ≤ 9) {k : Nat} (hk : 2020 ≤ k) : spec_wiText.f k l = some (ba (jn 47 (rows l))) := by
  have h := wt_l0 l hn hr l.length 0 k [] (by omega) (by omega) (by simp)
  rw [if_pos rfl] at h
  exact h
theorem testsText_f (l : List (List Int)) (hn : l.length ≤ 100) (hr : ∀ c ∈ l, c.length ≤ 10 ∧ ∀ x ∈ c, 0 ≤ x ∧ x ≤ 9) {k : Nat} (hk : 200 ≤ k) : impl_testsText.f k l = some (ba (jn 47 (rows l))) := ttext_l0 l hn hr l.length 0 k (by omega) (by omega)
theorem FnExactTestsText : ∀ (l0 : List (List Int)), l0.length ≤ maxLen → (∀ x ∈ l0, (fun l => l.length ≤ maxLen ∧ ∀ x ∈ l, (fun n => (Lit.int .i64 n).wf = true) x) x) → ∃ k, laws_FnExactTestsText.f k l0 = some true := by
  intro l hl hm
  refine ⟨4000000 + 1, ?_⟩
  unfold laws_FnExactTestsText.f
  simp only [maxLen] at hl hm
  rw [szIntSS_f l 1048576 (by omega) (by omega) (by omega) (fun x hx => by have := (hm x hx).1; omega) (by omega), Option.bind_some]
  by_cases hs : (l.length : Int) + (tot l : Int) ≤ 1048576
  · have h1 : l.length ≤ 1048576 := by omega
    have h2 : ∀ x ∈ l, x.length ≤ 1048576 := fun x hx => by have := row_le_tot l x hx; omega
    rw [if_pos hs, if_neg (by omega), toIntSS_f l h1 h2 (by omega)]
    simp only [Option.bind_some]
    have fin : laws_FnExactTestsText.j0 (4000000 + 1) l l (false) = some true := by
      simp only [laws_FnExactTestsText.j0]
      rw [toIntSS_f l h1 h2 (by omega)]
      simp only [Option.bind_some]
      rw [eqIntSS_f l h1 h2 (by omega)]
      simp
    unfold spec_TestsText.f impl_TestsText.f
    rw [wiGood_f 10 l h1 h2 (by omega), areTests_f 10 l h2]
    simp only [Option.bind_some]
    cases ht : tst 10 l with
    | false =>
      simp only [Bool.false_eq_true, if_false, Option.bind_some, bne_self_eq_false, if_true]
      exact fin
    | true =>
      obtain ⟨t1, t2, t3, t4⟩ := tst_cases ht
      have hall : ∀ c ∈ l, 1 ≤ c.length ∧ c.length ≤ 10 ∧ ∀ x ∈ c, 0 ≤ x ∧ x ≤ 9 := fun c hc => ⟨(t4 c hc).1, rising_len 10 c t1 t2 (t4 c hc).2, rising_wires 10 c t1 t2 (t4 c hc).2⟩
      rw [if_pos rfl, if_pos rfl, wiText_f l (by omega) hall (by omega), testsText_f l (by omega) (fun c hc => (hall c hc).2) (by omega)]
      simp only [Option.bind_some, if_true, bne_self_eq_false]
      exact fin
  · rw [if_neg hs]
    simp

end Go.Proofs.YtbghdbpaihkcjabDoor.Pure
