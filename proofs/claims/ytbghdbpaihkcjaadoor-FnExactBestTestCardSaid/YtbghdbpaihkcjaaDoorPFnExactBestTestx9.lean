-- Written by a program of this claim, over the kit's print: the functions that a law reaches, their plain forms and the walks.
import Derived.Test.YtbghdbpaihkcjaaDoorPFnExactBestTestx0
import Derived.Test.YtbghdbpaihkcjaaDoorPFnExactBestTestx1
import Derived.Test.YtbghdbpaihkcjaaDoorPFnExactBestTestx2
import Derived.Test.YtbghdbpaihkcjaaDoorPFnExactBestTestx4
import Derived.Test.YtbghdbpaihkcjaaDoorPFnExactBestTestx8
namespace Go.Proofs.YtbghdbpaihkcjaaDoor.PFnExactBestTest
open Go.RowKit Go.Proofs.YtbghdbpaihkcjaaDoorW.PrintWords Go.Proofs.YtbghdbpaihkcjaaDoorW.PrintLast Go.Proofs.YtbghdbpaihkcjaaDoorW.PrintMore
attribute [local go_sem] max2_int min2_int max_two min_two max_three min_three max_four min_four   -- for this text's walks alone
set_option linter.unusedVariables false
set_option linter.unusedSimpArgs false

/-! ### laws_FnExactBestTest: function 7 -/
namespace Aux
theorem w64 {x : Int} (h0 : -9223372036854775808 ≤ x) (h1 : x ≤ 9223372036854775807) : wrap64 x = x := by unfold wrap64; omega
theorem up64 {i n : Nat} (h : i < n) (hn : n ≤ 4611686018427387904) : wrap64 ((i : Int) + 1) = ((i + 1 : Nat) : Int) := by rw [w64 (by omega) (by omega)]; omega
theorem rd_lt {xs : List Int} {i : Nat} (h : i < xs.length) : rd xs (i : Int) = xs[i] := by unfold rd; simp [List.getD_eq_getElem?_getD, h]

theorem toIntS_l0 (a : List Int) (hn : a.length ≤ 4611686018427387904) : ∀ (d i k : Nat), i + d = a.length → d < k → laws_toIntS.l0 k a (a.take i ++ List.replicate d 0) (i : Int) = some a
  | 0, i, k, hi, hk => by
    obtain ⟨k, rfl⟩ : ∃ q, k = q + 1 := ⟨k - 1, by omega⟩
    simp only [laws_toIntS.l0]
    rw [if_neg (by omega), List.take_of_length_le (by omega)]
    simp
  | d + 1, i, k, hi, hk => by
    obtain ⟨k, rfl⟩ : ∃ q, k = q + 1 := ⟨k - 1, by omega⟩
    have ih := toIntS_l0 a hn d (i + 1) k (by omega) (by omega)
    have ha : i < a.length := by omega
    simp only [laws_toIntS.l0]
    rw [if_pos (by omega), if_pos (by omega), if_pos (by simp; omega), up64 ha hn, rd_lt ha]
    have he : (a.take i ++ List.replicate (d + 1) (0 : Int)).set ((i : Nat) : Int).toNat a[i] = a.take (i + 1) ++ List.replicate d 0 := by
      rw [List.set_append_right _ _ (by simp; omega), List.replicate_succ]
      have e : ((i : Nat) : Int).toNat - (a.take i).length = 0 := by simp; omega
      rw [e, List.set_cons_zero, List.take_succ_eq_append_getElem ha]
      simp only [List.append_assoc, List.singleton_append]
    rw [he]
    exact ih
theorem toIntS_f (a : List Int) (hn : a.length ≤ 1048576) {k : Nat} (hk : a.length < k) : laws_toIntS.f k a = some a := by
  unfold laws_toIntS.f
  rw [if_pos (by omega), if_pos (by omega)]
  exact toIntS_l0 a (by omega) a.length 0 k (by omega) hk

theorem eqIntS_l0 (a b : List Int) (hl : a.length = b.length) (hn : a.length ≤ 4611686018427387904) : ∀ (d i k : Nat), i + d = a.length → d < k → laws_eqIntS.l0 k a b (i : Int) = some (decide (a.drop i = b.drop i))
  | 0, i, k, hi, hk => by
    obtain ⟨k, rfl⟩ : ∃ q, k = q + 1 := ⟨k - 1, by omega⟩
    simp only [laws_eqIntS.l0]
    rw [if_neg (by omega), List.drop_eq_nil_of_le (by omega), List.drop_eq_nil_of_le (by omega)]
    simp
  | d + 1, i, k, hi, hk => by
    obtain ⟨k, rfl⟩ : ∃ q, k = q + 1 := ⟨k - 1, by omega⟩
    have ih := eqIntS_l0 a b hl hn d (i + 1) k (by omega) (by omega)
    have ha : i < a.length := by omega
    have hb : i < b.length := by omega
    simp only [laws_eqIntS.l0]
    rw [if_pos (by omega), if_pos (by omega), if_pos (by omega), up64 ha hn, ih, rd_lt ha, rd_lt hb, List.drop_eq_getElem_cons ha, List.drop_eq_getElem_cons hb]
    by_cases e : a[i] = b[i]
    · rw [if_pos e, e]; simp only [List.cons.injEq, true_and]
    · rw [if_neg e]; simp only [List.cons.injEq, e, false_and, decide_false]
theorem eqIntS_f (a b : List Int) (hn : a.length ≤ 4611686018427387904) {k : Nat} (hk : a.length < k) : laws_eqIntS.f k a b = some (decide (a = b)) := by
  unfold laws_eqIntS.f
  by_cases h : a.length = b.length
  · rw [if_pos (by omega)]
    exact eqIntS_l0 a b h hn a.length 0 k (by omega) hk
  · rw [if_neg (by omega), decide_eq_false (fun e => h (by rw [e]))]

/-- The numbers a, a + 1, .. -/
def mk (a : Int) (n : Nat) : List Int := (List.range n).map (fun (j : Nat) => a + (j : Int))
theorem mk_len (a : Int) (n : Nat) : (mk a n).length = n := by simp [mk]
theorem mk_succ (a : Int) (n : Nat) : mk a (n + 1) = mk a n ++ [a + (n : Int)] := by simp [mk, List.range_succ]
theorem mk_rd (a : Int) {n i : Nat} (h : i < n) : rd (mk a n) (i : Int) = a + (i : Int) := by
  rw [rd_lt (by rw [mk_len]; exact h)]
  simp [mk]
theorem markIntS_l0 (l : List Int) (a : Int) (h0 : 0 ≤ a) (h1 : a ≤ 1000000000000) (hn : l.length ≤ 1000000000000) : ∀ (d i k : Nat), i + d = l.length → d < k → laws_markIntS.l0 k (mk a i ++ l.drop i) (a + (i : Int)) (i : Int) = some (a + (l.length : Int), mk a l.length)
  | 0, i, k, hi, hk => by
    obtain ⟨k, rfl⟩ : ∃ q, k = q + 1 := ⟨k - 1, by omega⟩
    have e : i = l.length := by omega
    subst e
    simp only [laws_markIntS.l0]
    rw [if_neg (by rw [List.length_append, mk_len, List.length_drop]; omega), List.drop_eq_nil_of_le (by omega), List.append_nil]
  | d + 1, i, k, hi, hk => by
    obtain ⟨k, rfl⟩ : ∃ q, k = q + 1 := ⟨k - 1, by omega⟩
    have ha : i < l.length := by omega
    have ih := markIntS_l0 l a h0 h1 hn d (i + 1) k (by omega) (by omega)
    simp only [laws_markIntS.l0]
    rw [if_pos (by rw [List.length_append, mk_len, List.length_drop]; omega), if_pos (by omega), up64 ha (by omega), w64 (x := a + (i : Int) + 1) (by omega) (by omega)]
    have he : (mk a i ++ l.drop i).set ((i : Nat) : Int).toNat (a + (i : Int)) = mk a (i + 1) ++ l.drop (i + 1) := by
      rw [List.set_append_right _ _ (by rw [mk_len]; omega), mk_len, mk_succ, List.drop_eq_getElem_cons ha]
      have e : ((i : Nat) : Int).toNat - i = 0 := by omega
      rw [e, List.set_cons_zero]
      simp only [List.append_assoc, List.singleton_append]
    rw [he, show a + (i : Int) + 1 = a + ((i + 1 : Nat) : Int) by omega]
    exact ih
theorem markIntS_f (l : List Int) (a : Int) (h0 : 0 ≤ a) (h1 : a ≤ 1000000000000) (hn : l.length ≤ 1000000000000) {k : Nat} (hk : l.length < k) : laws_markIntS.f k l a = some (a + (l.length : Int), mk a l.length) := by
  have h := markIntS_l0 l a h0 h1 hn l.length 0 k (by omega) hk
  unfold laws_markIntS.f
  simpa [mk] using h
theorem heldIntS_l0 (n : Nat) (a : Int) (h0 : 0 ≤ a) (h1 : a ≤ 1000000000000) (hn : n ≤ 1000000000000) : ∀ (d i k : Nat), i + d = n → d < k → laws_heldIntS.l0 k (mk a n) (a + (i : Int)) (i : Int) = some (a + (n : Int))
  | 0, i, k, hi, hk => by
    obtain ⟨k, rfl⟩ : ∃ q, k = q + 1 := ⟨k - 1, by omega⟩
    have e : i = n := by omega
    subst e
    simp only [laws_heldIntS.l0]
    rw [if_neg (by rw [mk_len]; omega)]
  | d + 1, i, k, hi, hk => by
    obtain ⟨k, rfl⟩ : ∃ q, k = q + 1 := ⟨k - 1, by omega⟩
    have ha : i < n := by omega
    have ih := heldIntS_l0 n a h0 h1 hn d (i + 1) k (by omega) (by omega)
    simp only [laws_heldIntS.l0]
    rw [if_pos (by rw [mk_len]; omega), if_pos (by omega), mk_rd a ha, if_pos rfl, up64 ha (by omega), w64 (x := a + (i : Int) + 1) (by omega) (by omega), show a + (i : Int) + 1 = a + ((i + 1 : Nat) : Int) by omega]
    exact ih
theorem heldIntS_f (n : Nat) (a : Int) (h0 : 0 ≤ a) (h1 : a ≤ 1000000000000) (hn : n ≤ 1000000000000) {k : Nat} (hk : n < k) : laws_heldIntS.f k (mk a n) a = some (a + (n : Int)) := by
  have h := heldIntS_l0 n a h0 h1 hn n 0 k (by omega) hk
  unfold laws_heldIntS.f
  simpa using h

/-- The length of all rows together. -/
def tot (l : List (List Int)) : Nat := (l.map List.length).sum
theorem tot_cons (x : List Int) (l : List (List Int)) : tot (x :: l) = x.length + tot l := by simp [tot]
theorem tot_append (a b : List (List Int)) : tot (a ++ b) = tot a + tot b := by simp [tot]
theorem tot_drop (l : List (List Int)) (i : Nat) (h : i < l.length) : tot (l.drop i) = (l[i]).length + tot (l.drop (i + 1)) := by
  rw [List.drop_eq_getElem_cons h, tot_cons]
theorem tot_drop_le (l : List (List Int)) : ∀ i, tot (l.drop i) ≤ tot l := by
  induction l with
  | nil => intro i; simp [tot]
  | cons x l ih =>
    intro i
    cases i with
    | zero => simp
    | succ i => rw [List.drop_succ_cons, tot_cons]; have := ih i; omega
theorem toIntS_ev (l : List Int) (h : l.length ≤ 1048576) : ∃ k, laws_toIntS.f k l = some l := ⟨l.length + 1, toIntS_f l h (by omega)⟩
theorem eqIntS_ev (l : List Int) (h : l.length ≤ 1000000000) : ∃ k, laws_eqIntS.f k l l = some true := ⟨l.length + 1, by rw [eqIntS_f l l (by omega) (by omega)]; simp⟩
theorem markIntS_ev (l : List Int) (a : Int) (h0 : 0 ≤ a) (h1 : a ≤ 1000000000) (h : l.length ≤ 1000000000) : ∃ k m L, a ≤ m ∧ m = a + (l.length : Int) ∧ L.length = l.length ∧ laws_markIntS.f k l a = some (m, L) ∧ laws_heldIntS.f k L a = some m :=
  ⟨l.length + 1, a + (l.length : Int), mk a l.length, by omega, rfl, mk_len _ _, markIntS_f l a h0 (by omega) (by omega) (by omega), heldIntS_f l.length a h0 (by omega) (by omega) (by omega)⟩

theorem eqIntSS_l0 (a : List (List Int)) (hn : a.length ≤ 1000000000) (ht : tot a ≤ 1000000000) : ∀ (d i k : Nat), i + d = a.length → d + 1000000001 < k → laws_eqIntSS.l0 k a a (i : Int) = some true
  | 0, i, k, hi, hk => by
    obtain ⟨k, rfl⟩ : ∃ q, k = q + 1 := ⟨k - 1, by omega⟩
    simp only [laws_eqIntSS.l0]
    rw [if_neg (by omega)]
  | d + 1, i, k, hi, hk => by
    obtain ⟨k, rfl⟩ : ∃ q, k = q + 1 := ⟨k - 1, by omega⟩
    have ih := eqIntSS_l0 a hn ht d (i + 1) k (by omega) (by omega)
    have ha : i < a.length := by omega
    have h1 := tot_drop a i ha
    have h2 := tot_drop_le a i
    have e : rd_L1 a (i : Int) = a[i] := by unfold rd_L1; simp [List.getD_eq_getElem?_getD, ha]
    simp only [laws_eqIntSS.l0]
    rw [if_pos (by omega), if_pos (by omega), if_pos (by omega), e, eqIntS_f _ _ (by omega) (by omega), up64 ha (by omega)]
    simpa using ih
theorem eqIntSS_ev (l : List (List Int)) (hn : l.length ≤ 1000000000) (ht : tot l ≤ 1000000000) : ∃ k, laws_eqIntSS.f k l l = some true := by
  refine ⟨3000000000, ?_⟩
  unfold laws_eqIntSS.f
  rw [if_pos rfl]
  exact eqIntSS_l0 l hn ht l.length 0 _ (by omega) (by omega)
/-- Rows that are numbered one behind the other. -/
def mkS : List (List Int) → Int → List (List Int)
  | [], _ => []
  | x :: l, a => mk a x.length :: mkS l (a + (x.length : Int))
theorem mkS_len (l : List (List Int)) : ∀ a, (mkS l a).length = l.length := by
  induction l with
  | nil => intro a; rfl
  | cons x l ih => intro a; simp [mkS, ih]
theorem mkS_tot (l : List (List Int)) : ∀ a, tot (mkS l a) = tot l := by
  induction l with
  | nil => intro a; rfl
  | cons x l ih => intro a; simp [mkS, ih, tot_cons, mk_len]
theorem markSS_l0 : ∀ (l pre : List (List Int)) (a : Int) (k : Nat), 0 ≤ a → a + (tot l : Int) ≤ 100000000000 → pre.length + l.length ≤ 1000000000 → tot l ≤ 1000000000 → l.length + 1000000001 < k → laws_markIntSS.l0 k (pre ++ l) a (pre.length : Int) = some (a + (tot l : Int), pre ++ mkS l a)
  | [], pre, a, k, h0, h1, h2, h3, hk => by
    obtain ⟨k, rfl⟩ : ∃ q, k = q + 1 := ⟨k - 1, by omega⟩
    simp only [laws_markIntSS.l0]
    rw [if_neg (by simp)]
    simp [tot, mkS]
  | x :: l, pre, a, k, h0, h1, h2, h3, hk => by
    obtain ⟨k, rfl⟩ : ∃ q, k = q + 1 := ⟨k - 1, by omega⟩
    rw [tot_cons] at h1 h3
    rw [List.length_cons] at h2 hk
    have ih := markSS_l0 l (pre ++ [mk a x.length]) (a + (x.length : Int)) k (by omega) (by omega) (by simp; omega) (by omega) (by omega)
    have e : (pre ++ x :: l).getD ((pre.length : Int)).toNat [] = x := by simp [List.getD_eq_getElem?_getD]
    have e2 : (pre ++ x :: l).set ((pre.length : Int)).toNat (mk a x.length) = (pre ++ [mk a x.length]) ++ l := by simp [List.set_append_right]
    simp only [laws_markIntSS.l0]
    rw [if_pos (by simp; omega), if_pos (by omega), e, markIntS_f x a h0 (by omega) (by omega) (by omega), Option.bind_some, e2, up64 (n := pre.length + 1) (by omega) (by omega)]
    rw [show (((pre.length + 1 : Nat)) : Int) = ((pre ++ [mk a x.length]).length : Int) by simp, ih]
    simp [tot_cons, mkS]
    omega
theorem markIntSS_ev (l : List (List Int)) (a : Int) (h0 : 0 ≤ a) (h1 : a ≤ 1000000000) (hn : l.length ≤ 1000000000) (ht : tot l ≤ 1000000000) : ∃ k m L, a ≤ m ∧ m = a + (tot l : Int) ∧ L.length = l.length ∧ laws_markIntSS.f k l a = some (m, L) ∧ True :=
  ⟨3000000000, a + (tot l : Int), mkS l a, by omega, rfl, mkS_len _ _, markSS_l0 l [] a _ h0 (by omega) (by simpa using hn) ht (by omega), trivial⟩

theorem szIntSS_l0 (l : List (List Int)) (hn : l.length ≤ 4000000) : ∀ (d i k : Nat) (left : Int), i + d = l.length → 0 ≤ left → left ≤ 1048576 → (∀ x ∈ l, x.length ≤ 9223372036854775807) → d < k → laws_szIntSS.l0 k l left (i : Int) = some (if (tot (l.drop i) : Int) ≤ left then left - (tot (l.drop i) : Int) else -1)
  | 0, i, k, left, hi, h0, h1, hm, hk => by
    obtain ⟨k, rfl⟩ : ∃ q, k = q + 1 := ⟨k - 1, by omega⟩
    simp only [laws_szIntSS.l0]
    rw [if_neg (by omega), List.drop_eq_nil_of_le (by omega)]
    simp [tot, h0]
  | d + 1, i, k, left, hi, h0, h1, hm, hk => by
    obtain ⟨k, rfl⟩ : ∃ q, k = q + 1 := ⟨k - 1, by omega⟩
    have ha : i < l.length := by omega
    have e : rd_L1 l (i : Int) = l[i] := by unfold rd_L1; simp [List.getD_eq_getElem?_getD, ha]
    have hlen := hm _ (List.getElem_mem ha)
    have ht := tot_drop l i ha
    have w : wrap64 (left - (l[i].length : Int)) = left - (l[i].length : Int) := w64 (by omega) (by omega)
    simp only [laws_szIntSS.l0]
    rw [if_pos (by omega), if_pos (by omega), e]
    unfold laws_szIntS.f
    rw [w]
    by_cases hc : left - (l[i].length : Int) < 0
    · rw [if_pos hc]
      simp only [Option.bind_some]
      rw [if_pos (by omega), if_neg (by omega)]
    · rw [if_neg hc]
      simp only [Option.bind_some]
      rw [if_neg hc, up64 ha (by omega), szIntSS_l0 l hn d (i + 1) k _ (by omega) (by omega) (by omega) hm (by omega), ht]
      by_cases h2 : ((tot (l.drop (i + 1)) : Nat) : Int) ≤ left - (l[i].length : Int)
      · rw [if_pos h2, if_pos (by omega)]; congr 1; omega
      · rw [if_neg h2, if_neg (by omega)]
theorem szIntSS_f (l : List (List Int)) (left : Int) (h0 : 0 ≤ left) (h1 : left ≤ 1048576) (hl : l.length ≤ 9223372036854775807) (hm : ∀ x ∈ l, x.length ≤ 9223372036854775807) {k : Nat} (hk : 2000000 < k) : laws_szIntSS.f k l left = some (if (l.length : Int) + (tot l : Int) ≤ left then left - (l.length : Int) - (tot l : Int) else -1) := by
  have w : wrap64 (left - (l.length : Int)) = left - (l.length : Int) := w64 (by omega) (by omega)
  unfold laws_szIntSS.f
  rw [w]
  by_cases hc : left - (l.length : Int) < 0
  · rw [if_pos hc, if_neg (by omega)]
  · rw [if_neg hc]
    have h := szIntSS_l0 l (by omega) l.length 0 k (left - (l.length : Int)) (by omega) (by omega) (by omega) hm (by omega)
    rw [List.drop_zero] at h
    rw [show (0 : Int) = ((0 : Nat) : Int) from rfl, h]
    by_cases h2 : ((tot l : Nat) : Int) ≤ left - (l.length : Int)
    · rw [if_pos h2, if_pos (by omega)]
    · rw [if_neg h2, if_neg (by omega)]
theorem row_le_tot (l : List (List Int)) (x : List Int) (h : x ∈ l) : x.length ≤ tot l := by
  induction l with
  | nil => cases h
  | cons y l ih =>
    rw [tot_cons]
    rcases List.mem_cons.1 h with rfl | h
    · omega
    · have := ih h; omega
theorem toIntSS_l0 (l : List (List Int)) (hn : l.length ≤ 1048576) (ht : ∀ x ∈ l, x.length ≤ 1048576) : ∀ (d i k : Nat), i + d = l.length → d + 1048577 < k → laws_toIntSS.l0 k l (l.take i ++ List.replicate d []) (i : Int) = some l
  | 0, i, k, hi, hk => by
    obtain ⟨k, rfl⟩ : ∃ q, k = q + 1 := ⟨k - 1, by omega⟩
    simp only [laws_toIntSS.l0]
    rw [if_neg (by omega), List.take_of_length_le (by omega)]
    simp
  | d + 1, i, k, hi, hk => by
    obtain ⟨k, rfl⟩ : ∃ q, k = q + 1 := ⟨k - 1, by omega⟩
    have ih := toIntSS_l0 l hn ht d (i + 1) k (by omega) (by omega)
    have ha : i < l.length := by omega
    have e : rd_L1 l (i : Int) = l[i] := by unfold rd_L1; simp [List.getD_eq_getElem?_getD, ha]
    have hlen := ht _ (List.getElem_mem ha)
    simp only [laws_toIntSS.l0]
    rw [if_pos (by omega), if_pos (by omega), e, toIntS_f _ hlen (by omega)]
    simp only [Option.bind_some]
    rw [if_pos (by simp; omega), up64 ha (by omega)]
    have he : (l.take i ++ List.replicate (d + 1) ([] : List Int)).set ((i : Nat) : Int).toNat l[i] = l.take (i + 1) ++ List.replicate d [] := by
      rw [List.set_append_right _ _ (by simp; omega), List.replicate_succ]
      have e : ((i : Nat) : Int).toNat - (l.take i).length = 0 := by simp; omega
      rw [e, List.set_cons_zero, List.take_succ_eq_append_getElem ha]
      simp only [List.append_assoc, List.singleton_append]
    rw [he]
    exact ih
theorem toIntSS_f (l : List (List Int)) (hn : l.length ≤ 1048576) (ht : ∀ x ∈ l, x.length ≤ 1048576) {k : Nat} (hk : 3000000 < k) : laws_toIntSS.f k l = some l := by
  unfold laws_toIntSS.f
  rw [if_pos (by omega), if_pos (by omega)]
  exact toIntSS_l0 l hn ht l.length 0 k (by omega) (by omega)
theorem eqIntSS_l0' (a : List (List Int)) (hn : a.length ≤ 1048576) (ht : ∀ x ∈ a, x.length ≤ 1048576) : ∀ (d i k : Nat), i + d = a.length → d + 1048577 < k → laws_eqIntSS.l0 k a a (i : Int) = some true
  | 0, i, k, hi, hk => by
    obtain ⟨k, rfl⟩ : ∃ q, k = q + 1 := ⟨k - 1, by omega⟩
    simp only [laws_eqIntSS.l0]
    rw [if_neg (by omega)]
  | d + 1, i, k, hi, hk => by
    obtain ⟨k, rfl⟩ : ∃ q, k = q + 1 := ⟨k - 1, by omega⟩
    have ih := eqIntSS_l0' a hn ht d (i + 1) k (by omega) (by omega)
    have ha : i < a.length := by omega
    have h1 := ht _ (List.getElem_mem ha)
    have e : rd_L1 a (i : Int) = a[i] := by unfold rd_L1; simp [List.getD_eq_getElem?_getD, ha]
    simp only [laws_eqIntSS.l0]
    rw [if_pos (by omega), if_pos (by omega), if_pos (by omega), e, eqIntS_f _ _ (by omega) (by omega), up64 ha (by omega)]
    simpa using ih
theorem eqIntSS_f (a : List (List Int)) (hn : a.length ≤ 1048576) (ht : ∀ x ∈ a, x.length ≤ 1048576) {k : Nat} (hk : 3000000 < k) : laws_eqIntSS.f k a a = some true := by
  unfold laws_eqIntSS.f
  rw [if_pos rfl]
  exact eqIntSS_l0' a hn ht a.length 0 _ (by omega) (by omega)
theorem szIntSS_big (l : List (List Int)) (left : Int) (h0 : 0 ≤ left) (h1 : left ≤ 1048576) (hl : l.length ≤ 9223372036854775807) (hm : ∀ x ∈ l, x.length ≤ 9223372036854775807) (hb : left < (l.length : Int) + (tot l : Int)) : ∃ k, laws_szIntSS.f k l left = some (-1) := ⟨2000001, by rw [szIntSS_f l left h0 h1 hl hm (by omega), if_neg (by omega)]⟩
theorem szIntSS_ok (l : List (List Int)) (left : Int) (h0 : 0 ≤ left) (h1 : left ≤ 1048576) (hb : (l.length : Int) + (tot l : Int) ≤ left) : ∃ k z, 0 ≤ z ∧ z = left - (l.length : Int) - (tot l : Int) ∧ laws_szIntSS.f k l left = some z := by
  refine ⟨2000001, left - (l.length : Int) - (tot l : Int), by omega, rfl, ?_⟩
  rw [szIntSS_f l left h0 h1 (by omega) (fun x hx => by have := row_le_tot l x hx; omega) (by omega), if_pos (by omega)]
theorem toIntSS_ev (l : List (List Int)) (hn : l.length ≤ 1048576) (ht : tot l ≤ 1048576) : ∃ k, laws_toIntSS.f k l = some l := ⟨3000001, toIntSS_f l hn (fun x hx => by have := row_le_tot l x hx; omega) (by omega)⟩
theorem rows_small {w : World} {A : Option Addr} {l : List (List Int)} (h : Kd.C (Kd.slice 3 (Kd.int .i64)) w A l.length l) : l.length ≤ 9223372036854775807 ∧ ∀ x ∈ l, x.length ≤ 9223372036854775807 := by
  refine ⟨h.2.1, fun x hx => ?_⟩
  obtain ⟨j, hj, rfl⟩ := List.mem_iff_getElem.1 hx
  obtain ⟨ad, _, hc⟩ := h.2.2 (by omega)
  obtain ⟨c, _, ⟨A', c', _, _, hC⟩, _⟩ := hc j _ (List.getElem?_eq_getElem hj)
  exact hC.2.1

section
open Go.Proofs.YtbghdbpaihkcjaaDoorW.Rng
structure OV {α : Type} (d : Kd α) (e : Nat) (W : World) (b lo hi : Nat) (v : Value) (xs : List α) : Prop where
  row : Kd.V d e W b (Bt lo hi) v xs
  top : hi ≤ W.heap.size
section
variable {α : Type} {d : Kd α} {e : Nat} {w W W' : World} {b lo hi : Nat} {ok S : Nat → Prop} {v : Value} {xs xs' : List α}
theorem OV.made (h : Kd.V d e W' W.heap.size ok v xs) (hok : ∀ k, ok k → W.heap.size ≤ k) : OV d e W' b W.heap.size W'.heap.size v xs :=
  ⟨Kd.V_map h (fun _ hf => Kd.F_mono (Kd.F_bound hf) (fun _ hk => ⟨hok _ hk.1, hk.2⟩)), Nat.le_refl _⟩
theorem OV.below (h : OV d e W b lo hi v xs) (hb : Below W.heap.size W W') : OV d e W' b lo hi v xs := ⟨Kd.V_below h.row hb, Nat.le_trans h.top hb.size⟩
theorem OV.kept (h : OV d e W b lo hi v xs) (hk : Kept W W' S) (hs : ∀ k, Bt lo hi k → ¬ S k) : OV d e W' b lo hi v xs := ⟨Kd.V_map h.row (fun _ hf => Kd.F_step hf (fun k ho hlt => hk.2 k hlt (hs k ho))), Nat.le_trans h.top hk.1⟩
end
end
end Aux
def laws_FnExactBestTest.f (k : Nat) (a0 : Int) (l1 : List (List Int)) (a2 : ByteArray) (a3 : Int) : Option Bool := if 1048576 < a2.size then some true else (if 1048576 < l1.length + Aux.tot l1 then some true else ((spec_BestTest.f k a0 l1 a2 a3).bind fun s => (impl_BestTest.f k a0 l1 a2 a3).bind fun g => if g = s ∧ s.1.length ≤ 1000000000 then some true else none))
open Go.Proofs.YtbghdbpaihkcjaaDoorW.Rng in
set_option maxHeartbeats 4000000 in
set_option maxRecDepth 100000 in
theorem laws_FnExactBestTest.calls (k : Nat) (a0 : Int) (A1 : Option Addr) (c1 : Nat) (l1 : List (List Int)) (a2 : ByteArray) (a3 : Int) (r : Bool) (w : World) (hr1 : Kd.C (Kd.slice 3 (Kd.int .i64)) w A1 l1.length l1) (hc1 : l1.length ≤ c1) (h : laws_FnExactBestTest.f k a0 l1 a2 a3 = some r) :
    Calls Tryd.prog 7 #[.int .i64 a0, .slice A1 l1.length c1, .string a2, .int .i64 a3] w fun e w' => e = .returned (.bool r) ∧ Below w.heap.size w w' := by
  have HR1 := Aside0.mk hr1
  have HC1 := Aside0.mk hc1
  clear hr1 hc1
  have HB := Aside0.mk (Below.refl w.heap.size w)
  unfold laws_FnExactBestTest.f at h
  have RS1 := Aside0.mk (Aux.rows_small HR1.out)
  by_cases z0 : 1048576 < a2.size
  · rw [if_pos z0] at h
    obtain rfl := Option.some.inj h
    clear h
    have d1 : decide (1048576 < (a2.size : Int)) = true := decide_eq_true (by omega)
    have d2 : decide (1048576 < a2.size) = true := decide_eq_true z0
    clear z0
    go_enter Tryd.func7, Tryd.ntmps7
    go_wp2
    go_ret
    exact ⟨rfl, HB.out⟩
  · rw [if_neg z0] at h
    have d01 : decide (1048576 < (a2.size : Int)) = false := decide_eq_false (by omega)
    have d02 : decide (1048576 < a2.size) = false := decide_eq_false z0
    by_cases z1 : 1048576 < l1.length + Aux.tot l1
    · rw [if_pos z1] at h
      obtain rfl := Option.some.inj h
      clear h
      obtain ⟨kz_, zn_⟩ := Aux.szIntSS_big l1 1048576 (by omega) (by omega) RS1.out.1 RS1.out.2 (by omega)
      have ZN0 := Aside0.mk zn_
      clear zn_ z1
      clear z0
      go_enter Tryd.func7, Tryd.ntmps7
      go_wp2_with fail
      refine (laws_szIntSS.calls _ A1 c1 l1 1048576 _ _ (Kd.C_below HR1.out HB.out) HC1.out ZN0.out).mono ?_
      rintro e_ w1 ⟨rfl, hd_⟩
      have hb_ := (by first | exact hd_ | exact drawn_below hd_ : Below w.heap.size w w1)
      have M0 := Aside0.mk hb_.size
      have n_ := Aside0.mk (below_step HB.out hb_); clear HB; have HB := n_; clear n_
      clear hb_ hd_
      go_wp2
      go_ret
      exact ⟨rfl, HB.out⟩
    · rw [if_neg z1] at h
      obtain ⟨kz0, zl0, zp0, ze0, zn_⟩ := Aux.szIntSS_ok l1 1048576 (by omega) (by omega) (by omega)
      have ZN0 := Aside0.mk zn_
      have dz0 : decide (zl0 < 0) = false := decide_eq_false (by omega)
      clear zn_
      replace h := Option.bind_eq_some_iff.mp h
      obtain ⟨s, hs, h⟩ := h
      replace h := Option.bind_eq_some_iff.mp h
      obtain ⟨g, hg, h⟩ := h
      by_cases hgs_ : g = s ∧ s.1.length ≤ 1000000000
      case neg => rw [if_neg hgs_] at h; cases h
      rw [if_pos hgs_] at h
      obtain ⟨hgs, hbd⟩ := hgs_
      subst hgs
      obtain rfl := Option.some.inj h
      clear h
      obtain ⟨R0, R1, R2⟩ := g
      dsimp only at hbd
      have SP := Aside0.mk hs
      have IM := Aside0.mk hg
      clear hs hg
      have eb1 : (R1 != R1) = false := by simp
      have eb2 : (R2 != R2) = false := by simp
      obtain ⟨kt1, ht_⟩ := Aux.toIntSS_ev l1 (by omega) (by omega)
      have TO1 := Aside0.mk ht_
      obtain ⟨ke1, he_⟩ := Aux.eqIntSS_ev l1 (by omega) (by omega)
      have EQ1 := Aside0.mk he_
      clear ht_ he_
      obtain ⟨km1, m1, L1, mp1, me1, ml_, mk_, mh_⟩ := Aux.markIntSS_ev l1 1 (by omega) (by omega) (by omega) (by omega)
      have ML1 := Aside0.mk ml_
      have MK1 := Aside0.mk mk_
      clear ml_ mk_ mh_
      have dk_ : decide (m1 < 0) = false := decide_eq_false (by omega)
      obtain ⟨keR, he_⟩ := Aux.eqIntS_ev R0 hbd
      have EQR := Aside0.mk he_
      obtain ⟨kmR, mR, LR, mpR, meR, ml_, mk_, mh_⟩ := Aux.markIntS_ev R0 1 (by omega) (by omega) hbd
      have MLR := Aside0.mk ml_
      have MKR := Aside0.mk mk_
      have MHR := Aside0.mk mh_
      have dm_ : decide (mR < 0) = false := decide_eq_false (by omega)
      have em_ : (mR != mR) = false := by simp
      clear ml_ mk_ mh_ he_
      clear me1 mp1
      clear meR mpR hbd
      clear zp0 ze0
      clear z0
      clear z1
      go_enter Tryd.func7, Tryd.ntmps7
      go_wp2_with fail
      refine (laws_szIntSS.calls _ A1 c1 l1 1048576 _ _ (Kd.C_below HR1.out HB.out) HC1.out ZN0.out).mono ?_
      rintro e_ w1 ⟨rfl, hd_⟩
      have hb_ := (by first | exact hd_ | exact drawn_below hd_ : Below w.heap.size w w1)
      have M0 := Aside0.mk hb_.size
      have n_ := Aside0.mk (below_step HB.out hb_); clear HB; have HB := n_; clear n_
      clear hb_ hd_
      go_wp2_with fail
      refine (laws_toIntSS.calls kt1 A1 c1 l1 l1 _ (Kd.C_below HR1.out HB.out) HC1.out TO1.out).mono ?_
      rintro e_ w2 ⟨vx1, rfl, hv_, hb_⟩
      obtain ⟨Ax1, cx1, rfl⟩ := Kd.S_slice hv_
      have Ox1 := Aside0.mk (OS.made hv_ HB.out.size)
      have M1 := Aside0.mk hb_.size
      have n_ := Aside0.mk (below_step HB.out hb_); clear HB; have HB := n_; clear n_
      clear hb_ hv_
      go_wp2_with fail
      refine (spec_BestTest.calls k a0 Ax1 cx1 l1 a2 a3 R0 R1 R2 _ (Kd.S_reads' Ox1.out.row).2.2 (Kd.S_reads' Ox1.out.row).2.1 SP.out).mono ?_
      rintro e_ w3 ⟨vrw, rfl, hv_, hb_⟩
      obtain ⟨Arw, crw, rfl⟩ := Kd.V_slice hv_
      have Orw := Aside0.mk (Aux.OV.made (b := w.heap.size) hv_ (fun _ h_ => h_))
      have M2 := Aside0.mk hb_.size
      have n_ := Aside0.mk (below_step HB.out hb_); clear HB; have HB := n_; clear n_
      have n_ := Aside0.mk (Ox1.out.below hb_); clear Ox1; have Ox1 := n_; clear n_
      clear hb_ hv_
      go_wp2_with fail
      refine (laws_toIntSS.calls kt1 A1 c1 l1 l1 _ (Kd.C_below HR1.out HB.out) HC1.out TO1.out).mono ?_
      rintro e_ w4 ⟨vx2, rfl, hv_, hb_⟩
      obtain ⟨Ax2, cx2, rfl⟩ := Kd.S_slice hv_
      have Ox2 := Aside0.mk (OS.made hv_ HB.out.size)
      have M3 := Aside0.mk hb_.size
      have n_ := Aside0.mk (below_step HB.out hb_); clear HB; have HB := n_; clear n_
      have n_ := Aside0.mk (Ox1.out.below hb_); clear Ox1; have Ox1 := n_; clear n_
      have n_ := Aside0.mk (Orw.out.below hb_); clear Orw; have Orw := n_; clear n_
      clear hb_ hv_
      go_wp2_with fail
      refine (impl_BestTest.calls k a0 Ax2 cx2 l1 a2 a3 R0 R1 R2 _ (Kd.S_reads' Ox2.out.row).2.2 (Kd.S_reads' Ox2.out.row).2.1 IM.out).mono ?_
      rintro e_ w5 ⟨vrg, rfl, hv_, hb_⟩
      obtain ⟨Arg, crg, rfl⟩ := Kd.R_slice hv_
      have Org := Aside0.mk (OR.made hv_ HB.out.size)
      have M4 := Aside0.mk hb_.size
      have n_ := Aside0.mk (below_step HB.out hb_); clear HB; have HB := n_; clear n_
      have n_ := Aside0.mk (Ox1.out.below hb_); clear Ox1; have Ox1 := n_; clear n_
      have n_ := Aside0.mk (Orw.out.below hb_); clear Orw; have Orw := n_; clear n_
      have n_ := Aside0.mk (Ox2.out.below hb_); clear Ox2; have Ox2 := n_; clear n_
      clear hb_ hv_
      go_wp2_with fail
      refine (laws_eqIntS.calls keR Arg crg R0 Arw crw R0 _ _ (Kd.R_reads' Org.out.row).2.2 (Kd.R_reads' Org.out.row).2.1 (Kd.V_reads' Orw.out.row).2.2 (Kd.V_reads' Orw.out.row).2.1 EQR.out).mono ?_
      rintro e_ w6 ⟨rfl, hd_⟩
      have hb_ := (by first | exact hd_ | exact drawn_below hd_ : Below w5.heap.size w5 w6)
      have M5 := Aside0.mk hb_.size
      have n_ := Aside0.mk (below_step HB.out hb_); clear HB; have HB := n_; clear n_
      have n_ := Aside0.mk (Ox1.out.below hb_); clear Ox1; have Ox1 := n_; clear n_
      have n_ := Aside0.mk (Orw.out.below hb_); clear Orw; have Orw := n_; clear n_
      have n_ := Aside0.mk (Ox2.out.below hb_); clear Ox2; have Ox2 := n_; clear n_
      have n_ := Aside0.mk (Org.out.below hb_); clear Org; have Org := n_; clear n_
      clear hb_ hd_
      go_wp2_with fail
      refine (laws_toIntSS.calls kt1 A1 c1 l1 l1 _ (Kd.C_below HR1.out HB.out) HC1.out TO1.out).mono ?_
      rintro e_ w7 ⟨vx3, rfl, hv_, hb_⟩
      obtain ⟨Ax3, cx3, rfl⟩ := Kd.S_slice hv_
      have Ox3 := Aside0.mk (OS.made hv_ HB.out.size)
      have M6 := Aside0.mk hb_.size
      have n_ := Aside0.mk (below_step HB.out hb_); clear HB; have HB := n_; clear n_
      have n_ := Aside0.mk (Ox1.out.below hb_); clear Ox1; have Ox1 := n_; clear n_
      have n_ := Aside0.mk (Orw.out.below hb_); clear Orw; have Orw := n_; clear n_
      have n_ := Aside0.mk (Ox2.out.below hb_); clear Ox2; have Ox2 := n_; clear n_
      have n_ := Aside0.mk (Org.out.below hb_); clear Org; have Org := n_; clear n_
      clear hb_ hv_
      go_wp2_with fail
      refine (laws_eqIntSS.calls ke1 Ax2 cx2 l1 Ax3 cx3 l1 _ _ (Kd.S_reads' Ox2.out.row).2.2 (Kd.S_reads' Ox2.out.row).2.1 (Kd.S_reads' Ox3.out.row).2.2 (Kd.S_reads' Ox3.out.row).2.1 EQ1.out).mono ?_
      rintro e_ w8 ⟨rfl, hd_⟩
      have hb_ := (by first | exact hd_ | exact drawn_below hd_ : Below w7.heap.size w7 w8)
      have M7 := Aside0.mk hb_.size
      have n_ := Aside0.mk (below_step HB.out hb_); clear HB; have HB := n_; clear n_
      have n_ := Aside0.mk (Ox1.out.below hb_); clear Ox1; have Ox1 := n_; clear n_
      have n_ := Aside0.mk (Orw.out.below hb_); clear Orw; have Orw := n_; clear n_
      have n_ := Aside0.mk (Ox2.out.below hb_); clear Ox2; have Ox2 := n_; clear n_
      have n_ := Aside0.mk (Org.out.below hb_); clear Org; have Org := n_; clear n_
      have n_ := Aside0.mk (Ox3.out.below hb_); clear Ox3; have Ox3 := n_; clear n_
      clear hb_ hd_
      go_wp2_with fail
      refine (laws_markIntSS.calls km1 (Bt w3.heap.size w4.heap.size) (.slice Ax2 l1.length cx2) l1 1 m1 L1 w w8 HB.out Ox2.out.row MK1.out).mono ?_
      rintro e_ w9 ⟨rfl, hy_, hb_, hk_⟩
      have M8 := Aside0.mk hk_.1
      have n_ := Aside0.mk (Ox1.out.kept hk_ (fun k_ h1_ h2_ => by have := M0.out; have := M1.out; have := M2.out; have := M3.out; have := M4.out; have := M5.out; have := M6.out; have := M7.out; have := M8.out;  unfold Bt at h1_ h2_; omega)); clear Ox1; have Ox1 := n_; clear n_
      have n_ := Aside0.mk (Orw.out.kept hk_ (fun k_ h1_ h2_ => by have := M0.out; have := M1.out; have := M2.out; have := M3.out; have := M4.out; have := M5.out; have := M6.out; have := M7.out; have := M8.out;  unfold Bt at h1_ h2_; omega)); clear Orw; have Orw := n_; clear n_
      have n_ := Aside0.mk (Org.out.kept hk_ (fun k_ h1_ h2_ => by have := M0.out; have := M1.out; have := M2.out; have := M3.out; have := M4.out; have := M5.out; have := M6.out; have := M7.out; have := M8.out;  unfold Bt at h1_ h2_; omega)); clear Org; have Org := n_; clear n_
      have n_ := Aside0.mk (Ox3.out.kept hk_ (fun k_ h1_ h2_ => by have := M0.out; have := M1.out; have := M2.out; have := M3.out; have := M4.out; have := M5.out; have := M6.out; have := M7.out; have := M8.out;  unfold Bt at h1_ h2_; omega)); clear Ox3; have Ox3 := n_; clear n_
      have n_ := Aside0.mk (OS.back Ox2.out hk_ hy_); clear Ox2; have Ox2 := n_; clear n_
      have n_ := Aside0.mk hb_; clear HB; have HB := n_; clear n_ hb_ hy_ hk_
      go_wp2_with fail
      refine (laws_eqIntS.calls keR Arg crg R0 Arw crw R0 _ _ (Kd.R_reads' Org.out.row).2.2 (Kd.R_reads' Org.out.row).2.1 (Kd.V_reads' Orw.out.row).2.2 (Kd.V_reads' Orw.out.row).2.1 EQR.out).mono ?_
      rintro e_ w10 ⟨rfl, hd_⟩
      have hb_ := (by first | exact hd_ | exact drawn_below hd_ : Below w9.heap.size w9 w10)
      have M9 := Aside0.mk hb_.size
      have n_ := Aside0.mk (below_step HB.out hb_); clear HB; have HB := n_; clear n_
      have n_ := Aside0.mk (Ox1.out.below hb_); clear Ox1; have Ox1 := n_; clear n_
      have n_ := Aside0.mk (Orw.out.below hb_); clear Orw; have Orw := n_; clear n_
      have n_ := Aside0.mk (Ox2.out.below hb_); clear Ox2; have Ox2 := n_; clear n_
      have n_ := Aside0.mk (Org.out.below hb_); clear Org; have Org := n_; clear n_
      have n_ := Aside0.mk (Ox3.out.below hb_); clear Ox3; have Ox3 := n_; clear n_
      clear hb_ hd_
      go_wp2_with fail
      refine (laws_markIntS.calls kmR (Bt w4.heap.size w5.heap.size) (.slice Arg R0.length crg) R0 1 mR LR w w10 HB.out Org.out.row MKR.out).mono ?_
      rintro e_ w11 ⟨rfl, hy_, hb_, hk_⟩
      have M10 := Aside0.mk hk_.1
      have n_ := Aside0.mk (Ox1.out.kept hk_ (fun k_ h1_ h2_ => by have := M0.out; have := M1.out; have := M2.out; have := M3.out; have := M4.out; have := M5.out; have := M6.out; have := M7.out; have := M8.out; have := M9.out; have := M10.out;  unfold Bt at h1_ h2_; omega)); clear Ox1; have Ox1 := n_; clear n_
      have n_ := Aside0.mk (Orw.out.kept hk_ (fun k_ h1_ h2_ => by have := M0.out; have := M1.out; have := M2.out; have := M3.out; have := M4.out; have := M5.out; have := M6.out; have := M7.out; have := M8.out; have := M9.out; have := M10.out;  unfold Bt at h1_ h2_; omega)); clear Orw; have Orw := n_; clear n_
      have n_ := Aside0.mk (Ox2.out.kept hk_ (fun k_ h1_ h2_ => by have := M0.out; have := M1.out; have := M2.out; have := M3.out; have := M4.out; have := M5.out; have := M6.out; have := M7.out; have := M8.out; have := M9.out; have := M10.out;  unfold Bt at h1_ h2_; omega)); clear Ox2; have Ox2 := n_; clear n_
      have n_ := Aside0.mk (Ox3.out.kept hk_ (fun k_ h1_ h2_ => by have := M0.out; have := M1.out; have := M2.out; have := M3.out; have := M4.out; have := M5.out; have := M6.out; have := M7.out; have := M8.out; have := M9.out; have := M10.out;  unfold Bt at h1_ h2_; omega)); clear Ox3; have Ox3 := n_; clear n_
      have n_ := Aside0.mk (OR.back rfl Org.out hk_ hy_); clear Org; have Org := n_; clear n_
      have n_ := Aside0.mk hb_; clear HB; have HB := n_; clear n_ hb_ hy_ hk_
      have q_ := laws_heldIntS.calls _ Arg crg LR 1 mR w11 (by have z_ := (Kd.R_reads' Org.out.row).2.2; have y_ := (Kd.R_reads' Org.out.row).1; exact z_) (by rw [MLR.out]; exact (Kd.R_reads' Org.out.row).2.1) MHR.out
      rw [MLR.out] at q_
      go_wp2_with fail
      refine (q_).mono ?_
      rintro e_ w12 ⟨rfl, hd_⟩
      have hb_ := (by first | exact hd_ | exact drawn_below hd_ : Below w11.heap.size w11 w12)
      have M11 := Aside0.mk hb_.size
      have n_ := Aside0.mk (below_step HB.out hb_); clear HB; have HB := n_; clear n_
      have n_ := Aside0.mk (Ox1.out.below hb_); clear Ox1; have Ox1 := n_; clear n_
      have n_ := Aside0.mk (Orw.out.below hb_); clear Orw; have Orw := n_; clear n_
      have n_ := Aside0.mk (Ox2.out.below hb_); clear Ox2; have Ox2 := n_; clear n_
      have n_ := Aside0.mk (Org.out.below hb_); clear Org; have Org := n_; clear n_
      have n_ := Aside0.mk (Ox3.out.below hb_); clear Ox3; have Ox3 := n_; clear n_
      clear hb_ hd_
      clear q_
      go_wp2_with fail
      refine (laws_toIntSS.calls kt1 A1 c1 l1 l1 _ (Kd.C_below HR1.out HB.out) HC1.out TO1.out).mono ?_
      rintro e_ w13 ⟨vx4, rfl, hv_, hb_⟩
      obtain ⟨Ax4, cx4, rfl⟩ := Kd.S_slice hv_
      have Ox4 := Aside0.mk (OS.made hv_ HB.out.size)
      have M12 := Aside0.mk hb_.size
      have n_ := Aside0.mk (below_step HB.out hb_); clear HB; have HB := n_; clear n_
      have n_ := Aside0.mk (Ox1.out.below hb_); clear Ox1; have Ox1 := n_; clear n_
      have n_ := Aside0.mk (Orw.out.below hb_); clear Orw; have Orw := n_; clear n_
      have n_ := Aside0.mk (Ox2.out.below hb_); clear Ox2; have Ox2 := n_; clear n_
      have n_ := Aside0.mk (Org.out.below hb_); clear Org; have Org := n_; clear n_
      have n_ := Aside0.mk (Ox3.out.below hb_); clear Ox3; have Ox3 := n_; clear n_
      clear hb_ hv_
      go_wp2_with fail
      refine (impl_BestTest.calls k a0 Ax4 cx4 l1 a2 a3 R0 R1 R2 _ (Kd.S_reads' Ox4.out.row).2.2 (Kd.S_reads' Ox4.out.row).2.1 IM.out).mono ?_
      rintro e_ w14 ⟨vrh, rfl, hv_, hb_⟩
      obtain ⟨Arh, crh, rfl⟩ := Kd.R_slice hv_
      have Orh := Aside0.mk (OR.made hv_ HB.out.size)
      have M13 := Aside0.mk hb_.size
      have n_ := Aside0.mk (below_step HB.out hb_); clear HB; have HB := n_; clear n_
      have n_ := Aside0.mk (Ox1.out.below hb_); clear Ox1; have Ox1 := n_; clear n_
      have n_ := Aside0.mk (Orw.out.below hb_); clear Orw; have Orw := n_; clear n_
      have n_ := Aside0.mk (Ox2.out.below hb_); clear Ox2; have Ox2 := n_; clear n_
      have n_ := Aside0.mk (Org.out.below hb_); clear Org; have Org := n_; clear n_
      have n_ := Aside0.mk (Ox3.out.below hb_); clear Ox3; have Ox3 := n_; clear n_
      have n_ := Aside0.mk (Ox4.out.below hb_); clear Ox4; have Ox4 := n_; clear n_
      clear hb_ hv_
      go_wp2_with fail
      refine (laws_eqIntS.calls keR Arh crh R0 Arw crw R0 _ _ (Kd.R_reads' Orh.out.row).2.2 (Kd.R_reads' Orh.out.row).2.1 (Kd.V_reads' Orw.out.row).2.2 (Kd.V_reads' Orw.out.row).2.1 EQR.out).mono ?_
      rintro e_ w15 ⟨rfl, hd_⟩
      have hb_ := (by first | exact hd_ | exact drawn_below hd_ : Below w14.heap.size w14 w15)
      have M14 := Aside0.mk hb_.size
      have n_ := Aside0.mk (below_step HB.out hb_); clear HB; have HB := n_; clear n_
      have n_ := Aside0.mk (Ox1.out.below hb_); clear Ox1; have Ox1 := n_; clear n_
      have n_ := Aside0.mk (Orw.out.below hb_); clear Orw; have Orw := n_; clear n_
      have n_ := Aside0.mk (Ox2.out.below hb_); clear Ox2; have Ox2 := n_; clear n_
      have n_ := Aside0.mk (Org.out.below hb_); clear Org; have Org := n_; clear n_
      have n_ := Aside0.mk (Ox3.out.below hb_); clear Ox3; have Ox3 := n_; clear n_
      have n_ := Aside0.mk (Ox4.out.below hb_); clear Ox4; have Ox4 := n_; clear n_
      have n_ := Aside0.mk (Orh.out.below hb_); clear Orh; have Orh := n_; clear n_
      clear hb_ hd_
      have q_ := laws_heldIntS.calls _ Arg crg LR 1 mR w15 (by have z_ := (Kd.R_reads' Org.out.row).2.2; have y_ := (Kd.R_reads' Org.out.row).1; exact z_) (by rw [MLR.out]; exact (Kd.R_reads' Org.out.row).2.1) MHR.out
      rw [MLR.out] at q_
      go_wp2_with fail
      refine (q_).mono ?_
      rintro e_ w16 ⟨rfl, hd_⟩
      have hb_ := (by first | exact hd_ | exact drawn_below hd_ : Below w15.heap.size w15 w16)
      have M15 := Aside0.mk hb_.size
      have n_ := Aside0.mk (below_step HB.out hb_); clear HB; have HB := n_; clear n_
      have n_ := Aside0.mk (Ox1.out.below hb_); clear Ox1; have Ox1 := n_; clear n_
      have n_ := Aside0.mk (Orw.out.below hb_); clear Orw; have Orw := n_; clear n_
      have n_ := Aside0.mk (Ox2.out.below hb_); clear Ox2; have Ox2 := n_; clear n_
      have n_ := Aside0.mk (Org.out.below hb_); clear Org; have Org := n_; clear n_
      have n_ := Aside0.mk (Ox3.out.below hb_); clear Ox3; have Ox3 := n_; clear n_
      have n_ := Aside0.mk (Ox4.out.below hb_); clear Ox4; have Ox4 := n_; clear n_
      have n_ := Aside0.mk (Orh.out.below hb_); clear Orh; have Orh := n_; clear n_
      clear hb_ hd_
      clear q_
      go_wp2
      go_ret
      exact ⟨rfl, HB.out⟩

end Go.Proofs.YtbghdbpaihkcjaaDoor.PFnExactBestTest
