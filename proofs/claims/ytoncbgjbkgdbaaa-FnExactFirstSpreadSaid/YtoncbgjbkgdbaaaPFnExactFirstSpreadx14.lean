-- Written by a program of this claim, over the kit's print: the functions that a law reaches, their plain forms and the walks.
import Derived.Test.YtoncbgjbkgdbaaaPFnExactFirstSpreadx0
import Derived.Test.YtoncbgjbkgdbaaaPFnExactFirstSpreadx1
import Derived.Test.YtoncbgjbkgdbaaaPFnExactFirstSpreadx5
import Derived.Test.YtoncbgjbkgdbaaaPFnExactFirstSpreadx12
import Derived.Test.YtoncbgjbkgdbaaaPFnExactFirstSpreadx13
namespace Go.Proofs.Ytoncbgjbkgdbaaa.PFnExactFirstSpread
open Go.RowKit Go.Proofs.YtoncbgjbkgdbaaaW.PrintWords Go.Proofs.YtoncbgjbkgdbaaaW.PrintLast Go.Proofs.YtoncbgjbkgdbaaaW.PrintMore
attribute [local go_sem] max2_int min2_int max_two min_two max_three min_three max_four min_four   -- for this text's walks alone
set_option linter.unusedVariables false
set_option linter.unusedSimpArgs false

/-! ### laws_FnExactFirstSpread: function 5 -/
namespace Aux
theorem w64 {x : Int} (h0 : -9223372036854775808 ≤ x) (h1 : x ≤ 9223372036854775807) : wrap64 x = x := by unfold wrap64; omega
theorem up64 {i n : Nat} (h : i < n) (hn : n ≤ 4611686018427387904) : wrap64 ((i : Int) + 1) = ((i + 1 : Nat) : Int) := by rw [w64 (by omega) (by omega)]; omega
theorem rd_lt {xs : List Int} {i : Nat} (h : i < xs.length) : rd xs (i : Int) = xs[i] := by unfold rd; simp [List.getD_eq_getElem?_getD, h]

/-- An element of the law's own type, as the program's. -/
def cvCall (x : S56) : S54 := ⟨x.f0, x.f1⟩
theorem rdCall0 {xs : List S56} {i : Nat} (h : i < xs.length) : rd_T56 xs (i : Int) = xs[i] := by unfold rd_T56; simp [List.getD_eq_getElem?_getD, h]
theorem rdCall1 {xs : List S54} {i : Nat} (h : i < xs.length) : rd_T54 xs (i : Int) = xs[i] := by unfold rd_T54; simp [List.getD_eq_getElem?_getD, h]
theorem toCallS_l0 (a : List S56) (hn : a.length ≤ 4611686018427387904) : ∀ (d i k : Nat), i + d = a.length → d < k → laws_toCallS.l0 k a ((a.take i).map cvCall ++ List.replicate d z54) (i : Int) = some (a.map cvCall)
  | 0, i, k, hi, hk => by
    obtain ⟨k, rfl⟩ : ∃ q, k = q + 1 := ⟨k - 1, by omega⟩
    simp only [laws_toCallS.l0]
    rw [if_neg (by omega), List.take_of_length_le (by omega)]
    simp
  | d + 1, i, k, hi, hk => by
    obtain ⟨k, rfl⟩ : ∃ q, k = q + 1 := ⟨k - 1, by omega⟩
    have ih := toCallS_l0 a hn d (i + 1) k (by omega) (by omega)
    have ha : i < a.length := by omega
    simp only [laws_toCallS.l0, laws_toCall.f, Option.bind_some]
    rw [if_pos (by omega), if_pos (by omega), if_pos (by simp; omega), up64 ha hn, rdCall0 ha]
    have he : ((a.take i).map cvCall ++ List.replicate (d + 1) z54).set ((i : Nat) : Int).toNat (cvCall a[i]) = (a.take (i + 1)).map cvCall ++ List.replicate d z54 := by
      rw [List.set_append_right _ _ (by simp; omega), List.replicate_succ]
      have e : ((i : Nat) : Int).toNat - ((a.take i).map cvCall).length = 0 := by simp; omega
      rw [e, List.set_cons_zero, List.take_succ_eq_append_getElem ha]
      simp only [List.append_assoc, List.singleton_append, List.map_append, List.map_cons, List.map_nil]
    exact (congrArg (fun z => laws_toCallS.l0 k a z ((i + 1 : Nat) : Int)) he).trans ih
theorem toCallS_f (a : List S56) (hn : a.length ≤ 1048576) {k : Nat} (hk : a.length < k) : laws_toCallS.f k a = some (a.map cvCall) := by
  unfold laws_toCallS.f
  rw [if_pos (by omega), if_pos (by omega)]
  exact toCallS_l0 a (by omega) a.length 0 k (by omega) hk
theorem eqCallS_l0 (a : List S54) (hn : a.length ≤ 4611686018427387904) : ∀ (d i k : Nat), i + d = a.length → d < k → laws_eqCallS.l0 k a a (i : Int) = some true
  | 0, i, k, hi, hk => by
    obtain ⟨k, rfl⟩ : ∃ q, k = q + 1 := ⟨k - 1, by omega⟩
    simp only [laws_eqCallS.l0]
    rw [if_neg (by omega)]
  | d + 1, i, k, hi, hk => by
    obtain ⟨k, rfl⟩ : ∃ q, k = q + 1 := ⟨k - 1, by omega⟩
    have ih := eqCallS_l0 a hn d (i + 1) k (by omega) (by omega)
    have ha : i < a.length := by omega
    simp only [laws_eqCallS.l0, laws_eqCall.f]
    rw [if_pos (by omega), if_pos (by omega), if_pos (by omega), up64 ha hn]
    simpa using ih
theorem eqCallS_f (a : List S54) (hn : a.length ≤ 4611686018427387904) {k : Nat} (hk : a.length < k) : laws_eqCallS.f k a a = some true := by
  unfold laws_eqCallS.f
  rw [if_pos rfl]
  exact eqCallS_l0 a hn a.length 0 k (by omega) hk
theorem szCallS_f (a : List S56) (hn : a.length ≤ 9223372036854775807) : laws_szCallS.f a 1048576 = some (if a.length ≤ 1048576 then 1048576 - (a.length : Int) else -1) := by
  unfold laws_szCallS.f
  rw [w64 (by omega) (by omega)]
  by_cases h : a.length ≤ 1048576
  · rw [if_neg (by omega), if_pos h]
  · rw [if_pos (by omega), if_neg h]

/-- The calls (a, a + 1), (a + 2, a + 3), .. -/
def mkD (a : Int) (n : Nat) : List S54 := (List.range n).map fun (j : Nat) => ⟨a + 2 * (j : Int), a + 2 * (j : Int) + 1⟩
theorem mkD_len (a : Int) (n : Nat) : (mkD a n).length = n := by simp [mkD]
theorem mkD_succ (a : Int) (n : Nat) : mkD a (n + 1) = mkD a n ++ [⟨a + 2 * (n : Int), a + 2 * (n : Int) + 1⟩] := by simp [mkD, List.range_succ]
theorem mkD_rd {a : Int} {n i : Nat} (h : i < n) : rd_T54 (mkD a n) (i : Int) = ⟨a + 2 * (i : Int), a + 2 * (i : Int) + 1⟩ := by
  rw [rdCall1 (by rw [mkD_len]; exact h)]
  simp [mkD]
theorem markD_l0 (a : Int) (h0 : 0 ≤ a) (h1 : a ≤ 100000000000) (l : List S54) (hn : l.length ≤ 1000000000) : ∀ (d i k : Nat), i + d = l.length → d < k → laws_markCallS.l0 k (mkD a i ++ l.drop i) (a + 2 * (i : Int)) (i : Int) = some (a + 2 * (l.length : Int), mkD a l.length)
  | 0, i, k, hi, hk => by
    obtain ⟨k, rfl⟩ : ∃ q, k = q + 1 := ⟨k - 1, by omega⟩
    have e : i = l.length := by omega
    subst e
    simp only [laws_markCallS.l0]
    rw [if_neg (by rw [List.length_append, mkD_len, List.length_drop]; omega), List.drop_eq_nil_of_le (by omega), List.append_nil]
  | d + 1, i, k, hi, hk => by
    obtain ⟨k, rfl⟩ : ∃ q, k = q + 1 := ⟨k - 1, by omega⟩
    have ha : i < l.length := by omega
    have ih := markD_l0 a h0 h1 l hn d (i + 1) k (by omega) (by omega)
    simp only [laws_markCallS.l0, Option.bind_some]
    rw [if_pos (by rw [List.length_append, mkD_len, List.length_drop]; omega), if_pos (by omega), up64 ha (by omega), w64 (x := a + 2 * (i : Int) + 1) (by omega) (by omega), w64 (x := a + 2 * (i : Int) + 1 + 1) (by omega) (by omega), Int.toNat_natCast]
    have hl : i < (mkD a i ++ l.drop i).length := by rw [List.length_append, mkD_len, List.length_drop]; omega
    have he : ∀ v : S54, (mkD a i ++ l.drop i).set i v = mkD a i ++ v :: l.drop (i + 1) := by
      intro v
      rw [List.set_append_right _ _ (by rw [mkD_len]; omega), mkD_len, List.drop_eq_getElem_cons ha, show i - i = 0 by omega, List.set_cons_zero]
    have hr : ∀ v : S54, rd_T54 ((mkD a i ++ l.drop i).set i v) (i : Int) = v := by
      intro v
      rw [rdCall1 (by rw [List.length_set]; exact hl), List.getElem_set_self]
    rw [hr, List.set_set, he, show a + 2 * (i : Int) + 1 + 1 = a + 2 * ((i + 1 : Nat) : Int) by omega]
    rw [mkD_succ, List.append_assoc, List.singleton_append] at ih
    exact ih
theorem markD_f (a : Int) (h0 : 0 ≤ a) (h1 : a ≤ 100000000000) (l : List S54) (hn : l.length ≤ 1000000000) {k : Nat} (hk : l.length < k) : laws_markCallS.f k l a = some (a + 2 * (l.length : Int), mkD a l.length) := by
  have h := markD_l0 a h0 h1 l hn l.length 0 k (by omega) hk
  unfold laws_markCallS.f
  simpa [mkD] using h
theorem heldD_l0 (a : Int) (h0 : 0 ≤ a) (h1 : a ≤ 100000000000) (n : Nat) (hn : n ≤ 1000000000) : ∀ (d i k : Nat), i + d = n → d < k → laws_heldCallS.l0 k (mkD a n) (a + 2 * (i : Int)) (i : Int) = some (a + 2 * (n : Int))
  | 0, i, k, hi, hk => by
    obtain ⟨k, rfl⟩ : ∃ q, k = q + 1 := ⟨k - 1, by omega⟩
    have e : i = n := by omega
    subst e
    simp only [laws_heldCallS.l0]
    rw [if_neg (by rw [mkD_len]; omega)]
  | d + 1, i, k, hi, hk => by
    obtain ⟨k, rfl⟩ : ∃ q, k = q + 1 := ⟨k - 1, by omega⟩
    have ha : i < n := by omega
    have ih := heldD_l0 a h0 h1 n hn d (i + 1) k (by omega) (by omega)
    simp only [laws_heldCallS.l0]
    rw [if_pos (by rw [mkD_len]; omega), if_pos (by omega), mkD_rd ha, if_pos rfl, w64 (x := a + 2 * (i : Int) + 1) (by omega) (by omega), if_pos rfl, up64 ha (by omega), w64 (x := a + 2 * (i : Int) + 1 + 1) (by omega) (by omega), show a + 2 * (i : Int) + 1 + 1 = a + 2 * ((i + 1 : Nat) : Int) by omega]
    exact ih
theorem heldD_f (a : Int) (h0 : 0 ≤ a) (h1 : a ≤ 100000000000) (n : Nat) (hn : n ≤ 1000000000) {k : Nat} (hk : n < k) : laws_heldCallS.f k (mkD a n) a = some (a + 2 * (n : Int)) := by
  have h := heldD_l0 a h0 h1 n hn n 0 k (by omega) hk
  unfold laws_heldCallS.f
  simpa using h
/-- The length of all rows together. -/
def totD (l : List (List S54)) : Nat := (l.map List.length).sum
theorem totD_cons (x : List S54) (l : List (List S54)) : totD (x :: l) = x.length + totD l := by simp [totD]
theorem totD_le {n : Nat} : ∀ (l : List (List S54)), (∀ x ∈ l, x.length ≤ n) → totD l ≤ n * l.length
  | [], _ => by simp [totD]
  | x :: l, h => by
    have h1 := h x (by simp)
    have h2 := totD_le l (fun y hy => h y (by simp [hy]))
    rw [totD_cons, List.length_cons, Nat.mul_succ]
    omega
/-- Rows that are numbered one behind the other. -/
def mkDS : List (List S54) → Int → List (List S54)
  | [], _ => []
  | x :: l, a => mkD a x.length :: mkDS l (a + 2 * (x.length : Int))
theorem mkDS_len (l : List (List S54)) : ∀ a, (mkDS l a).length = l.length := by
  induction l with
  | nil => intro a; rfl
  | cons x l ih => intro a; simp [mkDS, ih]
theorem markDS_l0 : ∀ (l pre : List (List S54)) (a : Int) (k : Nat), 0 ≤ a → a + 2 * (totD l : Int) ≤ 100000000000 → pre.length + l.length ≤ 1000000000 → totD l ≤ 1000000000 → l.length + 1000000001 < k → laws_markCallSS.l0 k (pre ++ l) a (pre.length : Int) = some (a + 2 * (totD l : Int), pre ++ mkDS l a)
  | [], pre, a, k, h0, h1, h2, h3, hk => by
    obtain ⟨k, rfl⟩ : ∃ q, k = q + 1 := ⟨k - 1, by omega⟩
    simp only [laws_markCallSS.l0]
    rw [if_neg (by simp)]
    simp [totD, mkDS]
  | x :: l, pre, a, k, h0, h1, h2, h3, hk => by
    obtain ⟨k, rfl⟩ : ∃ q, k = q + 1 := ⟨k - 1, by omega⟩
    rw [totD_cons] at h1 h3
    rw [List.length_cons] at h2 hk
    have ih := markDS_l0 l (pre ++ [mkD a x.length]) (a + 2 * (x.length : Int)) k (by omega) (by omega) (by simp; omega) (by omega) (by omega)
    have e : (pre ++ x :: l).getD ((pre.length : Int)).toNat [] = x := by simp [List.getD_eq_getElem?_getD]
    have e2 : (pre ++ x :: l).set ((pre.length : Int)).toNat (mkD a x.length) = (pre ++ [mkD a x.length]) ++ l := by simp [List.set_append_right]
    simp only [laws_markCallSS.l0]
    rw [if_pos (by simp; omega), if_pos (by omega), e, markD_f a h0 (by omega) x (by omega) (by omega), Option.bind_some, e2, up64 (n := pre.length + 1) (by omega) (by omega)]
    rw [show (((pre.length + 1 : Nat)) : Int) = ((pre ++ [mkD a x.length]).length : Int) by simp, ih]
    simp [totD_cons, mkDS]
    omega
theorem heldDS_l0 (L : List (List S54)) : ∀ (l pre : List (List S54)) (a : Int) (k : Nat), L = pre ++ mkDS l a → 0 ≤ a → a + 2 * (totD l : Int) ≤ 100000000000 → pre.length + l.length ≤ 1000000000 → totD l ≤ 1000000000 → l.length + 1000000001 < k → laws_heldCallSS.l0 k L a (pre.length : Int) = some (a + 2 * (totD l : Int))
  | [], pre, a, k, hL, h0, h1, h2, h3, hk => by
    obtain ⟨k, rfl⟩ : ∃ q, k = q + 1 := ⟨k - 1, by omega⟩
    simp only [laws_heldCallSS.l0]
    rw [if_neg (by rw [hL]; simp [mkDS])]
    simp [totD]
  | x :: l, pre, a, k, hL, h0, h1, h2, h3, hk => by
    obtain ⟨k, rfl⟩ : ∃ q, k = q + 1 := ⟨k - 1, by omega⟩
    rw [totD_cons] at h1 h3
    rw [List.length_cons] at h2 hk
    have ih := heldDS_l0 L l (pre ++ [mkD a x.length]) (a + 2 * (x.length : Int)) k (by rw [hL]; simp [mkDS]) (by omega) (by omega) (by simp; omega) (by omega) (by omega)
    have e : rd_L3 L (pre.length : Int) = mkD a x.length := by rw [hL]; unfold rd_L3; simp [mkDS, List.getD_eq_getElem?_getD]
    have hlen : L.length = pre.length + (l.length + 1) := by rw [hL]; simp [mkDS, mkDS_len]
    simp only [laws_heldCallSS.l0]
    rw [if_pos (by omega), if_pos (by omega), e, heldD_f a h0 (by omega) x.length (by omega) (by omega), Option.bind_some, if_neg (by omega), up64 (n := pre.length + 1) (by omega) (by omega)]
    rw [show (((pre.length + 1 : Nat)) : Int) = ((pre ++ [mkD a x.length]).length : Int) by simp, ih]
    simp [totD_cons]
    omega
theorem eqDS_l0 (a : List (List S54)) (hn : a.length ≤ 1048576) (ht : ∀ x ∈ a, x.length ≤ 100000000) : ∀ (d i k : Nat), i + d = a.length → d + 100000010 < k → laws_eqCallSS.l0 k a a (i : Int) = some true
  | 0, i, k, hi, hk => by
    obtain ⟨k, rfl⟩ : ∃ q, k = q + 1 := ⟨k - 1, by omega⟩
    simp only [laws_eqCallSS.l0]
    rw [if_neg (by omega)]
  | d + 1, i, k, hi, hk => by
    obtain ⟨k, rfl⟩ : ∃ q, k = q + 1 := ⟨k - 1, by omega⟩
    have ih := eqDS_l0 a hn ht d (i + 1) k (by omega) (by omega)
    have ha : i < a.length := by omega
    have h1 := ht _ (List.getElem_mem ha)
    have e : rd_L3 a (i : Int) = a[i] := by unfold rd_L3; simp [List.getD_eq_getElem?_getD, ha]
    simp only [laws_eqCallSS.l0]
    rw [if_pos (by omega), if_pos (by omega), if_pos (by omega), e, eqCallS_f _ (by omega) (by omega), up64 ha (by omega)]
    simpa using ih
theorem eqDS_f (a : List (List S54)) (hn : a.length ≤ 1048576) (ht : ∀ x ∈ a, x.length ≤ 100000000) {k : Nat} (hk : 300000000 < k) : laws_eqCallSS.f k a a = some true := by
  unfold laws_eqCallSS.f
  rw [if_pos rfl]
  exact eqDS_l0 a hn ht a.length 0 _ (by omega) (by omega)
theorem markDS_f (l : List (List S54)) (hn : l.length ≤ 1000) (ht : totD l ≤ 100000000) {k : Nat} (hk : 1100000000 < k) : laws_markCallSS.f k l 1 = some (1 + 2 * (totD l : Int), mkDS l 1) := markDS_l0 l [] 1 k (by omega) (by omega) (by simp; omega) (by omega) (by omega)
theorem heldDS_f (l : List (List S54)) (hn : l.length ≤ 1000) (ht : totD l ≤ 100000000) {k : Nat} (hk : 1100000000 < k) : laws_heldCallSS.f k (mkDS l 1) 1 = some (1 + 2 * (totD l : Int)) := heldDS_l0 (mkDS l 1) l [] 1 k rfl (by omega) (by omega) (by simp; omega) (by omega) (by omega)
theorem totD_row (l : List (List S54)) (x : List S54) (h : x ∈ l) : x.length ≤ totD l := by
  induction l with
  | nil => cases h
  | cons y l ih =>
    rw [totD_cons]
    rcases List.mem_cons.1 h with rfl | h
    · omega
    · have := ih h; omega
theorem toCallS_ev (l : List S56) (h : l.length ≤ 1048576) : ∃ k, laws_toCallS.f k l = some (l.map cvCall) := ⟨l.length + 1, toCallS_f l h (by omega)⟩
theorem eqCallS_ev (l : List S54) (h : l.length ≤ 1048576) : ∃ k, laws_eqCallS.f k l l = some true := ⟨l.length + 1, eqCallS_f l (by omega) (by omega)⟩
theorem markCallS_ev (l : List S54) (a : Int) (h0 : 0 ≤ a) (h1 : a ≤ 1000000000) (h : l.length ≤ 1048576) : ∃ k m L, a ≤ m ∧ m = a + 2 * (l.length : Int) ∧ L.length = l.length ∧ laws_markCallS.f k l a = some (m, L) ∧ laws_heldCallS.f k L a = some m :=
  ⟨l.length + 1, a + 2 * (l.length : Int), mkD a l.length, by omega, rfl, mkD_len _ _, markD_f a h0 (by omega) l (by omega) (by omega), heldD_f a h0 (by omega) l.length (by omega) (by omega)⟩
theorem eqCallSS_ev (l : List (List S54)) (hn : l.length ≤ 1000) (ht : totD l ≤ 100000000) : ∃ k, laws_eqCallSS.f k l l = some true := ⟨300000001, eqDS_f l (by omega) (fun x hx => Nat.le_trans (totD_row l x hx) ht) (by omega)⟩
theorem markCallSS_ev (l : List (List S54)) (a : Int) (h0 : 0 ≤ a) (h1 : a ≤ 1000000000) (hn : l.length ≤ 1000) (ht : totD l ≤ 100000000) : ∃ k m L, a ≤ m ∧ m = a + 2 * (totD l : Int) ∧ L.length = l.length ∧ laws_markCallSS.f k l a = some (m, L) ∧ laws_heldCallSS.f k L a = some m :=
  ⟨1100000000, a + 2 * (totD l : Int), mkDS l a, by omega, rfl, mkDS_len _ _, markDS_l0 l [] a _ h0 (by omega) (by simp; omega) (by omega) (by omega), heldDS_l0 (mkDS l a) l [] a _ rfl h0 (by omega) (by simp; omega) (by omega) (by omega)⟩

section
open Go.Proofs.YtoncbgjbkgdbaaaW.Rng
structure ON {α : Type} (d : Kd α) (e : Nat) (W : World) (b lo hi : Nat) (v : Value) (xs : List α) : Prop where
  row : Kd.N d e W b (Bt lo hi) v xs
  top : hi ≤ W.heap.size
section
variable {α : Type} {d : Kd α} {e : Nat} {w W W' : World} {b lo hi : Nat} {ok S : Nat → Prop} {v : Value} {xs xs' : List α}
theorem ON.made (h : Kd.N d e W' W.heap.size ok v xs) (hok : ∀ k, ok k → W.heap.size ≤ k) (hb : b ≤ W.heap.size) : ON d e W' b W.heap.size W'.heap.size v xs :=
  ⟨Kd.N_lower (Kd.N_mono (Kd.N_bound h) (fun _ hk => ⟨hok _ hk.1, hk.2⟩)) hb, Nat.le_refl _⟩
theorem ON.below (h : ON d e W b lo hi v xs) (hb : Below W.heap.size W W') : ON d e W' b lo hi v xs := ⟨Kd.N_below h.row hb, Nat.le_trans h.top hb.size⟩
theorem ON.kept (h : ON d e W b lo hi v xs) (hk : Kept W W' S) (hs : ∀ k, Bt lo hi k → ¬ S k) : ON d e W' b lo hi v xs := ⟨Kd.N_kept h.row hk hs, Nat.le_trans h.top hk.1⟩
end
end
end Aux
open Classical in
noncomputable def laws_FnExactFirstSpread.f (k : Nat) (a0 : Int) (l1 : List (S56)) (a2 : Int) : Option Bool := if 1048576 < l1.length then some true else ((spec_FirstSpread.f k a0 (l1.map Aux.cvCall) a2).bind fun s => (impl_FirstSpread.f k a0 (l1.map Aux.cvCall) a2).bind fun g => if g = s ∧ s.1.length ≤ 1000 ∧ Aux.totD s.1 ≤ 100000000 then some true else none)
open Go.Proofs.YtoncbgjbkgdbaaaW.Rng in
set_option maxHeartbeats 4000000 in
set_option maxRecDepth 100000 in
theorem laws_FnExactFirstSpread.calls (k : Nat) (a0 : Int) (A1 : Option Addr) (c1 : Nat) (l1 : List (S56)) (a2 : Int) (r : Bool) (w : World) (hr1 : Kd.C k56 w A1 l1.length l1) (hc1 : l1.length ≤ c1) (h : laws_FnExactFirstSpread.f k a0 l1 a2 = some r) :
    Calls Try.prog 5 #[.int .i64 a0, .slice A1 l1.length c1, .int .i64 a2] w fun e w' => e = .returned (.bool r) ∧ Below w.heap.size w w' := by
  have HR1 := Aside0.mk hr1
  have HC1 := Aside0.mk hc1
  clear hr1 hc1
  have HB := Aside0.mk (Below.refl w.heap.size w)
  unfold laws_FnExactFirstSpread.f at h
  have RS1 := Aside0.mk (show l1.length ≤ 9223372036854775807 from HR1.out.2.1)
  by_cases z0 : 1048576 < l1.length
  · rw [if_pos z0] at h
    obtain rfl := Option.some.inj h
    clear h
    have SZ1 := Aside0.mk (show laws_szCallS.f l1 1048576 = some (-1) by rw [Aux.szCallS_f l1 RS1.out, if_neg (by omega)])
    clear z0
    go_enter Try.func5, Try.ntmps5
    go_wp2_with fail
    refine (laws_szCallS.calls A1 c1 l1 1048576 (-1) _ (Kd.C_below HR1.out HB.out) HC1.out SZ1.out).mono ?_
    rintro e_ w1 ⟨rfl, hd_⟩
    have hb_ := (by first | exact hd_ | exact drawn_below hd_ : Below w.heap.size w w1)
    have M0 := Aside0.mk hb_.size
    have n_ := Aside0.mk (below_step HB.out hb_); clear HB; have HB := n_; clear n_
    clear hb_ hd_
    go_wp2
    go_ret
    exact ⟨rfl, HB.out⟩
  · rw [if_neg z0] at h
    obtain ⟨zs1, hzs_⟩ : ∃ z_ : Int, z_ = 1048576 - (l1.length : Int) := ⟨_, rfl⟩
    have SZ1 := Aside0.mk (show laws_szCallS.f l1 1048576 = some zs1 by rw [Aux.szCallS_f l1 RS1.out, if_pos (by omega), hzs_])
    have dzs1 : decide (zs1 < 0) = false := decide_eq_false (by omega)
    clear hzs_
    obtain ⟨C1, hC1⟩ : ∃ z_, z_ = l1.map Aux.cvCall := ⟨_, rfl⟩
    have hCl1 : C1.length = l1.length := by rw [hC1]; simp
    rw [← hC1] at h
    replace h := Option.bind_eq_some_iff.mp h
    obtain ⟨s, hs, h⟩ := h
    replace h := Option.bind_eq_some_iff.mp h
    obtain ⟨g, hg, h⟩ := h
    by_cases hgs_ : g = s ∧ s.1.length ≤ 1000 ∧ Aux.totD s.1 ≤ 100000000
    case neg => rw [if_neg hgs_] at h; cases h
    rw [if_pos hgs_] at h
    obtain ⟨hgs, hbd⟩ := hgs_
    subst hgs
    obtain rfl := Option.some.inj h
    clear h
    obtain ⟨R0, R1⟩ := g
    dsimp only at hbd
    have SP := Aside0.mk hs
    have IM := Aside0.mk hg
    clear hs hg
    have eb1 : (R1 != R1) = false := by simp
    obtain ⟨kt1, ht_⟩ := Aux.toCallS_ev l1 (by omega)
    rw [← hC1] at ht_
    have TO1 := Aside0.mk ht_
    obtain ⟨ke1, he_⟩ := Aux.eqCallS_ev C1 (by omega)
    have EQ1 := Aside0.mk he_
    clear ht_ he_
    obtain ⟨km1, m1, L1, mp1, me1, ml_, mk_, mh_⟩ := Aux.markCallS_ev C1 1 (by omega) (by omega) (by omega)
    have ML1 := Aside0.mk ml_
    have MK1 := Aside0.mk mk_
    clear ml_ mk_ mh_
    have dk_ : decide (m1 < 0) = false := decide_eq_false (by omega)
    obtain ⟨keR, he_⟩ := Aux.eqCallSS_ev R0 hbd.1 hbd.2
    have EQR := Aside0.mk he_
    obtain ⟨kmR, mR, LR, mpR, meR, ml_, mk_, mh_⟩ := Aux.markCallSS_ev R0 1 (by omega) (by omega) hbd.1 hbd.2
    have MLR := Aside0.mk ml_
    have MKR := Aside0.mk mk_
    have MHR := Aside0.mk mh_
    have dm_ : decide (mR < 0) = false := decide_eq_false (by omega)
    have em_ : (mR != mR) = false := by simp
    clear ml_ mk_ mh_ he_
    clear me1 mp1
    clear meR mpR hbd
    clear hC1 hCl1
    clear z0
    go_enter Try.func5, Try.ntmps5
    go_wp2_with fail
    refine (laws_szCallS.calls A1 c1 l1 1048576 zs1 _ (Kd.C_below HR1.out HB.out) HC1.out SZ1.out).mono ?_
    rintro e_ w1 ⟨rfl, hd_⟩
    have hb_ := (by first | exact hd_ | exact drawn_below hd_ : Below w.heap.size w w1)
    have M0 := Aside0.mk hb_.size
    have n_ := Aside0.mk (below_step HB.out hb_); clear HB; have HB := n_; clear n_
    clear hb_ hd_
    go_wp2_with fail
    refine (laws_toCallS.calls kt1 A1 c1 l1 C1 _ (Kd.C_below HR1.out HB.out) HC1.out TO1.out).mono ?_
    rintro e_ w2 ⟨vx1, rfl, hv_, hb_⟩
    obtain ⟨Ax1, cx1, rfl⟩ := Kd.R_slice hv_
    have Ox1 := Aside0.mk (OR.made hv_ HB.out.size)
    have M1 := Aside0.mk hb_.size
    have n_ := Aside0.mk (below_step HB.out hb_); clear HB; have HB := n_; clear n_
    clear hb_ hv_
    go_wp2_with fail
    refine (spec_FirstSpread.calls k a0 Ax1 cx1 C1 a2 R0 R1 _ (Kd.R_reads' Ox1.out.row).2.2 (Kd.R_reads' Ox1.out.row).2.1 SP.out).mono ?_
    rintro e_ w3 ⟨vrw, rfl, hv_, hb_⟩
    obtain ⟨Arw, crw, rfl⟩ := Kd.N_slice hv_
    have Orw := Aside0.mk (Aux.ON.made hv_ (fun _ h_ => h_) HB.out.size)
    have M2 := Aside0.mk hb_.size
    have n_ := Aside0.mk (below_step HB.out hb_); clear HB; have HB := n_; clear n_
    have n_ := Aside0.mk (Ox1.out.below hb_); clear Ox1; have Ox1 := n_; clear n_
    clear hb_ hv_
    go_wp2_with fail
    refine (laws_toCallS.calls kt1 A1 c1 l1 C1 _ (Kd.C_below HR1.out HB.out) HC1.out TO1.out).mono ?_
    rintro e_ w4 ⟨vx2, rfl, hv_, hb_⟩
    obtain ⟨Ax2, cx2, rfl⟩ := Kd.R_slice hv_
    have Ox2 := Aside0.mk (OR.made hv_ HB.out.size)
    have M3 := Aside0.mk hb_.size
    have n_ := Aside0.mk (below_step HB.out hb_); clear HB; have HB := n_; clear n_
    have n_ := Aside0.mk (Ox1.out.below hb_); clear Ox1; have Ox1 := n_; clear n_
    have n_ := Aside0.mk (Orw.out.below hb_); clear Orw; have Orw := n_; clear n_
    clear hb_ hv_
    go_wp2_with fail
    refine (impl_FirstSpread.calls k a0 Ax2 cx2 C1 a2 R0 R1 _ (Kd.R_reads' Ox2.out.row).2.2 (Kd.R_reads' Ox2.out.row).2.1 IM.out).mono ?_
    rintro e_ w5 ⟨vrg, rfl, hv_, hb_⟩
    obtain ⟨Arg, crg, rfl⟩ := Kd.S_slice hv_
    have Org := Aside0.mk (OS.made hv_ HB.out.size)
    have M4 := Aside0.mk hb_.size
    have n_ := Aside0.mk (below_step HB.out hb_); clear HB; have HB := n_; clear n_
    have n_ := Aside0.mk (Ox1.out.below hb_); clear Ox1; have Ox1 := n_; clear n_
    have n_ := Aside0.mk (Orw.out.below hb_); clear Orw; have Orw := n_; clear n_
    have n_ := Aside0.mk (Ox2.out.below hb_); clear Ox2; have Ox2 := n_; clear n_
    clear hb_ hv_
    go_wp2_with fail
    refine (laws_eqCallSS.calls keR Arg crg R0 Arw crw R0 _ _ (Kd.S_reads' Org.out.row).2.2 (Kd.S_reads' Org.out.row).2.1 (Kd.N_reads' Orw.out.row).2.2 (Kd.N_reads' Orw.out.row).2.1 EQR.out).mono ?_
    rintro e_ w6 ⟨rfl, hd_⟩
    have hb_ := (by first | exact hd_ | exact drawn_below hd_ : Below w5.heap.size w5 w6)
    have M5 := Aside0.mk hb_.size
    have n_ := Aside0.mk (below_step HB.out hb_); clear HB; have HB := n_; clear n_
    have n_ := Aside0.mk (Ox1.out.below hb_); clear Ox1; have Ox1 := n_; clear n_
    have n_ := Aside0.mk (Orw.out.below hb_); clear Orw; have Orw := n_; clear n_
    have n_ := Aside0.mk (Ox2.out.below hb_); clear Ox2; have Ox2 := n_; clear n_
    have n_ := Aside0.mk (Org.out.below hb_); clear Org; have Org := n_; clear n_
    clear hb_ hd_
    go_wp2_with fail
    refine (laws_toCallS.calls kt1 A1 c1 l1 C1 _ (Kd.C_below HR1.out HB.out) HC1.out TO1.out).mono ?_
    rintro e_ w7 ⟨vx3, rfl, hv_, hb_⟩
    obtain ⟨Ax3, cx3, rfl⟩ := Kd.R_slice hv_
    have Ox3 := Aside0.mk (OR.made hv_ HB.out.size)
    have M6 := Aside0.mk hb_.size
    have n_ := Aside0.mk (below_step HB.out hb_); clear HB; have HB := n_; clear n_
    have n_ := Aside0.mk (Ox1.out.below hb_); clear Ox1; have Ox1 := n_; clear n_
    have n_ := Aside0.mk (Orw.out.below hb_); clear Orw; have Orw := n_; clear n_
    have n_ := Aside0.mk (Ox2.out.below hb_); clear Ox2; have Ox2 := n_; clear n_
    have n_ := Aside0.mk (Org.out.below hb_); clear Org; have Org := n_; clear n_
    clear hb_ hv_
    go_wp2_with fail
    refine (laws_eqCallS.calls ke1 Ax2 cx2 C1 Ax3 cx3 C1 _ _ (Kd.R_reads' Ox2.out.row).2.2 (Kd.R_reads' Ox2.out.row).2.1 (Kd.R_reads' Ox3.out.row).2.2 (Kd.R_reads' Ox3.out.row).2.1 EQ1.out).mono ?_
    rintro e_ w8 ⟨rfl, hd_⟩
    have hb_ := (by first | exact hd_ | exact drawn_below hd_ : Below w7.heap.size w7 w8)
    have M7 := Aside0.mk hb_.size
    have n_ := Aside0.mk (below_step HB.out hb_); clear HB; have HB := n_; clear n_
    have n_ := Aside0.mk (Ox1.out.below hb_); clear Ox1; have Ox1 := n_; clear n_
    have n_ := Aside0.mk (Orw.out.below hb_); clear Orw; have Orw := n_; clear n_
    have n_ := Aside0.mk (Ox2.out.below hb_); clear Ox2; have Ox2 := n_; clear n_
    have n_ := Aside0.mk (Org.out.below hb_); clear Org; have Org := n_; clear n_
    have n_ := Aside0.mk (Ox3.out.below hb_); clear Ox3; have Ox3 := n_; clear n_
    clear hb_ hd_
    go_wp2_with fail
    refine (laws_markCallS.calls km1 (Bt w3.heap.size w4.heap.size) (.slice Ax2 C1.length cx2) C1 1 m1 L1 w w8 HB.out Ox2.out.row MK1.out).mono ?_
    rintro e_ w9 ⟨rfl, hy_, hb_, hk_⟩
    have M8 := Aside0.mk hk_.1
    have n_ := Aside0.mk (Ox1.out.kept hk_ (fun k_ h1_ h2_ => by have := M0.out; have := M1.out; have := M2.out; have := M3.out; have := M4.out; have := M5.out; have := M6.out; have := M7.out; have := M8.out;  unfold Bt at h1_ h2_; omega)); clear Ox1; have Ox1 := n_; clear n_
    have n_ := Aside0.mk (Orw.out.kept hk_ (fun k_ h1_ h2_ => by have := M0.out; have := M1.out; have := M2.out; have := M3.out; have := M4.out; have := M5.out; have := M6.out; have := M7.out; have := M8.out;  unfold Bt at h1_ h2_; omega)); clear Orw; have Orw := n_; clear n_
    have n_ := Aside0.mk (Org.out.kept hk_ (fun k_ h1_ h2_ => by have := M0.out; have := M1.out; have := M2.out; have := M3.out; have := M4.out; have := M5.out; have := M6.out; have := M7.out; have := M8.out;  unfold Bt at h1_ h2_; omega)); clear Org; have Org := n_; clear n_
    have n_ := Aside0.mk (Ox3.out.kept hk_ (fun k_ h1_ h2_ => by have := M0.out; have := M1.out; have := M2.out; have := M3.out; have := M4.out; have := M5.out; have := M6.out; have := M7.out; have := M8.out;  unfold Bt at h1_ h2_; omega)); clear Ox3; have Ox3 := n_; clear n_
    have n_ := Aside0.mk (OR.back rfl Ox2.out hk_ hy_); clear Ox2; have Ox2 := n_; clear n_
    have n_ := Aside0.mk hb_; clear HB; have HB := n_; clear n_ hb_ hy_ hk_
    go_wp2_with fail
    refine (laws_eqCallSS.calls keR Arg crg R0 Arw crw R0 _ _ (Kd.S_reads' Org.out.row).2.2 (Kd.S_reads' Org.out.row).2.1 (Kd.N_reads' Orw.out.row).2.2 (Kd.N_reads' Orw.out.row).2.1 EQR.out).mono ?_
    rintro e_ w10 ⟨rfl, hd_⟩
    have hb_ := (by first | exact hd_ | exact drawn_below hd_ : Below w9.heap.size w9 w10)
    have M9 := Aside0.mk hb_.size
    have n_ := Aside0.mk (below_step HB.out hb_); clear HB; have HB := n_; clear n_
    have n_ := Aside0.mk (Ox1.out.below hb_); clear Ox1; have Ox1 := n_; clear n_
    have n_ := Aside0.mk (Orw.out.below hb_); clear Orw; have Orw := n_; clear n_
    have n_ := Aside0.mk (Ox2.out.below hb_); clear Ox2; have Ox2 := n_; clear n_
    have n_ := Aside0.mk (Org.out.below hb_); clear Org; have Org := n_; clear n_
    have n_ := Aside0.mk (Ox3.out.below hb_); clear Ox3; have Ox3 := n_; clear n_
    clear hb_ hd_
    go_wp2_with fail
    refine (laws_markCallSS.calls kmR (Bt w4.heap.size w5.heap.size) (.slice Arg R0.length crg) R0 1 mR LR w w10 HB.out Org.out.row MKR.out).mono ?_
    rintro e_ w11 ⟨rfl, hy_, hb_, hk_⟩
    have M10 := Aside0.mk hk_.1
    have n_ := Aside0.mk (Ox1.out.kept hk_ (fun k_ h1_ h2_ => by have := M0.out; have := M1.out; have := M2.out; have := M3.out; have := M4.out; have := M5.out; have := M6.out; have := M7.out; have := M8.out; have := M9.out; have := M10.out;  unfold Bt at h1_ h2_; omega)); clear Ox1; have Ox1 := n_; clear n_
    have n_ := Aside0.mk (Orw.out.kept hk_ (fun k_ h1_ h2_ => by have := M0.out; have := M1.out; have := M2.out; have := M3.out; have := M4.out; have := M5.out; have := M6.out; have := M7.out; have := M8.out; have := M9.out; have := M10.out;  unfold Bt at h1_ h2_; omega)); clear Orw; have Orw := n_; clear n_
    have n_ := Aside0.mk (Ox2.out.kept hk_ (fun k_ h1_ h2_ => by have := M0.out; have := M1.out; have := M2.out; have := M3.out; have := M4.out; have := M5.out; have := M6.out; have := M7.out; have := M8.out; have := M9.out; have := M10.out;  unfold Bt at h1_ h2_; omega)); clear Ox2; have Ox2 := n_; clear n_
    have n_ := Aside0.mk (Ox3.out.kept hk_ (fun k_ h1_ h2_ => by have := M0.out; have := M1.out; have := M2.out; have := M3.out; have := M4.out; have := M5.out; have := M6.out; have := M7.out; have := M8.out; have := M9.out; have := M10.out;  unfold Bt at h1_ h2_; omega)); clear Ox3; have Ox3 := n_; clear n_
    have n_ := Aside0.mk (OS.back Org.out hk_ hy_); clear Org; have Org := n_; clear n_
    have n_ := Aside0.mk hb_; clear HB; have HB := n_; clear n_ hb_ hy_ hk_
    have q_ := laws_heldCallSS.calls _ Arg crg LR 1 mR w11 (by have z_ := (Kd.S_reads' Org.out.row).2.2; have y_ := (Kd.S_reads' Org.out.row).1; exact z_) (by rw [MLR.out]; exact (Kd.S_reads' Org.out.row).2.1) MHR.out
    rw [MLR.out] at q_
    go_wp2_with fail
    refine (q_).mono ?_
    rintro e_ w12 ⟨rfl, hd_⟩
    have hb_ := (by first | exact hd_ | exact drawn_below hd_ : Below w11.heap.size w11 w12)
    have M11 := Aside0.mk hb_.size
    have n_ := Aside0.mk (below_step HB.out hb_); clear HB; have HB := n_; clear n_
    have n_ := Aside0.mk (Ox1.out.below hb_); clear Ox1; have Ox1 := n_; clear n_
    have n_ := Aside0.mk (Orw.out.below hb_); clear Orw; have Orw := n_; clear n_
    have n_ := Aside0.mk (Ox2.out.below hb_); clear Ox2; have Ox2 := n_; clear n_
    have n_ := Aside0.mk (Org.out.below hb_); clear Org; have Org := n_; clear n_
    have n_ := Aside0.mk (Ox3.out.below hb_); clear Ox3; have Ox3 := n_; clear n_
    clear hb_ hd_
    clear q_
    go_wp2_with fail
    refine (laws_toCallS.calls kt1 A1 c1 l1 C1 _ (Kd.C_below HR1.out HB.out) HC1.out TO1.out).mono ?_
    rintro e_ w13 ⟨vx4, rfl, hv_, hb_⟩
    obtain ⟨Ax4, cx4, rfl⟩ := Kd.R_slice hv_
    have Ox4 := Aside0.mk (OR.made hv_ HB.out.size)
    have M12 := Aside0.mk hb_.size
    have n_ := Aside0.mk (below_step HB.out hb_); clear HB; have HB := n_; clear n_
    have n_ := Aside0.mk (Ox1.out.below hb_); clear Ox1; have Ox1 := n_; clear n_
    have n_ := Aside0.mk (Orw.out.below hb_); clear Orw; have Orw := n_; clear n_
    have n_ := Aside0.mk (Ox2.out.below hb_); clear Ox2; have Ox2 := n_; clear n_
    have n_ := Aside0.mk (Org.out.below hb_); clear Org; have Org := n_; clear n_
    have n_ := Aside0.mk (Ox3.out.below hb_); clear Ox3; have Ox3 := n_; clear n_
    clear hb_ hv_
    go_wp2_with fail
    refine (impl_FirstSpread.calls k a0 Ax4 cx4 C1 a2 R0 R1 _ (Kd.R_reads' Ox4.out.row).2.2 (Kd.R_reads' Ox4.out.row).2.1 IM.out).mono ?_
    rintro e_ w14 ⟨vrh, rfl, hv_, hb_⟩
    obtain ⟨Arh, crh, rfl⟩ := Kd.S_slice hv_
    have Orh := Aside0.mk (OS.made hv_ HB.out.size)
    have M13 := Aside0.mk hb_.size
    have n_ := Aside0.mk (below_step HB.out hb_); clear HB; have HB := n_; clear n_
    have n_ := Aside0.mk (Ox1.out.below hb_); clear Ox1; have Ox1 := n_; clear n_
    have n_ := Aside0.mk (Orw.out.below hb_); clear Orw; have Orw := n_; clear n_
    have n_ := Aside0.mk (Ox2.out.below hb_); clear Ox2; have Ox2 := n_; clear n_
    have n_ := Aside0.mk (Org.out.below hb_); clear Org; have Org := n_; clear n_
    have n_ := Aside0.mk (Ox3.out.below hb_); clear Ox3; have Ox3 := n_; clear n_
    have n_ := Aside0.mk (Ox4.out.below hb_); clear Ox4; have Ox4 := n_; clear n_
    clear hb_ hv_
    go_wp2_with fail
    refine (laws_eqCallSS.calls keR Arh crh R0 Arw crw R0 _ _ (Kd.S_reads' Orh.out.row).2.2 (Kd.S_reads' Orh.out.row).2.1 (Kd.N_reads' Orw.out.row).2.2 (Kd.N_reads' Orw.out.row).2.1 EQR.out).mono ?_
    rintro e_ w15 ⟨rfl, hd_⟩
    have hb_ := (by first | exact hd_ | exact drawn_below hd_ : Below w14.heap.size w14 w15)
    have M14 := Aside0.mk hb_.size
    have n_ := Aside0.mk (below_step HB.out hb_); clear HB; have HB := n_; clear n_
    have n_ := Aside0.mk (Ox1.out.below hb_); clear Ox1; have Ox1 := n_; clear n_
    have n_ := Aside0.mk (Orw.out.below hb_); clear Orw; have Orw := n_; clear n_
    have n_ := Aside0.mk (Ox2.out.below hb_); clear Ox2; have Ox2 := n_; clear n_
    have n_ := Aside0.mk (Org.out.below hb_); clear Org; have Org := n_; clear n_
    have n_ := Aside0.mk (Ox3.out.below hb_); clear Ox3; have Ox3 := n_; clear n_
    have n_ := Aside0.mk (Ox4.out.below hb_); clear Ox4; have Ox4 := n_; clear n_
    have n_ := Aside0.mk (Orh.out.below hb_); clear Orh; have Orh := n_; clear n_
    clear hb_ hd_
    have q_ := laws_heldCallSS.calls _ Arg crg LR 1 mR w15 (by have z_ := (Kd.S_reads' Org.out.row).2.2; have y_ := (Kd.S_reads' Org.out.row).1; exact z_) (by rw [MLR.out]; exact (Kd.S_reads' Org.out.row).2.1) MHR.out
    rw [MLR.out] at q_
    go_wp2_with fail
    refine (q_).mono ?_
    rintro e_ w16 ⟨rfl, hd_⟩
    have hb_ := (by first | exact hd_ | exact drawn_below hd_ : Below w15.heap.size w15 w16)
    have M15 := Aside0.mk hb_.size
    have n_ := Aside0.mk (below_step HB.out hb_); clear HB; have HB := n_; clear n_
    have n_ := Aside0.mk (Ox1.out.below hb_); clear Ox1; have Ox1 := n_; clear n_
    have n_ := Aside0.mk (Orw.out.below hb_); clear Orw; have Orw := n_; clear n_
    have n_ := Aside0.mk (Ox2.out.below hb_); clear Ox2; have Ox2 := n_; clear n_
    have n_ := Aside0.mk (Org.out.below hb_); clear Org; have Org := n_; clear n_
    have n_ := Aside0.mk (Ox3.out.below hb_); clear Ox3; have Ox3 := n_; clear n_
    have n_ := Aside0.mk (Ox4.out.below hb_); clear Ox4; have Ox4 := n_; clear n_
    have n_ := Aside0.mk (Orh.out.below hb_); clear Orh; have Orh := n_; clear n_
    clear hb_ hd_
    clear q_
    go_wp2
    go_ret
    exact ⟨rfl, HB.out⟩

end Go.Proofs.Ytoncbgjbkgdbaaa.PFnExactFirstSpread
