/- For all friends, pairs, a friend and a number of rounds the program's MostInformed and the reference's agree; no conditions. -/
import Derived.Test.YtoncbgjbkgdbaaaPFnExactMostInformedx9
import Derived.Laws.BitsLemmas
import Derived.Laws.BitsAllLaws
set_option linter.unusedSimpArgs false
set_option linter.unusedVariables false
namespace Go.Proofs.Ytoncbgjbkgdbaaa.Pure
open Go.RowKit Go.Proofs.Ytoncbgjbkgdbaaa.PFnExactMostInformed Go.Proofs.YtoncbgjbkgdbaaaW.PrintWords Go.Proofs.YtoncbgjbkgdbaaaW.PrintLast Go.Proofs.YtoncbgjbkgdbaaaW.PrintMore

theorem w64 {x : Int} (h0 : -9223372036854775808 ≤ x) (h1 : x ≤ 9223372036854775807) : wrap64 x = x := by unfold wrap64; omega
theorem up64 {i n : Nat} (h : i < n) (hn : n ≤ 4611686018427387904) : wrap64 ((i : Int) + 1) = ((i + 1 : Nat) : Int) := by rw [w64 (by omega) (by omega)]; omega
theorem rd_lt {xs : List Int} {i : Nat} (h : i < xs.length) : rd xs (i : Int) = xs[i] := by unfold rd; simp [List.getD_eq_getElem?_getD, h]
/-- An element of the law's own type, as the program's. -/
def cvCall (x : S56) : S54 := ⟨x.f0, x.f1⟩
theorem rdCall0 {xs : List S56} {i : Nat} (h : i < xs.length) : rd_T56 xs (i : Int) = xs[i] := by unfold rd_T56; simp [List.getD_eq_getElem?_getD, h]
theorem rdCall1 {xs : List S54} {i : Nat} (h : i < xs.length) : rd_T54 xs (i : Int) = xs[i] := by unfold rd_T54; simp [List.getD_eq_getElem?_getD, h]
theorem toCallS_l0 (a : List S56) (hn : a.length ≤ 4611686018427387904) : ∀ (d i k : Nat), i + d = a.length → d < k → laws_toCallS.l0 k a ((a.take i).map cvCall ++ List.replicate d z54) (i : Int) = some (a.map cvCall)
  | 0, i, k, hi, hk => by
    obtain ⟨k, rfl⟩ : ∃ q, k = q + 1 := ⟨k - 1, by omega⟩
    simp only [laws_toCallS.l0]
    rw [if_neg (by omega), List.take_of_length_le (by omega)]
    simp
  | d + 1, i, k, hi, hk => by
    obtain ⟨k, rfl⟩ : ∃ q, k = q + 1 := ⟨k - 1, by omega⟩
    have ih := toCallS_l0 a hn d (i + 1) k (by omega) (by omega)
    have ha : i < a.length := by omega
    simp only [laws_toCallS.l0, laws_toCall.f, Option.bind_some]
    rw [if_pos (by omega), if_pos (by omega), if_pos (by simp; omega), up64 ha hn, rdCall0 ha]
    have he : ((a.take i).map cvCall ++ List.replicate (d + 1) z54).set ((i : Nat) : Int).toNat (cvCall a[i]) = (a.take (i + 1)).map cvCall ++ List.replicate d z54 := by
      rw [List.set_append_right _ _ (by simp; omega), List.replicate_succ]
      have e : ((i : Nat) : Int).toNat - ((a.take i).map cvCall).length = 0 := by simp; omega
      rw [e, List.set_cons_zero, List.take_succ_eq_append_getElem ha]
      simp only [List.append_assoc, List.singleton_append, List.map_append, List.map_cons, List.map_nil]
    exact (congrArg (fun z => laws_toCallS.l0 k a z ((i + 1 : Nat) : Int)) he).trans ih
theorem toCallS_f (a : List S56) (hn : a.length ≤ 1048576) {k : Nat} (hk : a.length < k) : laws_toCallS.f k a = some (a.map cvCall) := by
  unfold laws_toCallS.f
  rw [if_pos (by omega), if_pos (by omega)]
  exact toCallS_l0 a (by omega) a.length 0 k (by omega) hk
theorem eqCallS_l0 (a : List S54) (hn : a.length ≤ 4611686018427387904) : ∀ (d i k : Nat), i + d = a.length → d < k → laws_eqCallS.l0 k a a (i : Int) = some true
  | 0, i, k, hi, hk => by
    obtain ⟨k, rfl⟩ : ∃ q, k = q + 1 := ⟨k - 1, by omega⟩
    simp only [laws_eqCallS.l0]
    rw [if_neg (by omega)]
  | d + 1, i, k, hi, hk => by
    obtain ⟨k, rfl⟩ : ∃ q, k = q + 1 := ⟨k - 1, by omega⟩
    have ih := eqCallS_l0 a hn d (i + 1) k (by omega) (by omega)
    have ha : i < a.length := by omega
    simp only [laws_eqCallS.l0, laws_eqCall.f]
    rw [if_pos (by omega), if_pos (by omega), if_pos (by omega), up64 ha hn]
    simpa using ih
theorem eqCallS_f (a : List S54) (hn : a.length ≤ 4611686018427387904) {k : Nat} (hk : a.length < k) : laws_eqCallS.f k a a = some true := by
  unfold laws_eqCallS.f
  rw [if_pos rfl]
  exact eqCallS_l0 a hn a.length 0 k (by omega) hk
theorem szCallS_f (a : List S56) (hn : a.length ≤ 9223372036854775807) : laws_szCallS.f a 1048576 = some (if a.length ≤ 1048576 then 1048576 - (a.length : Int) else -1) := by
  unfold laws_szCallS.f
  rw [w64 (by omega) (by omega)]
  by_cases h : a.length ≤ 1048576
  · rw [if_neg (by omega), if_pos h]
  · rw [if_pos (by omega), if_neg h]
theorem netIn (x lo hi : Int) : spec_l1In.f x lo hi = some (decide (lo ≤ x ∧ x ≤ hi)) := by
  unfold spec_l1In.f
  by_cases h : lo ≤ x
  · rw [if_pos h]; simp [h]
  · rw [if_neg h]; simp [h]
theorem netWithin (x lo hi : Int) : impl_within.f x lo hi = some (decide (lo ≤ x ∧ x ≤ hi)) := by
  unfold impl_within.f
  by_cases h : lo ≤ x
  · rw [if_pos h]; simp [h]
  · rw [if_neg h]; simp [h]
/-- A call of two of so many friends, the lower one first. -/
def isC (a : Int) (c : S54) : Bool := decide (0 ≤ c.f0) && (decide (c.f0 < c.f1) && decide (c.f1 < a))
/-- Does one call stand before another? -/
def ltC (c e : S54) : Bool := decide (c.f0 < e.f0) || (decide (c.f0 = e.f0) && decide (c.f1 < e.f1))
theorem isCall_f (a : Int) (c : S54) : impl_isCall.f a c.f0 c.f1 = some (isC a c) := by
  unfold impl_isCall.f isC
  by_cases h : c.f0 ≥ 0
  · by_cases h2 : c.f0 < c.f1
    · rw [if_pos h, if_pos h2]; simp [h, h2]
    · rw [if_pos h, if_neg h2]; simp [h2]
  · rw [if_neg h]; simp [h]
theorem caCall_f (a : Int) (h1 : 1 ≤ a) (h10 : a ≤ 10) (c : S54) : spec_caCall.f a c.f0 c.f1 = some (isC a c) := by
  unfold spec_caCall.f isC
  rw [netIn, w64 (x := a - 1) (by omega) (by omega)]
  simp only [Option.bind_some]
  by_cases h : 0 ≤ c.f0 ∧ c.f0 ≤ a - 1
  · rw [if_pos (decide_eq_true h), w64 (x := c.f0 + 1) (by omega) (by omega), netIn]
    simp only [Option.bind_some, Option.some.injEq]
    rw [Bool.eq_iff_iff]
    simp only [decide_eq_true_eq, Bool.and_eq_true]
    omega
  · rw [if_neg (by simp [h])]
    simp only [Option.some.injEq]
    rw [Bool.eq_iff_iff]
    simp only [decide_eq_true_eq, Bool.and_eq_true, Bool.false_eq_true, false_iff]
    omega
/-- What comparing two numbers answers. -/
def cmpI (x y : Int) : Int := if x < y then -1 else if x > y then 1 else 0
theorem compare_f (x y : Int) : cmp_Compare_int.f x y = some (cmpI x y) := by
  unfold cmp_Compare_int.f cmp_isNaN_int.f cmpI
  simp only [bne_self_eq_false, Option.bind_some, Bool.false_eq_true, if_false]
  split
  · rfl
  · split <;> rfl
theorem or2_f (x y : Int) {k : Nat} (hk : 4 < k) : cmp_Or_int.f k [x, y] = some (if x = 0 then y else x) := by
  obtain ⟨k, rfl⟩ : ∃ q, k = q + 3 := ⟨k - 3, by omega⟩
  have r0 : rd [x, y] 0 = x := rfl
  have r1 : rd [x, y] 1 = y := rfl
  have u0 : wrap64 (0 + 1) = 1 := w64 (by omega) (by omega)
  have u1 : wrap64 (1 + 1) = 2 := w64 (by omega) (by omega)
  unfold cmp_Or_int.f
  have e2 : cmp_Or_int.l0 (k + 1) 0 [x, y] 2 2 = some 0 := by
    simp only [cmp_Or_int.l0]; rw [if_neg (by omega)]
  have e1 : cmp_Or_int.l0 (k + 2) 0 [x, y] 2 1 = some y := by
    rw [cmp_Or_int.l0, if_pos (by omega), if_pos (by omega), if_pos (by simp), r1, u1]
    by_cases hy : y = 0
    · rw [if_pos hy, e2, hy]
    · rw [if_neg hy]
  show cmp_Or_int.l0 (k + 3) 0 [x, y] 2 0 = _
  rw [cmp_Or_int.l0, if_pos (by omega), if_pos (by omega), if_pos (by simp), r0, u0]
  by_cases hx : x = 0
  · rw [if_pos hx, e1, if_pos hx]
  · rw [if_neg hx, if_neg hx]
theorem compareCalls_f (c e : S54) {k : Nat} (hk : 4 < k) : ∃ v, impl_compareCalls.f k c.f0 c.f1 e.f0 e.f1 = some v ∧ (v ≥ 0 ↔ ltC c e = false) := by
  unfold impl_compareCalls.f
  simp only [compare_f, Option.bind_some, or2_f _ _ hk]
  refine ⟨_, rfl, ?_⟩
  unfold ltC cmpI
  by_cases h0 : c.f0 < e.f0
  · simp [h0]
  · by_cases h1 : c.f0 > e.f0
    · have h2 : ¬ c.f0 = e.f0 := by omega
      simp [h0, h1, h2]
    · have h2 : c.f0 = e.f0 := by omega
      by_cases h3 : c.f1 < e.f1
      · simp [h2, h3]
      · by_cases h4 : c.f1 > e.f1
        · simp [h2, h3, h4]
        · simp [h2, h3, h4]
/-- Is the call at this place a good one, and behind the one ahead of it? -/
def okP (a : Int) (l : List S54) (i : Nat) : Bool := isC a (rd_T54 l (i : Int)) && (decide (i = 0) || ltC (rd_T54 l ((i : Int) - 1)) (rd_T54 l (i : Int)))
def okFrom (a : Int) (l : List S54) : Nat → Nat → Bool
  | _, 0 => true
  | i, d + 1 => okP a l i && okFrom a l (i + 1) d
theorem areFriends_f (a : Int) : impl_areFriends.f a = some (decide (1 ≤ a ∧ a ≤ 10)) := by
  unfold impl_areFriends.f
  rw [netWithin]; rfl
theorem arePairs_l0 (a : Int) (l : List S54) (hn : l.length ≤ 1048576) : ∀ (d i k : Nat), i + d = l.length → d + 10 < k → impl_ArePairs.l0 k a l l (l.length : Int) (i : Int) = some (okFrom a l i d && decide (1 ≤ a ∧ a ≤ 10))
  | 0, i, k, hi, hk => by
    obtain ⟨k, rfl⟩ : ∃ q, k = q + 1 := ⟨k - 1, by omega⟩
    simp only [impl_ArePairs.l0]
    rw [if_neg (by omega), areFriends_f]
    rfl
  | d + 1, i, k, hi, hk => by
    obtain ⟨k, rfl⟩ : ∃ q, k = q + 1 := ⟨k - 1, by omega⟩
    have ih := arePairs_l0 a l hn d (i + 1) k (by omega) (by omega)
    have ha : i < l.length := by omega
    simp only [impl_ArePairs.l0]
    rw [if_pos (by omega), if_pos (by omega), if_pos (by omega), isCall_f, up64 ha (by omega), ih, w64 (x := (i : Int) - 1) (by omega) (by omega)]
    simp only [Option.bind_some, okFrom, okP]
    by_cases hc : isC a (rd_T54 l (i : Int)) = true
    · rw [if_pos hc, hc]
      by_cases h0 : i = 0
      · rw [if_neg (by omega)]; simp [h0]
      · rw [if_pos (by omega), if_pos (by omega), if_pos (by omega)]
        obtain ⟨v, e1, e2⟩ := compareCalls_f (rd_T54 l ((i : Int) - 1)) (rd_T54 l (i : Int)) (k := k) (by omega)
        rw [e1]
        simp only [Option.bind_some]
        by_cases hv : v ≥ 0
        · rw [if_pos hv, e2.1 hv]; simp [h0]
        · rw [if_neg hv]
          have : ltC (rd_T54 l ((i : Int) - 1)) (rd_T54 l (i : Int)) = true := by
            cases h : ltC (rd_T54 l ((i : Int) - 1)) (rd_T54 l (i : Int))
            · exact absurd (e2.2 h) hv
            · rfl
          rw [this]; simp
    · rw [if_neg hc]
      rw [Bool.not_eq_true] at hc
      rw [hc]; rfl
theorem okFrom_at {a : Int} {l : List S54} : ∀ {d i j : Nat}, okFrom a l i d = true → i ≤ j → j < i + d → okP a l j = true
  | 0, i, j, h, h1, h2 => by omega
  | d + 1, i, j, h, h1, h2 => by
    simp only [okFrom, Bool.and_eq_true] at h
    by_cases e : j = i
    · rw [e]; exact h.1
    · exact okFrom_at h.2 (by omega) (by omega)
/-- How many calls stand ahead of those of one friend. -/
def Tn (n : Nat) : Nat → Nat
  | 0 => 0
  | x + 1 => Tn n x + (n - 1 - x)
theorem Tn_mono (n : Nat) : ∀ {x y : Nat}, x ≤ y → Tn n x ≤ Tn n y := by
  intro x y h
  induction h with
  | refl => exact Nat.le_refl _
  | step _ ih => exact Nat.le_trans ih (by simp [Tn])
theorem Tn_all : ∀ n ∈ List.range 11, Tn n n = n * (n - 1) / 2 := by decide
theorem len_bound (a : Int) (h1 : 1 ≤ a) (h10 : a ≤ 10) (l : List S54) (h : okFrom a l 0 l.length = true) : (l.length : Int) ≤ (Int.tdiv (a * (a - 1)) 2) := by
  obtain ⟨n, rfl⟩ := Int.eq_ofNat_of_zero_le (show 0 ≤ a by omega)
  have key : ∀ j : Nat, j < l.length → j ≤ Tn n (rd_T54 l (j : Int)).f0.toNat + ((rd_T54 l (j : Int)).f1.toNat - (rd_T54 l (j : Int)).f0.toNat - 1) := by
    intro j
    induction j with
    | zero => intro _; omega
    | succ j ih =>
      intro hj
      have ih := ih (by omega)
      have o1 := okFrom_at h (Nat.zero_le j) (by omega)
      have o2 := okFrom_at h (Nat.zero_le (j + 1)) (by omega)
      simp only [okP, isC, ltC, Bool.and_eq_true, Bool.or_eq_true, decide_eq_true_eq] at o1 o2
      rw [show (((j + 1 : Nat) : Int) - 1) = (j : Int) by omega] at o2
      generalize rd_T54 l ((j : Nat) : Int) = c at *
      generalize rd_T54 l ((j + 1 : Nat) : Int) = e at *
      obtain ⟨⟨c0, c1, c2⟩, _⟩ := o1
      obtain ⟨⟨e0, e1, e2⟩, o3⟩ := o2
      rcases o3 with o3 | o3 | ⟨o3, o4⟩
      · omega
      · have m := Tn_mono n (x := c.f0.toNat + 1) (y := e.f0.toNat) (by omega)
        simp only [Tn] at m
        omega
      · have : c.f0.toNat = e.f0.toNat := by omega
        rw [← this]
        omega
  have hn := Tn_all n (by rw [List.mem_range]; omega)
  have hb : ((n * (n - 1) / 2 : Nat) : Int) = Int.tdiv ((n : Int) * ((n : Int) - 1)) 2 := by
    have hn' : n ∈ List.range 11 := by rw [List.mem_range]; omega
    have hall : ∀ n ∈ List.range 11, 1 ≤ n → ((n * (n - 1) / 2 : Nat) : Int) = Int.tdiv ((n : Int) * ((n : Int) - 1)) 2 := by decide
    exact hall n hn' (by omega)
  rw [← hb]
  by_cases hl : l.length = 0
  · omega
  · have hk := key (l.length - 1) (by omega)
    have o := okFrom_at h (Nat.zero_le (l.length - 1)) (by omega)
    simp only [okP, isC, Bool.and_eq_true, decide_eq_true_eq] at o
    generalize rd_T54 l ((l.length - 1 : Nat) : Int) = c at *
    obtain ⟨⟨c0, c1, c2⟩, _⟩ := o
    have m := Tn_mono n (x := c.f0.toNat + 1) (y := n) (by omega)
    simp only [Tn] at m
    omega
/-- Are they pairs? -/
def areP (a : Int) (l : List S54) : Bool := okFrom a l 0 l.length && decide (1 ≤ a ∧ a ≤ 10)
theorem arePairs_f (a : Int) (l : List S54) (hn : l.length ≤ 1048576) {k : Nat} (hk : 1048600 < k) : impl_ArePairs.f k a l = some (areP a l) :=
  arePairs_l0 a l hn l.length 0 k (by omega) (by omega)
theorem caFriends_f (a : Int) : spec_caFriends.f a = some (decide (1 ≤ a ∧ a ≤ 10)) := by
  unfold spec_caFriends.f
  rw [netIn]; rfl
theorem roLess_f (c e : S54) : spec_roLess.f c.f0 c.f1 e.f0 e.f1 = some (ltC c e) := by
  unfold spec_roLess.f ltC
  by_cases h : c.f0 < e.f0
  · rw [if_pos h]; simp [h]
  · by_cases h2 : c.f0 = e.f0
    · rw [if_neg h, if_pos h2]; simp [h2]
    · rw [if_neg h, if_neg h2]; simp [h, h2]
/-- Are all from here on good? -/
def gFrom (a : Int) (l : List S54) : Nat → Nat → Bool
  | _, 0 => true
  | i, d + 1 => isC a (rd_T54 l (i : Int)) && gFrom a l (i + 1) d
/-- Is each from here on behind the one ahead of it? -/
def chFrom (l : List S54) : Nat → Nat → Bool
  | _, 0 => true
  | i, d + 1 => ltC (rd_T54 l ((i : Int) - 1)) (rd_T54 l (i : Int)) && chFrom l (i + 1) d
theorem ok_split (a : Int) (l : List S54) : ∀ (d i : Nat), 1 ≤ i → okFrom a l i d = (gFrom a l i d && chFrom l i d)
  | 0, i, hi => rfl
  | d + 1, i, hi => by
    simp only [okFrom, gFrom, chFrom, okP, ok_split a l d (i + 1) (by omega), show decide (i = 0) = false from decide_eq_false (by omega), Bool.false_or]
    cases isC a (rd_T54 l (i : Int)) <;> cases ltC (rd_T54 l ((i : Int) - 1)) (rd_T54 l (i : Int)) <;> cases gFrom a l (i + 1) d <;> simp
theorem ok_split0 (a : Int) (l : List S54) : okFrom a l 0 l.length = (gFrom a l 0 l.length && chFrom l 1 (l.length - 1)) := by
  cases h : l.length with
  | zero => rfl
  | succ d =>
    simp only [okFrom, gFrom, okP, ok_split a l d 1 (by omega), decide_true, Bool.true_or, Bool.and_true, Nat.zero_add, Nat.add_sub_cancel, Bool.and_assoc]
theorem caGood_l0 (a : Int) (h1 : 1 ≤ a) (h10 : a ≤ 10) (l : List S54) (hn : l.length ≤ 1048576) : ∀ (d i k : Nat), i + d = l.length → d < k → spec_caGood.l0 k a l (l.length : Int) (i : Int) = some (gFrom a l i d)
  | 0, i, k, hi, hk => by
    obtain ⟨k, rfl⟩ : ∃ q, k = q + 1 := ⟨k - 1, by omega⟩
    simp only [spec_caGood.l0]
    rw [if_neg (by omega)]
    rfl
  | d + 1, i, k, hi, hk => by
    obtain ⟨k, rfl⟩ : ∃ q, k = q + 1 := ⟨k - 1, by omega⟩
    have ih := caGood_l0 a h1 h10 l hn d (i + 1) k (by omega) (by omega)
    have ha : i < l.length := by omega
    simp only [spec_caGood.l0]
    rw [if_pos (by omega), if_pos (by omega), if_pos (by omega), caCall_f a h1 h10, up64 ha (by omega), ih]
    simp only [Option.bind_some, gFrom]
    cases isC a (rd_T54 l (i : Int)) <;> simp
theorem roPairs_l0 (l : List S54) (hn : l.length ≤ 1048576) : ∀ (d i k : Nat), 1 ≤ i → (i + d = l.length ∨ d = 0 ∧ l.length ≤ i) → d < k → spec_roPairs.l0 k l (i : Int) = some (chFrom l i d)
  | 0, i, k, h1, hi, hk => by
    obtain ⟨k, rfl⟩ : ∃ q, k = q + 1 := ⟨k - 1, by omega⟩
    simp only [spec_roPairs.l0]
    rw [if_neg (by omega)]
    rfl
  | d + 1, i, k, h1, hi, hk => by
    obtain ⟨k, rfl⟩ : ∃ q, k = q + 1 := ⟨k - 1, by omega⟩
    have ih := roPairs_l0 l hn d (i + 1) k (by omega) (by omega) (by omega)
    have ha : i < l.length := by omega
    simp only [spec_roPairs.l0]
    rw [w64 (x := (i : Int) - 1) (by omega) (by omega), if_pos (by omega), if_pos (by omega), if_pos (by omega), if_pos (by omega), roLess_f, up64 ha (by omega), ih]
    simp only [Option.bind_some, chFrom]
    cases ltC (rd_T54 l ((i : Int) - 1)) (rd_T54 l (i : Int)) <;> simp
theorem roPairs_f (a : Int) (l : List S54) (hn : l.length ≤ 1048576) {k : Nat} (hk : 1048600 < k) : spec_roPairs.f k a l = some (areP a l) := by
  obtain ⟨k, rfl⟩ : ∃ q, k = q + 1 := ⟨k - 1, by omega⟩
  unfold spec_roPairs.f spec_caGood.f areP
  rw [caFriends_f]
  simp only [Option.bind_some]
  by_cases h : 1 ≤ a ∧ a ≤ 10
  · rw [if_pos (decide_eq_true h)]
    simp only [spec_caGood.j0]
    by_cases hl : (l.length : Int) > 60
    · rw [if_pos (decide_eq_true hl)]
      have : okFrom a l 0 l.length = false := by
        cases ho : okFrom a l 0 l.length
        · rfl
        · have h1 := len_bound a h.1 h.2 l ho
          have hm : Int.tdiv (a * (a - 1)) 2 ≤ 45 := by
            have : a = 1 ∨ a = 2 ∨ a = 3 ∨ a = 4 ∨ a = 5 ∨ a = 6 ∨ a = 7 ∨ a = 8 ∨ a = 9 ∨ a = 10 := by omega
            rcases this with rfl | rfl | rfl | rfl | rfl | rfl | rfl | rfl | rfl | rfl <;> decide
          omega
      rw [this]; rfl
    · rw [if_neg (by simpa using hl)]
      have e1 := caGood_l0 a h.1 h.2 l hn l.length 0 k (by omega) (by omega)
      have e2 := roPairs_l0 l hn (l.length - 1) 1 (k + 1) (by omega) (by omega) (by omega)
      rw [show (0 : Int) = ((0 : Nat) : Int) from rfl, e1, ok_split0, decide_eq_true h]
      simp only [Option.bind_some]
      rw [show (1 : Int) = ((1 : Nat) : Int) from rfl, e2]
      cases gFrom a l 0 l.length <;> simp
  · rw [if_neg (by simpa using h)]
    simp only [spec_caGood.j0, if_true]
    rw [decide_eq_false h]; simp
theorem areP_good {a : Int} {l : List S54} (h : areP a l = true) : (1 ≤ a ∧ a ≤ 10) ∧ (∀ c ∈ l, 0 ≤ c.f0 ∧ c.f0 < c.f1 ∧ c.f1 < a) := by
  unfold areP at h
  rw [Bool.and_eq_true] at h
  refine ⟨of_decide_eq_true h.2, fun c hc => ?_⟩
  obtain ⟨i, hi, rfl⟩ := List.mem_iff_getElem.1 hc
  have := okFrom_at h.1 (Nat.zero_le i) (by omega)
  rw [okP, rdCall1 hi] at this
  simp only [isC, Bool.and_eq_true, decide_eq_true_eq] at this
  exact this.1
theorem areP_len {a : Int} {l : List S54} (h : areP a l = true) (h8 : a ≤ 8) : l.length ≤ 28 := by
  unfold areP at h
  rw [Bool.and_eq_true] at h
  have h2 := of_decide_eq_true h.2
  have := len_bound a h2.1 h2.2 l h.1
  have hm : Int.tdiv (a * (a - 1)) 2 ≤ 28 := by
    have : a = 1 ∨ a = 2 ∨ a = 3 ∨ a = 4 ∨ a = 5 ∨ a = 6 ∨ a = 7 ∨ a = 8 := by omega
    rcases this with rfl | rfl | rfl | rfl | rfl | rfl | rfl | rfl <;> decide
  omega
theorem isSpread_f (a : Int) (l : List S54) (hn : l.length ≤ 1048576) {k : Nat} (hk : 1048600 < k) : impl_isSpread.f k a l = some (areP a l && decide (a ≤ 8)) := by
  unfold impl_isSpread.f
  by_cases h : a ≤ 8
  · rw [if_pos h, arePairs_f a l hn hk, decide_eq_true h]; simp
  · rw [if_neg h, decide_eq_false h]; simp
theorem wraps_i64' (n : Int) (h0 : 0 ≤ n) (h1 : n < 2 ^ 16) : IntKind.i64.wrap n = n := by
  rw [IntKind.wrap_i64]; simp at h1; omega
theorem wraps_u16' (n : Int) (h0 : 0 ≤ n) (h1 : n < 2 ^ 16) : IntKind.u16.wrap n = n := by
  rw [IntKind.wrap_u16]; simp at h1; omega
theorem or_i64 (a b : Nat) (ha : a < 65536) (hb : b < 65536) : Go.bits .or .i64 a b = ((a ||| b : Nat) : Int) := (bits_nat .i64 16 (by decide) wraps_i64' a b ha hb).2
theorem or_u16 (a b : Nat) (ha : a < 65536) (hb : b < 65536) : Go.bits .or .u16 a b = ((a ||| b : Nat) : Int) := (bits_nat .u16 16 (by decide) wraps_u16' a b ha hb).2
theorem and_i64 (a b : Nat) (ha : a < 65536) (hb : b < 65536) : Go.bits .and .i64 a b = ((a &&& b : Nat) : Int) := (bits_nat .i64 16 (by decide) wraps_i64' a b ha hb).1
theorem and_u16 (a b : Nat) (ha : a < 65536) (hb : b < 65536) : Go.bits .and .u16 a b = ((a &&& b : Nat) : Int) := (bits_nat .u16 16 (by decide) wraps_u16' a b ha hb).1
theorem pow_lt16 (y : Nat) (hy : y < 16) : (2 ^ y : Nat) < 65536 := Nat.pow_lt_pow_right (by decide) hy
theorem shl_i64 (y : Nat) (hy : y < 16) : shl .i64 1 (y : Int) = ((2 ^ y : Nat) : Int) := by
  unfold shl
  rw [show (y : Int).toNat = y from rfl, Nat.min_eq_left (by simp only [IntKind.bits]; omega), Int.one_mul, wraps_i64']
  · simp
  · exact Int.le_of_lt (Int.pow_pos (by decide))
  · exact_mod_cast Nat.pow_lt_pow_right (by decide) hy
theorem shl_u16 (y : Nat) (hy : y < 16) : shl .u16 1 (y : Int) = ((2 ^ y : Nat) : Int) := by
  unfold shl
  rw [show (y : Int).toNat = y from rfl, Nat.min_eq_left (by simp only [IntKind.bits]; omega), Int.one_mul, wraps_u16']
  · simp
  · exact Int.le_of_lt (Int.pow_pos (by decide))
  · exact_mod_cast Nat.pow_lt_pow_right (by decide) hy
theorem rshr_u16 (s i : Nat) (hi : i < 16) : shr .u16 (s : Int) (i : Int) = ((s / 2 ^ i : Nat) : Int) := by
  unfold shr
  rw [show (i : Int).toNat = i from rfl, Nat.min_eq_left (by simp only [IntKind.bits]; omega)]
  simp
theorem rshr_i64 (s i : Nat) (hi : i < 16) : shr .i64 (s : Int) (i : Int) = ((s / 2 ^ i : Nat) : Int) := by
  unfold shr
  rw [show (i : Int).toNat = i from rfl, Nat.min_eq_left (by simp only [IntKind.bits]; omega)]
  simp
theorem bitv_u16 (s i : Nat) (hs : s < 65536) (hi : i < 16) : Go.bits .and .u16 (shr .u16 (s : Int) (i : Int)) 1 = ((s / 2 ^ i % 2 : Nat) : Int) := by
  have hd : s / 2 ^ i < 65536 := Nat.lt_of_le_of_lt (Nat.div_le_self _ _) hs
  rw [rshr_u16 s i hi, show (1 : Int) = ((1 : Nat) : Int) from rfl, and_u16 _ _ hd (by omega), Nat.and_one_is_mod]
theorem bitv_i64 (s i : Nat) (hs : s < 65536) (hi : i < 16) : Go.bits .and .i64 (shr .i64 (s : Int) (i : Int)) 1 = ((s / 2 ^ i % 2 : Nat) : Int) := by
  have hd : s / 2 ^ i < 65536 := Nat.lt_of_le_of_lt (Nat.div_le_self _ _) hs
  rw [rshr_i64 s i hi, show (1 : Int) = ((1 : Nat) : Int) from rfl, and_i64 _ _ hd (by omega), Nat.and_one_is_mod]
/-- Who makes a call. -/
def ownN (c : S54) : Nat := 2 ^ c.f0.toNat ||| 2 ^ c.f1.toNat
/-- A call of two of eight friends. -/
def gC (c : S54) : Prop := 0 ≤ c.f0 ∧ c.f0 < c.f1 ∧ c.f1 < 8
/-- Does one of the two know, and the other not? -/
def selN (s : Nat) (c : S54) : Bool := decide (s / 2 ^ c.f0.toNat % 2 ≠ s / 2 ^ c.f1.toNat % 2)
/-- All rounds of these calls, but for the empty one. -/
def TT : List S54 → Nat → List (List S54)
  | [], _ => []
  | c :: cs, u => (if u &&& ownN c = 0 then [c] :: (TT cs (u ||| ownN c)).map (c :: ·) else []) ++ TT cs u
/-- Who knows behind a round. -/
def EE (s : Nat) : List S54 → Nat
  | [] => s
  | c :: r => EE s r ||| ownN c
theorem pow_lt256 {y : Nat} (hy : y < 8) : (2 ^ y : Nat) < 2 ^ 8 := Nat.pow_lt_pow_right (by decide) hy
theorem ownN_lt {c : S54} (h : gC c) : ownN c < 2 ^ 8 := by
  obtain ⟨h0, h1, h2⟩ := h
  exact Nat.or_lt_two_pow (pow_lt256 (by omega)) (pow_lt256 (by omega))
theorem EE_lt {s : Nat} (hs : s < 2 ^ 8) : ∀ (r : List S54), (∀ c ∈ r, gC c) → EE s r < 2 ^ 8
  | [], _ => hs
  | c :: r, h => Nat.or_lt_two_pow (EE_lt hs r (fun x hx => h x (by simp [hx]))) (ownN_lt (h c (by simp)))
theorem shl0_u16 {c : S54} (h : gC c) : shl .u16 1 c.f0 = ((2 ^ c.f0.toNat : Nat) : Int) := by
  obtain ⟨h0, h1, h2⟩ := h
  rw [← shl_u16 c.f0.toNat (by omega), Int.toNat_of_nonneg h0]
theorem shl1_u16 {c : S54} (h : gC c) : shl .u16 1 c.f1 = ((2 ^ c.f1.toNat : Nat) : Int) := by
  obtain ⟨h0, h1, h2⟩ := h
  rw [← shl_u16 c.f1.toNat (by omega), Int.toNat_of_nonneg (by omega)]
theorem shl0_i64 {c : S54} (h : gC c) : shl .i64 1 c.f0 = ((2 ^ c.f0.toNat : Nat) : Int) := by
  obtain ⟨h0, h1, h2⟩ := h
  rw [← shl_i64 c.f0.toNat (by omega), Int.toNat_of_nonneg h0]
theorem shl1_i64 {c : S54} (h : gC c) : shl .i64 1 c.f1 = ((2 ^ c.f1.toNat : Nat) : Int) := by
  obtain ⟨h0, h1, h2⟩ := h
  rw [← shl_i64 c.f1.toNat (by omega), Int.toNat_of_nonneg (by omega)]
theorem own_eq {c : S54} (h : gC c) : impl_matchings.own c = ((ownN c : Nat) : Int) := by
  unfold impl_matchings.own ownN
  obtain ⟨h0, h1, h2⟩ := h
  have a0 := pow_lt256 (y := c.f0.toNat) (by omega)
  have a1 := pow_lt256 (y := c.f1.toNat) (by omega)
  rw [shl0_u16 ⟨h0, h1, h2⟩, shl1_u16 ⟨h0, h1, h2⟩, or_u16 _ _ (by omega) (by omega)]
theorem addT_TT : ∀ (cs pre : List S54) (u : Nat), (∀ c ∈ cs, gC c) → u < 2 ^ 8 → impl_matchings.addT cs pre (u : Int) = (TT cs u).map (pre ++ ·)
  | [], pre, u, _, _ => rfl
  | c :: cs, pre, u, h, hu => by
    have hc := h c (by simp)
    have ho := ownN_lt hc
    have h' : ∀ x ∈ cs, gC x := fun x hx => h x (by simp [hx])
    have h1 := addT_TT cs (pre ++ [c]) (u ||| ownN c) h' (Nat.or_lt_two_pow hu ho)
    have h2 := addT_TT cs pre u h' hu
    simp only [impl_matchings.addT, TT]
    rw [own_eq hc, and_u16 _ _ (by omega) (by omega), or_u16 _ _ (by omega) (by omega), h1, h2, List.map_append]
    by_cases e : u &&& ownN c = 0
    · rw [if_pos e, if_pos (by rw [e]; rfl), List.map_cons, List.map_map]
      congr 2
      refine List.map_congr_left (fun r _ => ?_)
      simp
    · rw [if_neg e, if_neg (by omega)]
      rfl
theorem del_eq {s : Nat} (hs : s < 2 ^ 8) {c : S54} (h : gC c) : (!impl_spread_rounds.del (s : Int) c) = selN s c := by
  unfold impl_spread_rounds.del selN
  obtain ⟨h0, h1, h2⟩ := h
  have e0 : c.f0 = (c.f0.toNat : Int) := (Int.toNat_of_nonneg h0).symm
  have e1 : c.f1 = (c.f1.toNat : Int) := (Int.toNat_of_nonneg (by omega)).symm
  have b0 := bitv_u16 s c.f0.toNat (by omega) (by omega)
  have b1 := bitv_u16 s c.f1.toNat (by omega) (by omega)
  rw [← e0] at b0
  rw [← e1] at b1
  rw [b0, b1]
  by_cases e : s / 2 ^ c.f0.toNat % 2 = s / 2 ^ c.f1.toNat % 2
  · rw [e]; simp
  · rw [decide_eq_true e, beq_eq_false_iff_ne.mpr (by omega)]
    rfl
theorem rounds_TT {s : Nat} (hs : s < 2 ^ 8) (l : List S54) (h : ∀ c ∈ l, gC c) : impl_spread_rounds.rounds (s : Int) l = [] :: TT (l.filter (selN s)) 0 := by
  unfold impl_spread_rounds.rounds impl_matchings.all
  have e : (l.filter fun x => !impl_spread_rounds.del (s : Int) x) = l.filter (selN s) := List.filter_congr (fun c hc => del_eq hs (h c hc))
  rw [e]
  have := addT_TT (l.filter (selN s)) [] 0 (fun c hc => h c ((List.mem_filter.1 hc).1)) (by decide)
  rw [show (0 : Int) = ((0 : Nat) : Int) from rfl, this]
  simp
theorem TT_mem : ∀ (cs : List S54) (u : Nat) (r : List S54), r ∈ TT cs u → r ≠ [] ∧ r.length ≤ cs.length ∧ ∀ c ∈ r, c ∈ cs
  | [], u, r, h => by simp [TT] at h
  | c :: cs, u, r, h => by
    simp only [TT, List.mem_append] at h
    rcases h with h | h
    · by_cases e : u &&& ownN c = 0
      · rw [if_pos e, List.mem_cons, List.mem_map] at h
        rcases h with rfl | ⟨q, hq, rfl⟩
        · simp
        · have ih := TT_mem cs _ q hq
          refine ⟨by simp, by have := ih.2.1; simp; omega, fun x hx => ?_⟩
          rcases List.mem_cons.1 hx with rfl | hx
          · simp
          · simp [ih.2.2 x hx]
      · rw [if_neg e] at h; cases h
    · have ih := TT_mem cs u r h
      exact ⟨ih.1, by have := ih.2.1; simp; omega, fun x hx => by simp [ih.2.2 x hx]⟩
theorem TT_len : ∀ (cs : List S54) (u : Nat), (TT cs u).length + 1 ≤ 2 ^ cs.length
  | [], u => by simp [TT]
  | c :: cs, u => by
    have h1 := TT_len cs (u ||| ownN c)
    have h2 := TT_len cs u
    simp only [TT, List.length_append, List.length_cons, Nat.pow_succ]
    split <;> simp <;> omega
theorem rounds_len (l : List S54) (hl : l.length ≤ 28) (h : ∀ c ∈ l, gC c) (set : Int) : (impl_spread_rounds.rounds set l).length ≤ 1000000000 := by
  have key : ∀ (cs pre : List S54) (u : Int), (impl_matchings.addT cs pre u).length + 1 ≤ 2 ^ cs.length := by
    intro cs
    induction cs with
    | nil => intro pre u; simp [impl_matchings.addT]
    | cons c cs ih =>
      intro pre u
      have h1 := ih (pre ++ [c]) (Go.bits .or .u16 u (impl_matchings.own c))
      have h2 := ih pre u
      simp only [impl_matchings.addT, List.length_append, List.length_cons, Nat.pow_succ]
      split <;> simp <;> omega
  unfold impl_spread_rounds.rounds impl_matchings.all
  have h1 := key (l.filter fun x => !impl_spread_rounds.del set x) [] 0
  have h2 : (l.filter fun x => !impl_spread_rounds.del set x).length ≤ 28 := Nat.le_trans (List.length_filter_le _ _) hl
  have h3 : 2 ^ (l.filter fun x => !impl_spread_rounds.del set x).length ≤ 2 ^ 28 := Nat.pow_le_pow_right (by decide) h2
  rw [List.length_cons]
  omega
theorem EE_or (s t : Nat) : ∀ r : List S54, EE (s ||| t) r = EE s r ||| t
  | [] => rfl
  | c :: r => by
    simp only [EE, EE_or s t r]
    rw [Nat.or_assoc, Nat.or_comm t, ← Nat.or_assoc]
theorem bh_EE : ∀ (r : List S54) (s : Nat), s < 2 ^ 8 → (∀ c ∈ r, gC c) → impl_MostInformed.bh (s : Int) r = ((EE s r : Nat) : Int)
  | [], s, _, _ => rfl
  | c :: r, s, hs, h => by
    have hc := h c (by simp)
    have ho := ownN_lt hc
    have ih := bh_EE r (s ||| ownN c) (Nat.or_lt_two_pow hs ho) (fun x hx => h x (by simp [hx]))
    unfold impl_MostInformed.bh at ih ⊢
    rw [List.foldl_cons, own_eq hc, or_u16 _ _ (by omega) (by omega), ih, EE_or]
    rfl
theorem le_EE (s : Nat) : ∀ r : List S54, s ≤ EE s r
  | [] => Nat.le_refl _
  | c :: r => Nat.le_trans (le_EE s r) Nat.left_le_or
theorem own_adds {s : Nat} {c : S54} (h : selN s c = true) : s < s ||| ownN c := by
  refine Nat.lt_of_le_of_ne Nat.left_le_or (fun e => ?_)
  have h2 := of_decide_eq_true h
  have t0 := congrArg (fun n => n.testBit c.f0.toNat) e
  have t1 := congrArg (fun n => n.testBit c.f1.toNat) e
  simp only [ownN, Nat.testBit_or, Nat.testBit_two_pow_self, Bool.true_or, Bool.or_true] at t0 t1
  simp only [Nat.testBit_eq_decide_div_mod_eq, decide_eq_true_eq] at t0 t1
  omega
theorem EE_lt_of {s : Nat} {r : List S54} (hr : r ≠ []) (h : ∀ c ∈ r, selN s c = true) : s < EE s r := by
  cases r with
  | nil => exact absurd rfl hr
  | cons c r =>
    have h1 := own_adds (h c (by simp))
    have h2 : s ||| ownN c ≤ EE s (c :: r) := by
      have : EE s (c :: r) = EE (s ||| ownN c) r := by rw [EE_or]; rfl
      rw [this]
      exact le_EE _ _
    omega
theorem rdL3 {xs : List (List S54)} {i : Nat} (h : i < xs.length) : rd_L3 xs (i : Int) = xs[i] := by unfold rd_L3; simp [List.getD_eq_getElem?_getD, h]
theorem free_iff (u : Nat) (c : S54) : u &&& ownN c = 0 ↔ u / 2 ^ c.f0.toNat % 2 = 0 ∧ u / 2 ^ c.f1.toNat % 2 = 0 := by
  constructor
  · intro h
    have t0 := congrArg (fun n => n.testBit c.f0.toNat) h
    have t1 := congrArg (fun n => n.testBit c.f1.toNat) h
    simp only [ownN, Nat.testBit_and, Nat.testBit_or, Nat.testBit_two_pow_self, Bool.true_or, Bool.or_true, Bool.and_true, Nat.zero_testBit] at t0 t1
    simp only [Nat.testBit_eq_decide_div_mod_eq, decide_eq_false_iff_not] at t0 t1
    omega
  · rintro ⟨h0, h1⟩
    refine Nat.eq_of_testBit_eq (fun i => ?_)
    simp only [ownN, Nat.testBit_and, Nat.testBit_or, Nat.zero_testBit, Nat.testBit_two_pow]
    by_cases e0 : c.f0.toNat = i
    · subst e0
      have : u.testBit c.f0.toNat = false := by rw [Nat.testBit_eq_decide_div_mod_eq, decide_eq_false_iff_not]; omega
      simp [this]
    · by_cases e1 : c.f1.toNat = i
      · subst e1
        have : u.testBit c.f1.toNat = false := by rw [Nat.testBit_eq_decide_div_mod_eq, decide_eq_false_iff_not]; omega
        simp [this]
      · simp [e0, e1]
/-- The ends of rounds. -/
def ends (s : Nat) (rs : List (List S54)) : List Int := rs.map (fun r => ((EE s r : Nat) : Int))
/-- Rows of rounds, and their ends, behind those that were. -/
theorem steps_l1 (l : List S54) (s u : Nat) (c : S54) (hc : gC c) (i : Nat) (rows : List (List S54)) (R : List (List S54) × List Int) (hs : s < 2 ^ 8) (hrg : ∀ r ∈ rows, ∀ x ∈ r, gC x) (hrl : ∀ r ∈ rows, r.length ≤ 28) (hrn : rows.length ≤ 2 ^ 28) :
    ∀ (d j : Nat) (acc : List (List S54)) (accE : List Int), j + d = rows.length → acc.length + d ≤ 2 ^ 28 → accE.length + d ≤ 2 ^ 28 →
      (∃ K, ∀ k, K ≤ k → spec_roSteps.l0 k l (u : Int) (s : Int) (acc ++ (rows.drop j).map (c :: ·)) (accE ++ ends s ((rows.drop j).map (c :: ·))) (wrap64 ((i : Int) + 1)) = some R) →
      ∃ K, ∀ k, K ≤ k → spec_roSteps.l1 k l (u : Int) (s : Int) acc accE (i : Int) (ends s rows) rows (rows.length : Int) (j : Int) c.f0 c.f1 = some R
  | 0, j, acc, accE, hj, ha, hae, ⟨K, h⟩ => by
    refine ⟨K + 1, fun k hk => ?_⟩
    obtain ⟨k, rfl⟩ : ∃ q, k = q + 1 := ⟨k - 1, by omega⟩
    have h := h k (by omega)
    rw [List.drop_eq_nil_of_le (by omega)] at h
    simp only [ends, List.map_nil, List.append_nil] at h
    simp only [spec_roSteps.l1]
    rw [if_neg (by omega)]
    exact h
  | d + 1, j, acc, accE, hj, ha, hae, h => by
    have hjl : j < rows.length := by omega
    have hrow := rows[j]
    have e1 : rows.drop j = rows[j] :: rows.drop (j + 1) := List.drop_eq_getElem_cons hjl
    rw [e1] at h
    simp only [ends, List.map_cons, ← List.singleton_append (l := List.map (fun x => c :: x) (List.drop (j + 1) rows))] at h
    obtain ⟨K, ih⟩ := steps_l1 l s u c hc i rows R hs hrg hrl hrn d (j + 1) (acc ++ [c :: rows[j]]) (accE ++ [((EE s (c :: rows[j]) : Nat) : Int)]) (by omega) (by simp; omega) (by simp; omega) (by
      obtain ⟨K, h⟩ := h
      refine ⟨K, fun k hk => ?_⟩
      have h := h k hk
      simp only [ends, List.append_assoc, List.singleton_append, List.cons_append, List.nil_append, List.map_cons] at h ⊢
      exact h)
    refine ⟨K + 1, fun k hk => ?_⟩
    obtain ⟨k, rfl⟩ : ∃ q, k = q + 1 := ⟨k - 1, by omega⟩
    have hel := EE_lt hs rows[j] (hrg _ (List.getElem_mem hjl))
    have hoc := ownN_lt hc
    have hp0 := pow_lt256 (y := c.f0.toNat) (by have := hc; unfold gC at this; omega)
    have hp1 := pow_lt256 (y := c.f1.toNat) (by have := hc; unfold gC at this; omega)
    have hc0 : 0 ≤ c.f0 := hc.1
    have hc1 : 0 ≤ c.f1 := by have := hc.1; have := hc.2.1; omega
    have hlen : (ends s rows).length = rows.length := by simp [ends]
    have hre : rd (ends s rows) (j : Int) = ((EE s rows[j] : Nat) : Int) := by
      rw [rd_lt (by rw [hlen]; exact hjl)]
      simp [ends]
    have hrl' := hrl _ (List.getElem_mem hjl)
    simp only [spec_roSteps.l1, Option.bind_some]
    rw [if_pos (by omega), if_pos (by omega), if_pos (by omega), rdL3 hjl, if_pos (by simp; omega), if_pos (by omega), if_pos (by rw [hlen]; omega), if_pos hc0, if_pos hc1, if_pos (by omega), up64 hjl (by omega), hre, shl0_i64 hc, shl1_i64 hc, or_i64 _ _ (by omega) (by omega), or_i64 _ _ (Nat.lt_trans (Nat.or_lt_two_pow hel hp0) (by decide)) (by omega)]
    have e2 : (EE s rows[j] ||| 2 ^ c.f0.toNat) ||| 2 ^ c.f1.toNat = EE s (c :: rows[j]) := by simp only [EE, ownN]; rw [Nat.or_assoc]
    rw [e2]
    exact ih k (by omega)
theorem steps_l0 (l : List S54) (hl : l.length ≤ 28) (hg : ∀ c ∈ l, gC c) (s : Nat) (hs : s < 2 ^ 8) : ∀ (d i : Nat) (u : Nat) (acc : List (List S54)) (accE : List Int), i + d = l.length → u < 2 ^ 8 → acc.length + 2 ^ d ≤ 2 ^ 28 + 1 → accE.length = acc.length →
    ∃ K, ∀ k, K ≤ k → spec_roSteps.l0 k l (u : Int) (s : Int) acc accE (i : Int) = some (acc ++ TT ((l.drop i).filter (selN s)) u, accE ++ ends s (TT ((l.drop i).filter (selN s)) u))
  | 0, i, u, acc, accE, hi, hu, ha, hae => by
    refine ⟨1, fun k hk => ?_⟩
    obtain ⟨k, rfl⟩ : ∃ q, k = q + 1 := ⟨k - 1, by omega⟩
    simp only [spec_roSteps.l0]
    rw [if_neg (by omega), List.drop_eq_nil_of_le (by omega)]
    simp [TT, ends]
  | d + 1, i, u, acc, accE, hi, hu, ha, hae => by
    have hil : i < l.length := by omega
    have hc := hg _ (List.getElem_mem hil)
    have hd : l.drop i = l[i] :: l.drop (i + 1) := List.drop_eq_getElem_cons hil
    have hoc := ownN_lt hc
    obtain ⟨g0, g1, g2⟩ := hc
    have b0 := bitv_i64 s l[i].f0.toNat (by omega) (by omega)
    have b1 := bitv_i64 s l[i].f1.toNat (by omega) (by omega)
    have v0 := bitv_i64 u l[i].f0.toNat (by omega) (by omega)
    have v1 := bitv_i64 u l[i].f1.toNat (by omega) (by omega)
    rw [Int.toNat_of_nonneg g0] at b0 v0
    rw [Int.toNat_of_nonneg (by omega)] at b1 v1
    have hpw : 2 ^ (d + 1) = 2 ^ d + 2 ^ d := by rw [Nat.pow_succ]; omega
    have hpd : 1 ≤ 2 ^ d := Nat.one_le_two_pow
    have hskip : ∀ (_ : (selN s l[i] && decide (u &&& ownN l[i] = 0)) = false), TT ((l.drop i).filter (selN s)) u = TT ((l.drop (i + 1)).filter (selN s)) u := by
      intro h
      rw [hd, List.filter_cons]
      by_cases e : selN s l[i] = true
      · rw [if_pos e]
        rw [e, Bool.true_and, decide_eq_false_iff_not] at h
        simp only [TT]
        rw [if_neg h, List.nil_append]
      · rw [if_neg e]
    by_cases hsel : selN s l[i] = true
    · have hne := of_decide_eq_true hsel
      by_cases hfr : u &&& ownN l[i] = 0
      · have hff := (free_iff u l[i]).1 hfr
        have hu2 : u ||| ownN l[i] < 2 ^ 8 := Nat.or_lt_two_pow hu hoc
        obtain ⟨rows, hrows⟩ : ∃ rows, rows = TT ((l.drop (i + 1)).filter (selN s)) (u ||| ownN l[i]) := ⟨_, rfl⟩
        have hfl : ((l.drop (i + 1)).filter (selN s)).length ≤ d := Nat.le_trans (List.length_filter_le _ _) (by rw [List.length_drop]; omega)
        have hrn : rows.length + 1 ≤ 2 ^ d := Nat.le_trans (by rw [hrows]; exact TT_len _ _) (Nat.pow_le_pow_right (by decide) hfl)
        have hdl : d ≤ 27 := by omega
        have hd28 : 2 ^ d ≤ 2 ^ 27 := Nat.pow_le_pow_right (by decide) hdl
        have hmem : ∀ r ∈ ([] :: rows), (r.length ≤ 28) ∧ ∀ x ∈ r, gC x := by
          intro r hr
          rcases List.mem_cons.1 hr with rfl | hr
          · simp
          · rw [hrows] at hr
            have h3 := TT_mem _ _ r hr
            exact ⟨by have := h3.2.1; omega, fun x hx => hg x (List.mem_of_mem_drop (List.mem_filter.1 (h3.2.2 x hx)).1)⟩
        obtain ⟨K1, h1⟩ := steps_l0 l hl hg s hs d (i + 1) (u ||| ownN l[i]) [[]] [(s : Int)] (by omega) hu2 (by simp; omega) rfl
        have e0 : TT ((l.drop i).filter (selN s)) u = ([] :: rows).map (l[i] :: ·) ++ TT ((l.drop (i + 1)).filter (selN s)) u := by
          rw [hd, List.filter_cons, if_pos hsel]
          simp only [TT]
          rw [if_pos hfr, ← hrows]
          simp
        have ez : ends s ([] :: rows) = (s : Int) :: ends s rows := by simp [ends, EE]
        obtain ⟨K2, h2⟩ := steps_l0 l hl hg s hs d (i + 1) u (acc ++ ([] :: rows).map (l[i] :: ·)) (accE ++ ends s (([] :: rows).map (l[i] :: ·))) (by omega) hu (by simp; omega) (by simp [ends]; omega)
        obtain ⟨K3, h3⟩ := steps_l1 l s u l[i] ⟨g0, g1, g2⟩ i ([] :: rows) (acc ++ TT ((l.drop i).filter (selN s)) u, accE ++ ends s (TT ((l.drop i).filter (selN s)) u)) hs (fun r hr => (hmem r hr).2) (fun r hr => (hmem r hr).1) (by simp; omega) (rows.length + 1) 0 acc accE (by simp) (by omega) (by omega) ⟨K2, fun k hk => by
          rw [up64 hil (by omega), List.drop_zero, h2 k hk, e0]
          simp [ends]⟩
        refine ⟨K1 + K3 + 4, fun k hk => ?_⟩
        obtain ⟨k, rfl⟩ : ∃ q, k = q + 3 := ⟨k - 3, by omega⟩
        simp only [spec_roSteps.l0]
        rw [if_pos (by omega), if_pos (by omega), rdCall1 hil, if_pos g0, if_pos (by omega), b0, b1, if_neg (by omega), v0, v1, if_neg (by omega)]
        rw [show ((((u / 2 ^ l[i].f1.toNat % 2 : Nat) : Int)) == 1) = false from beq_eq_false_iff_ne.mpr (by omega)]
        simp only [spec_roSteps.j1, Bool.false_eq_true, if_false]
        have hp0 := pow_lt256 (y := l[i].f0.toNat) (by omega)
        have hp1 := pow_lt256 (y := l[i].f1.toNat) (by omega)
        rw [if_pos g0, if_pos (by omega), shl0_i64 ⟨g0, g1, g2⟩, shl1_i64 ⟨g0, g1, g2⟩, or_i64 _ _ (by omega) (by omega), or_i64 _ _ (Nat.lt_trans (Nat.or_lt_two_pow hu hp0) (by decide)) (by omega), up64 hil (by omega)]
        have e2 : (u ||| 2 ^ l[i].f0.toNat) ||| 2 ^ l[i].f1.toNat = u ||| ownN l[i] := by unfold ownN; rw [Nat.or_assoc]
        rw [e2]
        simp only [spec_roSteps.f]
        rw [h1 k (by omega)]
        simp only [Option.bind_some]
        have h4 := h3 (k + 1) (by omega)
        rw [ez] at h4
        rw [← hrows]
        exact h4
      · obtain ⟨K, ih⟩ := steps_l0 l hl hg s hs d (i + 1) u acc accE (by omega) hu (by omega) hae
        refine ⟨K + 3, fun k hk => ?_⟩
        obtain ⟨k, rfl⟩ : ∃ q, k = q + 2 := ⟨k - 2, by omega⟩
        rw [hskip (by rw [hsel, decide_eq_false hfr]; rfl)]
        have hff : ¬ (u / 2 ^ l[i].f0.toNat % 2 = 0 ∧ u / 2 ^ l[i].f1.toNat % 2 = 0) := fun h => hfr ((free_iff u l[i]).2 h)
        simp only [spec_roSteps.l0]
        rw [if_pos (by omega), if_pos (by omega), rdCall1 hil, if_pos g0, if_pos (by omega), b0, b1, if_neg (by omega), v0, v1]
        by_cases e : u / 2 ^ l[i].f0.toNat % 2 = 1
        · rw [if_pos (by omega)]
          simp only [spec_roSteps.j1, if_true]
          rw [up64 hil (by omega)]
          exact ih k (by omega)
        · rw [if_neg (by omega), show ((((u / 2 ^ l[i].f1.toNat % 2 : Nat) : Int)) == 1) = true from beq_iff_eq.mpr (by omega)]
          simp only [spec_roSteps.j1, if_true]
          rw [up64 hil (by omega)]
          exact ih k (by omega)
    · obtain ⟨K, ih⟩ := steps_l0 l hl hg s hs d (i + 1) u acc accE (by omega) hu (by omega) hae
      refine ⟨K + 3, fun k hk => ?_⟩
      obtain ⟨k, rfl⟩ : ∃ q, k = q + 2 := ⟨k - 2, by omega⟩
      have hsel' : selN s l[i] = false := by simpa using hsel
      rw [hskip (by rw [hsel']; rfl)]
      have hne := of_decide_eq_false hsel'
      simp only [spec_roSteps.l0]
      rw [if_pos (by omega), if_pos (by omega), rdCall1 hil, if_pos g0, if_pos (by omega), b0, b1, if_pos (by omega)]
      simp only [spec_roSteps.j1, if_true]
      rw [up64 hil (by omega)]
      exact ih k (by omega)
theorem steps_f (l : List S54) (hl : l.length ≤ 28) (hg : ∀ c ∈ l, gC c) (s : Nat) (hs : s < 2 ^ 8) : ∃ K, ∀ k, K ≤ k → spec_roSteps.f k l 0 0 (s : Int) = some ([] :: TT (l.filter (selN s)) 0, (s : Int) :: ends s (TT (l.filter (selN s)) 0)) := by
  have hp : 2 ^ l.length ≤ 2 ^ 28 := Nat.pow_le_pow_right (by decide) hl
  obtain ⟨K, h⟩ := steps_l0 l hl hg s hs l.length 0 0 [[]] [(s : Int)] (by omega) (by decide) (by simp; omega) rfl
  refine ⟨K + 1, fun k hk => ?_⟩
  obtain ⟨k, rfl⟩ : ∃ q, k = q + 1 := ⟨k - 1, by omega⟩
  simp only [spec_roSteps.f]
  have := h k (by omega)
  simpa using this
/-- Calls of so many friends. -/
def gM (m : Nat) (c : S54) : Prop := 0 ≤ c.f0 ∧ c.f0 < c.f1 ∧ c.f1 < (m : Int)
theorem EE_ltm {m s : Nat} (hs : s < 2 ^ m) : ∀ (r : List S54), (∀ c ∈ r, gM m c) → EE s r < 2 ^ m
  | [], _ => hs
  | c :: r, h => by
    obtain ⟨h0, h1, h2⟩ := h c (by simp)
    exact Nat.or_lt_two_pow (EE_ltm hs r (fun x hx => h x (by simp [hx]))) (Nat.or_lt_two_pow (Nat.pow_lt_pow_right (by decide) (by omega)) (Nat.pow_lt_pow_right (by decide) (by omega)))
section
variable (m : Nat) (hm : m ≤ 8) (l : List S54) (hl : l.length ≤ 28) (hg : ∀ c ∈ l, gM m c)
include hm hg
theorem g8 : ∀ c ∈ l, gC c := fun c hc => by
  obtain ⟨h0, h1, h2⟩ := hg c hc
  exact ⟨h0, h1, by omega⟩
theorem round_ok {s : Nat} (hs : s < 2 ^ m) {r : List S54} (hr : r ∈ TT (l.filter (selN s)) 0) : impl_MostInformed.bh (s : Int) r = ((EE s r : Nat) : Int) ∧ s < EE s r ∧ EE s r < 2 ^ m := by
  have h3 := TT_mem _ _ r hr
  have h8 : 2 ^ m ≤ 2 ^ 8 := Nat.pow_le_pow_right (by decide) hm
  have hin : ∀ x ∈ r, x ∈ l := fun x hx => (List.mem_filter.1 (h3.2.2 x hx)).1
  exact ⟨bh_EE r s (by omega) (fun x hx => g8 m hm l hg x (hin x hx)), EE_lt_of h3.1 (fun x hx => (List.mem_filter.1 (h3.2.2 x hx)).2), EE_ltm hs r (fun x hx => hg x (hin x hx))⟩
end
/-- Who know behind one more round. -/
def EA (l : List S54) (t : Int) : List Int := (impl_spread_rounds.rounds t l).map (fun r => impl_MostInformed.bh t r)
def addS (nx : List Int) (e : Int) : List Int := if e ∈ nx then nx else nx ++ [e]
def nxt (l : List S54) (now : List Int) : List Int := now.foldl (fun nx t => (EA l t).foldl addS nx) []
def itS (l : List S54) : Nat → List Int → List Int
  | 0, now => now
  | n + 1, now => itS l n (nxt l now)
theorem addS_mem (nx : List Int) (e x : Int) : x ∈ addS nx e ↔ x ∈ nx ∨ x = e := by
  unfold addS
  split
  · rename_i h
    exact ⟨.inl, fun h2 => h2.elim id (fun e => e ▸ h)⟩
  · simp
theorem fold_mem : ∀ (es nx : List Int) (x : Int), x ∈ es.foldl addS nx ↔ x ∈ nx ∨ x ∈ es
  | [], nx, x => by simp
  | e :: es, nx, x => by
    rw [List.foldl_cons, fold_mem es, addS_mem, List.mem_cons]
    constructor
    · rintro ((h | h) | h)
      · exact .inl h
      · exact .inr (.inl h)
      · exact .inr (.inr h)
    · rintro (h | h | h)
      · exact .inl (.inl h)
      · exact .inl (.inr h)
      · exact .inr h
theorem nxt_mem0 (l : List S54) : ∀ (now nx : List Int) (x : Int), x ∈ now.foldl (fun nx t => (EA l t).foldl addS nx) nx ↔ x ∈ nx ∨ ∃ t ∈ now, x ∈ EA l t
  | [], nx, x => by simp
  | t :: now, nx, x => by
    rw [List.foldl_cons, nxt_mem0 l now, fold_mem]
    constructor
    · rintro ((h | h) | ⟨q, hq, h⟩)
      · exact .inl h
      · exact .inr ⟨t, by simp, h⟩
      · exact .inr ⟨q, by simp [hq], h⟩
    · rintro (h | ⟨q, hq, h⟩)
      · exact .inl (.inl h)
      · rcases List.mem_cons.1 hq with rfl | hq
        · exact .inl (.inr h)
        · exact .inr ⟨q, hq, h⟩
theorem nxt_mem (l : List S54) (now : List Int) (x : Int) : x ∈ nxt l now ↔ ∃ t ∈ now, x ∈ EA l t := by
  unfold nxt
  rw [nxt_mem0]
  simp
theorem addS_nodup {nx : List Int} {e : Int} (h : nx.Nodup) : (addS nx e).Nodup := by
  unfold addS
  split
  · exact h
  · rename_i hne
    rw [List.nodup_append]
    refine ⟨h, by simp, fun a ha b hb => ?_⟩
    rw [List.mem_singleton.1 hb]
    exact fun e => hne (e ▸ ha)
theorem fold_nodup : ∀ (es nx : List Int), nx.Nodup → (es.foldl addS nx).Nodup
  | [], nx, h => h
  | e :: es, nx, h => fold_nodup es _ (addS_nodup h)
/-- Numbers of sets, each once. -/
def gS (m : Nat) (now : List Int) : Prop := now.Nodup ∧ ∀ x ∈ now, ∃ s : Nat, x = (s : Int) ∧ 1 ≤ s ∧ s < 2 ^ m
theorem gS_len {m : Nat} (hm : m ≤ 8) {now : List Int} (h : gS m now) : now.length ≤ 256 := by
  have h8 : 2 ^ m ≤ 2 ^ 8 := Nat.pow_le_pow_right (by decide) hm
  have h1 : (now.map Int.toNat).Nodup := by
    unfold List.Nodup
    rw [List.pairwise_map]
    refine List.Pairwise.imp_of_mem ?_ h.1
    intro a b ha hb hne e
    obtain ⟨s, rfl, _⟩ := h.2 a ha
    obtain ⟨t, rfl, _⟩ := h.2 b hb
    simp at e
    exact hne (by rw [e])
  have h2 : (now.map Int.toNat) ⊆ List.range 256 := by
    intro z hz
    obtain ⟨x, hx, rfl⟩ := List.mem_map.1 hz
    obtain ⟨s, rfl, _, h4⟩ := h.2 x hx
    rw [List.mem_range]
    simp
    omega
  have := h1.length_le_of_subset h2
  simpa using this
section
variable (m : Nat) (hm : m ≤ 8) (l : List S54) (hl : l.length ≤ 28) (hg : ∀ c ∈ l, gM m c)
include hm hg
theorem EA_eq {s : Nat} (hs : s < 2 ^ m) : EA l (s : Int) = (s : Int) :: ends s (TT (l.filter (selN s)) 0) := by
  have h8 : 2 ^ m ≤ 2 ^ 8 := Nat.pow_le_pow_right (by decide) hm
  unfold EA ends
  rw [rounds_TT (by omega) l (g8 m hm l hg), List.map_cons]
  congr 1
  exact List.map_congr_left (fun r hr => (round_ok m hm l hg hs hr).1)
theorem EA_in {s : Nat} (h1 : 1 ≤ s) (hs : s < 2 ^ m) : ∀ x ∈ EA l (s : Int), ∃ e : Nat, x = (e : Int) ∧ 1 ≤ e ∧ e < 2 ^ m := by
  intro x hx
  rw [EA_eq m hm l hg hs] at hx
  rcases List.mem_cons.1 hx with rfl | hx
  · exact ⟨s, rfl, h1, hs⟩
  · obtain ⟨r, hr, rfl⟩ := List.mem_map.1 hx
    obtain ⟨_, h3, h4⟩ := round_ok m hm l hg hs hr
    exact ⟨EE s r, rfl, by omega, h4⟩
theorem nxt_good {now : List Int} (h : gS m now) : gS m (nxt l now) := by
  constructor
  · have : ∀ (now nx : List Int), nx.Nodup → (now.foldl (fun nx t => (EA l t).foldl addS nx) nx).Nodup := by
      intro now
      induction now with
      | nil => exact fun nx h => h
      | cons t now ih => exact fun nx h => ih _ (fold_nodup _ _ h)
    exact this now [] (by simp)
  · intro x hx
    obtain ⟨t, ht, hx⟩ := (nxt_mem l now x).1 hx
    obtain ⟨s, rfl, h1, h2⟩ := h.2 t ht
    exact EA_in m hm l hg h1 h2 x hx
end
theorem has_l0 (x : Int) (nx : List Int) (hn : nx.length ≤ 1000000) : ∀ (d j k : Nat), j + d = nx.length → d < k → spec_l1Has.l0 k x nx (nx.length : Int) (j : Int) = some (decide (x ∈ nx.drop j))
  | 0, j, k, hj, hk => by
    obtain ⟨k, rfl⟩ : ∃ q, k = q + 1 := ⟨k - 1, by omega⟩
    simp only [spec_l1Has.l0]
    rw [if_neg (by omega), List.drop_eq_nil_of_le (by omega)]
    simp
  | d + 1, j, k, hj, hk => by
    obtain ⟨k, rfl⟩ : ∃ q, k = q + 1 := ⟨k - 1, by omega⟩
    have hjl : j < nx.length := by omega
    simp only [spec_l1Has.l0]
    rw [if_pos (by omega), if_pos (by omega), if_pos (by omega), rd_lt hjl, List.drop_eq_getElem_cons hjl]
    by_cases e : nx[j] = x
    · rw [if_pos e]
      simp [e]
    · rw [if_neg e, up64 hjl (by omega), has_l0 x nx hn d (j + 1) k (by omega) (by omega)]
      congr 1
      rw [decide_eq_decide, List.mem_cons]
      exact ⟨.inr, fun h => h.resolve_left (fun h => e h.symm)⟩
theorem has_f (x : Int) (nx : List Int) (hn : nx.length ≤ 1000000) {k : Nat} (hk : 1000000 < k) : spec_l1Has.f k nx x = some (decide (x ∈ nx)) := by
  have := has_l0 x nx hn nx.length 0 k (by omega) (by omega)
  rw [List.drop_zero] at this
  exact this
def bitsOk (s : Nat) : Bool := match spec_caBits.f 12 (s : Int) with
  | some L => decide ((L.length : Int) = impl_MostInformed.ones (s : Int)) && (decide (s = 0) || decide (1 ≤ impl_MostInformed.ones (s : Int)))
  | none => false
theorem bits_all : (List.range 256).all bitsOk = true := by decide +kernel
theorem caBits_f (s : Nat) (h0 : 1 ≤ s) (hs : s < 256) : 1 ≤ impl_MostInformed.ones (s : Int) ∧ ∃ L : List Int, (L.length : Int) = impl_MostInformed.ones (s : Int) ∧ ∀ k, 12 ≤ k → spec_caBits.f k (s : Int) = some L := by
  have h := List.all_eq_true.1 bits_all s (List.mem_range.2 hs)
  unfold bitsOk at h
  split at h
  case h_2 => cases h
  rename_i L hL
  rw [Bool.and_eq_true, Bool.or_eq_true, decide_eq_true_eq, decide_eq_true_eq, decide_eq_true_eq] at h
  refine ⟨h.2.resolve_left (by omega), L, h.1, fun k hk => ?_⟩
  obtain ⟨d, rfl⟩ : ∃ d, k = 12 + d := ⟨k - 12, by omega⟩
  clear hk
  induction d with
  | zero => exact hL
  | succ d ih => exact spec_caBits.mono _ _ _ ih
section
variable (m : Nat) (hm : m ≤ 8) (l : List S54) (hl : l.length ≤ 28) (hg : ∀ c ∈ l, gM m c) (a3 : Int) (Rz : Int × Bool)
include hm
theorem mi_l2 (i : Int) (now : List Int) (y : Nat) (hy : y < 256) (E : List Int) (hE : ∀ x ∈ E, ∃ e : Nat, x = (e : Int) ∧ 1 ≤ e ∧ e < 2 ^ m) (hEl : E.length ≤ 2 ^ 29) :
    ∀ (d j : Nat) (nx : List Int), j + d = E.length → gS m nx → (∃ K, ∀ k, K ≤ k → spec_MostInformed.l1 k l a3 i ((E.drop j).foldl addS nx) now (now.length : Int) ((y + 1 : Nat) : Int) = some Rz) →
      ∃ K, ∀ k, K ≤ k → spec_MostInformed.l2 k l a3 i nx now (now.length : Int) (y : Int) E (E.length : Int) (j : Int) = some Rz
  | 0, j, nx, hj, hnx, ⟨K, hK⟩ => by
    refine ⟨K + 1, fun k hk => ?_⟩
    obtain ⟨k, rfl⟩ : ∃ q, k = q + 1 := ⟨k - 1, by omega⟩
    have h := hK k (by omega)
    rw [List.drop_eq_nil_of_le (by omega)] at h
    simp only [spec_MostInformed.l2]
    rw [if_neg (by omega), up64 (n := 256) hy (by omega)]
    exact h
  | d + 1, j, nx, hj, hnx, hK => by
    have hjl : j < E.length := by omega
    have hlen := gS_len hm hnx
    obtain ⟨e, he, he1, he2⟩ := hE _ (List.getElem_mem hjl)
    rw [List.drop_eq_getElem_cons hjl, List.foldl_cons] at hK
    have hgood : gS m (addS nx E[j]) := ⟨addS_nodup hnx.1, fun x hx => by
      rcases (addS_mem nx _ x).1 hx with h | h
      · exact hnx.2 x h
      · exact ⟨e, by rw [h, he], he1, he2⟩⟩
    obtain ⟨K, ih⟩ := mi_l2 i now y hy E hE hEl d (j + 1) (addS nx E[j]) (by omega) hgood hK
    refine ⟨K + 1000002, fun k hk => ?_⟩
    obtain ⟨k, rfl⟩ : ∃ q, k = q + 1 := ⟨k - 1, by omega⟩
    have ih := ih k (by omega)
    simp only [spec_MostInformed.l2]
    rw [if_pos (by omega), if_pos (by omega), if_pos (by omega), rd_lt hjl, has_f _ _ (by omega) (by omega), up64 (n := E.length) hjl (by omega)]
    simp only [Option.bind_some, decide_eq_true_eq]
    unfold addS at ih
    by_cases hin : E[j] ∈ nx
    · rw [if_pos hin]
      rw [if_pos hin] at ih
      exact ih
    · rw [if_neg hin, if_pos (by omega)]
      rw [if_neg hin] at ih
      exact ih
include hg hl
theorem mi_l1 (i : Int) (now : List Int) (hnow : gS m now) : ∀ (d j : Nat) (nx : List Int), j + d = now.length → gS m nx → (∃ K, ∀ k, K ≤ k → spec_MostInformed.l0 k l a3 ((now.drop j).foldl (fun nx t => (EA l t).foldl addS nx) nx) (wrap64 (i + 1)) = some Rz) →
      ∃ K, ∀ k, K ≤ k → spec_MostInformed.l1 k l a3 i nx now (now.length : Int) (j : Int) = some Rz
  | 0, j, nx, hj, hnx, ⟨K, hK⟩ => by
    refine ⟨K + 1, fun k hk => ?_⟩
    obtain ⟨k, rfl⟩ : ∃ q, k = q + 1 := ⟨k - 1, by omega⟩
    have h := hK k (by omega)
    rw [List.drop_eq_nil_of_le (by omega)] at h
    simp only [spec_MostInformed.l1]
    rw [if_neg (by omega)]
    exact h
  | d + 1, j, nx, hj, hnx, hK => by
    have hjl : j < now.length := by omega
    have hnl := gS_len hm hnow
    obtain ⟨s, he, hs1, hs2⟩ := hnow.2 _ (List.getElem_mem hjl)
    rw [List.drop_eq_getElem_cons hjl, List.foldl_cons, he] at hK
    have h8 : 2 ^ m ≤ 2 ^ 8 := Nat.pow_le_pow_right (by decide) hm
    have hEin := EA_in m hm l hg hs1 hs2
    have hfold : gS m ((EA l (s : Int)).foldl addS nx) := ⟨fold_nodup _ _ hnx.1, fun x hx => by
      rcases (fold_mem _ _ x).1 hx with h | h
      · exact hnx.2 x h
      · exact hEin x h⟩
    have hrec := mi_l1 i now hnow d (j + 1) _ (by omega) hfold hK
    have hTl := TT_len (l.filter (selN s)) 0
    have hTf : (l.filter (selN s)).length ≤ 28 := Nat.le_trans (List.length_filter_le _ _) hl
    have hTp : 2 ^ (l.filter (selN s)).length ≤ 2 ^ 28 := Nat.pow_le_pow_right (by decide) hTf
    have hEl : (EA l (s : Int)).length ≤ 2 ^ 29 := by
      rw [EA_eq m hm l hg hs2]
      simp [ends]
      omega
    obtain ⟨K1, h1⟩ := steps_f l hl (g8 m hm l hg) s (by omega)
    obtain ⟨K2, h2⟩ := mi_l2 m hm l a3 Rz i now j (by omega) (EA l (s : Int)) hEin hEl _ 0 nx (Nat.zero_add _) hnx (by rw [List.drop_zero]; exact hrec)
    refine ⟨K1 + K2 + 1, fun k hk => ?_⟩
    obtain ⟨k, rfl⟩ : ∃ q, k = q + 1 := ⟨k - 1, by omega⟩
    simp only [spec_MostInformed.l1]
    rw [if_pos (by omega), if_pos (by omega), if_pos (by omega), rd_lt hjl, he, h1 k (by omega)]
    simp only [Option.bind_some]
    rw [← EA_eq m hm l hg hs2]
    exact h2 k (by omega)
theorem mi_l0 (n : Nat) (hn : n ≤ 20) (ha3 : a3 = (n : Int)) : ∀ (d i : Nat) (now : List Int), i + d = n → gS m now → (∃ K, ∀ k, K ≤ k → spec_MostInformed.l3 k 0 (itS l d now) ((itS l d now).length : Int) 0 = some Rz) →
      ∃ K, ∀ k, K ≤ k → spec_MostInformed.l0 k l a3 now (i : Int) = some Rz
  | 0, i, now, hi, hnow, ⟨K, hK⟩ => by
    refine ⟨K + 1, fun k hk => ?_⟩
    obtain ⟨k, rfl⟩ : ∃ q, k = q + 1 := ⟨k - 1, by omega⟩
    simp only [spec_MostInformed.l0]
    rw [if_neg (by omega)]
    exact hK k (by omega)
  | d + 1, i, now, hi, hnow, hK => by
    have hrec := mi_l0 n hn ha3 d (i + 1) (nxt l now) (by omega) (nxt_good m hm l hg hnow) hK
    have hw : wrap64 ((i : Int) + 1) = ((i + 1 : Nat) : Int) := up64 (n := 100) (by omega) (by omega)
    obtain ⟨K, h⟩ := mi_l1 m hm l hl hg a3 Rz (i : Int) now hnow now.length 0 [] (by omega) ⟨by simp, fun x hx => by cases hx⟩ (by rw [List.drop_zero, hw]; exact hrec)
    clear hw
    refine ⟨K + 1, fun k hk => ?_⟩
    obtain ⟨k, rfl⟩ : ∃ q, k = q + 1 := ⟨k - 1, by omega⟩
    simp only [spec_MostInformed.l0]
    rw [if_pos (by omega)]
    exact h k (by omega)
omit hg hl in
theorem mi_l3 (now : List Int) (hnow : gS m now) : ∀ (d j : Nat) (v : Int), j + d = now.length → ∃ K, ∀ k, K ≤ k → spec_MostInformed.l3 k v now (now.length : Int) (j : Int) = some ((now.drop j).foldl (fun m s => max m (impl_MostInformed.ones s)) v, true)
  | 0, j, v, hj => by
    refine ⟨1, fun k hk => ?_⟩
    obtain ⟨k, rfl⟩ : ∃ q, k = q + 1 := ⟨k - 1, by omega⟩
    simp only [spec_MostInformed.l3]
    rw [if_neg (by omega), List.drop_eq_nil_of_le (by omega)]
    rfl
  | d + 1, j, v, hj => by
    have hjl : j < now.length := by omega
    have hnl := gS_len hm hnow
    have h8 : 2 ^ m ≤ 2 ^ 8 := Nat.pow_le_pow_right (by decide) hm
    obtain ⟨s, he, hs1, hs2⟩ := hnow.2 _ (List.getElem_mem hjl)
    obtain ⟨_, L, hL, hbits⟩ := caBits_f s hs1 (by omega)
    obtain ⟨K, ih⟩ := mi_l3 now hnow d (j + 1) (max v (impl_MostInformed.ones (s : Int))) (by omega)
    refine ⟨K + 13, fun k hk => ?_⟩
    obtain ⟨k, rfl⟩ : ∃ q, k = q + 1 := ⟨k - 1, by omega⟩
    rw [List.drop_eq_getElem_cons hjl, List.foldl_cons, he]
    simp only [spec_MostInformed.l3]
    rw [if_pos (by omega), if_pos (by omega), if_pos (by omega), rd_lt hjl, he, hbits k (by omega)]
    simp only [Option.bind_some]
    have hm2 : spec_l1Most.f v (L.length : Int) = some (max v (impl_MostInformed.ones (s : Int))) := by
      unfold spec_l1Most.f
      rw [hL]
      generalize impl_MostInformed.ones (s : Int) = o
      split
      · rw [Int.max_eq_left (by omega)]
      · rw [Int.max_eq_right (by omega)]
    rw [hm2]
    simp only [Option.bind_some]
    rw [up64 hjl (by omega)]
    exact ih k (by omega)
omit hl in
theorem it_good : ∀ (d : Nat) (now : List Int), gS m now → gS m (itS l d now)
  | 0, now, h => h
  | d + 1, now, h => it_good d _ (nxt_good m hm l hg h)
end
theorem it_mem (l : List S54) (SH : Int) : ∀ (d i : Nat) (now : List Int), (∀ x, x ∈ now ↔ x ∈ impl_MostInformed.S l SH i) → ∀ x, x ∈ itS l d now ↔ x ∈ impl_MostInformed.S l SH (i + d)
  | 0, i, now, h => h
  | d + 1, i, now, h => by
    have := it_mem l SH d (i + 1) (nxt l now) (fun x => by
      rw [nxt_mem]
      show _ ↔ x ∈ (impl_MostInformed.S l SH i).flatMap (fun t => (impl_spread_rounds.rounds t l).map (fun r => impl_MostInformed.bh t r))
      rw [List.mem_flatMap]
      constructor
      · rintro ⟨t, ht, hx⟩; exact ⟨t, (h t).1 ht, hx⟩
      · rintro ⟨t, ht, hx⟩; exact ⟨t, (h t).2 ht, hx⟩)
    rw [show i + (d + 1) = i + 1 + d by omega]
    exact this
theorem most_same {L now : List Int} (hL : ∀ x, x ∈ now ↔ x ∈ L) (hne : now ≠ []) (h1 : ∀ x ∈ now, 1 ≤ impl_MostInformed.ones x) : now.foldl (fun m s => max m (impl_MostInformed.ones s)) 0 = impl_MostInformed.most L := by
  obtain ⟨g1, g2⟩ := impl_MostInformed.fold_ge now 0
  have g3 := impl_MostInformed.fold_or now 0
  obtain ⟨x, hx⟩ := List.exists_mem_of_ne_nil now hne
  have hv : 1 ≤ now.foldl (fun m s => max m (impl_MostInformed.ones s)) 0 := Int.le_trans (h1 x hx) (g2 x hx)
  refine (impl_MostInformed.most_eq hv (fun s hs => g2 s ((hL s).2 hs)) ?_).symm
  rcases g3 with e | ⟨s, hs, e⟩
  · rw [e] at hv; omega
  · exact .inr ⟨s, (hL s).1 hs, e⟩
theorem isFriend_f (a b : Int) (ha : 1 ≤ a ∧ a ≤ 10) : impl_isFriend.f a b = some (decide (0 ≤ b ∧ b ≤ a - 1)) := by
  unfold impl_isFriend.f
  rw [w64 (by omega) (by omega), netWithin]
  rfl
theorem fine_of (m : Nat) (hm : m ≤ 8) (l : List S54) (hl : l.length ≤ 28) (hg : ∀ c ∈ l, gM m c) : impl_MostInformed.Fine (m : Int) l := by
  have hin : ∀ set, impl_MostInformed.In (m : Int) set → ∃ s : Nat, set = (s : Int) ∧ s < 2 ^ m := fun set h => by
    obtain ⟨h0, h1⟩ := h
    obtain ⟨s, rfl⟩ := Int.eq_ofNat_of_zero_le h0
    rw [Int.toNat_natCast] at h1
    exact ⟨s, rfl, by exact_mod_cast h1⟩
  have hof : ∀ s : Nat, s < 2 ^ m → impl_MostInformed.In (m : Int) (s : Int) := fun s h => ⟨by omega, by rw [Int.toNat_natCast]; exact_mod_cast h⟩
  have h8 : 2 ^ m ≤ 2 ^ 8 := Nat.pow_le_pow_right (by decide) hm
  refine ⟨by omega, by omega, fun x hx => by have := hg x hx; unfold gM at this; omega, fun set => rounds_len l hl (g8 m hm l hg) set, fun set h r hr => ?_⟩
  obtain ⟨s, rfl, hs⟩ := hin set h
  rw [rounds_TT (by omega) l (g8 m hm l hg)] at hr
  rcases List.mem_cons.1 hr with rfl | hr
  · exact hof s hs
  · obtain ⟨e, _, h2⟩ := round_ok m hm l hg hs hr
    rw [e]
    exact hof _ h2
theorem MostInformed_both (a : Int) (l : List S54) (hl : l.length ≤ 1048576) (b c : Int) : ∃ r : Int × Bool, ∃ K, ∀ k, K ≤ k → spec_MostInformed.f k a l b c = some r ∧ impl_MostInformed.f k a l b c = some r := by
  by_cases h : areP a l = true
  · obtain ⟨ha, hgood⟩ := areP_good h
    by_cases h8 : a ≤ 8
    · have hlen := areP_len h h8
      by_cases hb : 0 ≤ b ∧ b ≤ a - 1
      · by_cases hc : 0 ≤ c ∧ c ≤ 20
        · obtain ⟨m, rfl⟩ := Int.eq_ofNat_of_zero_le (show 0 ≤ a by omega)
          obtain ⟨i, rfl⟩ := Int.eq_ofNat_of_zero_le hb.1
          obtain ⟨n, rfl⟩ := Int.eq_ofNat_of_zero_le hc.1
          have hm : m ≤ 8 := by omega
          have hg : ∀ c ∈ l, gM m c := hgood
          have hp : 2 ^ i < 2 ^ m := Nat.pow_lt_pow_right (by decide) (by omega)
          have h2 : 2 ^ m ≤ 2 ^ 8 := Nat.pow_le_pow_right (by decide) hm
          have hfine := fine_of m hm l hlen hg
          have eu : shl .u16 1 (i : Int) = ((2 ^ i : Nat) : Int) := shl_u16 i (by omega)
          have ei : shl .i64 1 (i : Int) = ((2 ^ i : Nat) : Int) := shl_i64 i (by omega)
          have hnow : gS m [((2 ^ i : Nat) : Int)] := ⟨by simp, fun x hx => ⟨2 ^ i, by simpa using hx, Nat.one_le_two_pow, hp⟩⟩
          have hgood2 := it_good m hm l hg n _ hnow
          have hmem := it_mem l ((2 ^ i : Nat) : Int) n 0 [((2 ^ i : Nat) : Int)] (fun x => by simp [impl_MostInformed.S])
          rw [Nat.zero_add] at hmem
          have hne : itS l n [((2 ^ i : Nat) : Int)] ≠ [] := by
            intro e
            have hin : ∀ d : Nat, ((2 ^ i : Nat) : Int) ∈ impl_MostInformed.S l ((2 ^ i : Nat) : Int) d := by
              intro d
              induction d with
              | zero => exact List.mem_singleton.2 rfl
              | succ d ih => exact List.mem_flatMap.2 ⟨_, ih, by
                  have := EA_eq m hm l hg hp
                  unfold EA at this
                  rw [this]
                  simp⟩
            have := (hmem _).2 (hin n)
            rw [e] at this
            cases this
          have hones : ∀ x ∈ itS l n [((2 ^ i : Nat) : Int)], 1 ≤ impl_MostInformed.ones x := fun x hx => by
            obtain ⟨s, rfl, h3, h4⟩ := hgood2.2 x hx
            exact (caBits_f s h3 (by omega)).1
          have hmost := most_same hmem hne hones
          obtain ⟨K1, h3⟩ := mi_l3 m hm (itS l n [((2 ^ i : Nat) : Int)]) hgood2 _ 0 0 (Nat.zero_add _)
          rw [List.drop_zero, hmost] at h3
          obtain ⟨K2, h4⟩ := mi_l0 m hm l hlen hg (n : Int) (impl_MostInformed.most (impl_MostInformed.S l ((2 ^ i : Nat) : Int) n), true) n (by omega) rfl n 0 [((2 ^ i : Nat) : Int)] (by omega) hnow ⟨K1, h3⟩
          refine ⟨(impl_MostInformed.most (impl_MostInformed.S l ((2 ^ i : Nat) : Int) n), true), K2 + 1048800, fun k hk => ⟨?_, ?_⟩⟩
          rotate_left
          · unfold impl_MostInformed.f
            rw [isSpread_f (m : Int) l hl (by omega), h, decide_eq_true h8]
            simp only [Option.bind_some, Bool.and_self, if_true]
            rw [isFriend_f _ _ ha, decide_eq_true hb]
            simp only [Option.bind_some, if_true]
            rw [netWithin, decide_eq_true hc]
            simp only [Option.bind_some, if_true]
            rw [if_pos ⟨hfine, ⟨by omega, by omega⟩, by omega, by omega⟩, eu, Int.toNat_natCast]
          · obtain ⟨k, rfl⟩ : ∃ q, k = q + 1 := ⟨k - 1, by omega⟩
            unfold spec_MostInformed.f spec_roAsked.f
            rw [roPairs_f (m : Int) l hl (by omega), h]
            simp only [Option.bind_some, if_true]
            rw [w64 (by omega) (by omega), netIn]
            simp only [Option.bind_some]
            rw [decide_eq_true hb]
            simp only [if_true]
            rw [if_neg (by omega), netIn]
            simp only [Option.bind_some]
            rw [decide_eq_true hc]
            simp only [spec_MostInformed.j0, Bool.not_true, Bool.false_eq_true, if_false]
            rw [if_pos (Int.natCast_nonneg _), ei]
            exact h4 k (by omega)
        · refine ⟨(0, false), 1048800, fun k hk => ⟨?_, ?_⟩⟩
          · obtain ⟨k, rfl⟩ : ∃ q, k = q + 1 := ⟨k - 1, by omega⟩
            unfold spec_MostInformed.f spec_roAsked.f
            rw [roPairs_f a l hl (by omega), h]
            simp only [Option.bind_some, if_true]
            rw [w64 (by omega) (by omega), netIn]
            simp only [Option.bind_some]
            rw [decide_eq_true hb]
            simp only [if_true]
            rw [if_neg (by omega), netIn]
            simp only [Option.bind_some]
            rw [decide_eq_false hc]
            simp [spec_MostInformed.j0]
          · unfold impl_MostInformed.f
            rw [isSpread_f a l hl (by omega), h, decide_eq_true h8]
            simp only [Option.bind_some, Bool.and_self, if_true]
            rw [isFriend_f _ _ ha, decide_eq_true hb]
            simp only [Option.bind_some, if_true]
            rw [netWithin, decide_eq_false hc]
            simp
      · refine ⟨(0, false), 1048800, fun k hk => ⟨?_, ?_⟩⟩
        · obtain ⟨k, rfl⟩ : ∃ q, k = q + 1 := ⟨k - 1, by omega⟩
          unfold spec_MostInformed.f spec_roAsked.f
          rw [roPairs_f a l hl (by omega), h]
          simp only [Option.bind_some, if_true]
          rw [w64 (by omega) (by omega), netIn]
          simp only [Option.bind_some]
          rw [decide_eq_false hb]
          simp [spec_MostInformed.j0]
        · unfold impl_MostInformed.f
          rw [isSpread_f a l hl (by omega), h, decide_eq_true h8]
          simp only [Option.bind_some, Bool.and_self, if_true]
          rw [isFriend_f _ _ ha, decide_eq_false hb]
          simp
    · refine ⟨(0, false), 1048800, fun k hk => ⟨?_, ?_⟩⟩
      · obtain ⟨k, rfl⟩ : ∃ q, k = q + 1 := ⟨k - 1, by omega⟩
        unfold spec_MostInformed.f spec_roAsked.f
        rw [roPairs_f a l hl (by omega), h]
        simp only [Option.bind_some, if_true]
        rw [w64 (by omega) (by omega), netIn]
        simp only [Option.bind_some]
        rw [if_pos (show a > 8 by omega)]
        split <;> simp [spec_MostInformed.j0]
      · unfold impl_MostInformed.f
        rw [isSpread_f a l hl (by omega), h, decide_eq_false h8]
        simp
  · refine ⟨(0, false), 1048800, fun k hk => ⟨?_, ?_⟩⟩
    · obtain ⟨k, rfl⟩ : ∃ q, k = q + 1 := ⟨k - 1, by omega⟩
      unfold spec_MostInformed.f spec_roAsked.f
      rw [roPairs_f a l hl (by omega)]
      simp only [Option.bind_some]
      rw [if_neg h]
      simp [spec_MostInformed.j0]
    · unfold impl_MostInformed.f
      have e : (areP a l && decide (a ≤ 8)) = false := by
        rw [Bool.eq_false_iff]
        intro e
        rw [Bool.and_eq_true] at e
        exact h e.1
      rw [isSpread_f a l hl (by omega), e]
      simp
theorem FnExactMostInformed : ∀ (a0 : Int) (l1 : List (S56)) (a2 : Int) (a3 : Int), (Lit.int .i64 a0).wf = true → l1.length ≤ maxLen → (∀ x ∈ l1, (fun x => (Lit.int .i64 x.f0).wf = true ∧ (Lit.int .i64 x.f1).wf = true) x) → (Lit.int .i64 a2).wf = true → (Lit.int .i64 a3).wf = true → ∃ k, laws_FnExactMostInformed.f k a0 l1 a2 a3 = some true := by
  intro a l b c _ hm _ _ _
  have hsz := szCallS_f l (by unfold maxLen at hm; omega)
  clear hm
  by_cases h : l.length ≤ 1048576
  · obtain ⟨⟨n, o⟩, K, hb⟩ := MostInformed_both a (l.map cvCall) (by simpa using h) b c
    obtain ⟨K2, hK2⟩ : ∃ K2, K2 = K + 1300000 := ⟨_, rfl⟩
    refine ⟨K2 + 1, ?_⟩
    unfold laws_FnExactMostInformed.f
    rw [hsz]
    simp only [Option.bind_some]
    have hs : ∀ k, K2 ≤ k → spec_MostInformed.f k a (l.map cvCall) b c = some (n, o) := fun k hk => (hb k (by omega)).1
    have hi : ∀ k, K2 ≤ k → impl_MostInformed.f k a (l.map cvCall) b c = some (n, o) := fun k hk => (hb k (by omega)).2
    have t1 : ∀ k, K2 ≤ k → laws_toCallS.f k l = some (l.map cvCall) := fun k hk => toCallS_f l h (by omega)
    have q1 : ∀ k, K2 ≤ k → laws_eqCallS.f k (l.map cvCall) (l.map cvCall) = some true := fun k hk => eqCallS_f _ (by simp; omega) (by simp; omega)
    rw [if_pos h, if_neg (by omega)]
    simp (disch := omega) only [t1, hs, hi, q1, Option.bind_some, if_true, bne_self_eq_false]
    rw [laws_FnExactMostInformed.j0.eq_def]
    simp (disch := omega) only [t1, hs, hi, q1, Option.bind_some, if_true, if_false, bne_self_eq_false, Bool.false_eq_true]
  · refine ⟨2000000, ?_⟩
    unfold laws_FnExactMostInformed.f
    rw [hsz]
    simp only [Option.bind_some]
    rw [if_neg h]
    simp

end Go.Proofs.Ytoncbgjbkgdbaaa.Pure
