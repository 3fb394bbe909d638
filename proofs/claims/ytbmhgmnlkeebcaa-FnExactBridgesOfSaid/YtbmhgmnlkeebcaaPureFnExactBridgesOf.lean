/- The pure statement of the law FnExactBridgesOf is proved: for every input its function answers true. No conditions. -/
import Derived.Test.YtbmhgmnlkeebcaaPFnExactBridgesOfx11
set_option linter.unusedSimpArgs false
set_option linter.unusedVariables false
namespace Go.Proofs.Ytbmhgmnlkeebcaa.Pure
open Go.RowKit Go.Proofs.Ytbmhgmnlkeebcaa.PFnExactBridgesOf Go.Proofs.YtbmhgmnlkeebcaaW.PrintWords Go.Proofs.YtbmhgmnlkeebcaaW.PrintLast Go.Proofs.YtbmhgmnlkeebcaaW.PrintMore

theorem w64 {x : Int} (h0 : -9223372036854775808 ≤ x) (h1 : x ≤ 9223372036854775807) : wrap64 x = x := by unfold wrap64; omega
theorem up64 {i n : Nat} (h : i < n) (hn : n ≤ 4611686018427387904) : wrap64 ((i : Int) + 1) = ((i + 1 : Nat) : Int) := by rw [w64 (by omega) (by omega)]; omega
theorem rd_lt {xs : List Int} {i : Nat} (h : i < xs.length) : rd xs (i : Int) = xs[i] := by unfold rd; simp [List.getD_eq_getElem?_getD, h]
/-- An element of the law's own type, as the program's. -/
def cvCall (x : S38) : S40 := ⟨x.f0, x.f1⟩
theorem rdCall0 {xs : List S38} {i : Nat} (h : i < xs.length) : rd_T38 xs (i : Int) = xs[i] := by unfold rd_T38; simp [List.getD_eq_getElem?_getD, h]
theorem rdCall1 {xs : List S40} {i : Nat} (h : i < xs.length) : rd_T40 xs (i : Int) = xs[i] := by unfold rd_T40; simp [List.getD_eq_getElem?_getD, h]
theorem toCallS_l0 (a : List S38) (hn : a.length ≤ 4611686018427387904) : ∀ (d i k : Nat), i + d = a.length → d < k → laws_toCallS.l0 k a ((a.take i).map cvCall ++ List.replicate d z40) (i : Int) = some (a.map cvCall)
  | 0, i, k, hi, hk => by
    obtain ⟨k, rfl⟩ : ∃ q, k = q + 1 := ⟨k - 1, by omega⟩
    simp only [laws_toCallS.l0]
    rw [if_neg (by omega), List.take_of_length_le (by omega)]
    simp
  | d + 1, i, k, hi, hk => by
    obtain ⟨k, rfl⟩ : ∃ q, k = q + 1 := ⟨k - 1, by omega⟩
    have ih := toCallS_l0 a hn d (i + 1) k (by omega) (by omega)
    have ha : i < a.length := by omega
    simp only [laws_toCallS.l0, laws_toCall.f, Option.bind_some]
    rw [if_pos (by omega), if_pos (by omega), if_pos (by simp; omega), up64 ha hn, rdCall0 ha]
    have he : ((a.take i).map cvCall ++ List.replicate (d + 1) z40).set ((i : Nat) : Int).toNat (cvCall a[i]) = (a.take (i + 1)).map cvCall ++ List.replicate d z40 := by
      rw [List.set_append_right _ _ (by simp; omega), List.replicate_succ]
      have e : ((i : Nat) : Int).toNat - ((a.take i).map cvCall).length = 0 := by simp; omega
      rw [e, List.set_cons_zero, List.take_succ_eq_append_getElem ha]
      simp only [List.append_assoc, List.singleton_append, List.map_append, List.map_cons, List.map_nil]
    exact (congrArg (fun z => laws_toCallS.l0 k a z ((i + 1 : Nat) : Int)) he).trans ih
theorem toCallS_f (a : List S38) (hn : a.length ≤ 1048576) {k : Nat} (hk : a.length < k) : laws_toCallS.f k a = some (a.map cvCall) := by
  unfold laws_toCallS.f
  rw [if_pos (by omega), if_pos (by omega)]
  exact toCallS_l0 a (by omega) a.length 0 k (by omega) hk
theorem eqCallS_l0 (a : List S40) (hn : a.length ≤ 4611686018427387904) : ∀ (d i k : Nat), i + d = a.length → d < k → laws_eqCallS.l0 k a a (i : Int) = some true
  | 0, i, k, hi, hk => by
    obtain ⟨k, rfl⟩ : ∃ q, k = q + 1 := ⟨k - 1, by omega⟩
    simp only [laws_eqCallS.l0]
    rw [if_neg (by omega)]
  | d + 1, i, k, hi, hk => by
    obtain ⟨k, rfl⟩ : ∃ q, k = q + 1 := ⟨k - 1, by omega⟩
    have ih := eqCallS_l0 a hn d (i + 1) k (by omega) (by omega)
    have ha : i < a.length := by omega
    simp only [laws_eqCallS.l0, laws_eqCall.f]
    rw [if_pos (by omega), if_pos (by omega), if_pos (by omega), up64 ha hn]
    simpa using ih
theorem eqCallS_f (a : List S40) (hn : a.length ≤ 4611686018427387904) {k : Nat} (hk : a.length < k) : laws_eqCallS.f k a a = some true := by
  unfold laws_eqCallS.f
  rw [if_pos rfl]
  exact eqCallS_l0 a hn a.length 0 k (by omega) hk
theorem szCallS_f (a : List S38) (hn : a.length ≤ 9223372036854775807) : laws_szCallS.f a 1048576 = some (if a.length ≤ 1048576 then 1048576 - (a.length : Int) else -1) := by
  unfold laws_szCallS.f
  rw [w64 (by omega) (by omega)]
  by_cases h : a.length ≤ 1048576
  · rw [if_neg (by omega), if_pos h]
  · rw [if_pos (by omega), if_neg h]
/-- The place of the first x in a list, or -1. -/
def ix (l : List Int) (x : Int) : Int := if x ∈ l then (l.idxOf x : Int) else -1
theorem index_l0 (a : List Int) (x : Int) (hn : a.length ≤ 4611686018427387904) : ∀ (d i k : Nat), i + d = a.length → d < k → x ∉ a.take i → slices_Index_int_int.l0 k a x (a.length : Int) (i : Int) = some (ix a x)
  | 0, i, k, hi, hk, hx => by
    obtain ⟨k, rfl⟩ : ∃ q, k = q + 1 := ⟨k - 1, by omega⟩
    simp only [slices_Index_int_int.l0]
    rw [List.take_of_length_le (by omega)] at hx
    rw [if_neg (by omega)]
    unfold ix
    rw [if_neg hx]
  | d + 1, i, k, hi, hk, hx => by
    obtain ⟨k, rfl⟩ : ∃ q, k = q + 1 := ⟨k - 1, by omega⟩
    have ha : i < a.length := by omega
    simp only [slices_Index_int_int.l0]
    rw [if_pos (by omega), if_pos (by omega), if_pos (by omega), up64 ha hn, rd_lt ha]
    by_cases e : x = a[i]
    · rw [if_pos e]
      unfold ix
      have hm : x ∈ a := by rw [e]; exact List.getElem_mem ha
      rw [if_pos hm]
      have h2 : a.idxOf x = i := by
        have h3 : a = a.take i ++ a[i] :: a.drop (i + 1) := by rw [← List.drop_eq_getElem_cons ha, List.take_append_drop]
        rw [h3, List.idxOf_append, if_neg hx, ← e, List.idxOf_cons_self]
        simp; omega
      rw [h2]
    · rw [if_neg e]
      refine index_l0 a x hn d (i + 1) k (by omega) (by omega) ?_
      rw [List.take_succ_eq_append_getElem ha, List.mem_append, List.mem_singleton]
      exact fun h => h.elim hx e
theorem index_f (a : List Int) (x : Int) (hn : a.length ≤ 4611686018427387904) {k : Nat} (hk : a.length < k) : slices_Index_int_int.f k a x = some (ix a x) :=
  index_l0 a x hn a.length 0 k (by omega) hk (by simp)
theorem ix_mem (l : List Int) (x : Int) : ix l x ≥ 0 ↔ x ∈ l := by
  unfold ix
  split <;> simp_all
theorem contains_f (a : List Int) (x : Int) (hn : a.length ≤ 4611686018427387904) {k : Nat} (hk : a.length < k) : slices_Contains_int_int.f k a x = some (decide (x ∈ a)) := by
  unfold slices_Contains_int_int.f
  rw [index_f a x hn hk]
  simp [ix_mem]
theorem netIn (x lo hi : Int) : spec_l1In.f x lo hi = some (decide (lo ≤ x ∧ x ≤ hi)) := by
  unfold spec_l1In.f
  by_cases h : lo ≤ x
  · rw [if_pos h]; simp [h]
  · rw [if_neg h]; simp [h]
theorem netWithin (x lo hi : Int) : impl_within.f x lo hi = some (decide (lo ≤ x ∧ x ≤ hi)) := by
  unfold impl_within.f
  by_cases h : lo ≤ x
  · rw [if_pos h]; simp [h]
  · rw [if_neg h]; simp [h]
/-- A call of two of so many friends, the lower one first. -/
def isC (a : Int) (c : S40) : Bool := decide (0 ≤ c.f0) && (decide (c.f0 < c.f1) && decide (c.f1 < a))
/-- Does one call stand before another? -/
def ltC (c e : S40) : Bool := decide (c.f0 < e.f0) || (decide (c.f0 = e.f0) && decide (c.f1 < e.f1))
theorem isCall_f (a : Int) (c : S40) : impl_isCall.f a c.f0 c.f1 = some (isC a c) := by
  unfold impl_isCall.f isC
  by_cases h : c.f0 ≥ 0
  · by_cases h2 : c.f0 < c.f1
    · rw [if_pos h, if_pos h2]; simp [h, h2]
    · rw [if_pos h, if_neg h2]; simp [h2]
  · rw [if_neg h]; simp [h]
theorem caCall_f (a : Int) (h1 : 1 ≤ a) (h10 : a ≤ 10) (c : S40) : spec_caCall.f a c.f0 c.f1 = some (isC a c) := by
  unfold spec_caCall.f isC
  rw [netIn, w64 (x := a - 1) (by omega) (by omega)]
  simp only [Option.bind_some]
  by_cases h : 0 ≤ c.f0 ∧ c.f0 ≤ a - 1
  · rw [if_pos (decide_eq_true h), w64 (x := c.f0 + 1) (by omega) (by omega), netIn]
    simp only [Option.bind_some, Option.some.injEq]
    rw [Bool.eq_iff_iff]
    simp only [decide_eq_true_eq, Bool.and_eq_true]
    omega
  · rw [if_neg (by simp [h])]
    simp only [Option.some.injEq]
    rw [Bool.eq_iff_iff]
    simp only [decide_eq_true_eq, Bool.and_eq_true, Bool.false_eq_true, false_iff]
    omega
theorem neLess_f (c e : S40) : spec_neLess.f c.f0 c.f1 e.f0 e.f1 = some (ltC c e) := by
  unfold spec_neLess.f ltC
  by_cases h : c.f0 < e.f0
  · rw [if_pos h]; simp [h]
  · by_cases h2 : c.f0 = e.f0
    · rw [if_neg h, if_pos h2]; simp [h2]
    · rw [if_neg h, if_neg h2]; simp [h, h2]
/-- What comparing two numbers answers. -/
def cmpI (x y : Int) : Int := if x < y then -1 else if x > y then 1 else 0
theorem compare_f (x y : Int) : cmp_Compare_int.f x y = some (cmpI x y) := by
  unfold cmp_Compare_int.f cmp_isNaN_int.f cmpI
  simp only [bne_self_eq_false, Option.bind_some, Bool.false_eq_true, if_false]
  split
  · rfl
  · split <;> rfl
theorem or2_f (x y : Int) {k : Nat} (hk : 4 < k) : cmp_Or_int.f k [x, y] = some (if x = 0 then y else x) := by
  obtain ⟨k, rfl⟩ : ∃ q, k = q + 3 := ⟨k - 3, by omega⟩
  have r0 : rd [x, y] 0 = x := rfl
  have r1 : rd [x, y] 1 = y := rfl
  have u0 : wrap64 (0 + 1) = 1 := w64 (by omega) (by omega)
  have u1 : wrap64 (1 + 1) = 2 := w64 (by omega) (by omega)
  unfold cmp_Or_int.f
  have e2 : cmp_Or_int.l0 (k + 1) 0 [x, y] 2 2 = some 0 := by
    simp only [cmp_Or_int.l0]; rw [if_neg (by omega)]
  have e1 : cmp_Or_int.l0 (k + 2) 0 [x, y] 2 1 = some y := by
    rw [cmp_Or_int.l0, if_pos (by omega), if_pos (by omega), if_pos (by simp), r1, u1]
    by_cases hy : y = 0
    · rw [if_pos hy, e2, hy]
    · rw [if_neg hy]
  show cmp_Or_int.l0 (k + 3) 0 [x, y] 2 0 = _
  rw [cmp_Or_int.l0, if_pos (by omega), if_pos (by omega), if_pos (by simp), r0, u0]
  by_cases hx : x = 0
  · rw [if_pos hx, e1, if_pos hx]
  · rw [if_neg hx, if_neg hx]
theorem compareCalls_f (c e : S40) {k : Nat} (hk : 4 < k) : ∃ v, impl_compareCalls.f k c.f0 c.f1 e.f0 e.f1 = some v ∧ (v ≥ 0 ↔ ltC c e = false) := by
  unfold impl_compareCalls.f
  simp only [compare_f, Option.bind_some, or2_f _ _ hk]
  refine ⟨_, rfl, ?_⟩
  unfold ltC cmpI
  by_cases h0 : c.f0 < e.f0
  · simp [h0]
  · by_cases h1 : c.f0 > e.f0
    · have h2 : ¬ c.f0 = e.f0 := by omega
      simp [h0, h1, h2]
    · have h2 : c.f0 = e.f0 := by omega
      by_cases h3 : c.f1 < e.f1
      · simp [h2, h3]
      · by_cases h4 : c.f1 > e.f1
        · simp [h2, h3, h4]
        · simp [h2, h3, h4]
/-- Is the call at this place a good one, and behind the one ahead of it? -/
def okP (a : Int) (l : List S40) (i : Nat) : Bool := isC a (rd_T40 l (i : Int)) && (decide (i = 0) || ltC (rd_T40 l ((i : Int) - 1)) (rd_T40 l (i : Int)))
def okFrom (a : Int) (l : List S40) : Nat → Nat → Bool
  | _, 0 => true
  | i, d + 1 => okP a l i && okFrom a l (i + 1) d
theorem neGood_l0 (a : Int) (h1 : 1 ≤ a) (h10 : a ≤ 10) (l : List S40) (hn : l.length ≤ 1048576) : ∀ (d i k : Nat), i + d = l.length → d < k → spec_neGood.l0 k a l l (l.length : Int) (i : Int) = some (okFrom a l i d)
  | 0, i, k, hi, hk => by
    obtain ⟨k, rfl⟩ : ∃ q, k = q + 1 := ⟨k - 1, by omega⟩
    simp only [spec_neGood.l0]
    rw [if_neg (by omega)]
    rfl
  | d + 1, i, k, hi, hk => by
    obtain ⟨k, rfl⟩ : ∃ q, k = q + 1 := ⟨k - 1, by omega⟩
    have ih := neGood_l0 a h1 h10 l hn d (i + 1) k (by omega) (by omega)
    have ha : i < l.length := by omega
    simp only [spec_neGood.l0]
    rw [if_pos (by omega), if_pos (by omega), if_pos (by omega), caCall_f a h1 h10, up64 ha (by omega), ih, w64 (x := (i : Int) - 1) (by omega) (by omega)]
    simp only [Option.bind_some, okFrom, okP]
    by_cases hc : isC a (rd_T40 l (i : Int)) = true
    · rw [if_pos hc, hc]
      by_cases h0 : i = 0
      · rw [if_neg (by omega)]; simp [h0]
      · rw [if_pos (by omega), if_pos (by omega), if_pos (by omega), neLess_f]
        simp only [Option.bind_some]
        cases ltC (rd_T40 l ((i : Int) - 1)) (rd_T40 l (i : Int)) <;> simp [h0]
    · rw [if_neg hc]
      rw [Bool.not_eq_true] at hc
      rw [hc]; rfl
theorem friends_f (a : Int) : spec_neFriends.f a = some (decide (1 ≤ a ∧ a ≤ 10)) := by
  unfold spec_neFriends.f
  rw [netIn]; rfl
theorem areFriends_f (a : Int) : impl_areFriends.f a = some (decide (1 ≤ a ∧ a ≤ 10)) := by
  unfold impl_areFriends.f
  rw [netWithin]; rfl
theorem arePairs_l0 (a : Int) (l : List S40) (hn : l.length ≤ 1048576) : ∀ (d i k : Nat), i + d = l.length → d + 10 < k → impl_ArePairs.l0 k a l l (l.length : Int) (i : Int) = some (okFrom a l i d && decide (1 ≤ a ∧ a ≤ 10))
  | 0, i, k, hi, hk => by
    obtain ⟨k, rfl⟩ : ∃ q, k = q + 1 := ⟨k - 1, by omega⟩
    simp only [impl_ArePairs.l0]
    rw [if_neg (by omega), areFriends_f]
    rfl
  | d + 1, i, k, hi, hk => by
    obtain ⟨k, rfl⟩ : ∃ q, k = q + 1 := ⟨k - 1, by omega⟩
    have ih := arePairs_l0 a l hn d (i + 1) k (by omega) (by omega)
    have ha : i < l.length := by omega
    simp only [impl_ArePairs.l0]
    rw [if_pos (by omega), if_pos (by omega), if_pos (by omega), isCall_f, up64 ha (by omega), ih, w64 (x := (i : Int) - 1) (by omega) (by omega)]
    simp only [Option.bind_some, okFrom, okP]
    by_cases hc : isC a (rd_T40 l (i : Int)) = true
    · rw [if_pos hc, hc]
      by_cases h0 : i = 0
      · rw [if_neg (by omega)]; simp [h0]
      · rw [if_pos (by omega), if_pos (by omega), if_pos (by omega)]
        obtain ⟨v, e1, e2⟩ := compareCalls_f (rd_T40 l ((i : Int) - 1)) (rd_T40 l (i : Int)) (k := k) (by omega)
        rw [e1]
        simp only [Option.bind_some]
        by_cases hv : v ≥ 0
        · rw [if_pos hv, e2.1 hv]; simp [h0]
        · rw [if_neg hv]
          have : ltC (rd_T40 l ((i : Int) - 1)) (rd_T40 l (i : Int)) = true := by
            cases h : ltC (rd_T40 l ((i : Int) - 1)) (rd_T40 l (i : Int))
            · exact absurd (e2.2 h) hv
            · rfl
          rw [this]; simp
    · rw [if_neg hc]
      rw [Bool.not_eq_true] at hc
      rw [hc]; rfl
theorem okFrom_at {a : Int} {l : List S40} : ∀ {d i j : Nat}, okFrom a l i d = true → i ≤ j → j < i + d → okP a l j = true
  | 0, i, j, h, h1, h2 => by omega
  | d + 1, i, j, h, h1, h2 => by
    simp only [okFrom, Bool.and_eq_true] at h
    by_cases e : j = i
    · rw [e]; exact h.1
    · exact okFrom_at h.2 (by omega) (by omega)
/-- How many calls stand ahead of those of one friend. -/
def Tn (n : Nat) : Nat → Nat
  | 0 => 0
  | x + 1 => Tn n x + (n - 1 - x)
theorem Tn_mono (n : Nat) : ∀ {x y : Nat}, x ≤ y → Tn n x ≤ Tn n y := by
  intro x y h
  induction h with
  | refl => exact Nat.le_refl _
  | step _ ih => exact Nat.le_trans ih (by simp [Tn])
theorem Tn_all : ∀ n ∈ List.range 11, Tn n n = n * (n - 1) / 2 := by decide
theorem len_bound (a : Int) (h1 : 1 ≤ a) (h10 : a ≤ 10) (l : List S40) (h : okFrom a l 0 l.length = true) : (l.length : Int) ≤ (Int.tdiv (a * (a - 1)) 2) := by
  obtain ⟨n, rfl⟩ := Int.eq_ofNat_of_zero_le (show 0 ≤ a by omega)
  have key : ∀ j : Nat, j < l.length → j ≤ Tn n (rd_T40 l (j : Int)).f0.toNat + ((rd_T40 l (j : Int)).f1.toNat - (rd_T40 l (j : Int)).f0.toNat - 1) := by
    intro j
    induction j with
    | zero => intro _; omega
    | succ j ih =>
      intro hj
      have ih := ih (by omega)
      have o1 := okFrom_at h (Nat.zero_le j) (by omega)
      have o2 := okFrom_at h (Nat.zero_le (j + 1)) (by omega)
      simp only [okP, isC, ltC, Bool.and_eq_true, Bool.or_eq_true, decide_eq_true_eq] at o1 o2
      rw [show (((j + 1 : Nat) : Int) - 1) = (j : Int) by omega] at o2
      generalize rd_T40 l ((j : Nat) : Int) = c at *
      generalize rd_T40 l ((j + 1 : Nat) : Int) = e at *
      obtain ⟨⟨c0, c1, c2⟩, _⟩ := o1
      obtain ⟨⟨e0, e1, e2⟩, o3⟩ := o2
      rcases o3 with o3 | o3 | ⟨o3, o4⟩
      · omega
      · have m := Tn_mono n (x := c.f0.toNat + 1) (y := e.f0.toNat) (by omega)
        simp only [Tn] at m
        omega
      · have : c.f0.toNat = e.f0.toNat := by omega
        rw [← this]
        omega
  have hn := Tn_all n (by rw [List.mem_range]; omega)
  have hb : ((n * (n - 1) / 2 : Nat) : Int) = Int.tdiv ((n : Int) * ((n : Int) - 1)) 2 := by
    have hn' : n ∈ List.range 11 := by rw [List.mem_range]; omega
    have hall : ∀ n ∈ List.range 11, 1 ≤ n → ((n * (n - 1) / 2 : Nat) : Int) = Int.tdiv ((n : Int) * ((n : Int) - 1)) 2 := by decide
    exact hall n hn' (by omega)
  rw [← hb]
  by_cases hl : l.length = 0
  · omega
  · have hk := key (l.length - 1) (by omega)
    have o := okFrom_at h (Nat.zero_le (l.length - 1)) (by omega)
    simp only [okP, isC, Bool.and_eq_true, decide_eq_true_eq] at o
    generalize rd_T40 l ((l.length - 1 : Nat) : Int) = c at *
    obtain ⟨⟨c0, c1, c2⟩, _⟩ := o
    have m := Tn_mono n (x := c.f0.toNat + 1) (y := n) (by omega)
    simp only [Tn] at m
    omega
/-- Are they pairs? -/
def areP (a : Int) (l : List S40) : Bool := okFrom a l 0 l.length && decide (1 ≤ a ∧ a ≤ 10)
theorem arePairs_f (a : Int) (l : List S40) (hn : l.length ≤ 1048576) {k : Nat} (hk : 1048600 < k) : impl_ArePairs.f k a l = some (areP a l) :=
  arePairs_l0 a l hn l.length 0 k (by omega) (by omega)
theorem neGood_f (a : Int) (l : List S40) (hn : l.length ≤ 1048576) {k : Nat} (hk : 1048600 < k) : spec_neGood.f k a l = some (areP a l) := by
  obtain ⟨k, rfl⟩ : ∃ q, k = q + 1 := ⟨k - 1, by omega⟩
  unfold spec_neGood.f areP
  rw [friends_f]
  simp only [Option.bind_some]
  by_cases h : 1 ≤ a ∧ a ≤ 10
  · rw [if_pos (decide_eq_true h), w64 (x := a - 1) (by omega) (by omega)]
    have hm : a * (a - 1) ≤ 90 ∧ 0 ≤ a * (a - 1) := by
      have : a = 1 ∨ a = 2 ∨ a = 3 ∨ a = 4 ∨ a = 5 ∨ a = 6 ∨ a = 7 ∨ a = 8 ∨ a = 9 ∨ a = 10 := by omega
      rcases this with rfl | rfl | rfl | rfl | rfl | rfl | rfl | rfl | rfl | rfl <;> decide
    rw [w64 (x := a * (a - 1)) (by omega) (by omega)]
    have ht : Int.tdiv (a * (a - 1)) 2 ≤ 90 ∧ 0 ≤ Int.tdiv (a * (a - 1)) 2 := by
      generalize a * (a - 1) = z at hm
      rw [Int.tdiv_eq_ediv_of_nonneg hm.2]
      omega
    rw [w64 (x := Int.tdiv (a * (a - 1)) 2) (by omega) (by omega)]
    simp only [spec_neGood.j0]
    by_cases hl : (l.length : Int) > Int.tdiv (a * (a - 1)) 2
    · rw [if_pos (decide_eq_true hl)]
      have : okFrom a l 0 l.length = false := by
        cases ho : okFrom a l 0 l.length
        · rfl
        · have := len_bound a h.1 h.2 l ho; omega
      rw [this]; rfl
    · rw [if_neg (by simpa using hl)]
      have := neGood_l0 a h.1 h.2 l hn l.length 0 k (by omega) (by omega)
      rw [show (0 : Int) = ((0 : Nat) : Int) from rfl, this, decide_eq_true h]
      simp
  · rw [if_neg (by simpa using h)]
    simp only [spec_neGood.j0, if_true]
    rw [decide_eq_false h]; simp
/-- May these two call each other? -/
def hasP (l : List S40) (x y : Int) : Bool := l.any fun c => c.f0 == mn x y && (c.f1 == mx x y)
theorem caPair_f (x y : Int) : spec_caPair.f x y = some (mn x y, mx x y) := by
  unfold spec_caPair.f spec_l1Least.f spec_l1Most.f mn mx
  by_cases h : x < y
  · rw [if_pos h, if_neg (by omega), if_neg (by omega), if_pos h]; rfl
  · by_cases h2 : x > y
    · rw [if_neg h, if_pos h2, if_pos (by omega), if_neg h]; rfl
    · rw [if_neg h, if_neg h2, if_neg (by omega), if_neg h]
      simp; omega
theorem neIs_l0 (x y : Int) (l : List S40) (hn : l.length ≤ 1048576) : ∀ (d i k : Nat), i + d = l.length → d < k → spec_neIs.l0 k x y l (l.length : Int) (i : Int) = some ((l.drop i).any fun c => c.f0 == mn x y && (c.f1 == mx x y))
  | 0, i, k, hi, hk => by
    obtain ⟨k, rfl⟩ : ∃ q, k = q + 1 := ⟨k - 1, by omega⟩
    simp only [spec_neIs.l0]
    rw [if_neg (by omega), List.drop_eq_nil_of_le (by omega)]
    rfl
  | d + 1, i, k, hi, hk => by
    obtain ⟨k, rfl⟩ : ∃ q, k = q + 1 := ⟨k - 1, by omega⟩
    have ih := neIs_l0 x y l hn d (i + 1) k (by omega) (by omega)
    have ha : i < l.length := by omega
    simp only [spec_neIs.l0]
    rw [if_pos (by omega), if_pos (by omega), if_pos (by omega), caPair_f, up64 ha (by omega), ih, rdCall1 ha, List.drop_eq_getElem_cons ha, List.any_cons]
    simp only [Option.bind_some]
    cases (l[i].f0 == mn x y && (l[i].f1 == mx x y)) <;> simp
theorem neIs_f (x y : Int) (l : List S40) (hn : l.length ≤ 1048576) {k : Nat} (hk : l.length < k) : spec_neIs.f k l x y = some (hasP l x y) := by
  have := neIs_l0 x y l hn l.length 0 k (by omega) hk
  simpa [spec_neIs.f, hasP] using this
theorem callIx_l0 (u v : Int) (l : List S40) (hn : l.length ≤ 1048576) : ∀ (d i k : Nat), i + d = l.length → d < k → ∃ r : Int, impl_Call_93.l0 k l (l.length : Int) (i : Int) u v = some r ∧ decide (r ≥ 0) = (l.drop i).any fun c => c.f0 == u && (c.f1 == v)
  | 0, i, k, hi, hk => by
    obtain ⟨k, rfl⟩ : ∃ q, k = q + 1 := ⟨k - 1, by omega⟩
    simp only [impl_Call_93.l0]
    rw [if_neg (by omega), List.drop_eq_nil_of_le (by omega)]
    exact ⟨-1, rfl, rfl⟩
  | d + 1, i, k, hi, hk => by
    obtain ⟨k, rfl⟩ : ∃ q, k = q + 1 := ⟨k - 1, by omega⟩
    obtain ⟨r, e1, e2⟩ := callIx_l0 u v l hn d (i + 1) k (by omega) (by omega)
    have ha : i < l.length := by omega
    simp only [impl_Call_93.l0]
    rw [if_pos (by omega), if_pos (by omega), if_pos (by omega), up64 ha (by omega), rdCall1 ha, List.drop_eq_getElem_cons ha]
    by_cases h : (u == l[i].f0 && (v == l[i].f1)) = true
    · rw [if_pos h]
      refine ⟨_, rfl, ?_⟩
      simp only [Bool.and_eq_true, beq_iff_eq] at h
      have hb : (l[i].f0 == u && (l[i].f1 == v)) = true := by simp [h.1, h.2]
      rw [List.any_cons, hb]
      simp
    · rw [if_neg h]
      refine ⟨r, e1, ?_⟩
      rw [e2, List.any_cons]
      have : (l[i].f0 == u && (l[i].f1 == v)) = false := by
        rw [Bool.eq_false_iff]
        intro h2
        simp only [Bool.and_eq_true, beq_iff_eq] at h2
        exact h (by simp [h2.1, h2.2])
      rw [this]; simp
theorem isPair_f (x y : Int) (l : List S40) (hg : ∀ c ∈ l, c.f0 < c.f1) (hn : l.length ≤ 1048576) {k : Nat} (hk : l.length < k) : impl_isPair.f k l x y = some (hasP l x y) := by
  unfold impl_isPair.f
  by_cases h : x = y
  · rw [if_pos h]
    have : hasP l x y = false := by
      rw [Bool.eq_false_iff]
      intro h2
      obtain ⟨c, hc, h3⟩ := List.any_eq_true.1 h2
      simp only [Bool.and_eq_true, beq_iff_eq] at h3
      have := hg c hc
      unfold mn mx at h3
      subst h
      simp at h3
      omega
    rw [this]
  · rw [if_neg h]
    obtain ⟨r, e1, e2⟩ := callIx_l0 (mn x y) (mx x y) l hn l.length 0 k (by omega) hk
    unfold impl_call.f impl_Call_61.f impl_Call_93.f
    simp only [Option.bind_some]
    have e3 : impl_Call_93.l0 k l (l.length : Int) 0 (mn x y) (mx x y) = some r := e1
    rw [e3]
    simp only [Option.bind_some, e2, List.drop_zero]
    rfl
theorem areP_good {a : Int} {l : List S40} (h : areP a l = true) : (1 ≤ a ∧ a ≤ 10) ∧ (∀ c ∈ l, 0 ≤ c.f0 ∧ c.f0 < c.f1 ∧ c.f1 < a) ∧ l.length ≤ 45 := by
  unfold areP at h
  rw [Bool.and_eq_true] at h
  have h2 := of_decide_eq_true h.2
  refine ⟨h2, fun c hc => ?_, ?_⟩
  · obtain ⟨i, hi, rfl⟩ := List.mem_iff_getElem.1 hc
    have := okFrom_at h.1 (Nat.zero_le i) (by omega)
    rw [okP, rdCall1 hi] at this
    simp only [isC, Bool.and_eq_true, decide_eq_true_eq] at this
    exact this.1
  · have := len_bound a h2.1 h2.2 l h.1
    have hm : Int.tdiv (a * (a - 1)) 2 ≤ 45 := by
      have : a = 1 ∨ a = 2 ∨ a = 3 ∨ a = 4 ∨ a = 5 ∨ a = 6 ∨ a = 7 ∨ a = 8 ∨ a = 9 ∨ a = 10 := by omega
      rcases this with rfl | rfl | rfl | rfl | rfl | rfl | rfl | rfl | rfl | rfl <;> decide
    omega
/-- How many are not reached yet. -/
def negs (x : List Int) : Nat := (x.filter fun v => decide (v < 0)).length
theorem negs_set : ∀ (x : List Int) (i : Nat) (v : Int), i < x.length → x.getD i 0 < 0 → 0 ≤ v → negs (x.set i v) + 1 = negs x
  | [], i, v, h, _, _ => by simp at h
  | y :: ys, 0, v, h, hy, hv => by
    simp only [List.getD_cons_zero] at hy
    simp only [List.set_cons_zero, negs, List.filter_cons]
    rw [if_neg (by simp; omega), if_pos (by simpa using hy)]
    simp
  | y :: ys, i + 1, v, h, hy, hv => by
    have ih := negs_set ys i v (by simpa using h) (by simpa using hy) hv
    simp only [List.set_cons_succ, negs, List.filter_cons] at ih ⊢
    split
    · simp only [List.length_cons]; omega
    · exact ih
theorem negs_pos : ∀ (x : List Int) (i : Nat), i < x.length → x.getD i 0 < 0 → 0 < negs x
  | [], i, h, _ => by simp at h
  | y :: ys, 0, h, hy => by
    simp only [List.getD_cons_zero] at hy
    simp only [negs, List.filter_cons]
    rw [if_pos (by simpa using hy)]
    simp
  | y :: ys, i + 1, h, hy => by
    have ih := negs_pos ys i (by simpa using h) (by simpa using hy)
    simp only [negs, List.filter_cons] at ih ⊢
    split
    · simp only [List.length_cons]; omega
    · exact ih
/-- What holds of the distances and the list of those who are reached, at each step. -/
structure Far (n : Nat) (x7 x9 : List Int) : Prop where
  len : x7.length = n
  sum : negs x7 + x9.length = n
  mem : ∀ q ∈ x9, 0 ≤ q ∧ q < (n : Int) ∧ 0 ≤ rd x7 q
  top : ∀ q : Int, 0 ≤ q → q < (n : Int) → rd x7 q ≤ (x9.length : Int)
theorem rdset_eq {xs : List Int} {i : Int} {v : Int} (h0 : 0 ≤ i) (h1 : i < (xs.length : Int)) : rd (xs.set i.toNat v) i = v := by
  unfold rd
  have : i.toNat < xs.length := by omega
  simp [List.getD_eq_getElem?_getD, List.getElem?_set, this]
theorem rdset_ne {xs : List Int} {i j : Int} {v : Int} (h0 : 0 ≤ i) (hj : 0 ≤ j) (h : i ≠ j) : rd (xs.set i.toNat v) j = rd xs j := by
  unfold rd
  have : i.toNat ≠ j.toNat := by omega
  simp [List.getD_eq_getElem?_getD, List.getElem?_set, this]
theorem Far.step {n : Nat} {x7 x9 : List Int} (F : Far n x7 x9) (hn : n ≤ 10) {q : Int} (hq : q ∈ x9) {i : Nat} (hi : i < n) (hneg : rd x7 (i : Int) < 0) : Far n (x7.set i (rd x7 q + 1)) (x9 ++ [(i : Int)]) := by
  obtain ⟨q0, q1, q2⟩ := F.mem q hq
  have hl := F.len
  have hs := F.sum
  have hg : x7.getD i 0 < 0 := hneg
  have ht := F.top q q0 q1
  refine ⟨by simp [hl], ?_, fun p hp => ?_, fun p p0 p1 => ?_⟩
  · have := negs_set x7 i (rd x7 q + 1) (by omega) hg (by omega)
    rw [List.length_append]; simp; omega
  · rw [List.mem_append, List.mem_singleton] at hp
    rcases hp with hp | rfl
    · obtain ⟨p0, p1, p2⟩ := F.mem p hp
      have hne : (i : Int) ≠ p := fun e => by rw [e] at hneg; omega
      have := rdset_ne (xs := x7) (v := rd x7 q + 1) (show (0 : Int) ≤ (i : Int) by omega) p0 hne
      rw [Int.toNat_natCast] at this
      exact ⟨p0, p1, by omega⟩
    · have := rdset_eq (xs := x7) (v := rd x7 q + 1) (show (0 : Int) ≤ (i : Int) by omega) (by omega)
      rw [Int.toNat_natCast] at this
      exact ⟨by omega, by omega, by omega⟩
  · rw [List.length_append, List.length_singleton]
    by_cases e : (i : Int) = p
    · subst e
      have := rdset_eq (xs := x7) (v := rd x7 q + 1) (show (0 : Int) ≤ (i : Int) by omega) (by omega)
      rw [Int.toNat_natCast] at this
      omega
    · have h2 := rdset_ne (xs := x7) (v := rd x7 q + 1) (show (0 : Int) ≤ (i : Int) by omega) p0 e
      rw [Int.toNat_natCast] at h2
      have := F.top p p0 p1
      omega
theorem upJ {j : Nat} (h : j ≤ 1000) : wrap64 ((j : Int) + 1) = ((j + 1 : Nat) : Int) := by rw [w64 (by omega) (by omega)]; omega
theorem far_in (n : Nat) (hn : n ≤ 10) (l : List S40) (hg : ∀ c ∈ l, c.f0 < c.f1) (hl : l.length ≤ 45) (c : Nat) (B : Nat) (hB : 100 ≤ B) (H : ∀ x7 x9, Far n x7 x9 → c + 1 ≤ x9.length → ∃ r : List Int, r.length = n ∧ (∀ q : Int, 0 ≤ q → q < (n : Int) → rd r q ≤ 10) ∧ (∀ k, B ≤ k → spec_neFar.l1 k l x7 x9 ((c + 1 : Nat) : Int) = some r) ∧ (∀ k, B ≤ k → impl_distances.l0 k (n : Int) l x7 x9 ((c + 1 : Nat) : Int) = some r)) : ∀ (dd j : Nat) (x7 x9 : List Int), j + dd = n → Far n x7 x9 → c < x9.length → ∃ r : List Int, r.length = n ∧ (∀ q : Int, 0 ≤ q → q < (n : Int) → rd r q ≤ 10) ∧ (∀ k, B + dd < k → spec_neFar.l2 k l x7 x9 (c : Int) (n : Int) (j : Int) = some r) ∧ (∀ k, B + dd < k → impl_distances.l1 k (n : Int) l x7 x9 (c : Int) (n : Int) (j : Int) = some r)
  | 0, j, x7, x9, hj, F, hc => by
    obtain ⟨r, h1, h0, hs, hi⟩ := H x7 x9 F hc
    have hle : x9.length ≤ 10 := by have := F.sum; omega
    refine ⟨r, h1, h0, fun k hk => ?_, fun k hk => ?_⟩
    · obtain ⟨k, rfl⟩ : ∃ q, k = q + 1 := ⟨k - 1, by omega⟩
      simp only [spec_neFar.l2]
      rw [if_neg (by omega), upJ (j := c) (by omega)]
      exact hs k (by omega)
    · obtain ⟨k, rfl⟩ : ∃ q, k = q + 1 := ⟨k - 1, by omega⟩
      simp only [impl_distances.l1]
      rw [if_neg (by omega), upJ (j := c) (by omega)]
      exact hi k (by omega)
  | dd + 1, j, x7, x9, hj, F, hc => by
    have hlen := F.len
    have hsum := F.sum
    have hle : x9.length ≤ 10 := by omega
    have hq : rd x9 (c : Int) ∈ x9 := by rw [rd_lt hc]; exact List.getElem_mem hc
    obtain ⟨q0, q1, q2⟩ := F.mem _ hq
    have ht := F.top _ q0 q1
    by_cases hneg : rd x7 (j : Int) < 0
    · by_cases hp : hasP l (rd x9 (c : Int)) (j : Int) = true
      · obtain ⟨r, h1, h0, hs, hi⟩ := far_in n hn l hg hl c B hB H dd (j + 1) _ _ (by omega) (F.step hn hq (i := j) (by omega) hneg) (by rw [List.length_append]; omega)
        refine ⟨r, h1, h0, fun k hk => ?_, fun k hk => ?_⟩
        · obtain ⟨k, rfl⟩ : ∃ q, k = q + 1 := ⟨k - 1, by omega⟩
          simp only [spec_neFar.l2]
          rw [if_pos (by omega), if_pos (by omega), if_pos (by omega), if_pos hneg, if_pos (by omega), if_pos (by omega), neIs_f _ _ l (by omega) (by omega)]
          simp only [Option.bind_some]
          rw [if_pos hp, if_pos q0, if_pos (by omega), if_pos (by omega), upJ (j := j) (by omega), w64 (x := rd x7 (rd x9 (c : Int)) + 1) (by omega) (by omega), Int.toNat_natCast]
          exact hs k (by omega)
        · obtain ⟨k, rfl⟩ : ∃ q, k = q + 1 := ⟨k - 1, by omega⟩
          simp only [impl_distances.l1]
          rw [if_pos (by omega), if_pos (by omega), if_pos (by omega), if_pos hneg, if_pos (by omega), if_pos (by omega), isPair_f _ _ l hg (by omega) (by omega)]
          simp only [Option.bind_some]
          rw [if_pos hp, if_pos q0, if_pos (by omega), if_pos (by omega), upJ (j := j) (by omega), w64 (x := rd x7 (rd x9 (c : Int)) + 1) (by omega) (by omega), Int.toNat_natCast]
          exact hi k (by omega)
      · obtain ⟨r, h1, h0, hs, hi⟩ := far_in n hn l hg hl c B hB H dd (j + 1) x7 x9 (by omega) F hc
        refine ⟨r, h1, h0, fun k hk => ?_, fun k hk => ?_⟩
        · obtain ⟨k, rfl⟩ : ∃ q, k = q + 1 := ⟨k - 1, by omega⟩
          simp only [spec_neFar.l2]
          rw [if_pos (by omega), if_pos (by omega), if_pos (by omega), if_pos hneg, if_pos (by omega), if_pos (by omega), neIs_f _ _ l (by omega) (by omega)]
          simp only [Option.bind_some]
          rw [if_neg hp, upJ (j := j) (by omega)]
          exact hs k (by omega)
        · obtain ⟨k, rfl⟩ : ∃ q, k = q + 1 := ⟨k - 1, by omega⟩
          simp only [impl_distances.l1]
          rw [if_pos (by omega), if_pos (by omega), if_pos (by omega), if_pos hneg, if_pos (by omega), if_pos (by omega), isPair_f _ _ l hg (by omega) (by omega)]
          simp only [Option.bind_some]
          rw [if_neg hp, upJ (j := j) (by omega)]
          exact hi k (by omega)
    · obtain ⟨r, h1, h0, hs, hi⟩ := far_in n hn l hg hl c B hB H dd (j + 1) x7 x9 (by omega) F hc
      refine ⟨r, h1, h0, fun k hk => ?_, fun k hk => ?_⟩
      · obtain ⟨k, rfl⟩ : ∃ q, k = q + 1 := ⟨k - 1, by omega⟩
        simp only [spec_neFar.l2]
        rw [if_pos (by omega), if_pos (by omega), if_pos (by omega), if_neg hneg, upJ (j := j) (by omega)]
        exact hs k (by omega)
      · obtain ⟨k, rfl⟩ : ∃ q, k = q + 1 := ⟨k - 1, by omega⟩
        simp only [impl_distances.l1]
        rw [if_pos (by omega), if_pos (by omega), if_pos (by omega), if_neg hneg, upJ (j := j) (by omega)]
        exact hi k (by omega)
theorem far_out (n : Nat) (hn : n ≤ 10) (l : List S40) (hg : ∀ c ∈ l, c.f0 < c.f1) (hl : l.length ≤ 45) : ∀ (m c : Nat) (x7 x9 : List Int), c + m = n → Far n x7 x9 → c ≤ x9.length → ∃ r : List Int, r.length = n ∧ (∀ q : Int, 0 ≤ q → q < (n : Int) → rd r q ≤ 10) ∧ (∀ k, 100 + 20 * m ≤ k → spec_neFar.l1 k l x7 x9 (c : Int) = some r) ∧ (∀ k, 100 + 20 * m ≤ k → impl_distances.l0 k (n : Int) l x7 x9 (c : Int) = some r)
  | m, c, x7, x9, hm, F, hc => by
    have hsum := F.sum
    have hlen := F.len
    by_cases h : c < x9.length
    · obtain ⟨m, rfl⟩ : ∃ q, m = q + 1 := ⟨m - 1, by omega⟩
      obtain ⟨r, h1, h0, hs, hi⟩ := far_in n hn l hg hl c (100 + 20 * m) (by omega) (fun y7 y9 G hy => far_out n hn l hg hl m (c + 1) y7 y9 (by omega) G hy) n 0 x7 x9 (by omega) F h
      refine ⟨r, h1, h0, fun k hk => ?_, fun k hk => ?_⟩
      · obtain ⟨k, rfl⟩ : ∃ q, k = q + 1 := ⟨k - 1, by omega⟩
        simp only [spec_neFar.l1]
        rw [if_pos (by omega), hlen]
        exact hs k (by omega)
      · obtain ⟨k, rfl⟩ : ∃ q, k = q + 1 := ⟨k - 1, by omega⟩
        simp only [impl_distances.l0]
        rw [if_pos (by omega)]
        exact hi k (by omega)
    · refine ⟨x7, hlen, fun q q0 q1 => by have := F.top q q0 q1; omega, fun k hk => ?_, fun k hk => ?_⟩
      · obtain ⟨k, rfl⟩ : ∃ q, k = q + 1 := ⟨k - 1, by omega⟩
        simp only [spec_neFar.l1]
        rw [if_neg (by omega)]
      · obtain ⟨k, rfl⟩ : ∃ q, k = q + 1 := ⟨k - 1, by omega⟩
        simp only [impl_distances.l0]
        rw [if_neg (by omega)]
theorem far_fill (l : List S40) (n : Nat) (hn : n ≤ 10) (s : Int) (h0 : 0 ≤ s) (h1 : s < (n : Int)) (r : List Int) (B : Nat) (H : ∀ k, B ≤ k → spec_neFar.l1 k l ((List.replicate n (-1)).set s.toNat 0) [s] 0 = some r) : ∀ (dd i k : Nat), i + dd = n → B + dd < k → spec_neFar.l0 k l s (List.replicate i (-1) ++ List.replicate dd 0) (n : Int) (i : Int) = some r
  | 0, i, k, hi, hk => by
    obtain ⟨k, rfl⟩ : ∃ q, k = q + 1 := ⟨k - 1, by omega⟩
    simp only [spec_neFar.l0]
    have e : i = n := by omega
    subst e
    rw [if_neg (by omega), if_pos h0, if_pos (by simp; omega)]
    simpa using H k (by omega)
  | dd + 1, i, k, hi, hk => by
    obtain ⟨k, rfl⟩ : ∃ q, k = q + 1 := ⟨k - 1, by omega⟩
    have ih := far_fill l n hn s h0 h1 r B H dd (i + 1) k (by omega) (by omega)
    simp only [spec_neFar.l0]
    rw [if_pos (by omega), if_pos (by omega), if_pos (by simp; omega), w64 (x := (i : Int) + 1) (by omega) (by omega)]
    have e : (List.replicate i (-1 : Int) ++ List.replicate (dd + 1) 0).set ((i : Nat) : Int).toNat (-1) = List.replicate (i + 1) (-1) ++ List.replicate dd 0 := by
      rw [Int.toNat_natCast, List.set_append_right _ _ (by simp), List.length_replicate, Nat.sub_self, List.replicate_succ (n := dd), List.set_cons_zero, List.replicate_succ' (n := i)]
      simp
    rw [e]
    exact ih
theorem negs_rep : ∀ n : Nat, negs (List.replicate n (-1)) = n
  | 0 => rfl
  | n + 1 => by
    have ih := negs_rep n
    simp only [negs, List.replicate_succ, List.filter_cons] at ih ⊢
    rw [if_pos (by decide), List.length_cons, ih]
theorem far_begin (n : Nat) (hn : n ≤ 10) (s : Int) (h0 : 0 ≤ s) (h1 : s < (n : Int)) : Far n ((List.replicate n (-1)).set s.toNat 0) [s] := by
  have hs : s.toNat < n := by omega
  have hg : (List.replicate n (-1 : Int)).getD s.toNat 0 < 0 := by
    rw [List.getD_eq_getElem?_getD, List.getElem?_replicate, if_pos hs]; decide
  refine ⟨by simp, ?_, fun q hq => ?_, fun q q0 q1 => ?_⟩
  · have := negs_set (List.replicate n (-1)) s.toNat 0 (by simpa using hs) hg (by omega)
    rw [negs_rep] at this
    simp; omega
  · rw [List.mem_singleton] at hq
    subst hq
    have := rdset_eq (xs := List.replicate n (-1)) (v := 0) h0 (by simpa using h1)
    exact ⟨h0, h1, by omega⟩
  · by_cases e : s = q
    · subst e
      have := rdset_eq (xs := List.replicate n (-1)) (v := 0) h0 (by simpa using h1)
      rw [this]; simp
    · have := rdset_ne (xs := List.replicate n (-1)) (v := 0) h0 q0 e
      rw [this]
      have hr : rd (List.replicate n (-1)) q = -1 := by
        unfold rd
        rw [List.getD_eq_getElem?_getD, List.getElem?_replicate, if_pos (by omega)]; rfl
      rw [hr]; simp
/-- The distances from one: the two tellings agree. -/
theorem far_both (a : Int) (h1 : 1 ≤ a) (h10 : a ≤ 10) (l : List S40) (hg : ∀ c ∈ l, c.f0 < c.f1) (hl : l.length ≤ 45) (s : Int) (s0 : 0 ≤ s) (s1 : s < a) : ∃ r : List Int, (r.length : Int) = a ∧ (∀ q : Int, 0 ≤ q → q < a → rd r q ≤ 10) ∧ (∀ k, 500 ≤ k → spec_neFar.f k a l s = some r) ∧ (∀ k, 500 ≤ k → impl_distances.f k a l s = some r) := by
  obtain ⟨n, rfl⟩ := Int.eq_ofNat_of_zero_le (show 0 ≤ a by omega)
  obtain ⟨r, e1, e2, hs, hi⟩ := far_out n (by omega) l hg hl n 0 _ _ (by omega) (far_begin n (by omega) s s0 s1) (by simp)
  refine ⟨r, by omega, e2, fun k hk => ?_, fun k hk => ?_⟩
  · unfold spec_neFar.f
    rw [if_pos (by omega), if_pos (by omega)]
    have := far_fill l n (by omega) s s0 s1 r (100 + 20 * n) hs n 0 k (by omega) (by omega)
    simpa using this
  · unfold impl_distances.f slices_Repeat_int_int.f
    rw [if_pos ⟨rfl, by omega, by omega⟩]
    simp only [Option.bind_some]
    rw [if_pos s0, if_pos (by simp; omega)]
    have := hi k (by omega)
    simpa [rd] using this
theorem has_l0 (x : Int) (l : List Int) (hn : l.length ≤ 1000) : ∀ (d i k : Nat), i + d = l.length → d < k → spec_l1Has.l0 k x l (l.length : Int) (i : Int) = some (decide (x ∈ l.drop i))
  | 0, i, k, hi, hk => by
    obtain ⟨k, rfl⟩ : ∃ q, k = q + 1 := ⟨k - 1, by omega⟩
    simp only [spec_l1Has.l0]
    rw [if_neg (by omega), List.drop_eq_nil_of_le (by omega)]
    simp
  | d + 1, i, k, hi, hk => by
    obtain ⟨k, rfl⟩ : ∃ q, k = q + 1 := ⟨k - 1, by omega⟩
    have ih := has_l0 x l hn d (i + 1) k (by omega) (by omega)
    have ha : i < l.length := by omega
    simp only [spec_l1Has.l0]
    rw [if_pos (by omega), if_pos (by omega), if_pos (by omega), rd_lt ha, up64 ha (by omega), ih, List.drop_eq_getElem_cons ha]
    by_cases e : l[i] = x
    · rw [if_pos e]; simp [e]
    · rw [if_neg e]
      congr 1
      apply decide_eq_decide.mpr
      rw [List.mem_cons]
      exact ⟨.inr, fun h => h.resolve_left (fun z => e z.symm)⟩
theorem has_f (x : Int) (l : List Int) (hn : l.length ≤ 1000) {k : Nat} (hk : l.length < k) : spec_l1Has.f k l x = some (decide (x ∈ l)) := by
  have := has_l0 x l hn l.length 0 k (by omega) hk
  simpa [spec_l1Has.f] using this
/-- The calls (1, 2), (3, 4), .. -/
def mkC (n : Nat) : List S40 := (List.range n).map fun (j : Nat) => ⟨1 + 2 * (j : Int), 1 + 2 * (j : Int) + 1⟩
theorem mkC_len (n : Nat) : (mkC n).length = n := by simp [mkC]
theorem mkC_succ (n : Nat) : mkC (n + 1) = mkC n ++ [⟨1 + 2 * (n : Int), 1 + 2 * (n : Int) + 1⟩] := by simp [mkC, List.range_succ]
theorem mkC_rd {n i : Nat} (h : i < n) : rd_T40 (mkC n) (i : Int) = ⟨1 + 2 * (i : Int), 1 + 2 * (i : Int) + 1⟩ := by
  rw [rdCall1 (by rw [mkC_len]; exact h)]
  simp [mkC]
theorem markCallS_l0 (l : List S40) (hn : l.length ≤ 1000000000) : ∀ (d i k : Nat), i + d = l.length → d < k → laws_markCallS.l0 k (mkC i ++ l.drop i) (1 + 2 * (i : Int)) (i : Int) = some (1 + 2 * (l.length : Int), mkC l.length)
  | 0, i, k, hi, hk => by
    obtain ⟨k, rfl⟩ : ∃ q, k = q + 1 := ⟨k - 1, by omega⟩
    have e : i = l.length := by omega
    subst e
    simp only [laws_markCallS.l0]
    rw [if_neg (by rw [List.length_append, mkC_len, List.length_drop]; omega), List.drop_eq_nil_of_le (by omega), List.append_nil]
  | d + 1, i, k, hi, hk => by
    obtain ⟨k, rfl⟩ : ∃ q, k = q + 1 := ⟨k - 1, by omega⟩
    have ha : i < l.length := by omega
    have ih := markCallS_l0 l hn d (i + 1) k (by omega) (by omega)
    simp only [laws_markCallS.l0, Option.bind_some]
    rw [if_pos (by rw [List.length_append, mkC_len, List.length_drop]; omega), if_pos (by omega), up64 ha (by omega), w64 (x := 1 + 2 * (i : Int) + 1) (by omega) (by omega), w64 (x := 1 + 2 * (i : Int) + 1 + 1) (by omega) (by omega), Int.toNat_natCast]
    have hl : i < (mkC i ++ l.drop i).length := by rw [List.length_append, mkC_len, List.length_drop]; omega
    have he : ∀ v : S40, (mkC i ++ l.drop i).set i v = mkC i ++ v :: l.drop (i + 1) := by
      intro v
      rw [List.set_append_right _ _ (by rw [mkC_len]; omega), mkC_len, List.drop_eq_getElem_cons ha, show i - i = 0 by omega, List.set_cons_zero]
    have hr : ∀ v : S40, rd_T40 ((mkC i ++ l.drop i).set i v) (i : Int) = v := by
      intro v
      rw [rdCall1 (by rw [List.length_set]; exact hl), List.getElem_set_self]
    rw [hr, List.set_set, he, show 1 + 2 * (i : Int) + 1 + 1 = 1 + 2 * ((i + 1 : Nat) : Int) by omega]
    rw [mkC_succ, List.append_assoc, List.singleton_append] at ih
    exact ih
theorem markCallS_f (l : List S40) (hn : l.length ≤ 1000000000) {k : Nat} (hk : l.length < k) : laws_markCallS.f k l 1 = some (1 + 2 * (l.length : Int), mkC l.length) := by
  have h := markCallS_l0 l hn l.length 0 k (by omega) hk
  unfold laws_markCallS.f
  simpa [mkC] using h
theorem heldCallS_l0 (n : Nat) (hn : n ≤ 1000000000) : ∀ (d i k : Nat), i + d = n → d < k → laws_heldCallS.l0 k (mkC n) (1 + 2 * (i : Int)) (i : Int) = some (1 + 2 * (n : Int))
  | 0, i, k, hi, hk => by
    obtain ⟨k, rfl⟩ : ∃ q, k = q + 1 := ⟨k - 1, by omega⟩
    have e : i = n := by omega
    subst e
    simp only [laws_heldCallS.l0]
    rw [if_neg (by rw [mkC_len]; omega)]
  | d + 1, i, k, hi, hk => by
    obtain ⟨k, rfl⟩ : ∃ q, k = q + 1 := ⟨k - 1, by omega⟩
    have ha : i < n := by omega
    have ih := heldCallS_l0 n hn d (i + 1) k (by omega) (by omega)
    simp only [laws_heldCallS.l0]
    rw [if_pos (by rw [mkC_len]; omega), if_pos (by omega), mkC_rd ha, if_pos rfl, w64 (x := 1 + 2 * (i : Int) + 1) (by omega) (by omega), if_pos rfl, up64 ha (by omega), w64 (x := 1 + 2 * (i : Int) + 1 + 1) (by omega) (by omega), show 1 + 2 * (i : Int) + 1 + 1 = 1 + 2 * ((i + 1 : Nat) : Int) by omega]
    exact ih
theorem heldCallS_f (n : Nat) (hn : n ≤ 1000000000) {k : Nat} (hk : n < k) : laws_heldCallS.f k (mkC n) 1 = some (1 + 2 * (n : Int)) := by
  have h := heldCallS_l0 n hn n 0 k (by omega) hk
  unfold laws_heldCallS.f
  simpa using h
theorem jn_f (a : Int) (h1 : 1 ≤ a) (h2 : a ≤ 10) (l : List S40) (hg : ∀ c ∈ l, c.f0 < c.f1) (hl : l.length ≤ 45) : ∃ b : Bool, (∀ k, 1100000 ≤ k → spec_neJoined.f k a l = some b) ∧ (∀ k, 1100000 ≤ k → impl_isJoined.f k a l = some b) := by
  obtain ⟨o, o1, _, os, oi⟩ := far_both a h1 h2 l hg hl 0 (by omega) (by omega)
  refine ⟨!decide ((-1 : Int) ∈ o), fun k hk => ?_, fun k hk => ?_⟩
  · unfold spec_neJoined.f
    rw [os k (by omega)]
    simp only [Option.bind_some]
    rw [has_f (-1) o (by omega) (by omega)]
    rfl
  · unfold impl_isJoined.f
    rw [oi k (by omega)]
    simp only [Option.bind_some]
    rw [contains_f o (-1) (by omega) (by omega)]
    rfl
theorem caLess_f (l : List S40) (hl : l.length ≤ 45) {i : Nat} (hi : i < l.length) : spec_caLess.f l (i : Int) = some (l.eraseIdx i) := by
  have h1 : 0 ≤ (i : Int) := by omega
  have h2 : (i : Int) ≤ (l.length : Int) := by omega
  have h3 : ([] : List S40).length + (List.take (i : Int).toNat l).length < 8796093022208 := by rw [List.length_take, List.length_nil]; omega
  have hw : wrap64 ((i : Int) + 1) = ((i + 1 : Nat) : Int) := up64 hi (by omega)
  have h4 : 0 ≤ wrap64 ((i : Int) + 1) := by rw [hw]; omega
  have h5 : wrap64 ((i : Int) + 1) ≤ (l.length : Int) := by rw [hw]; omega
  have h6 : (([] : List S40) ++ List.take (i : Int).toNat l).length + (List.drop (wrap64 ((i : Int) + 1)).toNat l).length < 8796093022208 := by
    rw [List.length_append, List.length_take, List.length_drop, List.length_nil]
    omega
  unfold spec_caLess.f
  rw [Option.bind_some, if_pos h1, if_pos h2, Option.bind_some, if_pos h3, Option.bind_some, if_pos h4, if_pos h5, Option.bind_some, if_pos h6, hw, List.eraseIdx_eq_take_drop_succ, Int.toNat_natCast, Int.toNat_natCast, List.nil_append]
theorem without_f (l : List S40) (hl : l.length ≤ 45) {i : Nat} (hi : i < l.length) : impl_Call_50.f l (i : Int) = some (l.eraseIdx i) := by
  unfold impl_Call_50.f impl_Call_62.f
  rw [if_pos (by omega)]
  simp only [Option.bind_some]
  rw [if_pos (by omega), Int.toNat_natCast]
theorem bridges_l0 (a : Int) (h1 : 1 ≤ a) (h2 : a ≤ 10) (l : List S40) (hg : ∀ c ∈ l, c.f0 < c.f1) (hl : l.length ≤ 45) : ∀ (d i : Nat) (out : List S40), i + d = l.length → out.length ≤ i →
    ∃ r : List S40, r.length ≤ l.length ∧ (∀ k, 1100000 + d < k → spec_BridgesOf.l0 k a l out l (l.length : Int) (i : Int) = some (r, true)) ∧ (∀ k, 1100000 + d < k → impl_BridgesOf.l0 k a l out l (l.length : Int) (i : Int) = some (r, true))
  | 0, i, out, hi, ho => by
    refine ⟨out, by omega, fun k hk => ?_, fun k hk => ?_⟩
    · obtain ⟨k, rfl⟩ : ∃ q, k = q + 1 := ⟨k - 1, by omega⟩
      simp only [spec_BridgesOf.l0]
      rw [if_neg (by omega)]
    · obtain ⟨k, rfl⟩ : ∃ q, k = q + 1 := ⟨k - 1, by omega⟩
      simp only [impl_BridgesOf.l0]
      rw [if_neg (by omega)]
  | d + 1, i, out, hi, ho => by
    have hil : i < l.length := by omega
    obtain ⟨b, js, ji⟩ := jn_f a h1 h2 (l.eraseIdx i) (fun c hc => hg c (List.mem_of_mem_eraseIdx hc)) (by rw [List.length_eraseIdx_of_lt hil]; omega)
    cases b with
    | true =>
      obtain ⟨r, r1, r2, r3⟩ := bridges_l0 a h1 h2 l hg hl d (i + 1) out (by omega) (by omega)
      refine ⟨r, r1, fun k hk => ?_, fun k hk => ?_⟩
      · obtain ⟨k, rfl⟩ : ∃ q, k = q + 1 := ⟨k - 1, by omega⟩
        simp only [spec_BridgesOf.l0]
        rw [if_pos (by omega), if_pos (by omega), if_pos (by omega), caLess_f l hl hil]
        simp only [Option.bind_some]
        rw [js k (by omega)]
        simp only [Option.bind_some, if_true]
        rw [up64 hil (by omega)]
        exact r2 k (by omega)
      · obtain ⟨k, rfl⟩ : ∃ q, k = q + 1 := ⟨k - 1, by omega⟩
        simp only [impl_BridgesOf.l0]
        rw [if_pos (by omega), if_pos (by omega), if_pos (by omega), without_f l hl hil]
        simp only [Option.bind_some]
        rw [ji k (by omega)]
        simp only [Option.bind_some, if_true]
        rw [up64 hil (by omega)]
        exact r3 k (by omega)
    | false =>
      obtain ⟨r, r1, r2, r3⟩ := bridges_l0 a h1 h2 l hg hl d (i + 1) (out ++ [(⟨(rd_T40 l (i : Int)).f0, (rd_T40 l (i : Int)).f1⟩ : S40)]) (by omega) (by rw [List.length_append, List.length_singleton]; omega)
      refine ⟨r, r1, fun k hk => ?_, fun k hk => ?_⟩
      · obtain ⟨k, rfl⟩ : ∃ q, k = q + 1 := ⟨k - 1, by omega⟩
        simp only [spec_BridgesOf.l0]
        rw [if_pos (by omega), if_pos (by omega), if_pos (by omega), caLess_f l hl hil]
        simp only [Option.bind_some]
        rw [js k (by omega)]
        simp only [Option.bind_some, Bool.false_eq_true, if_false]
        rw [if_pos (by omega), up64 hil (by omega)]
        exact r2 k (by omega)
      · obtain ⟨k, rfl⟩ : ∃ q, k = q + 1 := ⟨k - 1, by omega⟩
        simp only [impl_BridgesOf.l0]
        rw [if_pos (by omega), if_pos (by omega), if_pos (by omega), without_f l hl hil]
        simp only [Option.bind_some]
        rw [ji k (by omega)]
        simp only [Option.bind_some, Bool.false_eq_true, if_false]
        rw [if_pos (by omega), up64 hil (by omega)]
        exact r3 k (by omega)
theorem BridgesOf_both (a : Int) (l : List S40) (hl : l.length ≤ 1048576) : ∃ r : List S40 × Bool, r.1.length ≤ 1000 ∧ (∀ k, 1200000 ≤ k → spec_BridgesOf.f k a l = some r) ∧ (∀ k, 1200000 ≤ k → impl_BridgesOf.f k a l = some r) := by
  by_cases h : areP a l = true
  · obtain ⟨ha, hgood, hlen⟩ := areP_good h
    have hg : ∀ c ∈ l, c.f0 < c.f1 := fun c hc => (hgood c hc).2.1
    obtain ⟨b, js, ji⟩ := jn_f a ha.1 ha.2 l hg hlen
    cases b with
    | false =>
      refine ⟨([], false), by simp, fun k hk => ?_, fun k hk => ?_⟩
      · obtain ⟨k, rfl⟩ : ∃ q, k = q + 1 := ⟨k - 1, by omega⟩
        unfold spec_BridgesOf.f
        rw [neGood_f a l hl (by omega), h]
        simp [js (k + 1) (by omega), spec_BridgesOf.j0]
      · obtain ⟨k, rfl⟩ : ∃ q, k = q + 1 := ⟨k - 1, by omega⟩
        unfold impl_BridgesOf.f
        rw [arePairs_f a l hl (by omega), h]
        simp [ji (k + 1) (by omega), impl_BridgesOf.j0]
    | true =>
      obtain ⟨r, r1, r2, r3⟩ := bridges_l0 a ha.1 ha.2 l hg hlen l.length 0 [] (by omega) (by simp)
      refine ⟨(r, true), by simp; omega, fun k hk => ?_, fun k hk => ?_⟩
      · obtain ⟨k, rfl⟩ : ∃ q, k = q + 1 := ⟨k - 1, by omega⟩
        unfold spec_BridgesOf.f
        rw [neGood_f a l hl (by omega), h]
        simp only [if_true, Option.bind_some, js (k + 1) (by omega), Bool.not_true, spec_BridgesOf.j0, Bool.false_eq_true, if_false]
        exact r2 k (by omega)
      · obtain ⟨k, rfl⟩ : ∃ q, k = q + 1 := ⟨k - 1, by omega⟩
        unfold impl_BridgesOf.f
        rw [arePairs_f a l hl (by omega), h]
        simp only [if_true, Option.bind_some, ji (k + 1) (by omega), Bool.not_true, impl_BridgesOf.j0, Bool.false_eq_true, if_false]
        exact r3 k (by omega)
  · have h' : areP a l = false := by simpa using h
    refine ⟨([], false), by simp, fun k hk => ?_, fun k hk => ?_⟩
    · obtain ⟨k, rfl⟩ : ∃ q, k = q + 1 := ⟨k - 1, by omega⟩
      unfold spec_BridgesOf.f
      rw [neGood_f a l hl (by omega), h']
      simp [spec_BridgesOf.j0]
    · obtain ⟨k, rfl⟩ : ∃ q, k = q + 1 := ⟨k - 1, by omega⟩
      unfold impl_BridgesOf.f
      rw [arePairs_f a l hl (by omega), h']
      simp [impl_BridgesOf.j0]
theorem FnExactBridgesOf : ∀ (a0 : Int) (l1 : List (S38)), (Lit.int .i64 a0).wf = true → l1.length ≤ maxLen → (∀ x ∈ l1, (fun x => (Lit.int .i64 x.f0).wf = true ∧ (Lit.int .i64 x.f1).wf = true) x) → ∃ k, laws_FnExactBridgesOf.f k a0 l1 = some true := by
  intro a l _ hm _
  refine ⟨2000000, ?_⟩
  unfold laws_FnExactBridgesOf.f
  rw [szCallS_f l (by unfold maxLen at hm; omega)]
  simp only [Option.bind_some]
  by_cases h : l.length ≤ 1048576
  · obtain ⟨⟨o, b⟩, ho, hs, hi⟩ := BridgesOf_both a (l.map cvCall) (by simpa using h)
    dsimp only at ho
    have t1 : ∀ k, 1200000 ≤ k → laws_toCallS.f k l = some (l.map cvCall) := fun k hk => toCallS_f l h (by omega)
    have q1 : ∀ k, 1200000 ≤ k → laws_eqCallS.f k (l.map cvCall) (l.map cvCall) = some true := fun k hk => eqCallS_f _ (by simp; omega) (by simp; omega)
    have m1 : ∀ k, 1200000 ≤ k → laws_markCallS.f k (l.map cvCall) 1 = some (1 + 2 * ((l.map cvCall).length : Int), mkC (l.map cvCall).length) := fun k hk => markCallS_f _ (by simp; omega) (by simp; omega)
    have q2 : ∀ k, 1200000 ≤ k → laws_eqCallS.f k o o = some true := fun k hk => eqCallS_f _ (by omega) (by omega)
    have m2 : ∀ k, 1200000 ≤ k → laws_markCallS.f k o 1 = some (1 + 2 * (o.length : Int), mkC o.length) := fun k hk => markCallS_f _ (by omega) (by omega)
    have d2 : ∀ k, 1200000 ≤ k → laws_heldCallS.f k (mkC o.length) 1 = some (1 + 2 * (o.length : Int)) := fun k hk => heldCallS_f _ (by omega) (by omega)
    have n1 : ¬ (1 + 2 * ((l.map cvCall).length : Int) < 0) := by omega
    have n2 : ¬ (1 + 2 * (o.length : Int) < 0) := by omega
    rw [if_pos h, if_neg (by omega)]
    simp (disch := omega) only [t1, hs, hi, q1, q2, Option.bind_some, if_true, bne_self_eq_false]
    rw [laws_FnExactBridgesOf.j0.eq_def]
    simp (disch := omega) only [t1, hs, hi, q1, q2, m1, m2, d2, n1, n2, Option.bind_some, if_true, if_false, bne_self_eq_false, Bool.false_eq_true]
    rw [laws_FnExactBridgesOf.j1.eq_def]
    simp (disch := omega) only [t1, hs, hi, q1, q2, m1, m2, d2, n1, n2, Option.bind_some, if_true, if_false, bne_self_eq_false, Bool.false_eq_true]
    rw [laws_FnExactBridgesOf.j2.eq_def]
    simp (disch := omega) only [d2, n2, Option.bind_some, if_true, if_false, Bool.false_eq_true]
  · rw [if_neg h]
    simp

end Go.Proofs.Ytbmhgmnlkeebcaa.Pure
